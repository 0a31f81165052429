/- CONTRACTS of the functions, and plain laws, joined out of: GScrA GScrB GScrC NodO RecP GRecA GRecB GRecC GBanA GBanB GBanC GBanD GPlaA GPlaB WorP WorL G16 GWorA GWorB GLinA GLinB GValA GValB GValC GTreA GTreB GTreC GTreD GTreE GTreF GTreG GTreH GTreI GTreJ GTreK GTreL GTreM GTreN GTreO GTreP GAtmA GPenA GChkA GFloA. -/
import Derived.Test.YtblmebjhhanoaaaGreatChecked
import Derived.Test.YtblmebjhhanoaaaGreatKE3
/- THE SCRIPT'S READER: tokens (of plain letters, without remarks). -/
/- G -/
/- BOOLS -/
set_option linter.unusedSimpArgs false
set_option linter.unusedVariables false
namespace Go.Proofs.YtblmebjhhanoaaaGreat
open Go.RowKit

def ascii (s : ByteArray) : Prop := ∀ q : Nat, q < s.size → byteAt s q ≤ 127
theorem byteAt_ge (s : ByteArray) (q : Nat) : 0 ≤ byteAt s q := by unfold byteAt; omega
def inB (s : ByteArray) (k : Nat) (a b : Int) : Bool := decide (k < s.size ∧ a ≤ byteAt s k ∧ byteAt s k ≤ b)
set_option maxRecDepth 100000 in
theorem in4_ok (s : ByteArray) (k : Nat) (a b : Int) : FnOk Tryz.prog 111 [.raw (.string s), .raw (.int .i64 k), .raw (.int .u8 a), .raw (.int .u8 b)] [] (.raw (.bool (inB s k a b))) [] := by
  refine fn_of_awp Tryz.func111 rfl (by kernel_rfl) (by kernel_rfl) (Nat.le_of_ble_eq_true rfl) Tryz.results111 ?_
  simp only [go_sem, Bool.not_eq_true', Bool.not_eq_false']
  repeat' first | contradiction | intro _ | refine And.intro ?_ ?_ | refine ex_get (by omega) ?_ | (show drawB _ _ = true; kernel_rfl) | (refine ret2 [] (by simp only [go_sem, Bool.not_eq_true', Bool.not_eq_false']; rfl) ?_; simp only [go_sem, Bool.not_eq_true', Bool.not_eq_false'])
  all_goals first
    | omega
    | (unfold inB; refine decide_eq_decide.2 ?_; omega)
    | (unfold inB; refine (decide_eq_false ?_); omega)
    | (unfold inB; refine (decide_eq_false ?_).symm; omega)
    | skip
set_option maxRecDepth 100000 in
theorem size4_ok (s : ByteArray) (k : Nat) (ha : ascii s) (hk : k < s.size) : FnOk Tryz.prog 110 [.raw (.string s), .raw (.int .i64 k)] [] (.raw (.int .i64 1)) [] := by
  refine fn_of_swp Tryz.func110 rfl (by kernel_rfl) (by kernel_rfl) (Nat.le_of_ble_eq_true rfl) Tryz.results110 ?_
  have e : inB s k 0 127 = true := by
    unfold inB
    have := byteAt_ge s k
    have := ha k hk
    exact decide_eq_true ⟨hk, by omega, by omega⟩
  (refine swp_seqW ?_; simp only [go_sem, Bool.not_eq_true', Bool.not_eq_false'])
  (refine swp_seqW ?_; simp only [go_sem, Bool.not_eq_true', Bool.not_eq_false'])
  (refine acall2 [] (in4_ok s k 0 127) (by simp only [go_sem, Bool.not_eq_true', Bool.not_eq_false']; rfl) (fit_of (by simp only [go_sem, Bool.not_eq_true', Bool.not_eq_false']) (by simp only [go_sem, Bool.not_eq_true', Bool.not_eq_false']) (by simp only [go_sem, Bool.not_eq_true', Bool.not_eq_false']) (by simp only [go_sem, Bool.not_eq_true', Bool.not_eq_false']) (by simp only [go_sem, Bool.not_eq_true', Bool.not_eq_false']) (by simp only [go_sem, Bool.not_eq_true', Bool.not_eq_false']) (by simp only [go_sem, Bool.not_eq_true', Bool.not_eq_false'])) ?_; simp only [go_sem, Bool.not_eq_true', Bool.not_eq_false', e])
set_option maxRecDepth 100000 in
theorem rune4_ok (s : ByteArray) (k : Nat) (ha : ascii s) (hk : k < s.size) : FnOk Tryz.prog 112 [.raw (.string s), .raw (.int .i64 k), .raw (.int .i64 1)] [] (.raw (.int .i32 (byteAt s k))) [] := by
  refine fn_of_swp Tryz.func112 rfl (by kernel_rfl) (by kernel_rfl) (Nat.le_of_ble_eq_true rfl) Tryz.results112 ?_
  have h1 := byteAt_ge s k
  have h2 := ha k hk
  have e : IntKind.i32.wrap (byteAt s k) = byteAt s k := IntWalk.i32_in _ ⟨by omega, by omega⟩
  (refine swp_seqW ?_; simp only [go_sem, Bool.not_eq_true', Bool.not_eq_false'])
  (refine swp_seqW ?_; simp only [go_sem, Bool.not_eq_true', Bool.not_eq_false', Int.reduceToNat, Int.reduceLT, Int.reduceLE, Int.reduceEq, Int.reduceAdd, Int.reduceSub, Int.reduceMul, Int.reduceNeg, Int.reduceNe, decide_false, Int.cast_ofNat_Int, kSet, List.getElem?_cons_succ, List.getElem?_cons_zero, List.set_cons_succ, List.set_cons_zero, exists_eq_left', forall_const, true_implies])
  exact ⟨by omega, e.symm⟩
structure LTk where
  kind : Int
  sign : Int
  n : Int
  at_ : Int
deriving DecidableEq
def cTk (x : LTk) : List PV := [.raw (.int .i64 x.kind), .raw (.int .i32 x.sign), .raw (.int .i64 x.n), .raw (.int .i64 x.at_)]
attribute [go_sem] cTk
/-- digits from a place on. -/
def numS (s : ByteArray) : Nat → Nat → Int → Nat × Int
  | 0, e, n => (e, n)
  | f + 1, e, n => if inB s e 48 57 = true then numS s f (e + 1) (min (10 * n + (byteAt s e - 48)) 2199023255552) else (e, n)
def tokS (s : ByteArray) : Nat → Nat → Option (List LTk)
  | 0, _ => none
  | f + 1, k => if k < s.size then
      (if byteAt s k = 35 then none
       else if byteAt s k = 32 ∨ byteAt s k = 9 ∨ byteAt s k = 10 then tokS s f (k + 1)
       else if inB s k 48 57 = true then
         (let q := numS s (s.size - k) k 0
          if 1099511627776 < q.2 ∨ byteAt s k = 48 ∧ k + 1 < q.1 then none
          else match tokS s f q.1 with
            | some r => some (⟨2, 0, q.2, k⟩ :: r)
            | none => none)
       else match tokS s f (k + 1) with
         | some r => some (⟨1, byteAt s k, 0, k⟩ :: r)
         | none => none)
    else some []
theorem numS_end (s : ByteArray) : ∀ (f e : Nat) (n : Int), e + f = s.size → (numS s f e n).1 ≤ s.size ∧ e ≤ (numS s f e n).1
  | 0, e, n, h => ⟨by simp only [numS]; omega, by simp only [numS]; omega⟩
  | f + 1, e, n, h => by
    simp only [numS]
    split
    · have := numS_end s f (e + 1) (min (10 * n + (byteAt s e - 48)) 2199023255552) (by omega)
      omega
    · simp only; omega
structure LTz where
  k : Nat
  acc : List LTk
structure TokInv (s : ByteArray) (toks : List LTk) (z : LTz) : Prop where
  le : z.k ≤ s.size
  len : z.acc.length ≤ z.k
  ex : ∃ f rest, tokS s f z.k = some rest ∧ z.acc ++ rest = toks
inductive TokWay (s : ByteArray) (toks acc : List LTk) (k : Nat) : Prop
  | space (h : byteAt s k = 32 ∨ byteAt s k = 9 ∨ byteAt s k = 10) (hi : TokInv s toks ⟨k + 1, acc⟩)
  | sign (h : ¬ (byteAt s k = 32 ∨ byteAt s k = 9 ∨ byteAt s k = 10)) (hd : inB s k 48 57 = false) (hi : TokInv s toks ⟨k + 1, acc ++ [⟨1, byteAt s k, 0, k⟩]⟩)
  | num (h : ¬ (byteAt s k = 32 ∨ byteAt s k = 9 ∨ byteAt s k = 10)) (hd : inB s k 48 57 = true) (hn : ¬ (1099511627776 < (numS s (s.size - k) k 0).2 ∨ byteAt s k = 48 ∧ k + 1 < (numS s (s.size - k) k 0).1)) (hg : k < (numS s (s.size - k) k 0).1) (hi : TokInv s toks ⟨(numS s (s.size - k) k 0).1, acc ++ [⟨2, 0, (numS s (s.size - k) k 0).2, k⟩]⟩)
theorem numS_fwd (s : ByteArray) {f e : Nat} {n : Int} (h : e + f = s.size) (hd : inB s e 48 57 = true) : e < (numS s f e n).1 := by
  cases f with
  | zero =>
    have : e < s.size := (of_decide_eq_true hd).1
    omega
  | succ f =>
    simp only [numS]
    rw [if_pos hd]
    have := numS_end s f (e + 1) (min (10 * n + (byteAt s e - 48)) 2199023255552) (by omega)
    omega
theorem tok_way {s : ByteArray} {toks acc : List LTk} {k : Nat} (hk : k < s.size) (h : TokInv s toks ⟨k, acc⟩) : byteAt s k ≠ 35 ∧ TokWay s toks acc k := by
  obtain ⟨h1, h2, f, rest, h3, h4⟩ := h
  simp only at h1 h2 h3 h4
  cases f with
  | zero => simp [tokS] at h3
  | succ f =>
    simp only [tokS] at h3
    rw [if_pos hk] at h3
    split at h3
    · cases h3
    · next h35 =>
      refine ⟨h35, ?_⟩
      split at h3
      · next hs => exact .space hs ⟨hk, by simp only; omega, f, rest, h3, h4⟩
      · next hs =>
        split at h3
        · next hd =>
          split at h3
          · cases h3
          · next hn =>
            have hfw := numS_fwd s (f := s.size - k) (n := 0) (by omega) hd
            have hen := numS_end s (s.size - k) k 0 (by omega)
            split at h3
            · next r hr =>
              injection h3 with h3
              subst h3
              exact .num hs hd hn hfw ⟨hen.1, by simp; omega, f, r, hr, by rw [← h4]; simp⟩
            · cases h3
        · next hd =>
          split at h3
          · next r hr =>
            injection h3 with h3
            subst h3
            exact .sign hs (by simpa using hd) ⟨hk, by simp; omega, f, r, hr, by rw [← h4]; simp⟩
          · cases h3
theorem tok_end {s : ByteArray} {toks acc : List LTk} {k : Nat} (hk : ¬ k < s.size) (h : TokInv s toks ⟨k, acc⟩) : acc = toks := by
  obtain ⟨h1, h2, f, rest, h3, h4⟩ := h
  simp only at h3 h4
  cases f with
  | zero => simp [tokS] at h3
  | succ f =>
    simp only [tokS] at h3
    rw [if_neg hk] at h3
    injection h3 with h3
    subst h3
    simpa using h4
set_option maxRecDepth 100000 in
set_option maxHeartbeats 4000000 in
theorem tok4_ok (s : ByteArray) (toks : List LTk) (ha : ascii s) (hs : s.size ≤ 1000) (h : tokS s (s.size + 1) 0 = some toks) : FnOk Tryz.prog 80 [.raw (.string s)] [] (.tup [.hdr 8, .raw (.int .i64 0), .raw (.int .i64 0)]) [(8, .row 136 4 (toks.map cTk))] := by
  refine fn_of_swp Tryz.func80 rfl (by kernel_rfl) (by kernel_rfl) (Nat.le_of_ble_eq_true rfl) Tryz.results80 ?_
  (refine swp_seqW ?_; simp only [go_sem, Bool.not_eq_true', Bool.not_eq_false'])
  (refine swp_seqW ?_; simp only [go_sem, Bool.not_eq_true', Bool.not_eq_false'])
  (refine swp_seqW ?_; simp only [go_sem, Bool.not_eq_true', Bool.not_eq_false'])
  refine swp_seqS ?_
  (refine swp_seqW ?_; simp only [go_sem, Bool.not_eq_true', Bool.not_eq_false'])
  refine swp_block ?_
  refine swp_loop2 [] (fun z : LTz => ⟨[(0, .raw (.string s)), (5, .hdr 8), (6, .raw (.int .i64 0)), (7, .raw (.int .i64 z.k))], [(8, some (.row 136 4 (z.acc.map cTk)))], none⟩) (TokInv s toks) (fun z => s.size - z.k) 4 ⟨0, []⟩ (by simp only [go_sem, Bool.not_eq_true', Bool.not_eq_false']; rfl) (by simp only [go_sem, Bool.not_eq_true', Bool.not_eq_false']) ?_ ?_
  · exact ⟨Nat.zero_le _, Nat.le_refl _, _, _, h, rfl⟩
  · rintro ⟨k, acc⟩ hi
    have hi1 := hi.le
    have hi2 := hi.len
    simp only at hi1 hi2
    (refine swp_seqW ?_; simp only [go_sem, Bool.not_eq_true', Bool.not_eq_false', List.length_map])
    refine ⟨fun h5 => ?_, fun h5 => ?_⟩
    · have hk : k < s.size := by omega
      obtain ⟨h35, hw⟩ := tok_way hk hi
      clear hi h
      refine swp_block ?_
      (refine swp_seqW ?_; simp only [go_sem, Bool.not_eq_true', Bool.not_eq_false'])
      (refine acall2 [] (size4_ok s k ha hk) (by simp only [go_sem, Bool.not_eq_true', Bool.not_eq_false']; rfl) (fit_of (by simp only [go_sem, Bool.not_eq_true', Bool.not_eq_false']) (by simp only [go_sem, Bool.not_eq_true', Bool.not_eq_false']) (by simp only [go_sem, Bool.not_eq_true', Bool.not_eq_false']) (by simp only [go_sem, Bool.not_eq_true', Bool.not_eq_false']) (by simp only [go_sem, Bool.not_eq_true', Bool.not_eq_false']) (by simp only [go_sem, Bool.not_eq_true', Bool.not_eq_false']) (by simp only [go_sem, Bool.not_eq_true', Bool.not_eq_false'])) ?_; simp only [go_sem, Bool.not_eq_true', Bool.not_eq_false'])
      (refine swp_seqW ?_; simp only [go_sem, Bool.not_eq_true', Bool.not_eq_false', Int.reduceToNat, Int.reduceLT, Int.reduceLE, Int.reduceEq, Int.reduceAdd, Int.reduceSub, Int.reduceMul, Int.reduceNeg, Int.reduceNe, decide_false, Int.cast_ofNat_Int, kSet, List.getElem?_cons_succ, List.getElem?_cons_zero, List.set_cons_succ, List.set_cons_zero, exists_eq_left', forall_const, true_implies])
      (refine swp_seqW ?_; simp only [go_sem, Bool.not_eq_true', Bool.not_eq_false'])
      refine ⟨by omega, ?_⟩
      (refine swp_seqW ?_; simp only [go_sem, Bool.not_eq_true', Bool.not_eq_false', Int.reduceToNat, Int.reduceLT, Int.reduceLE, Int.reduceEq, Int.reduceAdd, Int.reduceSub, Int.reduceMul, Int.reduceNeg, Int.reduceNe, decide_false, Int.cast_ofNat_Int, kSet, List.getElem?_cons_succ, List.getElem?_cons_zero, List.set_cons_succ, List.set_cons_zero, exists_eq_left', forall_const, true_implies])
      (refine swp_seqW ?_; simp only [go_sem, Bool.not_eq_true', Bool.not_eq_false', h35])
      have hc0 := byteAt_ge s k
      have hc1 := ha k hk
      rcases hw with ⟨hsp, hi⟩ | ⟨hsp, hd, hi⟩ | ⟨hsp, hd, hn, hg, hi⟩
      · (refine swp_lastW ?_; simp only [go_sem, Bool.not_eq_true', Bool.not_eq_false', h35])
        repeat' first | contradiction | intro _ | refine And.intro ?_ ?_ | refine ex_get (by omega) ?_ | (show drawB _ _ = true; kernel_rfl) | (refine ret2 [] (by simp only [go_sem, Bool.not_eq_true', Bool.not_eq_false']; rfl) ?_; simp only [go_sem, Bool.not_eq_true', Bool.not_eq_false'])
        all_goals first
          | omega
          | ((refine loop_end [] (⟨k + 1, acc⟩) (by simp only [go_sem, Bool.not_eq_true', Bool.not_eq_false']; rfl) ?_ ?_ ?_; (focus first | omega | (simp only; omega)); (focus (simp only [go_sem, Bool.not_eq_true', Bool.not_eq_false']; done)))
             exact hi)
          | (exfalso; omega)
          | skip
      · refine swp_cutW (fun _ : Unit => ⟨[(0, .raw (.string s)), (5, .hdr 8), (6, .raw (.int .i64 0)), (7, .raw (.int .i64 k)), (8, .raw (.int .i64 1))], [(8, some (.row 136 4 (acc.map cTk)))], none⟩) (fun _ => True) 4 ?_ ?_
        · simp only [go_sem, Bool.not_eq_true', Bool.not_eq_false', h35]
          repeat' first | contradiction | intro _ | refine And.intro ?_ ?_ | refine ex_get (by omega) ?_ | (show drawB _ _ = true; kernel_rfl) | (refine ret2 [] (by simp only [go_sem, Bool.not_eq_true', Bool.not_eq_false']; rfl) ?_; simp only [go_sem, Bool.not_eq_true', Bool.not_eq_false'])
          all_goals first
            | omega
            | ((refine cut_end [] (()) (by simp only [go_sem, Bool.not_eq_true', Bool.not_eq_false']; rfl) ?_ ?_; (focus (simp only [go_sem, Bool.not_eq_true', Bool.not_eq_false']; done)))
               trivial)
            | skip
        rintro - -
        (refine swp_lastW ?_; simp only [go_sem, Bool.not_eq_true', Bool.not_eq_false'])
        (refine acall2 [] (in4_ok s k 48 57) (by simp only [go_sem, Bool.not_eq_true', Bool.not_eq_false']; rfl) (fit_of (by simp only [go_sem, Bool.not_eq_true', Bool.not_eq_false']) (by simp only [go_sem, Bool.not_eq_true', Bool.not_eq_false']) (by simp only [go_sem, Bool.not_eq_true', Bool.not_eq_false']) (by simp only [go_sem, Bool.not_eq_true', Bool.not_eq_false']) (by simp only [go_sem, Bool.not_eq_true', Bool.not_eq_false']) (by simp only [go_sem, Bool.not_eq_true', Bool.not_eq_false']) (by simp only [go_sem, Bool.not_eq_true', Bool.not_eq_false'])) ?_; simp only [go_sem, Bool.not_eq_true', Bool.not_eq_false', hd])
        (refine acall2 [] (rune4_ok s k ha hk) (by simp only [go_sem, Bool.not_eq_true', Bool.not_eq_false']; rfl) (fit_of (by simp only [go_sem, Bool.not_eq_true', Bool.not_eq_false']) (by simp only [go_sem, Bool.not_eq_true', Bool.not_eq_false']) (by simp only [go_sem, Bool.not_eq_true', Bool.not_eq_false']) (by simp only [go_sem, Bool.not_eq_true', Bool.not_eq_false']) (by simp only [go_sem, Bool.not_eq_true', Bool.not_eq_false']) (by simp only [go_sem, Bool.not_eq_true', Bool.not_eq_false']) (by simp only [go_sem, Bool.not_eq_true', Bool.not_eq_false'])) ?_; simp only [go_sem, Bool.not_eq_true', Bool.not_eq_false'])
        refine ⟨⟨by omega, by omega⟩, ⟨by omega, by omega⟩, ?_⟩
        (refine loop_end [] (⟨k + 1, acc ++ [⟨1, byteAt s k, 0, k⟩]⟩) (by simp only [go_sem, Bool.not_eq_true', Bool.not_eq_false']; rfl) ?_ ?_ ?_; (focus first | omega | (simp only; omega)); (focus (simp only [go_sem, Bool.not_eq_true', Bool.not_eq_false', List.map_append]; done)))
        exact hi
      · refine swp_cutW (fun _ : Unit => ⟨[(0, .raw (.string s)), (5, .hdr 8), (6, .raw (.int .i64 0)), (7, .raw (.int .i64 k)), (8, .raw (.int .i64 1)), (9, .raw (.int .u8 (byteAt s k)))], [(8, some (.row 136 4 (acc.map cTk)))], none⟩) (fun _ => True) 4 ?_ ?_
        · simp only [go_sem, Bool.not_eq_true', Bool.not_eq_false', h35]
          repeat' first | contradiction | intro _ | refine And.intro ?_ ?_ | refine ex_get (by omega) ?_ | (show drawB _ _ = true; kernel_rfl) | (refine ret2 [] (by simp only [go_sem, Bool.not_eq_true', Bool.not_eq_false']; rfl) ?_; simp only [go_sem, Bool.not_eq_true', Bool.not_eq_false'])
          all_goals first
            | omega
            | ((refine cut_end [] (()) (by simp only [go_sem, Bool.not_eq_true', Bool.not_eq_false']; rfl) ?_ ?_; (focus (simp only [go_sem, Bool.not_eq_true', Bool.not_eq_false']; done)))
               trivial)
        rintro - -
        (refine swp_seqW ?_; simp only [go_sem, Bool.not_eq_true', Bool.not_eq_false'])
        (refine acall2 [] (in4_ok s k 48 57) (by simp only [go_sem, Bool.not_eq_true', Bool.not_eq_false']; rfl) (fit_of (by simp only [go_sem, Bool.not_eq_true', Bool.not_eq_false']) (by simp only [go_sem, Bool.not_eq_true', Bool.not_eq_false']) (by simp only [go_sem, Bool.not_eq_true', Bool.not_eq_false']) (by simp only [go_sem, Bool.not_eq_true', Bool.not_eq_false']) (by simp only [go_sem, Bool.not_eq_true', Bool.not_eq_false']) (by simp only [go_sem, Bool.not_eq_true', Bool.not_eq_false']) (by simp only [go_sem, Bool.not_eq_true', Bool.not_eq_false'])) ?_; simp only [go_sem, Bool.not_eq_true', Bool.not_eq_false', hd])
        (refine swp_seqW ?_; simp only [go_sem, Bool.not_eq_true', Bool.not_eq_false'])
        refine swp_cutS (fun _ : Unit => ⟨[(0, .raw (.string s)), (5, .hdr 8), (6, .raw (.int .i64 0)), (7, .raw (.int .i64 k)), (9, .raw (.int .u8 (byteAt s k))), (10, .raw (.int .i64 (numS s (s.size - k) k 0).2)), (11, .raw (.int .i64 (numS s (s.size - k) k 0).1))], [(8, some (.row 136 4 (acc.map cTk)))], none⟩) (fun _ => True) 4 ?_ ?_
        · refine swp_block ?_
          refine swp_loop2 [] (fun z : KY Int => ⟨[(0, .raw (.string s)), (5, .hdr 8), (6, .raw (.int .i64 0)), (7, .raw (.int .i64 k)), (9, .raw (.int .u8 (byteAt s k))), (10, .raw (.int .i64 z.o)), (11, .raw (.int .i64 z.k))], [(8, some (.row 136 4 (acc.map cTk)))], none⟩) (fun z => z.k ≤ s.size ∧ 0 ≤ z.o ∧ z.o ≤ 2199023255552 ∧ numS s (s.size - z.k) z.k z.o = numS s (s.size - k) k 0) (fun z => s.size - z.k) 4 ⟨k, 0⟩ (by simp only [go_sem, Bool.not_eq_true', Bool.not_eq_false']; rfl) (by simp only [go_sem, Bool.not_eq_true', Bool.not_eq_false']) ?_ ?_
          · exact ⟨by show k ≤ s.size; omega, by simp, by simp, rfl⟩
          · rintro ⟨e, n⟩ ⟨q1, q2, q3, q4⟩
            simp only at q1 q2 q3 q4
            (refine swp_lastW ?_; simp only [go_sem, Bool.not_eq_true', Bool.not_eq_false'])
            (refine acall2 [] (in4_ok s e 48 57) (by simp only [go_sem, Bool.not_eq_true', Bool.not_eq_false']; rfl) (fit_of (by simp only [go_sem, Bool.not_eq_true', Bool.not_eq_false']) (by simp only [go_sem, Bool.not_eq_true', Bool.not_eq_false']) (by simp only [go_sem, Bool.not_eq_true', Bool.not_eq_false']) (by simp only [go_sem, Bool.not_eq_true', Bool.not_eq_false']) (by simp only [go_sem, Bool.not_eq_true', Bool.not_eq_false']) (by simp only [go_sem, Bool.not_eq_true', Bool.not_eq_false']) (by simp only [go_sem, Bool.not_eq_true', Bool.not_eq_false'])) ?_; simp only [go_sem, Bool.not_eq_true', Bool.not_eq_false'])
            refine ⟨fun h7 => ?_, fun h7 => ?_⟩
            · obtain ⟨h8, h9, h10⟩ : e < s.size ∧ 48 ≤ byteAt s e ∧ byteAt s e ≤ 57 := of_decide_eq_true h7
              have ew : IntKind.i64.wrap (byteAt s e - 48) = byteAt s e - 48 := IntWalk.i64_in _ ⟨by omega, by omega⟩
              have en : numS s (s.size - e) e n = numS s (s.size - (e + 1)) (e + 1) (min (10 * n + (byteAt s e - 48)) 2199023255552) := by
                rw [show s.size - e = (s.size - (e + 1)) + 1 by omega, numS, if_pos h7]
              simp only [ew]
              repeat' first | contradiction | intro _ | refine And.intro ?_ ?_ | refine ex_get (by omega) ?_ | (show drawB _ _ = true; kernel_rfl) | (refine ret2 [] (by simp only [go_sem, Bool.not_eq_true', Bool.not_eq_false']; rfl) ?_; simp only [go_sem, Bool.not_eq_true', Bool.not_eq_false'])
              all_goals first
                | omega
                | ((refine loop_end [] (⟨e + 1, min (10 * n + (byteAt s e - 48)) 2199023255552⟩) (by simp only [go_sem, Bool.not_eq_true', Bool.not_eq_false']; rfl) ?_ ?_ ?_; (focus first | omega | (simp only; omega)); (focus (simp only [go_sem, Bool.not_eq_true', Bool.not_eq_false']; done)))
                   exact ⟨by show e + 1 ≤ s.size; omega, by simp only; omega, by simp only; omega, by rw [← q4, en]⟩)
                | skip
            · have en : numS s (s.size - k) k 0 = (e, n) := by
                rw [← q4]
                cases hf : s.size - e with
                | zero => rfl
                | succ f => rw [numS, if_neg (by rw [h7]; decide)]
              rw [en]
              (refine cut_end [] (()) (by simp only [go_sem, Bool.not_eq_true', Bool.not_eq_false']; rfl) ?_ ?_; (focus (simp only [go_sem, Bool.not_eq_true', Bool.not_eq_false']; done)))
              trivial
        rintro - -
        have hen := numS_end s (s.size - k) k 0 (by omega)
        generalize numS s (s.size - k) k 0 = q at hn hg hi hen
        (refine swp_lastW ?_; simp only [go_sem, Bool.not_eq_true', Bool.not_eq_false'])
        repeat' first | contradiction | intro _ | refine And.intro ?_ ?_ | refine ex_get (by omega) ?_ | (show drawB _ _ = true; kernel_rfl) | (refine ret2 [] (by simp only [go_sem, Bool.not_eq_true', Bool.not_eq_false']; rfl) ?_; simp only [go_sem, Bool.not_eq_true', Bool.not_eq_false'])
        all_goals first
          | omega
          | ((refine loop_end [] (⟨q.1, acc ++ [⟨2, 0, q.2, k⟩]⟩) (by simp only [go_sem, Bool.not_eq_true', Bool.not_eq_false']; rfl) ?_ ?_ ?_; (focus first | omega | (simp only; omega)); (focus (simp only [go_sem, Bool.not_eq_true', Bool.not_eq_false', List.map_append]; done)))
             exact hi)
          | skip
    · rw [← tok_end (by omega) hi]
      (refine swp_lastW ?_; simp only [go_sem, Bool.not_eq_true', Bool.not_eq_false'])
      (refine ret2 [] (by simp only [go_sem, Bool.not_eq_true', Bool.not_eq_false']; rfl) ?_; simp only [go_sem, Bool.not_eq_true', Bool.not_eq_false'])
end Go.Proofs.YtblmebjhhanoaaaGreat
/- THE SCRIPT'S READER: what stands at a place; attributes. -/
/- G -/
/- BOOLS -/
/- GET get_tk -/
set_option linter.unusedSimpArgs false
set_option linter.unusedVariables false
namespace Go.Proofs.YtblmebjhhanoaaaGreat
open Go.RowKit

def tkAt (l : List LTk) (k : Nat) : LTk := l.getD k ⟨0, 0, 0, 0⟩
theorem get_tk {l : List LTk} {k : Nat} {C : LTk → Prop} (h : k < l.length) (hC : C (tkAt l k)) : ∃ x, l[k]? = some x ∧ C x :=
  ⟨tkAt l k, by simp [tkAt, List.getD_eq_getElem?_getD, h], hC⟩
def signB (l : List LTk) (k : Nat) (c : Int) : Bool := decide (k < l.length ∧ (tkAt l k).kind = 1 ∧ (tkAt l k).sign = c)
def numB (l : List LTk) (k : Nat) (a b : Int) : Bool := decide (k < l.length ∧ (tkAt l k).kind = 2 ∧ a ≤ (tkAt l k).n ∧ (tkAt l k).n ≤ b)
set_option maxRecDepth 100000 in
theorem sign5_ok (l : List LTk) (k : Nat) (c : Int) (hl : l.length ≤ 1000) : FnOk Tryz.prog 113 [.sl 4 (l.map cTk), .raw (.int .i64 k), .raw (.int .i32 c)] [] (.raw (.bool (signB l k c))) [] := by
  refine fn_of_awp Tryz.func113 rfl (by kernel_rfl) (by kernel_rfl) (Nat.le_of_ble_eq_true rfl) Tryz.results113 ?_
  simp only [go_sem, Bool.not_eq_true', Bool.not_eq_false', List.length_map]
  repeat' first | contradiction | intro _ | refine And.intro ?_ ?_ | refine get_tk (by omega) ?_ | refine ex_get (by omega) ?_ | (show drawB _ _ = true; kernel_rfl) | (refine ret2 [] (by simp only [go_sem, Bool.not_eq_true', Bool.not_eq_false']; rfl) ?_; simp only [go_sem, Bool.not_eq_true', Bool.not_eq_false'])
  all_goals first
    | omega
    | (unfold signB; refine decide_eq_decide.2 ?_; omega)
    | (unfold signB; refine (decide_eq_false ?_); omega)
    | (unfold signB; refine (decide_eq_false ?_).symm; omega)
    | skip
set_option maxRecDepth 100000 in
theorem num5_ok (l : List LTk) (k : Nat) (a b : Int) (hl : l.length ≤ 1000) : FnOk Tryz.prog 153 [.sl 4 (l.map cTk), .raw (.int .i64 k), .raw (.int .i64 a), .raw (.int .i64 b)] [] (.raw (.bool (numB l k a b))) [] := by
  refine fn_of_awp Tryz.func153 rfl (by kernel_rfl) (by kernel_rfl) (Nat.le_of_ble_eq_true rfl) Tryz.results153 ?_
  simp only [go_sem, Bool.not_eq_true', Bool.not_eq_false', List.length_map]
  repeat' first | contradiction | intro _ | refine And.intro ?_ ?_ | refine get_tk (by omega) ?_ | refine ex_get (by omega) ?_ | (show drawB _ _ = true; kernel_rfl) | (refine ret2 [] (by simp only [go_sem, Bool.not_eq_true', Bool.not_eq_false']; rfl) ?_; simp only [go_sem, Bool.not_eq_true', Bool.not_eq_false'])
  all_goals first
    | omega
    | (unfold numB; refine decide_eq_decide.2 ?_; omega)
    | (unfold numB; refine (decide_eq_false ?_); omega)
    | (unfold numB; refine (decide_eq_false ?_).symm; omega)
    | skip
set_option maxRecDepth 100000 in
theorem most5_ok : FnOk Tryz.prog 155 [] [] (.raw (.int .i64 1099511627776)) [] := by
  refine fn_of_awp Tryz.func155 rfl (by kernel_rfl) (by kernel_rfl) (Nat.le_of_ble_eq_true rfl) Tryz.results155 ?_
  simp only [go_sem, Bool.not_eq_true', Bool.not_eq_false']
def lettersS : ByteArray := ⟨#[109, 110, 112, 113, 105, 111, 119, 104, 66, 65, 73, 99]⟩
set_option maxRecDepth 100000 in
theorem letters5_ok : FnOk Tryz.prog 161 [] [] (.raw (.string lettersS)) [] := by
  refine fn_of_awp Tryz.func161 rfl (by kernel_rfl) (by kernel_rfl) (Nat.le_of_ble_eq_true rfl) Tryz.results161 ?_
  simp only [go_sem, Bool.not_eq_true', Bool.not_eq_false']
  rfl
def limA (c : Int) : Int := if c = 111 ∨ c = 119 ∨ c = 104 then 1 else 0
def limB (c : Int) : Int := if c = 66 ∨ c = 65 then 4 else if c = 73 then 1 else if c = 99 then 3 else 1099511627776
set_option maxRecDepth 100000 in
theorem limits5_ok (c : Int) : FnOk Tryz.prog 152 [.raw (.int .u8 c)] [] (.tup [.raw (.int .i64 (limA c)), .raw (.int .i64 (limB c))]) [] := by
  refine fn_of_awp Tryz.func152 rfl (by kernel_rfl) (by kernel_rfl) (Nat.le_of_ble_eq_true rfl) Tryz.results152 ?_
  simp only [go_sem, Bool.not_eq_true', Bool.not_eq_false']
  repeat' first | contradiction | intro _ | refine And.intro ?_ ?_ | refine get_tk (by omega) ?_ | refine ex_get (by omega) ?_ | (show drawB _ _ = true; kernel_rfl) | (refine ret2 [] (by simp only [go_sem, Bool.not_eq_true', Bool.not_eq_false']; rfl) ?_; simp only [go_sem, Bool.not_eq_true', Bool.not_eq_false']) | (refine acall2 [] (most5_ok) (by simp only [go_sem, Bool.not_eq_true', Bool.not_eq_false']; rfl) (fit_of (by simp only [go_sem, Bool.not_eq_true', Bool.not_eq_false']) (by simp only [go_sem, Bool.not_eq_true', Bool.not_eq_false']) (by simp only [go_sem, Bool.not_eq_true', Bool.not_eq_false']) (by simp only [go_sem, Bool.not_eq_true', Bool.not_eq_false']) (by simp only [go_sem, Bool.not_eq_true', Bool.not_eq_false']) (by simp only [go_sem, Bool.not_eq_true', Bool.not_eq_false']) (by simp only [go_sem, Bool.not_eq_true', Bool.not_eq_false'])) ?_; simp only [go_sem, Bool.not_eq_true', Bool.not_eq_false'])
  all_goals first
    | (unfold limA; split <;> omega)
    | (unfold limB; repeat' split; all_goals omega)
    | skip
structure LSty where
  top : Int
  bottom : Int
  padTop : Int
  padBottom : Int
  inset : Int
  orphans : Int
  widows : Int
  head : Int
  before : Int
  after : Int
  inside : Int
  clear : Int
deriving DecidableEq
def lSty (s : LSty) : List AV := [.raw (.int .i64 s.top), .raw (.int .i64 s.bottom), .raw (.int .i64 s.padTop), .raw (.int .i64 s.padBottom), .raw (.int .i64 s.inset), .raw (.int .i64 s.orphans), .raw (.int .i64 s.widows), .raw (.int .i64 s.head), .raw (.int .i64 s.before), .raw (.int .i64 s.after), .raw (.int .i64 s.inside), .raw (.int .i64 s.clear)]
def aSty (s : LSty) : AV := .agg (lSty s)
attribute [go_sem] lSty aSty
def withS (s : LSty) (c n : Int) : LSty :=
  ⟨if c = 109 then n else s.top, if c = 110 then n else s.bottom, if c = 112 then n else s.padTop, if c = 113 then n else s.padBottom, if c = 105 then n else s.inset, if c = 111 then n else s.orphans, if c = 119 then n else s.widows, if c = 104 then n else s.head, if c = 66 then n else s.before, if c = 65 then n else s.after, if c = 73 then n else s.inside, if c = 99 then n else s.clear⟩
set_option maxRecDepth 100000 in
set_option maxHeartbeats 4000000 in
theorem with5_ok (s : LSty) (c n : Int) : FnOk Tryz.prog 154 [aSty s, .raw (.int .u8 c), .raw (.int .i64 n)] [] (aSty (withS s c n)) [] := by
  refine fn_of_awp Tryz.func154 rfl (by kernel_rfl) (by kernel_rfl) (Nat.le_of_ble_eq_true rfl) Tryz.results154 ?_
  simp only [go_sem, Bool.not_eq_true', Bool.not_eq_false']
  repeat' first | contradiction | intro _ | refine And.intro ?_ ?_ | refine get_tk (by omega) ?_ | refine ex_get (by omega) ?_ | (show drawB _ _ = true; kernel_rfl) | (refine ret2 [] (by simp only [go_sem, Bool.not_eq_true', Bool.not_eq_false']; rfl) ?_; simp only [go_sem, Bool.not_eq_true', Bool.not_eq_false'])
  all_goals (simp only [withS]; first | (rw [if_pos (by omega)]; done) | (rw [if_neg (by omega)]; done))
def hasB (s : ByteArray) (c : Int) : Bool := (List.range s.size).any fun j => decide (byteAt s j = c)
theorem hasB_iff {s : ByteArray} {c : Int} : hasB s c = true ↔ ∃ j : Nat, j < s.size ∧ byteAt s j = c := by
  simp [hasB]
def letterS (l : List LTk) (k : Nat) (told : ByteArray) : Int := if k < l.length ∧ (tkAt l k).kind = 1 ∧ hasB lettersS (tkAt l k).sign = true ∧ hasB told (tkAt l k).sign = false then (tkAt l k).sign else 0
theorem letterS_yes {l : List LTk} {k : Nat} {told : ByteArray} {c : Int} (hs : signB l k c = true) (hc : hasB lettersS c = true) : letterS l k told = if hasB told c = true then 0 else c := by
  obtain ⟨h1, h2, h3⟩ : k < l.length ∧ (tkAt l k).kind = 1 ∧ (tkAt l k).sign = c := of_decide_eq_true hs
  unfold letterS
  rw [h3]
  cases hasB told c with
  | true => rw [if_neg (by simp)]; rfl
  | false => rw [if_pos ⟨h1, h2, hc, rfl⟩]; rfl
theorem letterS_no {l : List LTk} {k : Nat} {told : ByteArray} (h : ∀ j : Nat, j < 12 → signB l k (byteAt lettersS j) = false) : letterS l k told = 0 := by
  unfold letterS
  rw [if_neg]
  rintro ⟨h1, h2, h3, h4⟩
  obtain ⟨j, h5, h6⟩ := hasB_iff.1 h3
  have := h j h5
  rw [h6] at this
  exact absurd ⟨h1, h2, rfl⟩ (of_decide_eq_false this)
theorem lettersS_size : lettersS.size = 12 := rfl
set_option maxRecDepth 100000 in
set_option maxHeartbeats 4000000 in
theorem letter5_ok (l : List LTk) (k : Nat) (told : ByteArray) (hl : l.length ≤ 1000) (ht : told.size ≤ 1000) : FnOk Tryz.prog 151 [.sl 4 (l.map cTk), .raw (.int .i64 k), .raw (.string told)] [] (.raw (.int .u8 (letterS l k told))) [] := by
  refine fn_of_awp Tryz.func151 rfl (by kernel_rfl) (by kernel_rfl) (Nat.le_of_ble_eq_true rfl) Tryz.results151 ?_
  simp only [go_sem, Bool.not_eq_true', Bool.not_eq_false']
  (refine acall2 [] (letters5_ok) (by simp only [go_sem, Bool.not_eq_true', Bool.not_eq_false']; rfl) (fit_of (by simp only [go_sem, Bool.not_eq_true', Bool.not_eq_false']) (by simp only [go_sem, Bool.not_eq_true', Bool.not_eq_false']) (by simp only [go_sem, Bool.not_eq_true', Bool.not_eq_false']) (by simp only [go_sem, Bool.not_eq_true', Bool.not_eq_false']) (by simp only [go_sem, Bool.not_eq_true', Bool.not_eq_false']) (by simp only [go_sem, Bool.not_eq_true', Bool.not_eq_false']) (by simp only [go_sem, Bool.not_eq_true', Bool.not_eq_false'])) ?_; simp only [go_sem, Bool.not_eq_true', Bool.not_eq_false'])
  refine aloop2 [] (fun i : Nat => ⟨[(0, .sl 4 (l.map cTk)), (1, .raw (.int .i64 k)), (2, .raw (.string told)), (7, .raw (.string lettersS)), (8, .raw (.int .i64 i))], [], none⟩) (fun i => i ≤ 12 ∧ ∀ j : Nat, j < i → signB l k (byteAt lettersS j) = false) (fun i => 12 - i) 4 0 (by simp only [go_sem, Bool.not_eq_true', Bool.not_eq_false']; rfl) (by simp only [go_sem, Bool.not_eq_true', Bool.not_eq_false']) ?_ ?_
  · exact ⟨Nat.zero_le _, fun j h => absurd h (Nat.not_lt_zero j)⟩
  · rintro i ⟨h1, h2⟩
    have hz := lettersS_size
    simp only [go_sem, Bool.not_eq_true', Bool.not_eq_false']
    refine ⟨fun h5 => ?_, fun h5 => ?_⟩
    · have hi : i < lettersS.size := by omega
      have hb1 := byteAt_ge lettersS i
      have hb2 : byteAt lettersS i ≤ 127 := by
        have : ∀ j : Fin 12, byteAt lettersS j ≤ 127 := by decide
        exact this ⟨i, by omega⟩
      have ew : IntKind.i32.wrap (byteAt lettersS i) = byteAt lettersS i := IntWalk.i32_in _ ⟨by omega, by omega⟩
      refine ⟨by omega, ?_⟩
      simp only [ew]
      (refine acall2 [] (sign5_ok l k (byteAt lettersS i) hl) (by simp only [go_sem, Bool.not_eq_true', Bool.not_eq_false']; rfl) (fit_of (by simp only [go_sem, Bool.not_eq_true', Bool.not_eq_false']) (by simp only [go_sem, Bool.not_eq_true', Bool.not_eq_false']) (by simp only [go_sem, Bool.not_eq_true', Bool.not_eq_false']) (by simp only [go_sem, Bool.not_eq_true', Bool.not_eq_false']) (by simp only [go_sem, Bool.not_eq_true', Bool.not_eq_false']) (by simp only [go_sem, Bool.not_eq_true', Bool.not_eq_false']) (by simp only [go_sem, Bool.not_eq_true', Bool.not_eq_false'])) ?_; simp only [go_sem, Bool.not_eq_true', Bool.not_eq_false'])
      refine ⟨fun h6 => ⟨by omega, ?_⟩, fun h6 => ?_⟩
      · (refine loop_end [] (i + 1) (by simp only [go_sem, Bool.not_eq_true', Bool.not_eq_false']; rfl) ?_ ?_ ?_; (focus first | omega | (simp only; omega)); (focus (simp only [go_sem, Bool.not_eq_true', Bool.not_eq_false']; done)))
        refine ⟨by omega, fun j hj => ?_⟩
        rcases Nat.lt_succ_iff_lt_or_eq.1 hj with h8 | h8
        · exact h2 j h8
        · subst h8; exact h6
      · have hy := letterS_yes (told := told) h6 (hasB_iff.2 ⟨i, hi, rfl⟩)
        rw [hy]
        refine aloop2 [] (fun j : Nat => ⟨[(2, .raw (.string told)), (7, .raw (.string lettersS)), (8, .raw (.int .i64 i)), (9, .raw (.int .i64 j))], [], none⟩) (fun j => j ≤ told.size ∧ ∀ q : Nat, q < j → byteAt told q ≠ byteAt lettersS i) (fun j => told.size - j) 4 0 (by simp only [go_sem, Bool.not_eq_true', Bool.not_eq_false']; rfl) (by simp only [go_sem, Bool.not_eq_true', Bool.not_eq_false']) ?_ ?_
        · exact ⟨Nat.zero_le _, fun j h => absurd h (Nat.not_lt_zero j)⟩
        · rintro j ⟨q1, q2⟩
          simp only [go_sem, Bool.not_eq_true', Bool.not_eq_false']
          refine ⟨fun h7 => ?_, fun h7 => ?_⟩
          · have hj : j < told.size := by omega
            repeat' first | contradiction | intro _ | refine And.intro ?_ ?_ | refine get_tk (by omega) ?_ | refine ex_get (by omega) ?_ | (show drawB _ _ = true; kernel_rfl) | (refine ret2 [] (by simp only [go_sem, Bool.not_eq_true', Bool.not_eq_false']; rfl) ?_; simp only [go_sem, Bool.not_eq_true', Bool.not_eq_false'])
            all_goals first
              | omega
              | ((refine loop_end [] (j + 1) (by simp only [go_sem, Bool.not_eq_true', Bool.not_eq_false']; rfl) ?_ ?_ ?_; (focus first | omega | (simp only; omega)); (focus (simp only [go_sem, Bool.not_eq_true', Bool.not_eq_false']; done)))
                 refine ⟨by omega, fun q hq => ?_⟩
                 rcases Nat.lt_succ_iff_lt_or_eq.1 hq with h8 | h8
                 · exact q2 q h8
                 · subst h8; assumption)
              | (rw [if_pos (hasB_iff.2 ⟨j, hj, by assumption⟩)]; done)
              | skip
          · have hn : ¬ hasB told (byteAt lettersS i) = true := fun q => by
              obtain ⟨j', a, b⟩ := hasB_iff.1 q
              exact q2 j' (by omega) b
            rw [if_neg hn]
            repeat' first | contradiction | intro _ | refine And.intro ?_ ?_ | refine get_tk (by omega) ?_ | refine ex_get (by omega) ?_ | (show drawB _ _ = true; kernel_rfl) | (refine ret2 [] (by simp only [go_sem, Bool.not_eq_true', Bool.not_eq_false']; rfl) ?_; simp only [go_sem, Bool.not_eq_true', Bool.not_eq_false'])
            all_goals first
              | omega
              | skip
    · have e : i = 12 := by omega
      subst e
      rw [letterS_no h2]
end Go.Proofs.YtblmebjhhanoaaaGreat
/- THE SCRIPT'S READER: nodes; texts and boxes. -/
/- G -/
/- BOOLS -/
/- GET get_tk -/
set_option linter.unusedSimpArgs false
set_option linter.unusedVariables false
namespace Go.Proofs.YtblmebjhhanoaaaGreat
open Go.RowKit

structure LNo where
  kind : Int
  size : Int
  st : LSty
  line : Int
  space : Int
  words : List Int
  side : Int
  w : Int
  h : Int
deriving DecidableEq
def cNo (x : LNo) : List PV := [.raw (.int .i64 x.kind), .raw (.int .i64 x.size), .raw (.int .i64 x.st.top), .raw (.int .i64 x.st.bottom), .raw (.int .i64 x.st.padTop), .raw (.int .i64 x.st.padBottom), .raw (.int .i64 x.st.inset), .raw (.int .i64 x.st.orphans), .raw (.int .i64 x.st.widows), .raw (.int .i64 x.st.head), .raw (.int .i64 x.st.before), .raw (.int .i64 x.st.after), .raw (.int .i64 x.st.inside), .raw (.int .i64 x.st.clear), .raw (.int .i64 x.line), .raw (.int .i64 x.space), .sl 1 (x.words.map cInt), .raw (.int .i64 x.side), .raw (.int .i64 x.w), .raw (.int .i64 x.h)]
def lNo (x : LNo) : List AV := [.raw (.int .i64 x.kind), .raw (.int .i64 x.size), .raw (.int .i64 x.st.top), .raw (.int .i64 x.st.bottom), .raw (.int .i64 x.st.padTop), .raw (.int .i64 x.st.padBottom), .raw (.int .i64 x.st.inset), .raw (.int .i64 x.st.orphans), .raw (.int .i64 x.st.widows), .raw (.int .i64 x.st.head), .raw (.int .i64 x.st.before), .raw (.int .i64 x.st.after), .raw (.int .i64 x.st.inside), .raw (.int .i64 x.st.clear), .raw (.int .i64 x.line), .raw (.int .i64 x.space), .sl 1 (x.words.map cInt), .raw (.int .i64 x.side), .raw (.int .i64 x.w), .raw (.int .i64 x.h)]
def aNo (x : LNo) : AV := .agg (lNo x)
attribute [go_sem] cNo lNo aNo
def sty0 : LSty := ⟨0, 0, 0, 0, 0, 0, 0, 0, 0, 0, 0, 0⟩
def aGot (r : List LNo × Nat) : AV := .agg [.sl 20 (r.1.map cNo), .raw (.int .i64 r.2), .raw (.int .i64 0)]
attribute [go_sem] sty0 aGot
def boxS (l : List LTk) (k : Nat) (x : LNo) (c : Int) : Option (List LNo × Nat) :=
  if k ≤ l.length ∧ numB l k 1 1099511627776 = true ∧ numB l (k + 1) 1 1099511627776 = true ∧ signB l (k + 2) c = true then some ([⟨x.kind, x.size, x.st, x.line, x.space, x.words, x.side, (tkAt l k).n, (tkAt l (k + 1)).n⟩], k + 3) else none
set_option maxRecDepth 100000 in
set_option maxHeartbeats 4000000 in
theorem box5_ok (l : List LTk) (k : Nat) (x : LNo) (c : Int) (r : List LNo × Nat) (hl : l.length ≤ 1000) (h : boxS l k x c = some r) : FnOk Tryz.prog 136 [.sl 4 (l.map cTk), .raw (.int .i64 k), aNo x, .raw (.int .i32 c)] [] (aGot r) [] := by
  refine fn_of_swp Tryz.func136 rfl (by kernel_rfl) (by kernel_rfl) (Nat.le_of_ble_eq_true rfl) Tryz.results136 ?_
  unfold boxS at h
  split at h
  case isFalse => cases h
  next hh =>
  obtain ⟨h0, h1, h2, h3⟩ := hh
  injection h with h
  subst h
  have k1 : k < l.length := (of_decide_eq_true h1).1
  have k2 : k + 1 < l.length := (of_decide_eq_true h2).1
  (refine swp_seqW ?_; simp only [go_sem, Bool.not_eq_true', Bool.not_eq_false'])
  refine swp_cutS (fun _ : Unit => ⟨[(0, .sl 4 (l.map cTk)), (1, .raw (.int .i64 k)), (3, .raw (.int .i32 c)), (6, .hdr 8), (8, .hdr 16)], [(8, some (.cells 56 (lNo x))), (16, some (.cells 133 [.hdr 17, .raw (.int .i64 0), .raw (.int .i64 0)])), (17, some (.row 56 20 []))], none⟩) (fun _ => True) 4 ?_ ?_
  · (refine swp_seqW ?_; simp only [go_sem, Bool.not_eq_true', Bool.not_eq_false'])
    refine swp_block ?_
    refine swp_loop2 [] (fun i : Nat => ⟨[(0, .sl 4 (l.map cTk)), (1, .raw (.int .i64 k)), (3, .raw (.int .i32 c)), (6, .hdr 8), (8, .hdr 16), (9, .raw (.int .i64 i))], [(8, some (.cells 56 (lNo x))), (16, some (.cells 133 [.hdr 17, .raw (.int .i64 0), .raw (.int .i64 0)])), (17, some (.row 56 20 []))], none⟩) (fun i => i ≤ 2) (fun i => 2 - i) 5 0 (by simp only [go_sem, Bool.not_eq_true', Bool.not_eq_false']; rfl) (by simp only [go_sem, Bool.not_eq_true', Bool.not_eq_false']) ?_ ?_
    · exact Nat.zero_le _
    · intro i hi
      (refine swp_lastW ?_; simp only [go_sem, Bool.not_eq_true', Bool.not_eq_false'])
      refine ⟨fun h5 => ?_, fun h5 => ?_⟩
      · refine ⟨by omega, ?_⟩
        (refine acall2 [] (most5_ok) (by simp only [go_sem, Bool.not_eq_true', Bool.not_eq_false']; rfl) (fit_of (by simp only [go_sem, Bool.not_eq_true', Bool.not_eq_false']) (by simp only [go_sem, Bool.not_eq_true', Bool.not_eq_false']) (by simp only [go_sem, Bool.not_eq_true', Bool.not_eq_false']) (by simp only [go_sem, Bool.not_eq_true', Bool.not_eq_false']) (by simp only [go_sem, Bool.not_eq_true', Bool.not_eq_false']) (by simp only [go_sem, Bool.not_eq_true', Bool.not_eq_false']) (by simp only [go_sem, Bool.not_eq_true', Bool.not_eq_false'])) ?_; simp only [go_sem, Bool.not_eq_true', Bool.not_eq_false'])
        have hn : numB l (k + i) 1 1099511627776 = true := by
          rcases (by omega : i = 0 ∨ i = 1) with q | q <;> subst q <;> assumption
        (refine acall2 [] (num5_ok l (k + i) 1 1099511627776 hl) (by simp only [go_sem, Bool.not_eq_true', Bool.not_eq_false']; rfl) (fit_of (by simp only [go_sem, Bool.not_eq_true', Bool.not_eq_false']) (by simp only [go_sem, Bool.not_eq_true', Bool.not_eq_false']) (by simp only [go_sem, Bool.not_eq_true', Bool.not_eq_false']) (by simp only [go_sem, Bool.not_eq_true', Bool.not_eq_false']) (by simp only [go_sem, Bool.not_eq_true', Bool.not_eq_false']) (by simp only [go_sem, Bool.not_eq_true', Bool.not_eq_false']) (by simp only [go_sem, Bool.not_eq_true', Bool.not_eq_false'])) ?_; simp only [go_sem, Bool.not_eq_true', Bool.not_eq_false', hn])
        refine ⟨by omega, ?_⟩
        (refine loop_end [] (i + 1) (by simp only [go_sem, Bool.not_eq_true', Bool.not_eq_false']; rfl) ?_ ?_ ?_; (focus first | omega | (simp only; omega)); (focus (simp only [go_sem, Bool.not_eq_true', Bool.not_eq_false']; done)))
        omega
      · (refine cut_end [] (()) (by simp only [go_sem, Bool.not_eq_true', Bool.not_eq_false']; rfl) ?_ ?_; (focus (simp only [go_sem, Bool.not_eq_true', Bool.not_eq_false']; done)))
        trivial
  rintro - -
  (refine swp_lastW ?_; simp only [go_sem, Bool.not_eq_true', Bool.not_eq_false', List.length_map])
  refine ⟨by omega, ?_⟩
  (refine acall2 [] (sign5_ok l (k + 2) c hl) (by simp only [go_sem, Bool.not_eq_true', Bool.not_eq_false']; rfl) (fit_of (by simp only [go_sem, Bool.not_eq_true', Bool.not_eq_false']) (by simp only [go_sem, Bool.not_eq_true', Bool.not_eq_false']) (by simp only [go_sem, Bool.not_eq_true', Bool.not_eq_false']) (by simp only [go_sem, Bool.not_eq_true', Bool.not_eq_false']) (by simp only [go_sem, Bool.not_eq_true', Bool.not_eq_false']) (by simp only [go_sem, Bool.not_eq_true', Bool.not_eq_false']) (by simp only [go_sem, Bool.not_eq_true', Bool.not_eq_false'])) ?_; simp only [go_sem, Bool.not_eq_true', Bool.not_eq_false', h3])
  repeat' first | refine And.intro ?_ ?_ | refine get_tk (by omega) ?_
  all_goals first
    | omega
    | (refine ret2 [208] (by simp only [go_sem, Bool.not_eq_true', Bool.not_eq_false']; rfl) ?_; simp only [go_sem, Bool.not_eq_true', Bool.not_eq_false'])
    | skip
def wordsS (l : List LTk) : Nat → Nat → List Int × Nat
  | 0, k => ([], k)
  | f + 1, k => if numB l k 1 1099511627776 = true then ((tkAt l k).n :: (wordsS l f (k + 1)).1, (wordsS l f (k + 1)).2) else ([], k)
theorem wordsS_le (l : List LTk) : ∀ f k : Nat, k ≤ (wordsS l f k).2 ∧ (k ≤ l.length → (wordsS l f k).2 ≤ l.length) ∧ (wordsS l f k).1.length ≤ f
  | 0, k => ⟨Nat.le_refl _, fun h => h, Nat.le_refl _⟩
  | f + 1, k => by
    simp only [wordsS]
    split
    · next h =>
      have hk : k < l.length := (of_decide_eq_true h).1
      obtain ⟨h1, h2, h3⟩ := wordsS_le l f (k + 1)
      exact ⟨by simp only; omega, fun _ => h2 hk, by simp only [List.length_cons]; omega⟩
    · exact ⟨Nat.le_refl _, fun h => h, Nat.zero_le _⟩
def textS (l : List LTk) (k : Nat) : Option (List LNo × Nat) :=
  if k ≤ l.length ∧ numB l (k + 1) 1 1099511627776 = true ∧ numB l (k + 2) 0 1099511627776 = true ∧ (wordsS l l.length (k + 3)).1 ≠ [] ∧ signB l (wordsS l l.length (k + 3)).2 41 = true then
    some ([⟨2, 1, sty0, (tkAt l (k + 1)).n, (tkAt l (k + 2)).n, (wordsS l l.length (k + 3)).1, 0, 0, 0⟩], (wordsS l l.length (k + 3)).2 + 1) else none
structure LWd where
  k : Nat
  acc : List Int
theorem tn2 (k : Nat) : ((k : Int) + 2).toNat = k + 2 := by omega
set_option maxRecDepth 100000 in
set_option maxHeartbeats 4000000 in
theorem text5_ok (l : List LTk) (k : Nat) (r : List LNo × Nat) (hl : l.length ≤ 1000) (h : textS l k = some r) : FnOk Tryz.prog 135 [.sl 4 (l.map cTk), .raw (.int .i64 k)] [] (aGot r) [] := by
  refine fn_of_swp Tryz.func135 rfl (by kernel_rfl) (by kernel_rfl) (Nat.le_of_ble_eq_true rfl) Tryz.results135 ?_
  unfold textS at h
  split at h
  case isFalse => cases h
  next hh =>
  obtain ⟨h0, h1, h2, h3, h4⟩ := hh
  injection h with h
  subst h
  have k1 : k + 1 < l.length := (of_decide_eq_true h1).1
  have k2 : k + 2 < l.length := (of_decide_eq_true h2).1
  (refine swp_seqW ?_; simp only [go_sem, Bool.not_eq_true', Bool.not_eq_false'])
  (refine swp_seqW ?_; simp only [go_sem, Bool.not_eq_true', Bool.not_eq_false'])
  refine ⟨by omega, ?_⟩
  (refine acall2 [] (most5_ok) (by simp only [go_sem, Bool.not_eq_true', Bool.not_eq_false']; rfl) (fit_of (by simp only [go_sem, Bool.not_eq_true', Bool.not_eq_false']) (by simp only [go_sem, Bool.not_eq_true', Bool.not_eq_false']) (by simp only [go_sem, Bool.not_eq_true', Bool.not_eq_false']) (by simp only [go_sem, Bool.not_eq_true', Bool.not_eq_false']) (by simp only [go_sem, Bool.not_eq_true', Bool.not_eq_false']) (by simp only [go_sem, Bool.not_eq_true', Bool.not_eq_false']) (by simp only [go_sem, Bool.not_eq_true', Bool.not_eq_false'])) ?_; simp only [go_sem, Bool.not_eq_true', Bool.not_eq_false'])
  (refine acall2 [] (num5_ok l (k + 1) 1 1099511627776 hl) (by simp only [go_sem, Bool.not_eq_true', Bool.not_eq_false']; rfl) (fit_of (by simp only [go_sem, Bool.not_eq_true', Bool.not_eq_false']) (by simp only [go_sem, Bool.not_eq_true', Bool.not_eq_false']) (by simp only [go_sem, Bool.not_eq_true', Bool.not_eq_false']) (by simp only [go_sem, Bool.not_eq_true', Bool.not_eq_false']) (by simp only [go_sem, Bool.not_eq_true', Bool.not_eq_false']) (by simp only [go_sem, Bool.not_eq_true', Bool.not_eq_false']) (by simp only [go_sem, Bool.not_eq_true', Bool.not_eq_false'])) ?_; simp only [go_sem, Bool.not_eq_true', Bool.not_eq_false', h1])
  (refine swp_seqW ?_; simp only [go_sem, Bool.not_eq_true', Bool.not_eq_false'])
  refine ⟨by omega, ?_⟩
  (refine acall2 [] (most5_ok) (by simp only [go_sem, Bool.not_eq_true', Bool.not_eq_false']; rfl) (fit_of (by simp only [go_sem, Bool.not_eq_true', Bool.not_eq_false']) (by simp only [go_sem, Bool.not_eq_true', Bool.not_eq_false']) (by simp only [go_sem, Bool.not_eq_true', Bool.not_eq_false']) (by simp only [go_sem, Bool.not_eq_true', Bool.not_eq_false']) (by simp only [go_sem, Bool.not_eq_true', Bool.not_eq_false']) (by simp only [go_sem, Bool.not_eq_true', Bool.not_eq_false']) (by simp only [go_sem, Bool.not_eq_true', Bool.not_eq_false'])) ?_; simp only [go_sem, Bool.not_eq_true', Bool.not_eq_false'])
  (refine acall2 [] (num5_ok l (k + 2) 0 1099511627776 hl) (by simp only [go_sem, Bool.not_eq_true', Bool.not_eq_false']; rfl) (fit_of (by simp only [go_sem, Bool.not_eq_true', Bool.not_eq_false']) (by simp only [go_sem, Bool.not_eq_true', Bool.not_eq_false']) (by simp only [go_sem, Bool.not_eq_true', Bool.not_eq_false']) (by simp only [go_sem, Bool.not_eq_true', Bool.not_eq_false']) (by simp only [go_sem, Bool.not_eq_true', Bool.not_eq_false']) (by simp only [go_sem, Bool.not_eq_true', Bool.not_eq_false']) (by simp only [go_sem, Bool.not_eq_true', Bool.not_eq_false'])) ?_; simp only [go_sem, Bool.not_eq_true', Bool.not_eq_false', h2])
  (refine swp_seqW ?_; simp only [go_sem, Bool.not_eq_true', Bool.not_eq_false', List.length_map, tn2])
  refine ⟨by omega, by omega, get_tk (by omega) ⟨by omega, by omega, get_tk (by omega) ⟨by kernel_rfl, ?_⟩⟩⟩
  (refine swp_seqW ?_; simp only [go_sem, Bool.not_eq_true', Bool.not_eq_false'])
  refine ⟨by omega, ?_⟩
  generalize (tkAt l (k + 1)).n = m1
  generalize (tkAt l (k + 2)).n = m2
  refine swp_cutS (fun w : LWd => ⟨[(0, .sl 4 (l.map cTk)), (4, .hdr 8), (5, .hdr 16), (6, .raw (.int .i64 w.k))], [(8, some (.cells 133 [.hdr 9, .raw (.int .i64 0), .raw (.int .i64 0)])), (9, some (.row 56 20 [])), (16, some (.cells 56 [.raw (.int .i64 2), .raw (.int .i64 1), .raw (.int .i64 0), .raw (.int .i64 0), .raw (.int .i64 0), .raw (.int .i64 0), .raw (.int .i64 0), .raw (.int .i64 0), .raw (.int .i64 0), .raw (.int .i64 0), .raw (.int .i64 0), .raw (.int .i64 0), .raw (.int .i64 0), .raw (.int .i64 0), .raw (.int .i64 m1), .raw (.int .i64 m2), .hdr 17, .raw (.int .i64 0), .raw (.int .i64 0), .raw (.int .i64 0)])), (17, some (.row 3 1 (w.acc.map cInt)))], none⟩) (fun w => (w.acc, w.k) = wordsS l l.length (k + 3)) 4 ?_ ?_
  · refine swp_block ?_
    refine swp_loop2 [] (fun w : LWd => ⟨[(0, .sl 4 (l.map cTk)), (4, .hdr 8), (5, .hdr 16), (6, .raw (.int .i64 w.k))], [(8, some (.cells 133 [.hdr 9, .raw (.int .i64 0), .raw (.int .i64 0)])), (9, some (.row 56 20 [])), (16, some (.cells 56 [.raw (.int .i64 2), .raw (.int .i64 1), .raw (.int .i64 0), .raw (.int .i64 0), .raw (.int .i64 0), .raw (.int .i64 0), .raw (.int .i64 0), .raw (.int .i64 0), .raw (.int .i64 0), .raw (.int .i64 0), .raw (.int .i64 0), .raw (.int .i64 0), .raw (.int .i64 0), .raw (.int .i64 0), .raw (.int .i64 m1), .raw (.int .i64 m2), .hdr 17, .raw (.int .i64 0), .raw (.int .i64 0), .raw (.int .i64 0)])), (17, some (.row 3 1 (w.acc.map cInt)))], none⟩) (fun w => w.k ≤ l.length ∧ w.acc.length ≤ w.k ∧ ∃ f, l.length ≤ f + w.k ∧ (w.acc ++ (wordsS l f w.k).1, (wordsS l f w.k).2) = wordsS l l.length (k + 3)) (fun w => l.length - w.k) 40 ⟨k + 3, []⟩ (by simp only [go_sem, Bool.not_eq_true', Bool.not_eq_false']; rfl) (by simp only [go_sem, Bool.not_eq_true', Bool.not_eq_false']) ?_ ?_
    · exact ⟨by show k + 3 ≤ l.length; omega, Nat.zero_le _, l.length, by omega, rfl⟩
    · rintro ⟨kk, acc⟩ ⟨q1, q2, f, q3, q4⟩
      simp only at q1 q2 q3 q4
      (refine swp_lastW ?_; simp only [go_sem, Bool.not_eq_true', Bool.not_eq_false', List.length_map])
      (refine acall2 [] (most5_ok) (by simp only [go_sem, Bool.not_eq_true', Bool.not_eq_false']; rfl) (fit_of (by simp only [go_sem, Bool.not_eq_true', Bool.not_eq_false']) (by simp only [go_sem, Bool.not_eq_true', Bool.not_eq_false']) (by simp only [go_sem, Bool.not_eq_true', Bool.not_eq_false']) (by simp only [go_sem, Bool.not_eq_true', Bool.not_eq_false']) (by simp only [go_sem, Bool.not_eq_true', Bool.not_eq_false']) (by simp only [go_sem, Bool.not_eq_true', Bool.not_eq_false']) (by simp only [go_sem, Bool.not_eq_true', Bool.not_eq_false'])) ?_; simp only [go_sem, Bool.not_eq_true', Bool.not_eq_false'])
      (refine acall2 [] (num5_ok l kk 1 1099511627776 hl) (by simp only [go_sem, Bool.not_eq_true', Bool.not_eq_false']; rfl) (fit_of (by simp only [go_sem, Bool.not_eq_true', Bool.not_eq_false']) (by simp only [go_sem, Bool.not_eq_true', Bool.not_eq_false']) (by simp only [go_sem, Bool.not_eq_true', Bool.not_eq_false']) (by simp only [go_sem, Bool.not_eq_true', Bool.not_eq_false']) (by simp only [go_sem, Bool.not_eq_true', Bool.not_eq_false']) (by simp only [go_sem, Bool.not_eq_true', Bool.not_eq_false']) (by simp only [go_sem, Bool.not_eq_true', Bool.not_eq_false'])) ?_; simp only [go_sem, Bool.not_eq_true', Bool.not_eq_false'])
      refine ⟨fun h7 => ?_, fun h7 => ?_⟩
      · have hk : kk < l.length := (of_decide_eq_true h7).1
        obtain ⟨g, rfl⟩ : ∃ g, f = g + 1 := ⟨f - 1, by omega⟩
        rw [wordsS, if_pos h7] at q4
        repeat' first | refine And.intro ?_ ?_ | refine get_tk (by omega) ?_
        all_goals first
          | omega
          | (show drawB _ _ = true; kernel_rfl)
          | ((refine loop_end [] (⟨kk + 1, acc ++ [(tkAt l kk).n]⟩) (by simp only [go_sem, Bool.not_eq_true', Bool.not_eq_false']; rfl) ?_ ?_ ?_; (focus first | omega | (simp only; omega)); (focus (simp only [go_sem, Bool.not_eq_true', Bool.not_eq_false', List.map_append]; done)))
             exact ⟨by show kk + 1 ≤ l.length; omega, by simp; omega, g, by simp only; omega, by rw [← q4]; simp⟩)
          | skip
      · have e : (acc, kk) = wordsS l l.length (k + 3) := by
          rw [← q4]
          cases f with
          | zero => simp [wordsS]
          | succ g => rw [wordsS, if_neg (by rw [h7]; decide)]; simp
        (refine cut_end [] (⟨kk, acc⟩) (by simp only [go_sem, Bool.not_eq_true', Bool.not_eq_false']; rfl) ?_ ?_; (focus (simp only [go_sem, Bool.not_eq_true', Bool.not_eq_false']; done)))
        exact e
  rintro ⟨kk, acc⟩ hw
  simp only at hw
  have hwl := wordsS_le l l.length (k + 3)
  rw [← hw] at h3 h4 hwl ⊢
  simp only at h3 h4 hwl ⊢
  have hacc : acc.length ≠ 0 := fun q => h3 (List.eq_nil_of_length_eq_zero q)
  have kk1 : kk < l.length := (of_decide_eq_true h4).1
  (refine swp_lastW ?_; simp only [go_sem, Bool.not_eq_true', Bool.not_eq_false', List.length_map])
  refine ⟨fun _ => ?_, fun q => by omega⟩
  (refine acall2 [] (sign5_ok l kk 41 hl) (by simp only [go_sem, Bool.not_eq_true', Bool.not_eq_false']; rfl) (fit_of (by simp only [go_sem, Bool.not_eq_true', Bool.not_eq_false']) (by simp only [go_sem, Bool.not_eq_true', Bool.not_eq_false']) (by simp only [go_sem, Bool.not_eq_true', Bool.not_eq_false']) (by simp only [go_sem, Bool.not_eq_true', Bool.not_eq_false']) (by simp only [go_sem, Bool.not_eq_true', Bool.not_eq_false']) (by simp only [go_sem, Bool.not_eq_true', Bool.not_eq_false']) (by simp only [go_sem, Bool.not_eq_true', Bool.not_eq_false'])) ?_; simp only [go_sem, Bool.not_eq_true', Bool.not_eq_false', h4])
  refine ⟨by omega, ?_⟩
  (refine ret2 [120] (by simp only [go_sem, Bool.not_eq_true', Bool.not_eq_false']; rfl) ?_; simp only [go_sem, Bool.not_eq_true', Bool.not_eq_false'])
end Go.Proofs.YtblmebjhhanoaaaGreat
/- NODES as arguments. -/
/- G -/
set_option linter.unusedSimpArgs false
set_option linter.unusedVariables false
namespace Go.Proofs.YtblmebjhhanoaaaGreat
set_option maxRecDepth 100000
open Go.ChangeShapes Go.WideShapes Go.ChangeAt Go.RowKit Go.Deep

theorem open_st : OpenT Tryz.prog 54 (fun s : LSty => [.raw (.int .i64 s.top), .raw (.int .i64 s.bottom), .raw (.int .i64 s.padTop), .raw (.int .i64 s.padBottom), .raw (.int .i64 s.inset), .raw (.int .i64 s.orphans), .raw (.int .i64 s.widows), .raw (.int .i64 s.head), .raw (.int .i64 s.before), .raw (.int .i64 s.after), .raw (.int .i64 s.inside), .raw (.int .i64 s.clear)]) (fun _ => True) := ⟨fun {H enc w fuel cs y} h => by
  obtain ⟨ys, n, -, -, hlen, hyl, hg⟩ := DataW.trod_struct Tryz.underlying54 h
  have hcs : cs.length = 12 := hlen.trans (by kernel_rfl)
  obtain ⟨z0, c0, i0⟩ := fld hg hyl 0 1 (open_i Tryz.underlying3) 0 rfl rfl rfl (by kernel_rfl)
  obtain ⟨z1, c1, i1⟩ := fld hg hyl 1 1 (open_i Tryz.underlying3) 1 rfl rfl rfl (by kernel_rfl)
  obtain ⟨z2, c2, i2⟩ := fld hg hyl 2 1 (open_i Tryz.underlying3) 2 rfl rfl rfl (by kernel_rfl)
  obtain ⟨z3, c3, i3⟩ := fld hg hyl 3 1 (open_i Tryz.underlying3) 3 rfl rfl rfl (by kernel_rfl)
  obtain ⟨z4, c4, i4⟩ := fld hg hyl 4 1 (open_i Tryz.underlying3) 4 rfl rfl rfl (by kernel_rfl)
  obtain ⟨z5, c5, i5⟩ := fld hg hyl 5 1 (open_i Tryz.underlying3) 5 rfl rfl rfl (by kernel_rfl)
  obtain ⟨z6, c6, i6⟩ := fld hg hyl 6 1 (open_i Tryz.underlying3) 6 rfl rfl rfl (by kernel_rfl)
  obtain ⟨z7, c7, i7⟩ := fld hg hyl 7 1 (open_i Tryz.underlying3) 7 rfl rfl rfl (by kernel_rfl)
  obtain ⟨z8, c8, i8⟩ := fld hg hyl 8 1 (open_i Tryz.underlying3) 8 rfl rfl rfl (by kernel_rfl)
  obtain ⟨z9, c9, i9⟩ := fld hg hyl 9 1 (open_i Tryz.underlying3) 9 rfl rfl rfl (by kernel_rfl)
  obtain ⟨z10, c10, i10⟩ := fld hg hyl 10 1 (open_i Tryz.underlying3) 10 rfl rfl rfl (by kernel_rfl)
  obtain ⟨z11, c11, i11⟩ := fld hg hyl 11 1 (open_i Tryz.underlying3) 11 rfl rfl rfl (by kernel_rfl)
  exact ⟨⟨z0, z1, z2, z3, z4, z5, z6, z7, z8, z9, z10, z11⟩, cr_all hcs (cr_app c0 (cr_app c1 (cr_app c2 (cr_app c3 (cr_app c4 (cr_app c5 (cr_app c6 (cr_app c7 (cr_app c8 (cr_app c9 (cr_app c10 c11))))))))))), trivial⟩⟩
theorem open_no : OpenT Tryz.prog 56 cNo (fun x : LNo => x.words.length ≤ 9223372036854775807) := ⟨fun {H enc w fuel cs y} h => by
  obtain ⟨ys, n, -, -, hlen, hyl, hg⟩ := DataW.trod_struct Tryz.underlying56 h
  have hcs : cs.length = 20 := hlen.trans (by kernel_rfl)
  obtain ⟨z0, c0, i0⟩ := fld hg hyl 0 1 (open_i Tryz.underlying3) 0 rfl rfl rfl (by kernel_rfl)
  obtain ⟨z1, c1, i1⟩ := fld hg hyl 1 1 (open_i Tryz.underlying3) 1 rfl rfl rfl (by kernel_rfl)
  obtain ⟨z2, c2, i2⟩ := fld hg hyl 2 12 open_st 2 rfl rfl rfl (by kernel_rfl)
  obtain ⟨z3, c3, i3⟩ := fld hg hyl 14 1 (open_i Tryz.underlying3) 3 rfl rfl rfl (by kernel_rfl)
  obtain ⟨z4, c4, i4⟩ := fld hg hyl 15 1 (open_i Tryz.underlying3) 4 rfl rfl rfl (by kernel_rfl)
  obtain ⟨z5, c5, i5⟩ := fld hg hyl 16 1 (open_sl Tryz.underlying40 (by kernel_rfl) (Nat.zero_lt_succ _) (fun _ => rfl) (open_i Tryz.underlying3)) 5 rfl rfl rfl (by kernel_rfl)
  obtain ⟨z6, c6, i6⟩ := fld hg hyl 17 1 (open_i Tryz.underlying3) 6 rfl rfl rfl (by kernel_rfl)
  obtain ⟨z7, c7, i7⟩ := fld hg hyl 18 1 (open_i Tryz.underlying3) 7 rfl rfl rfl (by kernel_rfl)
  obtain ⟨z8, c8, i8⟩ := fld hg hyl 19 1 (open_i Tryz.underlying3) 8 rfl rfl rfl (by kernel_rfl)
  exact ⟨⟨z0, z1, z2, z3, z4, z5, z6, z7, z8⟩, cr_all hcs (cr_app c0 (cr_app c1 (cr_app c2 (cr_app c3 (cr_app c4 (cr_app c5 (cr_app c6 (cr_app c7 c8)))))))), i5.1⟩⟩
theorem open_nos : OpenT Tryz.prog 22 (fun xs : List LNo => [.sl 20 (xs.map cNo)]) (fun xs => xs.length ≤ 9223372036854775807 ∧ ∀ x ∈ xs, (fun x : LNo => x.words.length ≤ 9223372036854775807) x) := open_sl Tryz.underlying22 (by kernel_rfl) (Nat.zero_lt_succ _) (fun _ => rfl) open_no
end Go.Proofs.YtblmebjhhanoaaaGreat
/- PLAIN: spans and rectangles, as chapters 2 and 3 have them; no program in sight. -/
set_option linter.unusedSimpArgs false
set_option linter.unusedVariables false
namespace Go.Proofs.YtblmebjhhanoaaaGreat

structure LSpan where
  a : Int
  b : Int
deriving DecidableEq
structure LRect where
  x : Int
  y : Int
  w : Int
  h : Int
deriving DecidableEq
def emS (s : LSpan) : Bool := decide (s.b ≤ s.a)
def lenS (s : LSpan) : Int := if s.b ≤ s.a then 0 else s.b - s.a
def noneR (r : LRect) : Bool := decide (r.w < 1 ∨ r.h < 1)
def acr (r : LRect) : LSpan := ⟨r.x, r.x + r.w⟩
def dwn (r : LRect) : LSpan := ⟨r.y, r.y + r.h⟩
def ofS (c d : LSpan) : LRect := if lenS c < 1 ∨ lenS d < 1 then ⟨0, 0, 0, 0⟩ else ⟨c.a, d.a, lenS c, lenS d⟩
def ofE (l r t b : Int) : LRect := if r ≤ l ∨ b ≤ t then ⟨0, 0, 0, 0⟩ else ⟨l, t, r - l, b - t⟩
def meetS (a b : LSpan) : LSpan := if a.b ≤ a.a ∨ b.b ≤ b.a ∨ min a.b b.b ≤ max a.a b.a then ⟨0, 0⟩ else ⟨max a.a b.a, min a.b b.b⟩
def hullT (o s : LSpan) : LSpan := if s.b ≤ s.a then o else if o.a = 0 ∧ o.b = 0 then s else ⟨min o.a s.a, max o.b s.b⟩
def hullS (l : List LSpan) : LSpan := l.foldl hullT ⟨0, 0⟩
def somes3 (l : List LRect) : List LRect := l.filter fun r => !noneR r
def hullR (l : List LRect) : LRect := ofS (hullS ((somes3 l).map acr)) (hullS ((somes3 l).map dwn))
def rhullT (o r : LRect) : LRect := if noneR r then o else
  let o := if noneR o then r else o
  ofE (min o.x r.x) (max (o.x + o.w) (r.x + r.w)) (min o.y r.y) (max (o.y + o.h) (r.y + r.h))
def rhullR (l : List LRect) : LRect := l.foldl rhullT ⟨0, 0, 0, 0⟩

/-- nothing, or both ways something. -/
def Both (a d : LSpan) : Prop := (a = ⟨0, 0⟩ ∧ d = ⟨0, 0⟩) ∨ (a.a < a.b ∧ d.a < d.b)
def nearS (s : LSpan) : Prop := -2305843009213693952 ≤ s.a ∧ s.b ≤ 2305843009213693952
/-! slices -/
def nr3 (n : Int) : Bool := decide (-1152921504606846976 ≤ n ∧ n ≤ 1152921504606846976)
def nearR (r : LRect) : Bool := nr3 r.x && nr3 r.y && nr3 r.w && nr3 r.h
theorem nearR_iff {r : LRect} : nearR r = true ↔ (-1152921504606846976 ≤ r.x ∧ r.x ≤ 1152921504606846976) ∧ (-1152921504606846976 ≤ r.y ∧ r.y ≤ 1152921504606846976) ∧ (-1152921504606846976 ≤ r.w ∧ r.w ≤ 1152921504606846976) ∧ (-1152921504606846976 ≤ r.h ∧ r.h ≤ 1152921504606846976) := by
  simp [nearR, nr3, and_assoc]
def sliceN (r : LRect) (high : Int) : Nat := if noneR r ∨ high < 1 ∨ 32768 ≤ (r.h - 1) / high then 0 else ((r.h - 1) / high + 1).toNat
def sliceR (r : LRect) (high : Int) (i : Nat) : LRect := ⟨r.x, r.y + i * high, r.w, min high (r.h - i * high)⟩
def slicesR (r : LRect) (high : Int) : List LRect := (List.range (sliceN r high)).map (sliceR r high)
end Go.Proofs.YtblmebjhhanoaaaGreat
/- CHAPTERS 2 and 3: what spans and rectangles are asked, as contracts. -/
/- G -/
set_option linter.unusedSimpArgs false
set_option linter.unusedVariables false
namespace Go.Proofs.YtblmebjhhanoaaaGreat
open Go.RowKit

def cSpan (s : LSpan) : List PV := [.raw (.int .i64 s.a), .raw (.int .i64 s.b)]
def aSpan (s : LSpan) : AV := .agg [.raw (.int .i64 s.a), .raw (.int .i64 s.b)]
def cRect (r : LRect) : List PV := [.raw (.int .i64 r.x), .raw (.int .i64 r.y), .raw (.int .i64 r.w), .raw (.int .i64 r.h)]
def aRect (r : LRect) : AV := .agg [.raw (.int .i64 r.x), .raw (.int .i64 r.y), .raw (.int .i64 r.w), .raw (.int .i64 r.h)]
attribute [go_sem] cSpan aSpan cRect aRect

set_option maxRecDepth 100000 in
theorem snone_ok (s : LSpan) : FnOk Tryz.prog 156 [aSpan s] [] (.raw (.bool (emS s))) [] := by
  refine fn_of_awp Tryz.func156 rfl (by kernel_rfl) (by kernel_rfl) (Nat.le_of_ble_eq_true rfl) Tryz.results156 ?_
  simp only [go_sem]
  simp [emS]
set_option maxRecDepth 100000 in
theorem slen_ok (s : LSpan) (hs : nearS s) : FnOk Tryz.prog 137 [aSpan s] [] (.raw (.int .i64 (lenS s))) [] := by
  refine fn_of_awp Tryz.func137 rfl (by kernel_rfl) (by kernel_rfl) (Nat.le_of_ble_eq_true rfl) Tryz.results137 ?_
  simp only [go_sem]
  (refine acall2 [] (snone_ok s) (by simp only [go_sem]; rfl) (fit_of (by simp only [go_sem]) (by simp only [go_sem]) (by simp only [go_sem]) (by simp only [go_sem]) (by simp only [go_sem]) (by simp only [go_sem]) (by simp only [go_sem])) ?_; simp only [go_sem])
  simp only [emS, decide_eq_true_eq, decide_eq_false_iff_not, lenS]
  unfold nearS at hs
  refine ⟨fun h => by rw [if_pos h], fun h => ⟨by omega, by rw [if_neg h]⟩⟩
set_option maxRecDepth 100000 in
theorem across_ok (r : LRect) (h : nearR r = true) : FnOk Tryz.prog 158 [aRect r] [] (aSpan (acr r)) [] := by
  refine fn_of_awp Tryz.func158 rfl (by kernel_rfl) (by kernel_rfl) (Nat.le_of_ble_eq_true rfl) Tryz.results158 ?_
  simp only [go_sem]
  rw [nearR_iff] at h
  exact ⟨by omega, rfl, rfl⟩
set_option maxRecDepth 100000 in
theorem down_ok (r : LRect) (h : nearR r = true) : FnOk Tryz.prog 121 [aRect r] [] (aSpan (dwn r)) [] := by
  refine fn_of_awp Tryz.func121 rfl (by kernel_rfl) (by kernel_rfl) (Nat.le_of_ble_eq_true rfl) Tryz.results121 ?_
  simp only [go_sem]
  rw [nearR_iff] at h
  exact ⟨by omega, rfl, rfl⟩
set_option maxRecDepth 100000 in
theorem smeet_ok (a b : LSpan) : FnOk Tryz.prog 163 [aSpan a, aSpan b] [] (aSpan (meetS a b)) [] := by
  refine fn_of_awp Tryz.func163 rfl (by kernel_rfl) (by kernel_rfl) (Nat.le_of_ble_eq_true rfl) Tryz.results163 ?_
  simp only [go_sem]
  (refine acall2 [] (snone_ok a) (by simp only [go_sem]; rfl) (fit_of (by simp only [go_sem]) (by simp only [go_sem]) (by simp only [go_sem]) (by simp only [go_sem]) (by simp only [go_sem]) (by simp only [go_sem]) (by simp only [go_sem])) ?_; simp only [go_sem])
  have hz : emS a = true ∨ emS b = true ∨ emS ⟨max a.a b.a, min a.b b.b⟩ = true → meetS a b = ⟨0, 0⟩ := fun h => by
    simp only [emS, decide_eq_true_eq] at h
    exact if_pos h
  have hn : emS a = false → emS b = false → emS ⟨max a.a b.a, min a.b b.b⟩ = false → meetS a b = ⟨max a.a b.a, min a.b b.b⟩ := fun h1 h2 h3 => by
    simp only [emS, decide_eq_false_iff_not] at h1 h2 h3
    exact if_neg (by omega)
  refine ⟨fun h => ?_, fun h => ?_⟩
  · (refine acall2 [] (snone_ok b) (by simp only [go_sem]; rfl) (fit_of (by simp only [go_sem]) (by simp only [go_sem]) (by simp only [go_sem]) (by simp only [go_sem]) (by simp only [go_sem]) (by simp only [go_sem]) (by simp only [go_sem])) ?_; simp only [go_sem])
    refine ⟨fun h1 => ?_, fun h1 => ?_⟩
    · (refine acall2 [] (snone_ok ⟨max a.a b.a, min a.b b.b⟩) (by simp only [go_sem]; rfl) (fit_of (by simp only [go_sem]) (by simp only [go_sem]) (by simp only [go_sem]) (by simp only [go_sem]) (by simp only [go_sem]) (by simp only [go_sem]) (by simp only [go_sem])) ?_; simp only [go_sem])
      refine ⟨fun h2 => ?_, fun h2 => ?_⟩
      · rw [hz (.inr (.inr h2))]; exact ⟨rfl, rfl⟩
      · rw [hn h h1 h2]; exact ⟨rfl, rfl⟩
    · rw [hz (.inr (.inl h1))]; exact ⟨rfl, rfl⟩
  · rw [hz (.inl h)]; exact ⟨rfl, rfl⟩
end Go.Proofs.YtblmebjhhanoaaaGreat
/- CHAPTER 3: hulls and slices, the program's and the reference's. -/
/- G -/
set_option linter.unusedSimpArgs false
set_option linter.unusedVariables false
namespace Go.Proofs.YtblmebjhhanoaaaGreat
open Go.RowKit

end Go.Proofs.YtblmebjhhanoaaaGreat
/- CHAPTER 3: slices, the program's and the reference's; rows compared; the chapter's examples. -/
/- G -/
set_option linter.unusedSimpArgs false
set_option linter.unusedVariables false
namespace Go.Proofs.YtblmebjhhanoaaaGreat
open Go.RowKit

structure SlX where
  i : Nat
  y : Int
  h : Int
def SlInv (r : LRect) (high : Int) (x : SlX) : Prop := x.i ≤ sliceN r high ∧ (x.i < sliceN r high → x.y = r.y + x.i * high) ∧ (-1152921504606846976 ≤ x.y ∧ x.y ≤ 2305843009213693952)
end Go.Proofs.YtblmebjhhanoaaaGreat
/- CHAPTER 10: bands; floats, what they leave free. -/
/- G -/
set_option linter.unusedSimpArgs false
set_option linter.unusedVariables false
namespace Go.Proofs.YtblmebjhhanoaaaGreat
open Go.RowKit

structure LFl where
  node : Int
  side : Int
  anchor : Int
  x : Int
  y : Int
  w : Int
  h : Int
deriving DecidableEq
def cFl (f : LFl) : List PV := [.raw (.int .i64 f.node), .raw (.int .i64 f.side), .raw (.int .i64 f.anchor), .raw (.int .i64 f.x), .raw (.int .i64 f.y), .raw (.int .i64 f.w), .raw (.int .i64 f.h)]
def aFl (f : LFl) : AV := .agg [.raw (.int .i64 f.node), .raw (.int .i64 f.side), .raw (.int .i64 f.anchor), .raw (.int .i64 f.x), .raw (.int .i64 f.y), .raw (.int .i64 f.w), .raw (.int .i64 f.h)]
def aPl (f : LFl) : AV := .agg [.raw (.int .i64 f.node), .raw (.int .i64 f.side), .raw (.int .i64 f.anchor), .raw (.int .i64 f.x), .raw (.int .i64 f.y), .raw (.int .i64 f.w), .raw (.int .i64 f.h), .raw (.int .i64 f.x), .raw (.int .i64 f.y), .raw (.int .i64 f.w), .raw (.int .i64 f.h)]
def rcF (f : LFl) : LRect := ⟨f.x, f.y, f.w, f.h⟩
attribute [go_sem] cFl aFl aPl rcF acr dwn
def nr10 (n : Int) : Bool := decide (-1125899906842624 ≤ n ∧ n ≤ 1125899906842624)
def nearF (f : LFl) : Bool := nr10 f.x && nr10 f.y && nr10 f.w && nr10 f.h
theorem nearF_iff {f : LFl} : nearF f = true ↔ (-1125899906842624 ≤ f.x ∧ f.x ≤ 1125899906842624) ∧ (-1125899906842624 ≤ f.y ∧ f.y ≤ 1125899906842624) ∧ (-1125899906842624 ≤ f.w ∧ f.w ≤ 1125899906842624) ∧ (-1125899906842624 ≤ f.h ∧ f.h ≤ 1125899906842624) := by
  simp only [nearF, nr10, Bool.and_eq_true, decide_eq_true_eq, and_assoc]
theorem nearRF {f : LFl} (h : nearF f = true) : nearR (rcF f) = true := by
  rw [nearF_iff] at h
  exact nearR_iff.2 (by simp only [rcF]; omega)
def meetF (f : LFl) (y high : Int) : Bool := decide (0 < f.h ∧ f.y < y + max high 1 ∧ y < f.y + f.h)
def cutF (f : LFl) (s : LSpan) : LSpan := if f.side = 1 then ⟨max s.a (f.x + f.w), s.b⟩ else ⟨s.a, min s.b f.x⟩
def ofT (y high : Int) (s : LSpan) (f : LFl) : LSpan := if meetF f y high then cutF f s else s
def bandF (l : List LFl) (y high : Int) (s : LSpan) : LSpan := l.foldl (ofT y high) s
structure LIs where
  n : Int
  is : Bool
deriving DecidableEq
def nextT (y high : Int) (s : LSpan) (o : LIs) (f : LFl) : LIs := if meetF f y high = true ∧ ¬ ((cutF f s).a = s.a ∧ (cutF f s).b = s.b) ∧ (o.is = true → f.y + f.h < o.n) then ⟨f.y + f.h, true⟩ else o
def nextF (l : List LFl) (y high : Int) (s : LSpan) : LIs := l.foldl (nextT y high s) ⟨0, false⟩
def mostT (t : LFl → LIs) (o : LIs) (f : LFl) : LIs := if (t f).is = true ∧ (o.is = true → o.n < (t f).n) then ⟨(t f).n, true⟩ else o
def lowF (sides : Int) (f : LFl) : LIs := ⟨f.y + f.h, decide (andI f.side sides ≠ 0)⟩
def topF (f : LFl) : LIs := ⟨f.y, true⟩
def mostF (t : LFl → LIs) (l : List LFl) : LIs := l.foldl (mostT t) ⟨0, false⟩
def aIs (o : LIs) : AV := .tup [.raw (.int .i64 o.n), .raw (.bool o.is)]
attribute [go_sem] aIs
set_option maxRecDepth 100000 in
theorem bof_ok (f : LFl) : FnOk Tryz.prog 120 [aFl f] [] (aPl f) [] := by
  refine fn_of_awp Tryz.func120 rfl (by kernel_rfl) (by kernel_rfl) (Nat.le_of_ble_eq_true rfl) Tryz.results120 ?_
  simp only [go_sem]
set_option maxRecDepth 100000 in
theorem bbot_ok (f : LFl) (h : nearF f = true) : FnOk Tryz.prog 95 [aPl f] [] (.raw (.int .i64 (f.y + f.h))) [] := by
  refine fn_of_awp Tryz.func95 rfl (by kernel_rfl) (by kernel_rfl) (Nat.le_of_ble_eq_true rfl) Tryz.results95 ?_
  simp only [go_sem]
  (refine acall2 [] (down_ok (rcF f) (nearRF h)) (by simp only [go_sem]; rfl) (fit_of (by simp only [go_sem]) (by simp only [go_sem]) (by simp only [go_sem]) (by simp only [go_sem]) (by simp only [go_sem]) (by simp only [go_sem]) (by simp only [go_sem])) ?_; simp only [go_sem])
theorem meetS_zero (a b : LSpan) : ((meetS a b).a = 0 ∧ (meetS a b).b = 0) ↔ (a.b ≤ a.a ∨ b.b ≤ b.a ∨ min a.b b.b ≤ max a.a b.a) := by
  unfold meetS
  split
  · next h => exact ⟨fun _ => h, fun _ => ⟨rfl, rfl⟩⟩
  · next h => exact ⟨fun h1 => by simp only at h1; omega, fun h1 => absurd h1 h⟩
set_option maxRecDepth 100000 in
theorem apart_ok (a b : LSpan) : FnOk Tryz.prog 162 [aSpan a, aSpan b] [] (.raw (.bool (decide ((meetS a b).a = 0 ∧ (meetS a b).b = 0)))) [] := by
  refine fn_of_awp Tryz.func162 rfl (by kernel_rfl) (by kernel_rfl) (Nat.le_of_ble_eq_true rfl) Tryz.results162 ?_
  simp only [go_sem]
  (refine acall2 [] (smeet_ok a b) (by simp only [go_sem]; rfl) (fit_of (by simp only [go_sem]) (by simp only [go_sem]) (by simp only [go_sem]) (by simp only [go_sem]) (by simp only [go_sem]) (by simp only [go_sem]) (by simp only [go_sem])) ?_; simp only [go_sem])
  simp
theorem meetF_eq (f : LFl) (y high : Int) (hh : 1 ≤ max high 1) : meetF f y high = !decide ((meetS ⟨f.y, f.y + f.h⟩ ⟨y, y + max high 1⟩).a = 0 ∧ (meetS ⟨f.y, f.y + f.h⟩ ⟨y, y + max high 1⟩).b = 0) := by
  have e := meetS_zero ⟨f.y, f.y + f.h⟩ ⟨y, y + max high 1⟩
  rw [Bool.eq_iff_iff]
  simp only [Bool.not_eq_true', decide_eq_false_iff_not, e, meetF, decide_eq_true_eq]
  omega
set_option maxRecDepth 100000 in
theorem meets_ok (f : LFl) (y high : Int) (h : nearF f = true) (hy : -4503599627370496 ≤ y ∧ y ≤ 4503599627370496) (hh : -4503599627370496 ≤ high ∧ high ≤ 4503599627370496) : FnOk Tryz.prog 157 [aPl f, .raw (.int .i64 y), .raw (.int .i64 high)] [] (.raw (.bool (meetF f y high))) [] := by
  refine fn_of_awp Tryz.func157 rfl (by kernel_rfl) (by kernel_rfl) (Nat.le_of_ble_eq_true rfl) Tryz.results157 ?_
  simp only [go_sem]
  (refine acall2 [] (down_ok (rcF f) (nearRF h)) (by simp only [go_sem]; rfl) (fit_of (by simp only [go_sem]) (by simp only [go_sem]) (by simp only [go_sem]) (by simp only [go_sem]) (by simp only [go_sem]) (by simp only [go_sem]) (by simp only [go_sem])) ?_; simp only [go_sem])
  refine ⟨by omega, ?_⟩
  (refine acall2 [] (apart_ok (dwn (rcF f)) ⟨y, y + max high 1⟩) (by simp only [go_sem]; rfl) (fit_of (by simp only [go_sem]) (by simp only [go_sem]) (by simp only [go_sem]) (by simp only [go_sem]) (by simp only [go_sem]) (by simp only [go_sem]) (by simp only [go_sem])) ?_; simp only [go_sem])
  exact meetF_eq f y high (by omega)
set_option maxRecDepth 100000 in
theorem cut_ok (f : LFl) (s : LSpan) (h : nearF f = true) : FnOk Tryz.prog 140 [aPl f, aSpan s] [] (aSpan (cutF f s)) [] := by
  refine fn_of_awp Tryz.func140 rfl (by kernel_rfl) (by kernel_rfl) (Nat.le_of_ble_eq_true rfl) Tryz.results140 ?_
  simp only [go_sem]
  (refine acall2 [] (across_ok (rcF f) (nearRF h)) (by simp only [go_sem]; rfl) (fit_of (by simp only [go_sem]) (by simp only [go_sem]) (by simp only [go_sem]) (by simp only [go_sem]) (by simp only [go_sem]) (by simp only [go_sem]) (by simp only [go_sem])) ?_; simp only [go_sem])
  exact ⟨fun h1 => by rw [cutF, if_pos h1]; exact ⟨rfl, rfl⟩, fun h1 => by rw [cutF, if_neg h1]; exact ⟨rfl, rfl⟩⟩
/-! folds, step by step -/
structure KX (α : Type) where
  k : Nat
  o : α
def FInv {α β : Type} (f : α → β → α) (a : α) (l : List β) (z : KX α) : Prop := z.k ≤ l.length ∧ z.o = (l.take z.k).foldl f a
theorem fInv_first {α β : Type} (f : α → β → α) (a : α) (l : List β) : FInv f a l ⟨0, a⟩ := ⟨Nat.zero_le _, rfl⟩
theorem fInv_next {α β : Type} {f : α → β → α} {a : α} {l : List β} {k : Nat} {o o' : α} (h : FInv f a l ⟨k, o⟩) (hk : k < l.length) (e : o' = f o l[k]) : FInv f a l ⟨k + 1, o'⟩ := by
  obtain ⟨h1, h2⟩ := h
  refine ⟨hk, ?_⟩
  simp only at h2 ⊢
  rw [List.take_succ_eq_append_getElem hk, List.foldl_append, ← h2, e]
  rfl
theorem fInv_last {α β : Type} {f : α → β → α} {a : α} {l : List β} {k : Nat} {o : α} (h : FInv f a l ⟨k, o⟩) (hk : ¬ (k : Int) < l.length) : o = l.foldl f a := by
  obtain ⟨h1, h2⟩ := h
  simp only at h1 h2
  rw [h2, List.take_of_length_le (by omega)]
theorem all_at {α : Type} {p : α → Bool} {l : List α} (h : l.all p = true) {k : Nat} (hk : k < l.length) : p l[k] = true := List.all_eq_true.1 h _ (List.getElem_mem hk)
set_option maxRecDepth 100000 in
theorem ofc_ok (f : LFl) (s : LSpan) (h : nearF f = true) : FnOk Tryz.prog 159 [aPl f, .hdr 0] [(0, .cells 112 [.raw (.int .i64 s.a), .raw (.int .i64 s.b)])] (.tup []) [(0, .cells 112 [.raw (.int .i64 (cutF f s).a), .raw (.int .i64 (cutF f s).b)])] := by
  refine fn_of_awp Tryz.func159 rfl (by kernel_rfl) (by kernel_rfl) (Nat.le_of_ble_eq_true rfl) Tryz.results159 ?_
  simp only [go_sem]
  (refine acall2 [] (cut_ok f s h) (by simp only [go_sem]; rfl) (fit_of (by simp only [go_sem]) (by simp only [go_sem]) (by simp only [go_sem]) (by simp only [go_sem]) (by simp only [go_sem]) (by simp only [go_sem]) (by simp only [go_sem])) ?_; simp only [go_sem])
  (refine ret2 [] (by simp only [go_sem]; rfl) ?_; simp only [go_sem])
def nextC (s : LSpan) (o : LIs) (f : LFl) : LIs := if ¬ ((cutF f s).a = s.a ∧ (cutF f s).b = s.b) ∧ (o.is = true → f.y + f.h < o.n) then ⟨f.y + f.h, true⟩ else o
theorem nextT_eq (y high : Int) (s : LSpan) (o : LIs) (f : LFl) : nextT y high s o f = if meetF f y high = true then nextC s o f else o := by
  unfold nextT nextC
  by_cases h : meetF f y high = true
  · simp only [h, true_and, if_true]
  · rw [if_neg (fun q => h q.1), if_neg h]
set_option maxRecDepth 100000 in
theorem nextc_ok (f : LFl) (s : LSpan) (o : LIs) (h : nearF f = true) : FnOk Tryz.prog 139 [aPl f, .hdr 0, .hdr 1, .hdr 2] [(0, .cells 112 [.raw (.int .i64 s.a), .raw (.int .i64 s.b)]), (1, .cells 4 [.raw (.bool o.is)]), (2, .cells 3 [.raw (.int .i64 o.n)])] (.tup []) [(0, .cells 112 [.raw (.int .i64 s.a), .raw (.int .i64 s.b)]), (1, .cells 4 [.raw (.bool (nextC s o f).is)]), (2, .cells 3 [.raw (.int .i64 (nextC s o f).n)])] := by
  refine fn_of_awp Tryz.func139 rfl (by kernel_rfl) (by kernel_rfl) (Nat.le_of_ble_eq_true rfl) Tryz.results139 ?_
  simp only [go_sem]
  repeat' first | intro _ | refine And.intro ?_ ?_ | refine ex_get (by omega) ?_ | (show drawB _ _ = true; kernel_rfl) | (refine ret2 [] (by simp only [go_sem]; rfl) ?_; simp only [go_sem]) | (refine acall2 [] (cut_ok f s h) (by simp only [go_sem]; rfl) (fit_of (by simp only [go_sem]) (by simp only [go_sem]) (by simp only [go_sem]) (by simp only [go_sem]) (by simp only [go_sem]) (by simp only [go_sem]) (by simp only [go_sem])) ?_; simp only [go_sem]) | (refine acall2 [] (bbot_ok f h) (by simp only [go_sem]; rfl) (fit_of (by simp only [go_sem]) (by simp only [go_sem]) (by simp only [go_sem]) (by simp only [go_sem]) (by simp only [go_sem]) (by simp only [go_sem]) (by simp only [go_sem])) ?_; simp only [go_sem])
  all_goals (unfold nextC; split <;> first | rfl | omega | (simp_all; done) | (simp_all; omega))
set_option maxRecDepth 100000 in
theorem lowc_ok (f : LFl) (sides : Int) (h : nearF f = true) : FnOk Tryz.prog 94 [aPl f, .hdr 0] [(0, .cells 3 [.raw (.int .i64 sides)])] (aIs (lowF sides f)) [(0, .cells 3 [.raw (.int .i64 sides)])] := by
  refine fn_of_awp Tryz.func94 rfl (by kernel_rfl) (by kernel_rfl) (Nat.le_of_ble_eq_true rfl) Tryz.results94 ?_
  simp only [go_sem]
  repeat' first | intro _ | refine And.intro ?_ ?_ | refine ex_get (by omega) ?_ | (show drawB _ _ = true; kernel_rfl) | (refine ret2 [] (by simp only [go_sem]; rfl) ?_; simp only [go_sem]) | (refine acall2 [] (bbot_ok f h) (by simp only [go_sem]; rfl) (fit_of (by simp only [go_sem]) (by simp only [go_sem]) (by simp only [go_sem]) (by simp only [go_sem]) (by simp only [go_sem]) (by simp only [go_sem]) (by simp only [go_sem])) ?_; simp only [go_sem])
  all_goals simp [lowF]
set_option maxRecDepth 100000 in
theorem topc_ok (f : LFl) (h : nearF f = true) : FnOk Tryz.prog 160 [aPl f] [] (aIs (topF f)) [] := by
  refine fn_of_awp Tryz.func160 rfl (by kernel_rfl) (by kernel_rfl) (Nat.le_of_ble_eq_true rfl) Tryz.results160 ?_
  simp only [go_sem]
  repeat' first | intro _ | refine And.intro ?_ ?_ | refine ex_get (by omega) ?_ | (show drawB _ _ = true; kernel_rfl) | (refine ret2 [] (by simp only [go_sem]; rfl) ?_; simp only [go_sem]) | (refine acall2 [] (down_ok (rcF f) (nearRF h)) (by simp only [go_sem]; rfl) (fit_of (by simp only [go_sem]) (by simp only [go_sem]) (by simp only [go_sem]) (by simp only [go_sem]) (by simp only [go_sem]) (by simp only [go_sem]) (by simp only [go_sem])) ?_; simp only [go_sem])
  all_goals rfl
end Go.Proofs.YtblmebjhhanoaaaGreat
/- CHAPTER 10: the program's bands: all, most, and what they tell. -/
/- G -/
set_option linter.unusedSimpArgs false
set_option linter.unusedVariables false
namespace Go.Proofs.YtblmebjhhanoaaaGreat
open Go.RowKit

theorem most_pos {t : LFl → LIs} {o : LIs} {f : LFl} (h : (t f).is = true ∧ (o.is = true → o.n < (t f).n)) : (⟨(t f).n, true⟩ : LIs) = mostT t o f := by rw [mostT, if_pos h]
theorem most_neg {t : LFl → LIs} {o : LIs} {f : LFl} (h : (t f).is = true → o.is = true ∧ ¬ o.n < (t f).n) : o = mostT t o f := by
  rw [mostT, if_neg]
  rintro ⟨h1, h2⟩
  exact (h h1).2 (h2 (h h1).1)
def in10 (n : Int) : Prop := -4503599627370496 ≤ n ∧ n ≤ 4503599627370496
set_option maxRecDepth 100000 in
theorem allOf_ok (l : List LFl) (y high : Int) (s : LSpan) (hl : l.length ≤ 100) (hn : l.all nearF = true) (hy : in10 y) (hh : in10 high) : FnOk Tryz.prog 138 [.sl 7 (l.map cFl), .raw (.int .i64 y), .raw (.int .i64 high), .clo (.func 159) [.hdr 1]] [(1, .cells 112 [.raw (.int .i64 s.a), .raw (.int .i64 s.b)])] (.tup []) [(1, .cells 112 [.raw (.int .i64 (bandF l y high s).a), .raw (.int .i64 (bandF l y high s).b)])] := by
  refine fn_of_awp Tryz.func138 rfl (by kernel_rfl) (by kernel_rfl) (Nat.le_of_ble_eq_true rfl) Tryz.results138 ?_
  simp only [go_sem, List.length_map]
  refine aloop2 [] (fun z : KX LSpan => ⟨[(1, .raw (.int .i64 y)), (2, .raw (.int .i64 high)), (3, .clo (.func 159) [.hdr 1]), (11, .sl 7 (l.map cFl)), (12, .raw (.int .i64 l.length)), (13, .raw (.int .i64 z.k))], [(1, some (.cells 112 [.raw (.int .i64 z.o.a), .raw (.int .i64 z.o.b)]))], none⟩) (FInv (ofT y high) s l) (fun z => l.length - z.k) 2 ⟨0, s⟩ (by simp only [go_sem]; rfl) (by simp only [go_sem]) ?_ ?_
  · exact fInv_first _ _ _
  · rintro ⟨k, o⟩ hi
    simp only [go_sem, List.length_map]
    refine ⟨fun h5 => ?_, fun h5 => ?_⟩
    · have hk : k < l.length := by omega
      have hf := all_at hn hk
      refine ⟨by omega, l[k], by simp, ?_⟩
      repeat' first | intro _ | refine And.intro ?_ ?_ | refine ex_get (by omega) ?_ | (show drawB _ _ = true; kernel_rfl) | (refine ret2 [] (by simp only [go_sem]; rfl) ?_; simp only [go_sem]) | (refine acall2 [] (bof_ok l[k]) (by simp only [go_sem]; rfl) (fit_of (by simp only [go_sem]) (by simp only [go_sem]) (by simp only [go_sem]) (by simp only [go_sem]) (by simp only [go_sem]) (by simp only [go_sem]) (by simp only [go_sem])) ?_; simp only [go_sem]) | (refine acall2 [] (meets_ok l[k] y high hf hy hh) (by simp only [go_sem]; rfl) (fit_of (by simp only [go_sem]) (by simp only [go_sem]) (by simp only [go_sem]) (by simp only [go_sem]) (by simp only [go_sem]) (by simp only [go_sem]) (by simp only [go_sem])) ?_; simp only [go_sem]) | (refine acall2 [] (ofc_ok l[k] o hf) (by simp only [go_sem]; rfl) (fit_of (by simp only [go_sem]) (by simp only [go_sem]) (by simp only [go_sem]) (by simp only [go_sem]) (by simp only [go_sem]) (by simp only [go_sem]) (by simp only [go_sem])) ?_; simp only [go_sem])
      all_goals first | omega | ((refine loop_end [] (⟨k + 1, cutF l[k] o⟩) (by simp only [go_sem]; rfl) ?_ ?_ ?_; (focus first | omega | (simp only; omega)); (focus (simp only [go_sem]; done))); exact fInv_next hi hk (by rw [ofT, if_pos (by assumption)])) | ((refine loop_end [] (⟨k + 1, o⟩) (by simp only [go_sem]; rfl) ?_ ?_ ?_; (focus first | omega | (simp only; omega)); (focus (simp only [go_sem]; done))); exact fInv_next hi hk (by rw [ofT, if_neg (by simp [*])]))
    · have e := fInv_last hi h5
      repeat' first | intro _ | refine And.intro ?_ ?_ | refine ex_get (by omega) ?_ | (show drawB _ _ = true; kernel_rfl) | (refine ret2 [] (by simp only [go_sem]; rfl) ?_; simp only [go_sem])
      all_goals (rw [e]; rfl)
set_option maxRecDepth 100000 in
theorem allNext_ok (l : List LFl) (y high : Int) (s : LSpan) (hl : l.length ≤ 100) (hn : l.all nearF = true) (hy : in10 y) (hh : in10 high) : FnOk Tryz.prog 138 [.sl 7 (l.map cFl), .raw (.int .i64 y), .raw (.int .i64 high), .clo (.func 139) [.hdr 1, .hdr 2, .hdr 3]] [(1, .cells 112 [.raw (.int .i64 s.a), .raw (.int .i64 s.b)]), (2, .cells 4 [.raw (.bool false)]), (3, .cells 3 [.raw (.int .i64 0)])] (.tup []) [(1, .cells 112 [.raw (.int .i64 s.a), .raw (.int .i64 s.b)]), (2, .cells 4 [.raw (.bool (nextF l y high s).is)]), (3, .cells 3 [.raw (.int .i64 (nextF l y high s).n)])] := by
  refine fn_of_awp Tryz.func138 rfl (by kernel_rfl) (by kernel_rfl) (Nat.le_of_ble_eq_true rfl) Tryz.results138 ?_
  simp only [go_sem, List.length_map]
  refine aloop2 [] (fun z : KX LIs => ⟨[(1, .raw (.int .i64 y)), (2, .raw (.int .i64 high)), (3, .clo (.func 139) [.hdr 1, .hdr 2, .hdr 3]), (11, .sl 7 (l.map cFl)), (12, .raw (.int .i64 l.length)), (13, .raw (.int .i64 z.k))], [(1, some (.cells 112 [.raw (.int .i64 s.a), .raw (.int .i64 s.b)])), (2, some (.cells 4 [.raw (.bool z.o.is)])), (3, some (.cells 3 [.raw (.int .i64 z.o.n)]))], none⟩) (FInv (nextT y high s) ⟨0, false⟩ l) (fun z => l.length - z.k) 2 ⟨0, ⟨0, false⟩⟩ (by simp only [go_sem]; rfl) (by simp only [go_sem]) ?_ ?_
  · exact fInv_first _ _ _
  · rintro ⟨k, o⟩ hi
    simp only [go_sem, List.length_map]
    refine ⟨fun h5 => ?_, fun h5 => ?_⟩
    · have hk : k < l.length := by omega
      have hf := all_at hn hk
      refine ⟨by omega, l[k], by simp, ?_⟩
      repeat' first | intro _ | refine And.intro ?_ ?_ | refine ex_get (by omega) ?_ | (show drawB _ _ = true; kernel_rfl) | (refine ret2 [] (by simp only [go_sem]; rfl) ?_; simp only [go_sem]) | (refine acall2 [] (bof_ok l[k]) (by simp only [go_sem]; rfl) (fit_of (by simp only [go_sem]) (by simp only [go_sem]) (by simp only [go_sem]) (by simp only [go_sem]) (by simp only [go_sem]) (by simp only [go_sem]) (by simp only [go_sem])) ?_; simp only [go_sem]) | (refine acall2 [] (meets_ok l[k] y high hf hy hh) (by simp only [go_sem]; rfl) (fit_of (by simp only [go_sem]) (by simp only [go_sem]) (by simp only [go_sem]) (by simp only [go_sem]) (by simp only [go_sem]) (by simp only [go_sem]) (by simp only [go_sem])) ?_; simp only [go_sem]) | (refine acall2 [] (nextc_ok l[k] s o hf) (by simp only [go_sem]; rfl) (fit_of (by simp only [go_sem]) (by simp only [go_sem]) (by simp only [go_sem]) (by simp only [go_sem]) (by simp only [go_sem]) (by simp only [go_sem]) (by simp only [go_sem])) ?_; simp only [go_sem])
      all_goals first | omega | ((refine loop_end [] (⟨k + 1, nextC s o l[k]⟩) (by simp only [go_sem]; rfl) ?_ ?_ ?_; (focus first | omega | (simp only; omega)); (focus (simp only [go_sem]; done))); exact fInv_next hi hk (by rw [nextT_eq, if_pos (by assumption)])) | ((refine loop_end [] (⟨k + 1, o⟩) (by simp only [go_sem]; rfl) ?_ ?_ ?_; (focus first | omega | (simp only; omega)); (focus (simp only [go_sem]; done))); exact fInv_next hi hk (by rw [nextT_eq, if_neg (by simp [*])]))
    · have e := fInv_last hi h5
      repeat' first | intro _ | refine And.intro ?_ ?_ | refine ex_get (by omega) ?_ | (show drawB _ _ = true; kernel_rfl) | (refine ret2 [] (by simp only [go_sem]; rfl) ?_; simp only [go_sem])
      all_goals (rw [e]; rfl)
set_option maxRecDepth 100000 in
theorem mostLow_ok (l : List LFl) (sides : Int) (hl : l.length ≤ 100) (hn : l.all nearF = true) : FnOk Tryz.prog 93 [.sl 7 (l.map cFl), .clo (.func 94) [.hdr 1]] [(1, .cells 3 [.raw (.int .i64 sides)])] (aIs (mostF (lowF sides) l)) [] := by
  refine fn_of_awp Tryz.func93 rfl (by kernel_rfl) (by kernel_rfl) (Nat.le_of_ble_eq_true rfl) Tryz.results93 ?_
  simp only [go_sem, List.length_map]
  refine aloop2 [] (fun z : KX LIs => ⟨[(1, .clo (.func 94) [.hdr 1]), (4, .raw (.int .i64 0)), (5, .raw (.bool false)), (6, .raw (.int .i64 z.o.n)), (7, .raw (.bool z.o.is)), (12, .sl 7 (l.map cFl)), (13, .raw (.int .i64 l.length)), (14, .raw (.int .i64 z.k))], [(1, some (.cells 3 [.raw (.int .i64 sides)]))], none⟩) (FInv (mostT (lowF sides)) ⟨0, false⟩ l) (fun z => l.length - z.k) 2 ⟨0, ⟨0, false⟩⟩ (by simp only [go_sem]; rfl) (by simp only [go_sem]) ?_ ?_
  · exact fInv_first _ _ _
  · rintro ⟨k, o⟩ hi
    simp only [go_sem, List.length_map]
    refine ⟨fun h5 => ?_, fun h5 => ?_⟩
    · have hk : k < l.length := by omega
      have hf := all_at hn hk
      refine ⟨by omega, l[k], by simp, ?_⟩
      repeat' first | intro _ | refine And.intro ?_ ?_ | refine ex_get (by omega) ?_ | (show drawB _ _ = true; kernel_rfl) | (refine ret2 [] (by simp only [go_sem]; rfl) ?_; simp only [go_sem]) | (refine acall2 [] (bof_ok l[k]) (by simp only [go_sem]; rfl) (fit_of (by simp only [go_sem]) (by simp only [go_sem]) (by simp only [go_sem]) (by simp only [go_sem]) (by simp only [go_sem]) (by simp only [go_sem]) (by simp only [go_sem])) ?_; simp only [go_sem]) | (refine acall2 [] (lowc_ok l[k] sides hf) (by simp only [go_sem]; rfl) (fit_of (by simp only [go_sem]) (by simp only [go_sem]) (by simp only [go_sem]) (by simp only [go_sem]) (by simp only [go_sem]) (by simp only [go_sem]) (by simp only [go_sem])) ?_; simp only [go_sem])
      all_goals first | omega | ((refine loop_end [] (⟨k + 1, ⟨(lowF sides l[k]).n, true⟩⟩) (by simp only [go_sem]; rfl) ?_ ?_ ?_; (focus first | omega | (simp only; omega)); (focus (simp only [go_sem]; done))); refine fInv_next hi hk (most_pos ?_); simp_all; done) | ((refine loop_end [] (⟨k + 1, o⟩) (by simp only [go_sem]; rfl) ?_ ?_ ?_; (focus first | omega | (simp only; omega)); (focus (simp only [go_sem]; done))); refine fInv_next hi hk (most_neg ?_); simp_all; try omega)
    · have e := fInv_last hi h5
      repeat' first | intro _ | refine And.intro ?_ ?_ | refine ex_get (by omega) ?_ | (show drawB _ _ = true; kernel_rfl) | (refine ret2 [] (by simp only [go_sem]; rfl) ?_; simp only [go_sem])
      all_goals (rw [e]; rfl)
set_option maxRecDepth 100000 in
theorem mostTop_ok (l : List LFl) (hl : l.length ≤ 100) (hn : l.all nearF = true) : FnOk Tryz.prog 93 [.sl 7 (l.map cFl), .clo (.func 160) []] [] (aIs (mostF topF l)) [] := by
  refine fn_of_awp Tryz.func93 rfl (by kernel_rfl) (by kernel_rfl) (Nat.le_of_ble_eq_true rfl) Tryz.results93 ?_
  simp only [go_sem, List.length_map]
  refine aloop2 [] (fun z : KX LIs => ⟨[(1, .clo (.func 160) []), (4, .raw (.int .i64 0)), (5, .raw (.bool false)), (6, .raw (.int .i64 z.o.n)), (7, .raw (.bool z.o.is)), (12, .sl 7 (l.map cFl)), (13, .raw (.int .i64 l.length)), (14, .raw (.int .i64 z.k))], [], none⟩) (FInv (mostT topF) ⟨0, false⟩ l) (fun z => l.length - z.k) 2 ⟨0, ⟨0, false⟩⟩ (by simp only [go_sem]; rfl) (by simp only [go_sem]) ?_ ?_
  · exact fInv_first _ _ _
  · rintro ⟨k, o⟩ hi
    simp only [go_sem, List.length_map]
    refine ⟨fun h5 => ?_, fun h5 => ?_⟩
    · have hk : k < l.length := by omega
      have hf := all_at hn hk
      refine ⟨by omega, l[k], by simp, ?_⟩
      repeat' first | intro _ | refine And.intro ?_ ?_ | refine ex_get (by omega) ?_ | (show drawB _ _ = true; kernel_rfl) | (refine ret2 [] (by simp only [go_sem]; rfl) ?_; simp only [go_sem]) | (refine acall2 [] (bof_ok l[k]) (by simp only [go_sem]; rfl) (fit_of (by simp only [go_sem]) (by simp only [go_sem]) (by simp only [go_sem]) (by simp only [go_sem]) (by simp only [go_sem]) (by simp only [go_sem]) (by simp only [go_sem])) ?_; simp only [go_sem]) | (refine acall2 [] (topc_ok l[k] hf) (by simp only [go_sem]; rfl) (fit_of (by simp only [go_sem]) (by simp only [go_sem]) (by simp only [go_sem]) (by simp only [go_sem]) (by simp only [go_sem]) (by simp only [go_sem]) (by simp only [go_sem])) ?_; simp only [go_sem])
      all_goals first | omega | ((refine loop_end [] (⟨k + 1, ⟨(topF l[k]).n, true⟩⟩) (by simp only [go_sem]; rfl) ?_ ?_ ?_; (focus first | omega | (simp only; omega)); (focus (simp only [go_sem]; done))); refine fInv_next hi hk (most_pos ?_); simp_all; done) | ((refine loop_end [] (⟨k + 1, o⟩) (by simp only [go_sem]; rfl) ?_ ?_ ?_; (focus first | omega | (simp only; omega)); (focus (simp only [go_sem]; done))); refine fInv_next hi hk (most_neg ?_); simp_all; try omega)
    · have e := fInv_last hi h5
      repeat' first | intro _ | refine And.intro ?_ ?_ | refine ex_get (by omega) ?_ | (show drawB _ _ = true; kernel_rfl) | (refine ret2 [] (by simp only [go_sem]; rfl) ?_; simp only [go_sem])
      all_goals (rw [e]; rfl)

set_option maxRecDepth 100000 in
theorem bof10_ok (l : List LFl) (y high : Int) (s : LSpan) (hl : l.length ≤ 100) (hn : l.all nearF = true) (hy : in10 y) (hh : in10 high) : FnOk Tryz.prog 141 [.sl 7 (l.map cFl), .raw (.int .i64 y), .raw (.int .i64 high), aSpan s] [] (aSpan (bandF l y high s)) [] := by
  refine fn_of_awp Tryz.func141 rfl (by kernel_rfl) (by kernel_rfl) (Nat.le_of_ble_eq_true rfl) Tryz.results141 ?_
  simp only [go_sem]
  repeat' first | intro _ | refine And.intro ?_ ?_ | refine ex_get (by omega) ?_ | (show drawB _ _ = true; kernel_rfl) | (refine ret2 [] (by simp only [go_sem]; rfl) ?_; simp only [go_sem]) | (refine acall2 [] (allOf_ok l y high s hl hn hy hh) (by simp only [go_sem]; rfl) (fit_of (by simp only [go_sem]) (by simp only [go_sem]) (by simp only [go_sem]) (by simp only [go_sem]) (by simp only [go_sem]) (by simp only [go_sem]) (by simp only [go_sem])) ?_; simp only [go_sem])
set_option maxRecDepth 100000 in
theorem bnext_ok (l : List LFl) (y high : Int) (s : LSpan) (hl : l.length ≤ 100) (hn : l.all nearF = true) (hy : in10 y) (hh : in10 high) : FnOk Tryz.prog 117 [.sl 7 (l.map cFl), .raw (.int .i64 y), .raw (.int .i64 high), aSpan s] [] (aIs (nextF l y high s)) [] := by
  refine fn_of_awp Tryz.func117 rfl (by kernel_rfl) (by kernel_rfl) (Nat.le_of_ble_eq_true rfl) Tryz.results117 ?_
  simp only [go_sem]
  repeat' first | intro _ | refine And.intro ?_ ?_ | refine ex_get (by omega) ?_ | (show drawB _ _ = true; kernel_rfl) | (refine ret2 [] (by simp only [go_sem]; rfl) ?_; simp only [go_sem]) | (refine acall2 [] (allNext_ok l y high s hl hn hy hh) (by simp only [go_sem]; rfl) (fit_of (by simp only [go_sem]) (by simp only [go_sem]) (by simp only [go_sem]) (by simp only [go_sem]) (by simp only [go_sem]) (by simp only [go_sem]) (by simp only [go_sem])) ?_; simp only [go_sem])
set_option maxRecDepth 100000 in
theorem blow_ok (l : List LFl) (sides : Int) (hl : l.length ≤ 100) (hn : l.all nearF = true) : FnOk Tryz.prog 64 [.sl 7 (l.map cFl), .raw (.int .i64 sides)] [] (aIs (mostF (lowF sides) l)) [] := by
  refine fn_of_awp Tryz.func64 rfl (by kernel_rfl) (by kernel_rfl) (Nat.le_of_ble_eq_true rfl) Tryz.results64 ?_
  simp only [go_sem]
  repeat' first | intro _ | refine And.intro ?_ ?_ | refine ex_get (by omega) ?_ | (show drawB _ _ = true; kernel_rfl) | (refine ret2 [] (by simp only [go_sem]; rfl) ?_; simp only [go_sem]) | (refine acall2 [] (mostLow_ok l sides hl hn) (by simp only [go_sem]; rfl) (fit_of (by simp only [go_sem]) (by simp only [go_sem]) (by simp only [go_sem]) (by simp only [go_sem]) (by simp only [go_sem]) (by simp only [go_sem]) (by simp only [go_sem])) ?_; simp only [go_sem])
set_option maxRecDepth 100000 in
theorem btop_ok (l : List LFl) (hl : l.length ≤ 100) (hn : l.all nearF = true) : FnOk Tryz.prog 142 [.sl 7 (l.map cFl)] [] (aIs (mostF topF l)) [] := by
  refine fn_of_awp Tryz.func142 rfl (by kernel_rfl) (by kernel_rfl) (Nat.le_of_ble_eq_true rfl) Tryz.results142 ?_
  simp only [go_sem]
  repeat' first | intro _ | refine And.intro ?_ ?_ | refine ex_get (by omega) ?_ | (show drawB _ _ = true; kernel_rfl) | (refine ret2 [] (by simp only [go_sem]; rfl) ?_; simp only [go_sem]) | (refine acall2 [] (mostTop_ok l hl hn) (by simp only [go_sem]; rfl) (fit_of (by simp only [go_sem]) (by simp only [go_sem]) (by simp only [go_sem]) (by simp only [go_sem]) (by simp only [go_sem]) (by simp only [go_sem]) (by simp only [go_sem])) ?_; simp only [go_sem])
end Go.Proofs.YtblmebjhhanoaaaGreat
/- CHAPTER 10: the reference's bands. -/
/- G -/
/- BOOLS -/
set_option linter.unusedSimpArgs false
set_option linter.unusedVariables false
namespace Go.Proofs.YtblmebjhhanoaaaGreat
open Go.RowKit

end Go.Proofs.YtblmebjhhanoaaaGreat
/- CHAPTER 10: the law BandsTell. -/
/- G -/
/- BOOLS -/
set_option linter.unusedSimpArgs false
set_option linter.unusedVariables false
namespace Go.Proofs.YtblmebjhhanoaaaGreat
open Go.RowKit

end Go.Proofs.YtblmebjhhanoaaaGreat
/- CHAPTER 11: place; where a float goes. -/
/- G -/
/- BOOLS -/
set_option linter.unusedSimpArgs false
set_option linter.unusedVariables false
namespace Go.Proofs.YtblmebjhhanoaaaGreat
open Go.RowKit

/-- down from a height, as many steps as told at most. -/
def dnP (l : List LFl) (W H : Int) (s : LSpan) : Nat → Int → Int
  | 0, y => y
  | n + 1, y => if W ≤ lenS (bandF l y H s) ∨ (nextF l y H s).is = false then y else dnP l W H s n (nextF l y H s).n
def cntP (l : List LFl) (y : Int) : Nat := (l.filter fun f => decide (y < f.y + f.h)).length
theorem fold_inv {α β : Type} {f : α → β → α} {P : α → Prop} : ∀ (l : List β) (a : α), P a → (∀ a, ∀ b ∈ l, P a → P (f a b)) → P (l.foldl f a)
  | [], a, h, _ => h
  | b :: l, a, h, hs => by rw [List.foldl_cons]; exact fold_inv l _ (hs a b List.mem_cons_self h) fun a c hc => hs a c (List.mem_cons_of_mem _ hc)
theorem next_bot {l : List LFl} {y H : Int} {s : LSpan} : (nextF l y H s).is = true → ∃ f ∈ l, (nextF l y H s).n = f.y + f.h ∧ y < f.y + f.h := by
  refine fold_inv (P := fun o : LIs => o.is = true → ∃ f ∈ l, o.n = f.y + f.h ∧ y < f.y + f.h) l ⟨0, false⟩ (fun h => by cases h) fun o f hf ih h => ?_
  unfold nextT at h ⊢
  split at h
  · next hc =>
    rw [if_pos hc]
    have := hc.1
    rw [meetF, decide_eq_true_eq] at this
    exact ⟨f, hf, rfl, this.2.2⟩
  · next hc => rw [if_neg hc]; exact ih h
theorem top_at {l : List LFl} : (mostF topF l).is = true → ∃ f ∈ l, (mostF topF l).n = f.y := by
  refine fold_inv (P := fun o : LIs => o.is = true → ∃ f ∈ l, o.n = f.y) l ⟨0, false⟩ (fun h => by cases h) fun o f hf ih h => ?_
  unfold mostT at h ⊢
  split at h
  · next hc => rw [if_pos hc]; exact ⟨f, hf, rfl⟩
  · next hc => rw [if_neg hc]; exact ih h
theorem cnt_le (l : List LFl) (y : Int) : cntP l y ≤ l.length := List.length_filter_le _ _
theorem cnt_lt {l : List LFl} {y n : Int} (h : ∃ f ∈ l, n = f.y + f.h ∧ y < f.y + f.h) : cntP l n < cntP l y := by
  obtain ⟨f, hf, rfl, hy⟩ := h
  unfold cntP
  induction l with
  | nil => cases hf
  | cons g l ih =>
    have hm : ∀ (l : List LFl), (l.filter fun g => decide (f.y + f.h < g.y + g.h)).length ≤ (l.filter fun g => decide (y < g.y + g.h)).length := by
      intro l
      induction l with
      | nil => exact Nat.le_refl _
      | cons g l ih =>
        rw [List.filter_cons, List.filter_cons]
        by_cases h1 : f.y + f.h < g.y + g.h
        · rw [if_pos (by simpa using h1), if_pos (by simp; omega)]; simpa using ih
        · rw [if_neg (by simpa using h1)]
          split
          · exact Nat.le_succ_of_le ih
          · exact ih
    rw [List.filter_cons, List.filter_cons]
    rcases List.mem_cons.1 hf with rfl | hf
    · rw [if_neg (by simp), if_pos (by simpa using hy)]
      exact Nat.lt_succ_of_le (hm l)
    · have := ih hf
      by_cases h1 : f.y + f.h < g.y + g.h
      · rw [if_pos (by simpa using h1), if_pos (by simp; omega)]; simpa using this
      · rw [if_neg (by simpa using h1)]
        split
        · exact Nat.lt_succ_of_lt this
        · exact this
theorem dn_stop {l : List LFl} {W H : Int} {s : LSpan} {y : Int} (h : W ≤ lenS (bandF l y H s) ∨ (nextF l y H s).is = false) : ∀ n, dnP l W H s n y = y
  | 0 => rfl
  | n + 1 => by unfold dnP; rw [if_pos h]
theorem dn_step {l : List LFl} {W H : Int} {s : LSpan} {y : Int} {n : Nat} (h : ¬ (W ≤ lenS (bandF l y H s) ∨ (nextF l y H s).is = false)) : dnP l W H s (n + 1) y = dnP l W H s n (nextF l y H s).n := by
  rw [dnP, if_neg h]
theorem dn_lt {l : List LFl} {W H : Int} {s : LSpan} {y : Int} (h : ¬ (W ≤ lenS (bandF l y H s) ∨ (nextF l y H s).is = false)) : cntP l (nextF l y H s).n < cntP l y :=
  cnt_lt (next_bot (by
    cases hq : (nextF l y H s).is with
    | false => exact absurd (.inr hq) h
    | true => rfl))
theorem dn_enough {l : List LFl} {W H : Int} {s : LSpan} : ∀ (m : Nat) (y : Int), cntP l y ≤ m → dnP l W H s m y = dnP l W H s (cntP l y) y
  | 0, y, h => by rw [Nat.le_zero.1 h]
  | m + 1, y, h => by
    by_cases hs : W ≤ lenS (bandF l y H s) ∨ (nextF l y H s).is = false
    · rw [dn_stop hs, dn_stop hs]
    · have hl := dn_lt hs
      obtain ⟨k, hk⟩ : ∃ k, cntP l y = k + 1 := ⟨cntP l y - 1, by omega⟩
      rw [hk, dn_step hs, dn_step hs, dn_enough m _ (by omega), dn_enough k _ (by omega)]
theorem next_bd {l : List LFl} (hn : l.all nearF = true) {y H : Int} {s : LSpan} (h : (nextF l y H s).is = true) : -2251799813685248 ≤ (nextF l y H s).n ∧ (nextF l y H s).n ≤ 2251799813685248 := by
  obtain ⟨f, hf, e, -⟩ := next_bot h
  have := nearF_iff.1 (List.all_eq_true.1 hn f hf)
  omega
theorem band_bd {l : List LFl} (hn : l.all nearF = true) {y H : Int} {s : LSpan} (h : (-1125899906842624 ≤ s.a ∧ s.a ≤ 1125899906842624) ∧ (-1125899906842624 ≤ s.b ∧ s.b ≤ 1125899906842624)) : (-2251799813685248 ≤ (bandF l y H s).a ∧ (bandF l y H s).a ≤ 2251799813685248) ∧ (-2251799813685248 ≤ (bandF l y H s).b ∧ (bandF l y H s).b ≤ 2251799813685248) := by
  refine fold_inv (P := fun o : LSpan => (-2251799813685248 ≤ o.a ∧ o.a ≤ 2251799813685248) ∧ (-2251799813685248 ≤ o.b ∧ o.b ≤ 2251799813685248)) l s (by omega) fun o f hf ih => ?_
  have := nearF_iff.1 (List.all_eq_true.1 hn f hf)
  unfold ofT cutF
  split
  · split <;> (simp only; omega)
  · exact ih
def fromP (l : List LFl) (y : Int) : Int := if (mostF topF l).is = true then max y (mostF topF l).n else y
def spotY (l : List LFl) (f : LFl) (y : Int) (s : LSpan) : Int := dnP l f.w f.h s (l.length + 1) (fromP l y)
def spotX (l : List LFl) (f : LFl) (y : Int) (s : LSpan) : Int := if f.side = 1 then (bandF l (spotY l f y s) f.h s).a else max (bandF l (spotY l f y s) f.h s).a ((bandF l (spotY l f y s) f.h s).b - f.w)
def setP (l : List LFl) (f : LFl) (y : Int) (s : LSpan) : LFl := ⟨f.node, f.side, f.anchor, spotX l f y s, spotY l f y s, f.w, f.h⟩
structure PlaOk (l : List LFl) (f : LFl) (y : Int) (s : LSpan) : Prop where
  len : l.length ≤ 60
  near : l.all nearF = true
  nf : nearF f = true
  y : -1125899906842624 ≤ y ∧ y ≤ 1125899906842624
  s : (-1125899906842624 ≤ s.a ∧ s.a ≤ 1125899906842624) ∧ (-1125899906842624 ≤ s.b ∧ s.b ≤ 1125899906842624)
theorem from_bd {l : List LFl} {f : LFl} {y : Int} {s : LSpan} (h : PlaOk l f y s) : -2251799813685248 ≤ fromP l y ∧ fromP l y ≤ 2251799813685248 := by
  have hy := h.y
  unfold fromP
  split
  · next ht =>
    obtain ⟨g, hg, e⟩ := top_at ht
    have := nearF_iff.1 (List.all_eq_true.1 h.near g hg)
    omega
  · omega
theorem band_nearS {l : List LFl} {f : LFl} {y : Int} {s : LSpan} (h : PlaOk l f y s) (y' H : Int) : nearS (bandF l y' H s) := by
  have := band_bd h.near (y := y') (H := H) h.s
  unfold nearS
  omega
def aSch (l : List LFl) (f : LFl) (s : LSpan) : AV := .agg [.raw (.int .i64 f.node), .raw (.int .i64 f.side), .raw (.int .i64 f.anchor), .raw (.int .i64 f.x), .raw (.int .i64 f.y), .raw (.int .i64 f.w), .raw (.int .i64 f.h), .sl 7 (l.map cFl), .raw (.int .i64 s.a), .raw (.int .i64 s.b)]
attribute [go_sem] aSch
theorem in10_of {y : Int} (h : -2251799813685248 ≤ y ∧ y ≤ 2251799813685248) : in10 y := by unfold in10; omega
set_option maxRecDepth 100000 in
theorem down11_ok (l : List LFl) (f : LFl) (y0 : Int) (s : LSpan) (h : PlaOk l f y0 s) (y : Int) (hy : -2251799813685248 ≤ y ∧ y ≤ 2251799813685248) : FnOk Tryz.prog 143 [aSch l f s, .raw (.int .i64 y)] []
    (.tup [aSpan (bandF l (dnP l f.w f.h s (l.length + 1) y) f.h s), .raw (.int .i64 (dnP l f.w f.h s (l.length + 1) y))]) [] := by
  refine fn_of_awp Tryz.func143 rfl (by kernel_rfl) (by kernel_rfl) (Nat.le_of_ble_eq_true rfl) Tryz.results143 ?_
  simp only [go_sem, Bool.not_eq_true', Bool.not_eq_false']
  rw [dn_enough _ _ (Nat.le_succ_of_le (cnt_le l y))]
  have hnf := nearF_iff.1 h.nf
  refine aloop2 [] (fun z : Int => ⟨[(1, .raw (.int .i64 z)), (2, .hdr 8), (4, .hdr 16)], [(8, some (.cells 194 [.raw (.int .i64 f.node), .raw (.int .i64 f.side), .raw (.int .i64 f.anchor), .raw (.int .i64 f.x), .raw (.int .i64 f.y), .raw (.int .i64 f.w), .raw (.int .i64 f.h), .sl 7 (l.map cFl), .raw (.int .i64 s.a), .raw (.int .i64 s.b)])), (16, some (.cells 112 [.raw (.int .i64 0), .raw (.int .i64 0)]))], none⟩) (fun z => dnP l f.w f.h s (cntP l z) z = dnP l f.w f.h s (cntP l y) y ∧ -2251799813685248 ≤ z ∧ z ≤ 2251799813685248) (fun z => cntP l z) 4 y (by simp only [go_sem, Bool.not_eq_true', Bool.not_eq_false']; rfl) (by simp only [go_sem, Bool.not_eq_true', Bool.not_eq_false']) ?_ ?_
  · exact ⟨rfl, hy⟩
  · rintro z ⟨hz, hb⟩
    have hlen := h.len
    have hin : in10 z := in10_of hb
    have hhi : in10 f.h := by unfold in10; omega
    have hs := band_nearS h z f.h
    have hst := @dn_stop l f.w f.h s z
    have hdl := @dn_lt l f.w f.h s z
    simp only [go_sem, Bool.not_eq_true', Bool.not_eq_false']
    repeat' first | contradiction | intro _ | refine And.intro ?_ ?_ | refine ex_get (by omega) ?_ | (show drawB _ _ = true; kernel_rfl) | (refine ret2 [] (by simp only [go_sem, Bool.not_eq_true', Bool.not_eq_false']; rfl) ?_; simp only [go_sem, Bool.not_eq_true', Bool.not_eq_false']) | (refine acall2 [] (bof10_ok l z f.h s (by omega) h.near hin hhi) (by simp only [go_sem, Bool.not_eq_true', Bool.not_eq_false']; rfl) (fit_of (by simp only [go_sem, Bool.not_eq_true', Bool.not_eq_false']) (by simp only [go_sem, Bool.not_eq_true', Bool.not_eq_false']) (by simp only [go_sem, Bool.not_eq_true', Bool.not_eq_false']) (by simp only [go_sem, Bool.not_eq_true', Bool.not_eq_false']) (by simp only [go_sem, Bool.not_eq_true', Bool.not_eq_false']) (by simp only [go_sem, Bool.not_eq_true', Bool.not_eq_false']) (by simp only [go_sem, Bool.not_eq_true', Bool.not_eq_false'])) ?_; simp only [go_sem, Bool.not_eq_true', Bool.not_eq_false']) | (refine acall2 [] (bnext_ok l z f.h s (by omega) h.near hin hhi) (by simp only [go_sem, Bool.not_eq_true', Bool.not_eq_false']; rfl) (fit_of (by simp only [go_sem, Bool.not_eq_true', Bool.not_eq_false']) (by simp only [go_sem, Bool.not_eq_true', Bool.not_eq_false']) (by simp only [go_sem, Bool.not_eq_true', Bool.not_eq_false']) (by simp only [go_sem, Bool.not_eq_true', Bool.not_eq_false']) (by simp only [go_sem, Bool.not_eq_true', Bool.not_eq_false']) (by simp only [go_sem, Bool.not_eq_true', Bool.not_eq_false']) (by simp only [go_sem, Bool.not_eq_true', Bool.not_eq_false'])) ?_; simp only [go_sem, Bool.not_eq_true', Bool.not_eq_false']) | (refine acall2 [] (slen_ok (bandF l z f.h s) hs) (by simp only [go_sem, Bool.not_eq_true', Bool.not_eq_false']; rfl) (fit_of (by simp only [go_sem, Bool.not_eq_true', Bool.not_eq_false']) (by simp only [go_sem, Bool.not_eq_true', Bool.not_eq_false']) (by simp only [go_sem, Bool.not_eq_true', Bool.not_eq_false']) (by simp only [go_sem, Bool.not_eq_true', Bool.not_eq_false']) (by simp only [go_sem, Bool.not_eq_true', Bool.not_eq_false']) (by simp only [go_sem, Bool.not_eq_true', Bool.not_eq_false']) (by simp only [go_sem, Bool.not_eq_true', Bool.not_eq_false'])) ?_; simp only [go_sem, Bool.not_eq_true', Bool.not_eq_false'])
    all_goals first
      | (rw [← hz, hst (.inl (by assumption))]; done)
      | (rw [← hz, hst (.inr (by assumption))]; done)
      | (have hns : ¬ (f.w ≤ lenS (bandF l z f.h s) ∨ (nextF l z f.h s).is = false) := by rintro (q | q) <;> simp_all
         have hlt := hdl hns
         have hnb := next_bd h.near (y := z) (H := f.h) (s := s) (by assumption)
         (refine loop_end [] ((nextF l z f.h s).n) (by simp only [go_sem, Bool.not_eq_true', Bool.not_eq_false']; rfl) ?_ ?_ ?_; (focus first | omega | (simp only; omega)); (focus (simp only [go_sem, Bool.not_eq_true', Bool.not_eq_false']; done)))
         refine ⟨?_, hnb⟩
         rw [← hz]
         obtain ⟨k, hk⟩ : ∃ k, cntP l z = k + 1 := ⟨cntP l z - 1, by omega⟩
         rw [hk, dn_step hns, dn_enough k _ (by omega)])
def aPla (l : List LFl) (f : LFl) (y : Int) (s : LSpan) : AV := .tup [.raw (.int .i64 (spotX l f y s)), .raw (.int .i64 (spotY l f y s))]
attribute [go_sem] aPla
theorem from_t {l : List LFl} {y : Int} (h : (mostF topF l).is = true) : fromP l y = max y (mostF topF l).n := if_pos h
theorem from_f {l : List LFl} {y : Int} (h : (mostF topF l).is = false) : fromP l y = y := if_neg (by rw [h]; decide)
theorem spotX_l {l : List LFl} {f : LFl} {y : Int} {s : LSpan} (h : f.side = 1) : spotX l f y s = (bandF l (spotY l f y s) f.h s).a := if_pos h
theorem spotX_r {l : List LFl} {f : LFl} {y : Int} {s : LSpan} (h : ¬ f.side = 1) : spotX l f y s = max (bandF l (spotY l f y s) f.h s).a ((bandF l (spotY l f y s) f.h s).b - f.w) := if_neg h
set_option maxRecDepth 100000 in
theorem spot11_ok (l : List LFl) (f : LFl) (y : Int) (s : LSpan) (h : PlaOk l f y s) : FnOk Tryz.prog 119 [.sl 7 (l.map cFl), aFl f, .raw (.int .i64 y), aSpan s] [] (aPla l f y s) [] := by
  refine fn_of_awp Tryz.func119 rfl (by kernel_rfl) (by kernel_rfl) (Nat.le_of_ble_eq_true rfl) Tryz.results119 ?_
  simp only [go_sem, Bool.not_eq_true', Bool.not_eq_false']
  have hlen := h.len
  have hnf := nearF_iff.1 h.nf
  have hfr := from_bd h
  have hbb := band_bd h.near (y := spotY l f y s) (H := f.h) h.s
  have e1 : spotY l f y s = dnP l f.w f.h s (l.length + 1) (fromP l y) := rfl
  (refine acall2 [] (btop_ok l (by omega) h.near) (by simp only [go_sem, Bool.not_eq_true', Bool.not_eq_false']; rfl) (fit_of (by simp only [go_sem, Bool.not_eq_true', Bool.not_eq_false']) (by simp only [go_sem, Bool.not_eq_true', Bool.not_eq_false']) (by simp only [go_sem, Bool.not_eq_true', Bool.not_eq_false']) (by simp only [go_sem, Bool.not_eq_true', Bool.not_eq_false']) (by simp only [go_sem, Bool.not_eq_true', Bool.not_eq_false']) (by simp only [go_sem, Bool.not_eq_true', Bool.not_eq_false']) (by simp only [go_sem, Bool.not_eq_true', Bool.not_eq_false'])) ?_; simp only [go_sem, Bool.not_eq_true', Bool.not_eq_false'])
  refine ⟨fun ht => ?_, fun ht => ?_⟩
  · rw [from_t ht] at e1 hfr
    (refine acall2 [] (down11_ok l f y s h (max y (mostF topF l).n) hfr) (by simp only [go_sem, Bool.not_eq_true', Bool.not_eq_false']; rfl) (fit_of (by simp only [go_sem, Bool.not_eq_true', Bool.not_eq_false']) (by simp only [go_sem, Bool.not_eq_true', Bool.not_eq_false']) (by simp only [go_sem, Bool.not_eq_true', Bool.not_eq_false']) (by simp only [go_sem, Bool.not_eq_true', Bool.not_eq_false']) (by simp only [go_sem, Bool.not_eq_true', Bool.not_eq_false']) (by simp only [go_sem, Bool.not_eq_true', Bool.not_eq_false']) (by simp only [go_sem, Bool.not_eq_true', Bool.not_eq_false'])) ?_; simp only [go_sem, Bool.not_eq_true', Bool.not_eq_false', ← e1])
    repeat' first | contradiction | intro _ | refine And.intro ?_ ?_ | refine ex_get (by omega) ?_ | (show drawB _ _ = true; kernel_rfl) | (refine ret2 [] (by simp only [go_sem, Bool.not_eq_true', Bool.not_eq_false']; rfl) ?_; simp only [go_sem, Bool.not_eq_true', Bool.not_eq_false'])
    all_goals first | omega | (rw [spotX_l (by assumption)]; done) | (rw [spotX_r (by assumption)]; done)
  · rw [from_f ht] at e1 hfr
    (refine acall2 [] (down11_ok l f y s h y hfr) (by simp only [go_sem, Bool.not_eq_true', Bool.not_eq_false']; rfl) (fit_of (by simp only [go_sem, Bool.not_eq_true', Bool.not_eq_false']) (by simp only [go_sem, Bool.not_eq_true', Bool.not_eq_false']) (by simp only [go_sem, Bool.not_eq_true', Bool.not_eq_false']) (by simp only [go_sem, Bool.not_eq_true', Bool.not_eq_false']) (by simp only [go_sem, Bool.not_eq_true', Bool.not_eq_false']) (by simp only [go_sem, Bool.not_eq_true', Bool.not_eq_false']) (by simp only [go_sem, Bool.not_eq_true', Bool.not_eq_false'])) ?_; simp only [go_sem, Bool.not_eq_true', Bool.not_eq_false', ← e1])
    repeat' first | contradiction | intro _ | refine And.intro ?_ ?_ | refine ex_get (by omega) ?_ | (show drawB _ _ = true; kernel_rfl) | (refine ret2 [] (by simp only [go_sem, Bool.not_eq_true', Bool.not_eq_false']; rfl) ?_; simp only [go_sem, Bool.not_eq_true', Bool.not_eq_false'])
    all_goals first | omega | (rw [spotX_l (by assumption)]; done) | (rw [spotX_r (by assumption)]; done)
end Go.Proofs.YtblmebjhhanoaaaGreat
/- CHAPTER 11: the document's answer; placing. -/
/- G -/
/- BOOLS -/
set_option linter.unusedSimpArgs false
set_option linter.unusedVariables false
namespace Go.Proofs.YtblmebjhhanoaaaGreat
open Go.RowKit

set_option maxRecDepth 100000 in
theorem clone11_ok (l : List LFl) (hl : l.length ≤ 100) : FnOk Tryz.prog 58 [.sl 7 (l.map cFl)] [] (.hdr 8) [(8, .row 62 7 (l.map cFl))] := by
  refine fn_of_awp Tryz.func58 rfl (by kernel_rfl) (by kernel_rfl) (Nat.le_of_ble_eq_true rfl) Tryz.results58 ?_
  simp only [go_sem, Bool.not_eq_true', Bool.not_eq_false']
  repeat' first | contradiction | intro _ | refine And.intro ?_ ?_ | refine ex_get (by omega) ?_ | (show drawB _ _ = true; kernel_rfl) | (refine ret2 [] (by simp only [go_sem, Bool.not_eq_true', Bool.not_eq_false']; rfl) ?_; simp only [go_sem, Bool.not_eq_true', Bool.not_eq_false'])
  all_goals first | omega | (simp_all; done)
theorem set_cl (l : List LFl) (f : LFl) (y : Int) (s : LSpan) : cFl (setP l f y s) = [.raw (.int .i64 f.node), .raw (.int .i64 f.side), .raw (.int .i64 f.anchor), .raw (.int .i64 (spotX l f y s)), .raw (.int .i64 (spotY l f y s)), .raw (.int .i64 f.w), .raw (.int .i64 f.h)] := rfl
def putP (l : List LFl) (f : LFl) (y : Int) (s : LSpan) : List LFl := l ++ [setP l f y s]
theorem put_cl (l : List LFl) (f : LFl) (y : Int) (s : LSpan) : (putP l f y s).map cFl = l.map cFl ++ [cFl (setP l f y s)] := by simp [putP]
set_option maxRecDepth 100000 in
theorem put11_ok (l : List LFl) (f : LFl) (y : Int) (s : LSpan) (h : PlaOk l f y s) : FnOk Tryz.prog 92 [.sl 7 (l.map cFl), aFl f, .raw (.int .i64 y), aSpan s] [] (.hdr 8) [(8, .row 62 7 ((putP l f y s).map cFl))] := by
  refine fn_of_awp Tryz.func92 rfl (by kernel_rfl) (by kernel_rfl) (Nat.le_of_ble_eq_true rfl) Tryz.results92 ?_
  simp only [go_sem, Bool.not_eq_true', Bool.not_eq_false']
  have hlen := h.len
  repeat' first | contradiction | intro _ | refine And.intro ?_ ?_ | refine ex_get (by omega) ?_ | (show drawB _ _ = true; kernel_rfl) | (refine ret2 [] (by simp only [go_sem, Bool.not_eq_true', Bool.not_eq_false', put_cl, set_cl]; rfl) ?_; simp only [go_sem, Bool.not_eq_true', Bool.not_eq_false', put_cl, set_cl]) | (refine acall2 [] (spot11_ok l f y s h) (by simp only [go_sem, Bool.not_eq_true', Bool.not_eq_false']; rfl) (fit_of (by simp only [go_sem, Bool.not_eq_true', Bool.not_eq_false']) (by simp only [go_sem, Bool.not_eq_true', Bool.not_eq_false']) (by simp only [go_sem, Bool.not_eq_true', Bool.not_eq_false']) (by simp only [go_sem, Bool.not_eq_true', Bool.not_eq_false']) (by simp only [go_sem, Bool.not_eq_true', Bool.not_eq_false']) (by simp only [go_sem, Bool.not_eq_true', Bool.not_eq_false']) (by simp only [go_sem, Bool.not_eq_true', Bool.not_eq_false'])) ?_; simp only [go_sem, Bool.not_eq_true', Bool.not_eq_false', put_cl, set_cl]) | (refine acall2 [] (clone11_ok l (by omega)) (by simp only [go_sem, Bool.not_eq_true', Bool.not_eq_false']; rfl) (fit_of (by simp only [go_sem, Bool.not_eq_true', Bool.not_eq_false']) (by simp only [go_sem, Bool.not_eq_true', Bool.not_eq_false']) (by simp only [go_sem, Bool.not_eq_true', Bool.not_eq_false']) (by simp only [go_sem, Bool.not_eq_true', Bool.not_eq_false']) (by simp only [go_sem, Bool.not_eq_true', Bool.not_eq_false']) (by simp only [go_sem, Bool.not_eq_true', Bool.not_eq_false']) (by simp only [go_sem, Bool.not_eq_true', Bool.not_eq_false'])) ?_; simp only [go_sem, Bool.not_eq_true', Bool.not_eq_false', put_cl, set_cl])
  all_goals first | omega | rfl
end Go.Proofs.YtblmebjhhanoaaaGreat
/- PLAIN: words and lines, as chapter 9 has them; no program in sight. -/
set_option linter.unusedSimpArgs false
set_option linter.unusedVariables false
namespace Go.Proofs.YtblmebjhhanoaaaGreat

structure WRun where
  f : Int
  t : Int
  w : Int

/-- how wide words are with spaces between; of none: less a space. -/
def wideN (sp : Int) (ys : List Int) : Int := ys.sum + ((ys.length : Int) - 1) * sp
/-- the words from one place to another one. -/
def seg (xs : List Int) (f t : Nat) : List Int := (xs.drop f).take (t - f)
theorem seg_same (xs : List Int) (f : Nat) : seg xs f f = [] := by simp [seg]
theorem seg_succ (xs : List Int) (f t : Nat) (h : f ≤ t) (ht : t < xs.length) : seg xs f (t + 1) = seg xs f t ++ [xs[t]] := by
  unfold seg
  rw [show t + 1 - f = (t - f) + 1 by omega, List.take_succ_eq_append_getElem (by simp; omega)]
  simp only [List.getElem_drop]
  congr 3
  omega
theorem wide_succ (sp : Int) (ys : List Int) (x : Int) : wideN sp (ys ++ [x]) = wideN sp ys + (sp + x) := by
  unfold wideN
  rw [List.sum_append, List.length_append]
  have e : ((ys.length + [x].length : Nat) : Int) - 1 = ((ys.length : Int) - 1) + 1 := by rw [List.length_singleton]; omega
  rw [e, Int.add_mul]
  simp
  omega
theorem wide_seg (sp : Int) (xs : List Int) (f t : Nat) (h : f ≤ t) (ht : t < xs.length) : wideN sp (seg xs f (t + 1)) = wideN sp (seg xs f t) + (sp + xs[t]) := by rw [seg_succ xs f t h ht, wide_succ]
theorem wide_none (sp : Int) (xs : List Int) (f : Nat) : wideN sp (seg xs f f) = -sp := by rw [seg_same]; simp [wideN]

/-- near: from 0 to 2^45. -/
def nr9 (x : Int) : Bool := decide (0 ≤ x ∧ x ≤ 35184372088832)
def near9 (xs : List Int) (sp width : Int) : Bool := nr9 sp && nr9 width && xs.all nr9
theorem near9_at {xs : List Int} (h : xs.all nr9 = true) (k : Nat) (hk : k < xs.length) : 0 ≤ xs[k] ∧ xs[k] ≤ 35184372088832 := by
  rw [List.all_eq_true] at h
  have := h _ (List.getElem_mem hk)
  simpa [nr9] using this
theorem wide_bd {sp : Int} {xs : List Int} (h : xs.all nr9 = true) (hs : 0 ≤ sp ∧ sp ≤ 35184372088832) (f : Nat) : ∀ t, f ≤ t → t ≤ xs.length → -sp ≤ wideN sp (seg xs f t) ∧ wideN sp (seg xs f t) ≤ 70368744177664 * ((t : Int) - f) - sp := by
  intro t
  induction t with
  | zero => intro h1 _; obtain rfl : f = 0 := by omega
            rw [wide_none]; omega
  | succ t ih =>
    intro h1 h2
    by_cases e : f = t + 1
    · subst e; rw [wide_none]; omega
    · have := ih (by omega) (by omega)
      rw [wide_seg sp xs f t (by omega) (by omega)]
      have := near9_at h t (by omega)
      omega

def wideF (xs : List Int) (sp f t : Int) : Int := if f < 0 ∨ (xs.length : Int) ≤ f ∨ t ≤ f ∨ (xs.length : Int) < t then 0 else wideN sp (seg xs f.toNat t.toNat)

/-- how far a line goes that holds the words from f to t. -/
def growT (xs : List Int) (sp width : Int) (f : Nat) : Nat → Nat → Nat
  | 0, t => t
  | n + 1, t => if t < xs.length ∧ wideN sp (seg xs f (t + 1)) ≤ width then growT xs sp width f n (t + 1) else t
def takeT (xs : List Int) (sp width : Int) (f : Nat) : Nat := growT xs sp width f (xs.length - (f + 1)) (f + 1)
theorem growT_ge (xs : List Int) (sp width : Int) (f : Nat) : ∀ n t, t ≤ growT xs sp width f n t
  | 0, t => Nat.le_refl _
  | n + 1, t => by
    unfold growT
    split
    · have := growT_ge xs sp width f n (t + 1); omega
    · exact Nat.le_refl _
theorem growT_le (xs : List Int) (sp width : Int) (f : Nat) : ∀ n t, t ≤ xs.length → growT xs sp width f n t ≤ xs.length
  | 0, t, h => h
  | n + 1, t, h => by
    unfold growT
    split
    · next h1 => exact growT_le xs sp width f n (t + 1) (by omega)
    · exact h
theorem growT_yes {xs : List Int} {sp width : Int} {f t : Nat} (h : t < xs.length) (hw : wideN sp (seg xs f (t + 1)) ≤ width) : growT xs sp width f (xs.length - t) t = growT xs sp width f (xs.length - (t + 1)) (t + 1) := by
  rw [show xs.length - t = (xs.length - (t + 1)) + 1 by omega]
  show (if _ then _ else _) = _
  rw [if_pos ⟨h, hw⟩]
theorem growT_no {xs : List Int} {sp width : Int} {f t : Nat} (h : ¬ (t < xs.length ∧ wideN sp (seg xs f (t + 1)) ≤ width)) : growT xs sp width f (xs.length - t) t = t := by
  cases e : xs.length - t with
  | zero => rfl
  | succ n => show (if _ then _ else _) = _; rw [if_neg h]
def takeF (xs : List Int) (sp width f : Int) : WRun := if f < 0 ∨ (xs.length : Int) ≤ f then ⟨0, 0, 0⟩ else ⟨f, (takeT xs sp width f.toNat : Nat), wideN sp (seg xs f.toNat (takeT xs sp width f.toNat))⟩
theorem takeT_bd (xs : List Int) (sp width : Int) (f : Nat) (h : f < xs.length) : f < takeT xs sp width f ∧ takeT xs sp width f ≤ xs.length := by
  have h1 := growT_ge xs sp width f (xs.length - (f + 1)) (f + 1)
  have h2 := growT_le xs sp width f (xs.length - (f + 1)) (f + 1) (by omega)
  unfold takeT
  omega
/-- all lines from a place on. -/
def allG (xs : List Int) (sp width : Int) : Nat → Nat → List WRun
  | 0, _ => []
  | n + 1, f => if f < xs.length then takeF xs sp width f :: allG xs sp width n (takeT xs sp width f) else []
def allF (xs : List Int) (sp width : Int) : List WRun := allG xs sp width xs.length 0
end Go.Proofs.YtblmebjhhanoaaaGreat
/- PLAIN: chapter 9's laws of lines; no program in sight. -/
set_option linter.unusedSimpArgs false
set_option linter.unusedVariables false
namespace Go.Proofs.YtblmebjhhanoaaaGreat

/-- rows of lines, the next one from where the one ahead ends; the last one at the end. -/
def Lines (xs : List Int) (sp w : Int) : Nat → List WRun → Prop
  | f, [] => f = xs.length
  | f, r :: l => f < xs.length ∧ r = ⟨f, (takeT xs sp w f : Nat), wideN sp (seg xs f (takeT xs sp w f))⟩ ∧ Lines xs sp w (takeT xs sp w f) l
end Go.Proofs.YtblmebjhhanoaaaGreat
/- ENGINE (second) 16: a drawn statement with a tail that waits for all ahead (a call of yield in it); ranges over functions whose text is parted; over any program. -/
/- G -/
set_option linter.unusedSimpArgs false
set_option linter.unusedVariables false
namespace Go.Proofs.YtblmebjhhanoaaaGreat
open Go.RowKit

def tailB (n : Nat) (l : List Oper) : Bool := decide (n < l.length) && Region.sinkB .any l.toArray n && Region.chainB .any l.toArray n && Region.seqB .any l.toArray (l.length - n) n ((List.range l.length).map (fun j => decide (j < n))).toArray
theorem arangeS {P : Program} {Q : Exit → Nat → AS → Prop} {n : Nat} {S : AS} {g : Operand} {ps : Array Tmp} {asg body : Code} {f : FuncId} {caps : List AV} (hg : S.val g = .clo (.func f) caps) {fn : Func} {code : Code}
    (hf : P.funcs[f]? = some fn) (hb : fn.body = some code) (hfn : fnB P f = true) (hd : dstB fn.ntmps code = true) (hl : (1 + caps.length) ≤ fn.ntmps) (hrs : fn.results = #[])
    (h : ∀ tm lc, LoopFit tm lc → lc.params.toList = ps.toList → lc.assign = asg → lc.body = body → SWP P code (rangeQ n tm lc Q) (n + 1) ⟨slots (.hdr (8 * n) :: caps), (8 * n, some (.loop tm lc .ready)) :: (8 * n + 1, some (.frm tm S.t)) :: S.s, none⟩) :
    ARange P g ps asg body Q n S := by
  intro m0 c p ρ a w hda hdb hps hra hrb hm hn ha
  refine wpIn_rangeFunc (F := FW none) fun fn0 _ => ?_
  obtain ⟨Ds, f1, f2, f3⟩ := ha
  -- the function that is ranged over
  have hv := hm.val g
  rw [hg] at hv
  simp only [Rep] at hv
  obtain ⟨cs, hev, hcs⟩ := hv
  let l := w.heap.size + 1
  let lc : LoopCode := ⟨l, fn0, ps, asg, body⟩
  let wD := w.alloc (.deferred (some []))
  let w1 := wD.alloc (.loop (recOf a.tmps lc .ready none w.heap.size))
  have hsD : wD.heap.size = l := by simp [wD, l]
  obtain ⟨fn1, e1, e2, e3⟩ : ∃ fn, P.funcs[f]? = some fn ∧ fn.name ≠ "runtime.NumGoroutine" ∧ fn.body.isSome = true := by
    unfold fnB at hfn
    cases h1 : P.funcs[f]? with
    | none => rw [h1] at hfn; simp at hfn
    | some fn => rw [h1] at hfn; simp at hfn; exact ⟨fn, rfl, hfn.1, by simpa using hfn.2⟩
  obtain rfl : fn1 = fn := by rw [hf] at e1; exact (Option.some.inj e1).symm
  have hres : (resolve a.eval (rangeCall g l) 0).run P w1 = .ok { target := .fn (.func f) cs.toArray, args := #[.func (.yield l) #[] #[]] } w1 := by
    have hk : a.eval (.const (.func (.yield l) #[] #[])) = .func (.yield l) #[] #[] := rfl
    simp [resolve, rangeCall, hev, Deferred.ofValue, hk]
  have hinv : (invoke (.fn (.func f) cs.toArray) #[.func (.yield l) #[] #[]]).run P w1 = .ok (.enter f (.func (.yield l) #[] #[] :: cs).toArray) w1 := by
    have h4 : ¬ fn1.body = none := fun e => by rw [e] at e3; simp at e3
    simp [invoke, callFunc, e1, e2, h4]
  refine ⟨l, _, _, _, _, f, _, _, run_enterLoop_outer fn0 a.tmps ps asg body, hres, fun _ _ => trivial, hinv, fun q => absurd q (by simp [FW, Fence.wide]), ?_⟩
  -- the iterator's first state
  have hfr0 : ρ.f (8 * n) = none := hm.fresh (n := n) (fun i hi => by have := hn i hi; omega) (by omega)
  have hfr1 : ρ.f (8 * n + 1) = none := hm.fresh (n := n) (fun i hi => by have := hn i hi; omega) (by omega)
  have hn0 := hm.n0 (n := n) (fun i hi => by have := hn i hi; omega)
  have hmA := (hm.allocs (.deferred (some []))).add (p' := fun i => p i ∨ i / 8 = n) (w' := wD) hfr1 (by omega) (fun i h => .inl h) (.inr (by omega)) (x := .bool true) (o := .frm a.tmps S.t) rfl (.inl rfl) (fun ρ' he d v hv => by
    rw [find'_eq] at hv
    have := hm.tmps d
    unfold AS.get at this
    rw [hv] at this
    exact Rep.ext he _ _ this) (fun g hg => by cases hg)
  have hfr2 : (ρ.with (8 * n + 1) (.bool true)).f (8 * n) = none := by
    show (if _ then _ else _) = none
    rw [if_neg (by omega)]; exact hfr0
  have hmB := hmA.add (p' := fun i => p i ∨ i / 8 = n) (w' := w1) hfr2 (by omega) (fun i h => h) (.inr (by omega)) (x := .func (.yield l) #[] #[]) (o := .loop a.tmps lc .ready) rfl (.inr ⟨_, rfl⟩)
    (fun ρ' he => ⟨l, w.heap.size, .ready, none, rfl, by have := World.alloc_heap_new wD (.loop (recOf a.tmps lc .ready none w.heap.size)); rw [hsD] at this; exact this, rfl, rfl, rfl⟩) (fun g hg => by simp [oblk] at hg; omega)
  have hext : ExtE ρ ((ρ.with (8 * n + 1) (.bool true)).with (8 * n) (.func (.yield l) #[] #[])) := (ext_with hfr1).trans (ext_with hfr2)
  have hself : ((ρ.with (8 * n + 1) (.bool true)).with (8 * n) (.func (.yield l) #[] #[])).f (8 * n) = some (.func (.yield l) #[] #[]) := with_self ..
  generalize ((ρ.with (8 * n + 1) (.bool true)).with (8 * n) (.func (.yield l) #[] #[])) = ρ1 at hmB hext hself
  have hkeepD : ∀ D ob, w.heap[D]? = some ob → w1.heap[D]? = some ob := fun D ob hD => by
    have hlt := (Array.getElem?_eq_some_iff.1 hD).1
    rw [Below.heap_alloc wD _ D (by omega), Below.heap_alloc w _ D hlt]
    exact hD
  have hnewD : w1.heap[w.heap.size]? = some (.deferred (some [])) := by
    rw [Below.heap_alloc wD _ w.heap.size (by omega)]
    exact World.alloc_heap_new w _
  have hsz := hm.frame.size
  let cI : Ctx := ⟨fn1.ntmps, c.M, c.w0, c.ρ0, fun g => c.D g ∨ g ∈ Ds ∨ g = w.heap.size⟩
  have hra1 : RepL ρ1 (.hdr (8 * n) :: caps) (.func (.yield l) #[] #[] :: cs) := by
    simp only [RepL, Rep]
    exact ⟨hself, RepL.ext hext _ _ hcs⟩
  have hlen := hra1.length
  have hmI : Mod cI (fun i => p i ∨ i / 8 = n) ρ1 ⟨slots (.hdr (8 * n) :: caps), (8 * n, some (.loop a.tmps lc .ready)) :: (8 * n + 1, some (.frm a.tmps S.t)) :: S.s, none⟩ ((Value.func (.yield l) #[] #[] :: cs).toArray ++ Array.replicate (fn1.ntmps - (Value.func (.yield l) #[] #[] :: cs).toArray.size) undef) w1 := by
    refine hmB.refit fn1.ntmps (fun g => c.D g ∨ g ∈ Ds ∨ g = w.heap.size) (slots (.hdr (8 * n) :: caps)) none _ ?_ (fun d => ?_) (fun g hg => ?_)
    · simp at hlen
      simp
      omega
    · rw [find_slots]
      cases ha : (AV.hdr (8 * n) :: caps)[d]? with
      | none => simp [Rep]
      | some v =>
        obtain ⟨u, h1, h2⟩ := RepL.get d hra1 ha
        simp only [Option.getD_some]
        have hdl : d < (Value.func (.yield l) #[] #[] :: cs).length := (List.getElem?_eq_some_iff.1 h1).1
        have e1 : ((Value.func (.yield l) #[] #[] :: cs).toArray ++ Array.replicate (fn1.ntmps - (Value.func (.yield l) #[] #[] :: cs).toArray.size) undef).getD d undef = u := by
          rw [Array.getD_eq_getD_getElem?, Array.getElem?_append_left (by simpa using hdl)]
          have : (Value.func (.yield l) #[] #[] :: cs).toArray[d]? = some u := by rw [List.getElem?_toArray]; exact h1
          rw [this]
          rfl
        rw [e1]
        exact h2
    · rcases hg with hg | hg | hg
      · exact ⟨(hm.dfr g hg).1, hkeepD _ _ (hm.dfr g hg).2⟩
      · exact ⟨(f3 g hg).1, hkeepD _ _ (f3 g hg).2.2⟩
      · subst hg; exact ⟨hsz, hnewD⟩
  have hfit : LoopFit a.tmps lc := ⟨by rw [hm.size]; exact hda, by rw [hm.size]; exact hdb, fun t ht => by rw [hm.size]; exact hps t (by simpa using ht), hra, hrb⟩
  refine callsIn_of_wp_marks hf hb trivial (wpIn_mono ((h a.tmps lc hfit rfl rfl rfl).h none (m0 - 1) cI _ ρ1 _ w1 (.inl rfl) hd hmI (fun i hi => by rcases hi with hi | hi <;> first | (have := hn i hi; omega) | omega) (.nil rfl)) ?_)
  -- its end
  have fin0 : ∀ (n' : Nat) (S' : AS) (p' : Nat → Prop) (ρ' : Env) (w' : World) (tm' : Array Value), rangeEnd n a.tmps lc Q n' S' → Mod cI p' ρ' S' tm' w' → (∀ i, p' i → i / 8 < n') →
      ∃ v, (results fn1 tm').run P w' = .ok v w' ∧ rangePost (FW none) m0 P l (Lift c Q) { a with defers := [markD w.heap.size] ++ a.defers } (.returned v) w' := by
    intro n' S' p' ρ' w' tm' hr hm' hn'
    refine ⟨.tuple #[], by unfold results; rw [hrs]; simp, ?_⟩
    unfold rangeEnd at hr
    split at hr
    case h_2 => exact hr.elim
    next tm1 lc1 m tm2 t e5 e6 =>
    obtain ⟨⟨rfl, rfl, rfl⟩, hr⟩ := hr
    obtain ⟨-, D1, st1, pe1, hh1, hmode, hturn⟩ := hm'.turnL e5
    obtain ⟨xF, -, hF⟩ := hm'.objs _ _ e6
    have hm2 := (hturn .exhausted pe1 none (fun o ho => by cases ho)).drop1 (8 * n + 1)
    have hm3 := hm2.refit c.N c.D t none a.tmps hm.size (frm_rep hF) (fun g hg => hm2.dfr g (.inl hg))
    have hdef : DefOk c { a with defers := [markD w.heap.size] ++ a.defers } (w'.putObj lc.blk (.loop (recOf a.tmps lc .exhausted pe1 D1))) := by
      refine ⟨w.heap.size :: Ds, by simp [f1], List.nodup_cons.2 ⟨fun hc => ?_, f2⟩, fun D' hD' => ?_⟩
      · have := (Array.getElem?_eq_some_iff.1 (f3 _ hc).2.2).1
        omega
      · have h1 := hm2.dfr D'
        rcases List.mem_cons.1 hD' with rfl | hD'
        · refine ⟨hsz, fun hc => ?_, (h1 (.inr (.inr rfl))).2⟩
          have := (Array.getElem?_eq_some_iff.1 (hm.dfr _ hc).2).1
          omega
        · exact ⟨(f3 D' hD').1, (f3 D' hD').2.1, (h1 (.inr (.inl hD'))).2⟩
    have hnb : st1 ≠ .busy := by
      unfold kEnd at hr
      split at hr
      · rw [hmode.1]; decide
      · rw [hmode.1]; decide
      · rw [hmode.1]; decide
      · exact hr.elim
    refine ⟨pe1, _, run_endLoop hh1 hnb, ?_⟩
    have lift : ∀ e, Q e n' ⟨t, (8 * n + 1, none) :: (8 * n, none) :: S'.s, none⟩ → Lift c Q e { a with defers := [markD w.heap.size] ++ a.defers } (w'.putObj lc.blk (.loop (recOf a.tmps lc .exhausted pe1 D1))) := fun e he => ⟨hdef, n', _, p', ρ', he, hm3, hn'⟩
    unfold kEnd at hr
    split at hr
    · obtain ⟨-, rfl⟩ := hmode; exact lift _ hr
    · obtain ⟨-, rfl⟩ := hmode; exact wpIn_ret (lift _ hr)
    · obtain ⟨-, rfl⟩ := hmode; exact wpIn_exit (lift _ hr)
    · exact hr.elim
  have fin : ∀ (Dj : List Nat) (n' : Nat) (S' : AS) (p' : Nat → Prop) (ρ' : Env) (a' : Act) (w' : World), rangeEnd n a.tmps lc Q n' S' → Mod cI p' ρ' S' a'.tmps w' → (∀ i, p' i → i / 8 < n') → Dj.Nodup → (∀ D ∈ Dj, cI.w0.heap.size ≤ D ∧ ¬ cI.D D ∧ w'.heap[D]? = some (.deferred (some []))) →
      LeavesInM (FW none) (m0 - 1) P fn1 a'.tmps (rangePost (FW none) m0 P l (Lift c Q) { a with defers := [markD w.heap.size] ++ a.defers }) (Dj.map markD) .returning w' := by
    intro Dj
    induction Dj with
    | nil => intro n' S' p' ρ' a' w' hr' hm' hn' _ _; exact fin0 n' S' p' ρ' w' a'.tmps hr' hm' hn'
    | cons D Dj ih =>
      intro n' S' p' ρ' a' w' hr' hm' hn' hnd hD
      obtain ⟨hb1, hb2, hD1⟩ := hD D (List.mem_cons_self ..)
      rw [List.nodup_cons] at hnd
      refine ⟨by simp, .inl ⟨D, _, rfl, run_takeDeferred hD1, ih n' S' p' ρ' a' _ hr' (hm'.putObj _ hD1 rfl hb1 hb2) hn' hnd.2 fun D2 h2 => ?_⟩⟩
      obtain ⟨k1, k3, k2⟩ := hD D2 (List.mem_cons_of_mem _ h2)
      have hne : D2 ≠ D := fun e => by subst e; exact hnd.1 h2
      exact ⟨k1, k3, (World.putObj_heap_other hne).trans k2⟩
  rintro e a' w' ⟨⟨Dj, e1, e2, e3⟩, n', S', p', ρ', h2, h3, h4⟩
  cases e with
  | normal => show LeavesInM _ _ _ _ _ _ a'.defers _ _; rw [e1]; exact fin Dj n' S' p' ρ' a' w' h2 h3 h4 e2 e3
  | ret => show LeavesInM _ _ _ _ _ _ a'.defers _ _; rw [e1]; exact fin Dj n' S' p' ρ' a' w' h2 h3 h4 e2 e3
  | _ => exact h2.elim

/-! a scope through which the run goes without a goto -/
def noGotoX (Q : Exit → Act → World → Prop) : Exit → Act → World → Prop
  | .goto _, _, _ => False
  | e, a, w => Q e a w
def scopeK (Q : Exit → Nat → AS → Prop) : Exit → Nat → AS → Prop
  | .goto _ => fun _ _ => False
  | e => Q e
@[go_sem] theorem scopeK_normal (Q : Exit → Nat → AS → Prop) : scopeK Q .normal = Q .normal := rfl
@[go_sem] theorem scopeK_ret (Q : Exit → Nat → AS → Prop) : scopeK Q .ret = Q .ret := rfl
@[go_sem] theorem scopeK_exit (Q : Exit → Nat → AS → Prop) (i : Nat) : scopeK Q (.exit i) = Q (.exit i) := rfl
end Go.Proofs.YtblmebjhhanoaaaGreat
/- CHAPTER 9 (second engine): Wide, Take; the document's and the program's. -/
/- G -/
/- BOOLS -/
set_option linter.unusedSimpArgs false
set_option linter.unusedVariables false
namespace Go.Proofs.YtblmebjhhanoaaaGreat
open Go.RowKit

def cRun (r : WRun) : List PV := [.raw (.int .i64 r.f), .raw (.int .i64 r.t), .raw (.int .i64 r.w)]
def aRun (r : WRun) : AV := .agg [.raw (.int .i64 r.f), .raw (.int .i64 r.t), .raw (.int .i64 r.w)]
attribute [go_sem] cRun aRun
structure WorOk (xs : List Int) (sp : Int) : Prop where
  len : xs.length ≤ 2000
  near : xs.all nr9 = true
  sp : 0 ≤ sp ∧ sp ≤ 35184372088832
theorem wide_bd2 {xs : List Int} {sp : Int} (h : WorOk xs sp) {f t : Nat} (h1 : f ≤ t) (h2 : t ≤ xs.length) : -35184372088832 ≤ wideN sp (seg xs f t) ∧ wideN sp (seg xs f t) ≤ 140737488355328000 := by
  have h3 := wide_bd h.near h.sp f t h1 h2
  have := h.len
  have := h.sp
  omega
theorem takeF_no {xs : List Int} {sp width f : Int} (h : f < 0 ∨ (xs.length : Int) ≤ f) : takeF xs sp width f = ⟨0, 0, 0⟩ := by
  unfold takeF
  rw [if_pos h]
theorem takeF_nat {xs : List Int} {sp width : Int} {f : Nat} (h : f < xs.length) : takeF xs sp width f = ⟨f, (takeT xs sp width f : Nat), wideN sp (seg xs f (takeT xs sp width f))⟩ := by
  unfold takeF
  rw [if_neg (by omega)]
  simp
set_option maxRecDepth 100000 in
set_option maxHeartbeats 4000000 in
theorem far9_ok (xs : List Int) (sp f : Int) : FnOk Tryz.prog 108 [.agg [.sl 1 (xs.map cInt), .raw (.int .i64 sp)], .raw (.int .i64 f)] [] (.raw (.bool (decide (f < 0 ∨ (xs.length : Int) ≤ f)))) [] := by
  refine fn_of_awp Tryz.func108 rfl (by kernel_rfl) (by kernel_rfl) (Nat.le_of_ble_eq_true rfl) Tryz.results108 ?_
  simp only [go_sem, Bool.not_eq_true', Bool.not_eq_false', List.length_map]
  repeat' first | contradiction | intro _ | refine And.intro ?_ ?_ | refine ex_get (by omega) ?_ | (show drawB _ _ = true; kernel_rfl) | (refine ret2 [] (by simp only [go_sem, Bool.not_eq_true', Bool.not_eq_false', List.length_map]; rfl) ?_; simp only [go_sem, Bool.not_eq_true', Bool.not_eq_false', List.length_map])
  all_goals first | (simp_all; done) | (simp_all; omega)
set_option maxRecDepth 100000 in
theorem ends9_ok (xs : List Int) (sp f : Int) : FnOk Tryz.prog 109 [.agg [.sl 1 (xs.map cInt), .raw (.int .i64 sp)], .raw (.int .i64 f)] [] (.clo (.func 132) [.hdr 8, .hdr 9]) [(8, .cells 165 [.sl 1 (xs.map cInt), .raw (.int .i64 sp)]), (9, .cells 3 [.raw (.int .i64 f)])] := by
  refine fn_of_awp Tryz.func109 rfl (by kernel_rfl) (by kernel_rfl) (Nat.le_of_ble_eq_true rfl) Tryz.results109 ?_
  simp only [go_sem, Bool.not_eq_true', Bool.not_eq_false']
  (refine ret2 [] (by simp only [go_sem, Bool.not_eq_true', Bool.not_eq_false']; rfl) ?_; simp only [go_sem, Bool.not_eq_true', Bool.not_eq_false'])
end Go.Proofs.YtblmebjhhanoaaaGreat
/- CHAPTER 9 (second engine): the program's Wide; the document's Take and the program's. -/
/- G -/
/- BOOLS -/
set_option linter.unusedSimpArgs false
set_option linter.unusedVariables false
namespace Go.Proofs.YtblmebjhhanoaaaGreat
open Go.RowKit

set_option maxRecDepth 100000 in
set_option maxHeartbeats 8000000 in
theorem take_ok (xs : List Int) (sp width f : Int) (h : WorOk xs sp) : FnOk Tryz.prog 78 [.sl 1 (xs.map cInt), .raw (.int .i64 sp), .raw (.int .i64 width), .raw (.int .i64 f)] [] (aRun (takeF xs sp width f)) [] := by
  have hno := @takeF_no xs sp width f
  have hlen := h.len
  have hsp := h.sp
  refine fn_of_swp Tryz.func78 rfl (by kernel_rfl) (by kernel_rfl) (Nat.le_of_ble_eq_true rfl) Tryz.results78 ?_
  (refine swp_seqW ?_; simp only [go_sem, Bool.not_eq_true', Bool.not_eq_false'])
  (refine swp_seqW ?_; simp only [go_sem, Bool.not_eq_true', Bool.not_eq_false'])
  refine swp_cutS (fun _ : Unit => ⟨[(3, .raw (.int .i64 f)), (6, .hdr 8), (7, .hdr 16), (8, .hdr 24), (9, .hdr 56)], [(8, some (.cells 3 [.raw (.int .i64 width)])), (16, some (.cells 3 [.raw (.int .i64 f)])), (24, some (.cells 126 [.raw (.int .i64 0), .raw (.int .i64 0), .raw (.int .i64 0)])), (56, some (.cells 165 [.sl 1 (xs.map cInt), .raw (.int .i64 sp)]))], none⟩) (fun _ => 0 ≤ f ∧ f < xs.length) 60 ?_ ?_
  · (refine swp_lastW ?_; simp only [go_sem, Bool.not_eq_true', Bool.not_eq_false', List.length_map])
    repeat' first | contradiction | intro _ | refine And.intro ?_ ?_ | refine ex_get (by omega) ?_ | (show drawB _ _ = true; kernel_rfl) | (refine ret2 [] (by simp only [go_sem, Bool.not_eq_true', Bool.not_eq_false', List.length_map]; rfl) ?_; simp only [go_sem, Bool.not_eq_true', Bool.not_eq_false', List.length_map]) | (refine acall2 [] (far9_ok xs sp f) (by simp only [go_sem, Bool.not_eq_true', Bool.not_eq_false']; rfl) (fit_of (by simp only [go_sem, Bool.not_eq_true', Bool.not_eq_false']) (by simp only [go_sem, Bool.not_eq_true', Bool.not_eq_false']) (by simp only [go_sem, Bool.not_eq_true', Bool.not_eq_false']) (by simp only [go_sem, Bool.not_eq_true', Bool.not_eq_false']) (by simp only [go_sem, Bool.not_eq_true', Bool.not_eq_false']) (by simp only [go_sem, Bool.not_eq_true', Bool.not_eq_false']) (by simp only [go_sem, Bool.not_eq_true', Bool.not_eq_false'])) ?_; simp only [go_sem, Bool.not_eq_true', Bool.not_eq_false', List.length_map])
    all_goals first
      | (rw [hno (by omega)])
      | ((refine cut_end [] (()) (by simp only [go_sem, Bool.not_eq_true', Bool.not_eq_false']; rfl) ?_ ?_; (focus (simp only [go_sem, Bool.not_eq_true', Bool.not_eq_false']; done)))
         omega)
      | skip
  rintro - ⟨h1, h2⟩
  clear hno
  obtain ⟨f, rfl⟩ := Int.eq_ofNat_of_zero_le h1
  have hf : f < xs.length := by omega
  have htb := takeT_bd xs sp width f hf
  rw [takeF_nat hf]
  (refine swp_seqW ?_; simp only [go_sem, Bool.not_eq_true', Bool.not_eq_false'])
  refine swp_cutS (fun _ : Unit => ⟨[(8, .hdr 24), (10, .hdr 480)], [(24, some (.cells 126 [.raw (.int .i64 0), .raw (.int .i64 0), .raw (.int .i64 0)])), (480, some (.cells 126 [.raw (.int .i64 f), .raw (.int .i64 (takeT xs sp width f : Nat)), .raw (.int .i64 (wideN sp (seg xs f (takeT xs sp width f))))]))], none⟩) (fun _ => True) 80 ?_ ?_
  · (refine swp_lastW ?_; simp only [go_sem, Bool.not_eq_true', Bool.not_eq_false'])
    (refine acall2 [] (ends9_ok xs sp f) (by simp only [go_sem, Bool.not_eq_true', Bool.not_eq_false']; rfl) (fit_of (by simp only [go_sem, Bool.not_eq_true', Bool.not_eq_false']) (by simp only [go_sem, Bool.not_eq_true', Bool.not_eq_false']) (by simp only [go_sem, Bool.not_eq_true', Bool.not_eq_false']) (by simp only [go_sem, Bool.not_eq_true', Bool.not_eq_false']) (by simp only [go_sem, Bool.not_eq_true', Bool.not_eq_false']) (by simp only [go_sem, Bool.not_eq_true', Bool.not_eq_false']) (by simp only [go_sem, Bool.not_eq_true', Bool.not_eq_false'])) ?_; simp only [go_sem, Bool.not_eq_true', Bool.not_eq_false'])
    (refine arangeS (by simp only [go_sem, Bool.not_eq_true', Bool.not_eq_false']; rfl) Tryz.func132 rfl (by kernel_rfl) (by kernel_rfl) (Nat.le_of_ble_eq_true rfl) Tryz.results132 ?_; intro tm1 lc1 hfit1 hps1 hasg1 hbody1; simp only [List.toList_toArray] at hps1)
    (refine swp_seqW ?_; simp only [go_sem, Bool.not_eq_true', Bool.not_eq_false'])
    refine ⟨⟨by omega, by omega⟩, ?_⟩
    (refine swp_seqW ?_; simp only [go_sem, Bool.not_eq_true', Bool.not_eq_false'])
    refine swp_block ?_
    refine swp_loop2 [] (fun z : KY WRun => ⟨[(0, .hdr 512), (1, .hdr 504), (2, .hdr 505), (4, .raw (.int .i64 (wideN sp (seg xs f z.k)))), (5, .raw (.int .i64 z.k))], [(512, some (.loop tm1 lc1 .ready)), (513, some (.frm tm1 [(6, .hdr 8), (7, .hdr 16), (8, .hdr 24), (10, .hdr 480)])), (504, some (.cells 165 [.sl 1 (xs.map cInt), .raw (.int .i64 sp)])), (505, some (.cells 3 [.raw (.int .i64 f)])), (8, some (.cells 3 [.raw (.int .i64 width)])), (16, some (.cells 3 [.raw (.int .i64 f)])), (24, some (.cells 126 [.raw (.int .i64 0), .raw (.int .i64 0), .raw (.int .i64 0)])), (480, some (.cells 126 [.raw (.int .i64 z.o.f), .raw (.int .i64 z.o.t), .raw (.int .i64 z.o.w)]))], none⟩) (fun z => (f ≤ z.k ∧ z.k ≤ xs.length) ∧ (f < z.k → z.o = ⟨f, z.k, wideN sp (seg xs f z.k)⟩ ∧ growT xs sp width f (xs.length - z.k) z.k = takeT xs sp width f)) (fun z => xs.length - z.k) 80 ⟨f, ⟨0, 0, 0⟩⟩ (by simp only [go_sem, Bool.not_eq_true', Bool.not_eq_false']; rfl) (by simp only [go_sem, Bool.not_eq_true', Bool.not_eq_false', wide_none]) ?_ ?_
    · exact ⟨⟨Nat.le_refl _, Nat.le_of_lt hf⟩, fun q => absurd q (Nat.lt_irrefl _)⟩
    rintro ⟨k, o⟩ ⟨⟨k1, k2⟩, k3⟩
    simp only at k1 k2 k3
    have hy := @growT_yes xs sp width f k
    have hn := @growT_no xs sp width f k
    (refine swp_seqW ?_; simp only [go_sem, Bool.not_eq_true', Bool.not_eq_false', List.length_map])
    refine ⟨fun h5 => ?_, fun h5 => ?_⟩
    rotate_left
    · obtain rfl : k = xs.length := by omega
      obtain ⟨rfl, e2⟩ := k3 hf
      have e3 : takeT xs sp width f = xs.length := by rw [← e2, Nat.sub_self]; rfl
      rw [e3]
      (refine cut_end [] (()) (by simp only [go_sem, Bool.not_eq_true', Bool.not_eq_false']; rfl) ?_ ?_; (focus (simp only [go_sem, Bool.not_eq_true', Bool.not_eq_false']; done)))
      trivial
    have hkl : k < xs.length := by omega
    have hb1 := wide_bd2 h k1 (by omega)
    have hb2 := wide_bd2 h (show f ≤ k + 1 by omega) hkl
    have hx := near9_at h.near k hkl
    have e := wide_seg sp xs f k k1 hkl
    refine swp_seqS ?_
    refine swp_block ?_
    (refine swp_seqW ?_; simp only [go_sem, Bool.not_eq_true', Bool.not_eq_false'])
    refine ⟨by omega, ex_get hkl ⟨by omega, by omega, ?_⟩⟩
    rw [← e]
    refine ⟨(show drawB _ _ = true by kernel_rfl), ?_⟩
    (refine swp_seqW ?_; simp only [go_sem, Bool.not_eq_true', Bool.not_eq_false'])
    refine ⟨by omega, ?_⟩
    (refine ayield rfl ?_; simp only [go_sem, Bool.not_eq_true', Bool.not_eq_false', hfit1, hps1, hasg1, hbody1]; intro tmI1)
    have hnew : ¬ ((f : Int) + 1 < k + 1 ∧ width < wideN sp (seg xs f (k + 1))) → (f < k + 1 → (⟨f, (k + 1 : Nat), wideN sp (seg xs f (k + 1))⟩ : WRun) = ⟨f, (k + 1 : Nat), wideN sp (seg xs f (k + 1))⟩ ∧ growT xs sp width f (xs.length - (k + 1)) (k + 1) = takeT xs sp width f) := fun q _ => by
      refine ⟨rfl, ?_⟩
      by_cases w : f < k
      · rw [← hy hkl (by omega)]
        exact (k3 w).2
      · obtain rfl : f = k := by omega
        rfl
    have hbrk : (f : Int) + 1 < k + 1 → width < wideN sp (seg xs f (k + 1)) → o = ⟨f, k, wideN sp (seg xs f k)⟩ ∧ takeT xs sp width f = k := fun q1 q2 => by
      obtain ⟨e1, e2⟩ := k3 (by omega)
      exact ⟨e1, by rw [← e2]; exact hn fun w => by omega⟩
    clear k3
    repeat' first | contradiction | intro _ | refine And.intro ?_ ?_ | refine ex_get (by omega) ?_ | (show drawB _ _ = true; kernel_rfl) | (refine ret2 [] (by simp only [go_sem, Bool.not_eq_true', Bool.not_eq_false']; rfl) ?_; simp only [go_sem, Bool.not_eq_true', Bool.not_eq_false'])
    all_goals first
      | omega
      | (obtain ⟨e1, e2⟩ := hbrk (by assumption) (by assumption)
         rw [e1, e2]
         (refine swp_lastW ?_; simp only [go_sem, Bool.not_eq_true', Bool.not_eq_false'])
         (refine cut_end [] (()) (by simp only [go_sem, Bool.not_eq_true', Bool.not_eq_false']; rfl) ?_ ?_; (focus (simp only [go_sem, Bool.not_eq_true', Bool.not_eq_false']; done)))
         trivial)
      | ((refine swp_lastW ?_; simp only [go_sem, Bool.not_eq_true', Bool.not_eq_false'])
         (refine swp_lastW ?_; simp only [go_sem, Bool.not_eq_true', Bool.not_eq_false'])
         refine ⟨by omega, ?_⟩
         (refine loop_end [] (⟨k + 1, ⟨f, (k + 1 : Nat), wideN sp (seg xs f (k + 1))⟩⟩) (by simp only [go_sem, Bool.not_eq_true', Bool.not_eq_false']; rfl) ?_ ?_ ?_; (focus first | omega | (simp only; omega)); (focus (simp only [go_sem, Bool.not_eq_true', Bool.not_eq_false']; done)))
         exact ⟨⟨by simp only; omega, hkl⟩, hnew (by omega)⟩)
      | skip
  rintro - -
  (refine swp_lastW ?_; simp only [go_sem, Bool.not_eq_true', Bool.not_eq_false'])
end Go.Proofs.YtblmebjhhanoaaaGreat
/- CHAPTER 12: lines: the room for a width. -/
/- G -/
/- BOOLS -/
set_option linter.unusedSimpArgs false
set_option linter.unusedVariables false
namespace Go.Proofs.YtblmebjhhanoaaaGreat
open Go.RowKit

theorem fold_mono {y H : Int} : ∀ (l : List LFl) (o : LSpan), o.a ≤ (l.foldl (ofT y H) o).a ∧ (l.foldl (ofT y H) o).b ≤ o.b
  | [], o => ⟨Int.le_refl _, Int.le_refl _⟩
  | f :: l, o => by
    have ih := fold_mono (y := y) (H := H) l (ofT y H o f)
    rw [List.foldl_cons]
    have h1 : o.a ≤ (ofT y H o f).a ∧ (ofT y H o f).b ≤ o.b := by
      unfold ofT cutF
      split
      · split <;> (simp only; omega)
      · omega
    omega
theorem band_same {y H : Int} : ∀ (l : List LFl) (s : LSpan), ((l.foldl (ofT y H) s).a = s.a ∧ (l.foldl (ofT y H) s).b = s.b) ↔ ∀ f ∈ l, meetF f y H = true → (cutF f s).a = s.a ∧ (cutF f s).b = s.b
  | [], s => by simp
  | f :: l, s => by
    have hm := fold_mono (y := y) (H := H) l (ofT y H s f)
    rw [List.foldl_cons]
    have h1 : s.a ≤ (ofT y H s f).a ∧ (ofT y H s f).b ≤ s.b := by
      unfold ofT cutF
      split
      · split <;> (simp only; omega)
      · omega
    have key : (ofT y H s f).a = s.a → (ofT y H s f).b = s.b → ofT y H s f = s := fun q1 q2 => by
      rcases h : ofT y H s f with ⟨a, b⟩
      rw [h] at q1 q2
      simp only at q1 q2
      rw [q1, q2]
    constructor
    · rintro ⟨e1, e2⟩
      have e := key (by omega) (by omega)
      rw [e] at e1 e2
      have ih := (band_same l s).1 ⟨e1, e2⟩
      intro g hg hmg
      rcases List.mem_cons.1 hg with rfl | hg
      · have : ofT y H s g = cutF g s := by unfold ofT; rw [if_pos hmg]
        rw [this] at e
        rw [e]
        exact ⟨rfl, rfl⟩
      · exact ih g hg hmg
    · intro h
      have e : ofT y H s f = s := by
        by_cases q : meetF f y H = true
        · have := h f List.mem_cons_self q
          exact key (by unfold ofT; rw [if_pos q]; exact this.1) (by unfold ofT; rw [if_pos q]; exact this.2)
        · unfold ofT; rw [if_neg q]
      rw [e]
      exact (band_same l s).2 fun g hg => h g (List.mem_cons_of_mem _ hg)
theorem next_fold {y H : Int} {s : LSpan} : ∀ (l : List LFl) (o : LIs), (l.foldl (nextT y H s) o).is = false ↔ o.is = false ∧ ∀ f ∈ l, meetF f y H = true → (cutF f s).a = s.a ∧ (cutF f s).b = s.b
  | [], o => by simp
  | f :: l, o => by
    rw [List.foldl_cons, next_fold l]
    unfold nextT
    constructor
    · rintro ⟨h1, h2⟩
      split at h1
      · cases h1
      · next hc =>
        refine ⟨h1, fun g hg hm => ?_⟩
        rcases List.mem_cons.1 hg with rfl | hg
        · refine Decidable.byContradiction fun w => hc ⟨hm, w, fun q => by rw [h1] at q; cases q⟩
        · exact h2 g hg hm
    · rintro ⟨h1, h2⟩
      rw [if_neg fun w => w.2.1 (h2 f List.mem_cons_self w.1)]
      exact ⟨h1, fun g hg => h2 g (List.mem_cons_of_mem _ hg)⟩
theorem same_next (l : List LFl) (y H : Int) (s : LSpan) : ((bandF l y H s).a = s.a ∧ (bandF l y H s).b = s.b) ↔ (nextF l y H s).is = false := by
  unfold bandF nextF
  rw [band_same, next_fold]
  simp
structure LinOk (l : List LFl) (H : Int) (s : LSpan) : Prop where
  len : l.length ≤ 60
  near : l.all nearF = true
  h : -1125899906842624 ≤ H ∧ H ≤ 1125899906842624
  s : (-1125899906842624 ≤ s.a ∧ s.a ≤ 1125899906842624) ∧ (-1125899906842624 ≤ s.b ∧ s.b ≤ 1125899906842624)
theorem band_nearL {l : List LFl} {H : Int} {s : LSpan} (h : LinOk l H s) (y' H' : Int) : nearS (bandF l y' H' s) := by
  have := band_bd h.near (y := y') (H := H') h.s
  unfold nearS
  omega
def aStr (l : List LFl) (H y : Int) (s : LSpan) : AV := .agg [.raw (.int .i64 s.a), .raw (.int .i64 s.b), .sl 7 (l.map cFl), .raw (.int .i64 H), .raw (.int .i64 y)]
attribute [go_sem] aStr
set_option maxRecDepth 100000 in
theorem sband_ok (l : List LFl) (H y : Int) (s : LSpan) (h : LinOk l H s) (hy : in10 y) : FnOk Tryz.prog 118 [aStr l H y s] [] (aSpan (bandF l y H s)) [] := by
  have := h.len
  have hh := h.h
  refine fn_of_awp Tryz.func118 rfl (by kernel_rfl) (by kernel_rfl) (Nat.le_of_ble_eq_true rfl) Tryz.results118 ?_
  simp only [go_sem, Bool.not_eq_true', Bool.not_eq_false']
  (refine acall2 [] (bof10_ok l y H s (by omega) h.near hy (by unfold in10; omega)) (by simp only [go_sem, Bool.not_eq_true', Bool.not_eq_false']; rfl) (fit_of (by simp only [go_sem, Bool.not_eq_true', Bool.not_eq_false']) (by simp only [go_sem, Bool.not_eq_true', Bool.not_eq_false']) (by simp only [go_sem, Bool.not_eq_true', Bool.not_eq_false']) (by simp only [go_sem, Bool.not_eq_true', Bool.not_eq_false']) (by simp only [go_sem, Bool.not_eq_true', Bool.not_eq_false']) (by simp only [go_sem, Bool.not_eq_true', Bool.not_eq_false']) (by simp only [go_sem, Bool.not_eq_true', Bool.not_eq_false'])) ?_; simp only [go_sem, Bool.not_eq_true', Bool.not_eq_false'])
def fitL (l : List LFl) (H y w : Int) (s : LSpan) : Prop := w ≤ lenS (bandF l y H s) ∨ (nextF l y H s).is = false
instance (l : List LFl) (H y w : Int) (s : LSpan) : Decidable (fitL l H y w s) := by unfold fitL; infer_instance
set_option maxRecDepth 100000 in
theorem fits_ok (l : List LFl) (H y w : Int) (s : LSpan) (h : LinOk l H s) (hy : in10 y) : FnOk Tryz.prog 116 [aStr l H y s, .raw (.int .i64 w)] [] (.raw (.bool (decide (fitL l H y w s)))) [] := by
  have hs := same_next l y H s
  refine fn_of_awp Tryz.func116 rfl (by kernel_rfl) (by kernel_rfl) (Nat.le_of_ble_eq_true rfl) Tryz.results116 ?_
  simp only [go_sem, Bool.not_eq_true', Bool.not_eq_false']
  (refine acall2 [] (sband_ok l H y s h hy) (by simp only [go_sem, Bool.not_eq_true', Bool.not_eq_false']; rfl) (fit_of (by simp only [go_sem, Bool.not_eq_true', Bool.not_eq_false']) (by simp only [go_sem, Bool.not_eq_true', Bool.not_eq_false']) (by simp only [go_sem, Bool.not_eq_true', Bool.not_eq_false']) (by simp only [go_sem, Bool.not_eq_true', Bool.not_eq_false']) (by simp only [go_sem, Bool.not_eq_true', Bool.not_eq_false']) (by simp only [go_sem, Bool.not_eq_true', Bool.not_eq_false']) (by simp only [go_sem, Bool.not_eq_true', Bool.not_eq_false'])) ?_; simp only [go_sem, Bool.not_eq_true', Bool.not_eq_false'])
  (refine acall2 [] (slen_ok (bandF l y H s) (band_nearL h y H)) (by simp only [go_sem, Bool.not_eq_true', Bool.not_eq_false']; rfl) (fit_of (by simp only [go_sem, Bool.not_eq_true', Bool.not_eq_false']) (by simp only [go_sem, Bool.not_eq_true', Bool.not_eq_false']) (by simp only [go_sem, Bool.not_eq_true', Bool.not_eq_false']) (by simp only [go_sem, Bool.not_eq_true', Bool.not_eq_false']) (by simp only [go_sem, Bool.not_eq_true', Bool.not_eq_false']) (by simp only [go_sem, Bool.not_eq_true', Bool.not_eq_false']) (by simp only [go_sem, Bool.not_eq_true', Bool.not_eq_false'])) ?_; simp only [go_sem, Bool.not_eq_true', Bool.not_eq_false'])
  repeat' first | contradiction | intro _ | refine And.intro ?_ ?_ | refine ex_get (by omega) ?_ | (show drawB _ _ = true; kernel_rfl) | (refine ret2 [] (by simp only [go_sem, Bool.not_eq_true', Bool.not_eq_false']; rfl) ?_; simp only [go_sem, Bool.not_eq_true', Bool.not_eq_false']) | (refine acall2 [] (sband_ok l H y s h hy) (by simp only [go_sem, Bool.not_eq_true', Bool.not_eq_false']; rfl) (fit_of (by simp only [go_sem, Bool.not_eq_true', Bool.not_eq_false']) (by simp only [go_sem, Bool.not_eq_true', Bool.not_eq_false']) (by simp only [go_sem, Bool.not_eq_true', Bool.not_eq_false']) (by simp only [go_sem, Bool.not_eq_true', Bool.not_eq_false']) (by simp only [go_sem, Bool.not_eq_true', Bool.not_eq_false']) (by simp only [go_sem, Bool.not_eq_true', Bool.not_eq_false']) (by simp only [go_sem, Bool.not_eq_true', Bool.not_eq_false'])) ?_; simp only [go_sem, Bool.not_eq_true', Bool.not_eq_false'])
  all_goals first
    | (refine ⟨(show drawB _ _ = true by kernel_rfl), ?_⟩)
    | skip
  all_goals first
    | (rw [Bool.eq_iff_iff, decide_eq_true_iff, Bool.and_eq_true, decide_eq_true_iff, decide_eq_true_iff]
       unfold fitL
       rw [← hs]
       exact ⟨fun q => q.resolve_left (by assumption), .inr⟩)
    | (simp only [fitL]; simp_all; done)
    | skip
structure RomX (l : List LFl) (W H : Int) (s : LSpan) (y z : Int) : Prop where
  e : dnP l W H s (cntP l z) z = dnP l W H s (cntP l y) y
  lo : -2251799813685248 ≤ z
  hi : z ≤ 4503599627370496
def romY (l : List LFl) (w H y : Int) (s : LSpan) : Int := dnP l w H s (cntP l y) y
def aRoo (l : List LFl) (w H y : Int) (s : LSpan) : AV := .tup [aSpan (bandF l (romY l w H y s) H s), .raw (.int .i64 (romY l w H y s))]
attribute [go_sem] aRoo
set_option maxRecDepth 100000 in
set_option maxHeartbeats 4000000 in
theorem room12_ok (l : List LFl) (w H y : Int) (s : LSpan) (h : LinOk l H s) (hy : -2251799813685248 ≤ y ∧ y ≤ 4503599627370496) : FnOk Tryz.prog 91 [.sl 7 (l.map cFl), .raw (.int .i64 w), .raw (.int .i64 H), .raw (.int .i64 y), aSpan s] [] (aRoo l w H y s) [] := by
  have hlen := h.len
  have hh := h.h
  have hin : ∀ z : Int, -2251799813685248 ≤ z ∧ z ≤ 4503599627370496 → in10 z := fun z hz => by unfold in10; omega
  obtain ⟨Y, hY⟩ : ∃ Y, romY l w H y s = Y := ⟨_, rfl⟩
  rw [show aRoo l w H y s = .tup [aSpan (bandF l Y H s), .raw (.int .i64 Y)] by unfold aRoo; rw [hY]]
  refine fn_of_swp Tryz.func91 rfl (by kernel_rfl) (by kernel_rfl) (Nat.le_of_ble_eq_true rfl) Tryz.results91 ?_
  (refine swp_seqW ?_; simp only [go_sem, Bool.not_eq_true', Bool.not_eq_false'])
  (refine swp_seqW ?_; simp only [go_sem, Bool.not_eq_true', Bool.not_eq_false'])
  refine swp_cutS (fun _ : Unit => ⟨[(10, .hdr 16), (12, .hdr 72)], [(16, some (.cells 112 [.raw (.int .i64 0), .raw (.int .i64 0)])), (72, some (.cells 174 [.raw (.int .i64 s.a), .raw (.int .i64 s.b), .sl 7 (l.map cFl), .raw (.int .i64 H), .raw (.int .i64 Y)]))], none⟩) (fun _ => -2251799813685248 ≤ Y ∧ Y ≤ 4503599627370496) 40 ?_ ?_
  · (refine swp_lastW ?_; simp only [go_sem, Bool.not_eq_true', Bool.not_eq_false'])
    refine aloop2 [] (fun z : Int => ⟨[(1, .raw (.int .i64 w)), (10, .hdr 16), (12, .hdr 72)], [(16, some (.cells 112 [.raw (.int .i64 0), .raw (.int .i64 0)])), (72, some (.cells 174 [.raw (.int .i64 s.a), .raw (.int .i64 s.b), .sl 7 (l.map cFl), .raw (.int .i64 H), .raw (.int .i64 z)]))], none⟩) (RomX l w H s y) (fun z => cntP l z) 40 y (by simp only [go_sem, Bool.not_eq_true', Bool.not_eq_false']; rfl) (by simp only [go_sem, Bool.not_eq_true', Bool.not_eq_false']) ?_ ?_
    · exact ⟨rfl, hy.1, hy.2⟩
    rintro z ⟨z1, z2, z3⟩
    have hiz := hin z ⟨z2, z3⟩
    have hst := @dn_stop l w H s z
    have hdl := @dn_lt l w H s z
    simp only [go_sem, Bool.not_eq_true', Bool.not_eq_false']
    (refine acall2 [] (fits_ok l H z w s h hiz) (by simp only [go_sem, Bool.not_eq_true', Bool.not_eq_false']; rfl) (fit_of (by simp only [go_sem, Bool.not_eq_true', Bool.not_eq_false']) (by simp only [go_sem, Bool.not_eq_true', Bool.not_eq_false']) (by simp only [go_sem, Bool.not_eq_true', Bool.not_eq_false']) (by simp only [go_sem, Bool.not_eq_true', Bool.not_eq_false']) (by simp only [go_sem, Bool.not_eq_true', Bool.not_eq_false']) (by simp only [go_sem, Bool.not_eq_true', Bool.not_eq_false']) (by simp only [go_sem, Bool.not_eq_true', Bool.not_eq_false'])) ?_; simp only [go_sem, Bool.not_eq_true', Bool.not_eq_false'])
    refine ⟨fun q => ?_, fun q => ?_⟩
    · have hlt := hdl q
      have hnb := next_bd h.near (y := z) (H := H) (s := s) (Decidable.byContradiction fun w => q (.inr (by cases hq : (nextF l z H s).is with | false => rfl | true => exact absurd hq w)))
      (refine acall2 [] (bnext_ok l z H s (by omega) h.near hiz (by unfold in10; omega)) (by simp only [go_sem, Bool.not_eq_true', Bool.not_eq_false']; rfl) (fit_of (by simp only [go_sem, Bool.not_eq_true', Bool.not_eq_false']) (by simp only [go_sem, Bool.not_eq_true', Bool.not_eq_false']) (by simp only [go_sem, Bool.not_eq_true', Bool.not_eq_false']) (by simp only [go_sem, Bool.not_eq_true', Bool.not_eq_false']) (by simp only [go_sem, Bool.not_eq_true', Bool.not_eq_false']) (by simp only [go_sem, Bool.not_eq_true', Bool.not_eq_false']) (by simp only [go_sem, Bool.not_eq_true', Bool.not_eq_false'])) ?_; simp only [go_sem, Bool.not_eq_true', Bool.not_eq_false'])
      (refine loop_end [] ((nextF l z H s).n) (by simp only [go_sem, Bool.not_eq_true', Bool.not_eq_false']; rfl) ?_ ?_ ?_; (focus first | omega | (simp only; omega)); (focus (simp only [go_sem, Bool.not_eq_true', Bool.not_eq_false']; done)))
      refine ⟨?_, hnb.1, by omega⟩
      rw [← z1]
      obtain ⟨k, hk⟩ : ∃ k, cntP l z = k + 1 := ⟨cntP l z - 1, by omega⟩
      rw [hk, dn_step q, dn_enough k _ (by omega)]
    · obtain rfl : Y = z := by
        rw [← hY, romY, ← z1]
        exact hst q _
      (refine cut_end [] (()) (by simp only [go_sem, Bool.not_eq_true', Bool.not_eq_false']; rfl) ?_ ?_; (focus (simp only [go_sem, Bool.not_eq_true', Bool.not_eq_false']; done)))
      exact ⟨z2, z3⟩
  rintro - ⟨y1, y2⟩
  (refine swp_lastW ?_; simp only [go_sem, Bool.not_eq_true', Bool.not_eq_false'])
  repeat' first | contradiction | intro _ | refine And.intro ?_ ?_ | refine ex_get (by omega) ?_ | (show drawB _ _ = true; kernel_rfl) | (refine ret2 [] (by simp only [go_sem, Bool.not_eq_true', Bool.not_eq_false']; rfl) ?_; simp only [go_sem, Bool.not_eq_true', Bool.not_eq_false']) | (refine acall2 [] (sband_ok l H Y s h (hin Y ⟨y1, y2⟩)) (by simp only [go_sem, Bool.not_eq_true', Bool.not_eq_false']; rfl) (fit_of (by simp only [go_sem, Bool.not_eq_true', Bool.not_eq_false']) (by simp only [go_sem, Bool.not_eq_true', Bool.not_eq_false']) (by simp only [go_sem, Bool.not_eq_true', Bool.not_eq_false']) (by simp only [go_sem, Bool.not_eq_true', Bool.not_eq_false']) (by simp only [go_sem, Bool.not_eq_true', Bool.not_eq_false']) (by simp only [go_sem, Bool.not_eq_true', Bool.not_eq_false']) (by simp only [go_sem, Bool.not_eq_true', Bool.not_eq_false'])) ?_; simp only [go_sem, Bool.not_eq_true', Bool.not_eq_false'])
  all_goals first
    | (refine ⟨(show drawB _ _ = true by kernel_rfl), ?_⟩)
    | skip
end Go.Proofs.YtblmebjhhanoaaaGreat
/- CHAPTER 12: lines: one line, all lines of a text. -/
/- G -/
/- BOOLS -/
set_option linter.unusedSimpArgs false
set_option linter.unusedVariables false
namespace Go.Proofs.YtblmebjhhanoaaaGreat
open Go.RowKit

structure LSet where
  f : Int
  t : Int
  x : Int
  y : Int
  w : Int
deriving DecidableEq
def cSet (x : LSet) : List PV := [.raw (.int .i64 x.f), .raw (.int .i64 x.t), .raw (.int .i64 x.x), .raw (.int .i64 x.y), .raw (.int .i64 x.w)]
def aSet (x : LSet) : AV := .agg [.raw (.int .i64 x.f), .raw (.int .i64 x.t), .raw (.int .i64 x.x), .raw (.int .i64 x.y), .raw (.int .i64 x.w)]
attribute [go_sem] cSet aSet
theorem dn_bd {l : List LFl} {w H : Int} {s : LSpan} (hn : l.all nearF = true) : ∀ (n : Nat) (y : Int), dnP l w H s n y = y ∨ (-2251799813685248 ≤ dnP l w H s n y ∧ dnP l w H s n y ≤ 2251799813685248)
  | 0, y => .inl rfl
  | n + 1, y => by
    by_cases q : w ≤ lenS (bandF l y H s) ∨ (nextF l y H s).is = false
    · rw [dn_stop q]; exact .inl rfl
    · rw [dn_step q]
      have hnx : (nextF l y H s).is = true := Decidable.byContradiction fun w => q (.inr (by cases hq : (nextF l y H s).is with | false => rfl | true => exact absurd hq w))
      have hnb := next_bd hn (y := y) (H := H) (s := s) hnx
      rcases dn_bd hn n (nextF l y H s).n with e | e
      · rw [e]; exact .inr hnb
      · exact .inr e
theorem rom_bd {l : List LFl} {w H y : Int} {s : LSpan} (hn : l.all nearF = true) : romY l w H y s = y ∨ (-2251799813685248 ≤ romY l w H y s ∧ romY l w H y s ≤ 2251799813685248) := dn_bd hn _ _
def linN (l : List LFl) (ws : List Int) (sp H : Int) (f : Nat) (y : Int) (s : LSpan) : LSet :=
  ⟨f, (takeT ws sp (lenS (bandF l (romY l (ws.getD f 0) H y s) H s)) f : Nat), (bandF l (romY l (ws.getD f 0) H y s) H s).a, romY l (ws.getD f 0) H y s, wideN sp (seg ws f (takeT ws sp (lenS (bandF l (romY l (ws.getD f 0) H y s) H s)) f))⟩
/-- all lines from a word on. -/
def texG (l : List LFl) (ws : List Int) (sp H : Int) (s : LSpan) : Nat → Nat → Int → List LSet
  | 0, _, _ => []
  | n + 1, f, y => if f < ws.length then linN l ws sp H f y s :: texG l ws sp H s n (linN l ws sp H f y s).t.toNat ((linN l ws sp H f y s).y + H) else []
def texF (l : List LFl) (ws : List Int) (sp H y : Int) (s : LSpan) : List LSet := texG l ws sp H s ws.length 0 y
theorem lin_t {l : List LFl} {ws : List Int} {sp H y : Int} {f : Nat} {s : LSpan} (hf : f < ws.length) : ∃ t : Nat, (linN l ws sp H f y s).t = t ∧ f < t ∧ t ≤ ws.length := ⟨_, rfl, takeT_bd ws sp _ f hf⟩
set_option maxRecDepth 100000 in
set_option maxHeartbeats 4000000 in
theorem line12_ok (l : List LFl) (ws : List Int) (sp H : Int) (f : Nat) (y : Int) (s : LSpan) (h : LinOk l H s) (hw : WorOk ws sp) (hf : f < ws.length) (hy : -2251799813685248 ≤ y ∧ y ≤ 4503599627370496) :
    FnOk Tryz.prog 115 [.sl 7 (l.map cFl), .sl 1 (ws.map cInt), .raw (.int .i64 sp), .raw (.int .i64 H), .raw (.int .i64 f), .raw (.int .i64 y), aSpan s] [] (aSet (linN l ws sp H f y s)) [] := by
  have hlen := hw.len
  have hgd : ws.getD f 0 = ws[f] := by simp [List.getD_eq_getElem?_getD, hf]
  have eL : aSet (linN l ws sp H f y s) = .agg [.raw (.int .i64 f), .raw (.int .i64 (takeT ws sp (lenS (bandF l (romY l (ws.getD f 0) H y s) H s)) f : Nat)), .raw (.int .i64 (bandF l (romY l (ws.getD f 0) H y s) H s).a), .raw (.int .i64 (romY l (ws.getD f 0) H y s)), .raw (.int .i64 (wideN sp (seg ws f (takeT ws sp (lenS (bandF l (romY l (ws.getD f 0) H y s) H s)) f))))] := rfl
  rw [eL, hgd]
  have hs := band_nearL h (romY l ws[f] H y s) H
  have htk := take_ok ws sp (lenS (bandF l (romY l ws[f] H y s) H s)) f hw
  rw [takeF_nat hf] at htk
  refine fn_of_awp Tryz.func115 rfl (by kernel_rfl) (by kernel_rfl) (Nat.le_of_ble_eq_true rfl) Tryz.results115 ?_
  simp only [go_sem, Bool.not_eq_true', Bool.not_eq_false']
  repeat' first | contradiction | intro _ | refine And.intro ?_ ?_ | refine ex_get (by omega) ?_ | (show drawB _ _ = true; kernel_rfl) | (refine ret2 [] (by simp only [go_sem, Bool.not_eq_true', Bool.not_eq_false', List.length_map]; rfl) ?_; simp only [go_sem, Bool.not_eq_true', Bool.not_eq_false', List.length_map]) | (refine acall2 [] (room12_ok l ws[f] H y s h hy) (by simp only [go_sem, Bool.not_eq_true', Bool.not_eq_false']; rfl) (fit_of (by simp only [go_sem, Bool.not_eq_true', Bool.not_eq_false']) (by simp only [go_sem, Bool.not_eq_true', Bool.not_eq_false']) (by simp only [go_sem, Bool.not_eq_true', Bool.not_eq_false']) (by simp only [go_sem, Bool.not_eq_true', Bool.not_eq_false']) (by simp only [go_sem, Bool.not_eq_true', Bool.not_eq_false']) (by simp only [go_sem, Bool.not_eq_true', Bool.not_eq_false']) (by simp only [go_sem, Bool.not_eq_true', Bool.not_eq_false'])) ?_; simp only [go_sem, Bool.not_eq_true', Bool.not_eq_false', List.length_map]) | (refine acall2 [] (slen_ok (bandF l (romY l ws[f] H y s) H s) hs) (by simp only [go_sem, Bool.not_eq_true', Bool.not_eq_false']; rfl) (fit_of (by simp only [go_sem, Bool.not_eq_true', Bool.not_eq_false']) (by simp only [go_sem, Bool.not_eq_true', Bool.not_eq_false']) (by simp only [go_sem, Bool.not_eq_true', Bool.not_eq_false']) (by simp only [go_sem, Bool.not_eq_true', Bool.not_eq_false']) (by simp only [go_sem, Bool.not_eq_true', Bool.not_eq_false']) (by simp only [go_sem, Bool.not_eq_true', Bool.not_eq_false']) (by simp only [go_sem, Bool.not_eq_true', Bool.not_eq_false'])) ?_; simp only [go_sem, Bool.not_eq_true', Bool.not_eq_false', List.length_map]) | (refine acall2 [] (htk) (by simp only [go_sem, Bool.not_eq_true', Bool.not_eq_false']; rfl) (fit_of (by simp only [go_sem, Bool.not_eq_true', Bool.not_eq_false']) (by simp only [go_sem, Bool.not_eq_true', Bool.not_eq_false']) (by simp only [go_sem, Bool.not_eq_true', Bool.not_eq_false']) (by simp only [go_sem, Bool.not_eq_true', Bool.not_eq_false']) (by simp only [go_sem, Bool.not_eq_true', Bool.not_eq_false']) (by simp only [go_sem, Bool.not_eq_true', Bool.not_eq_false']) (by simp only [go_sem, Bool.not_eq_true', Bool.not_eq_false'])) ?_; simp only [go_sem, Bool.not_eq_true', Bool.not_eq_false', List.length_map])
  all_goals first
    | omega
    | (refine ⟨(show drawB _ _ = true by kernel_rfl), ?_⟩)
    | skip
theorem tex_len {l : List LFl} {ws : List Int} {sp H : Int} {s : LSpan} : ∀ (n f : Nat) (y : Int), (texG l ws sp H s n f y).length ≤ n
  | 0, _, _ => Nat.le_refl _
  | n + 1, f, y => by
    rw [texG]
    split
    · have := tex_len (l := l) (ws := ws) (sp := sp) (H := H) (s := s) n (linN l ws sp H f y s).t.toNat ((linN l ws sp H f y s).y + H)
      simp only [List.length_cons]
      omega
    · exact Nat.zero_le _
structure TxX where
  n : Nat
  f : Nat
  y : Int
  o : List LSet
structure TxI (l : List LFl) (ws : List Int) (sp H : Int) (s : LSpan) (R : List LSet) (z : TxX) : Prop where
  e : z.o ++ texG l ws sp H s z.n z.f z.y = R
  fn : ws.length ≤ z.f + z.n
  ol : z.o.length ≤ z.f
  fl : z.f ≤ ws.length
  lo : -2251799813685248 ≤ z.y
  hi : z.y ≤ 2251799813685248 + z.f * 1099511627776
theorem tx_next {l : List LFl} {ws : List Int} {sp H : Int} {s : LSpan} {R : List LSet} {z : TxX} (hn : l.all nearF = true) (hH : 0 ≤ H ∧ H ≤ 1099511627776) (h : TxI l ws sp H s R z) (hf : z.f < ws.length) :
    ∃ m t, z.n = m + 1 ∧ (linN l ws sp H z.f z.y s).t = (t : Nat) ∧ z.f < t ∧ TxI l ws sp H s R ⟨m, t, (linN l ws sp H z.f z.y s).y + H, z.o ++ [linN l ws sp H z.f z.y s]⟩ := by
  obtain ⟨n, f, y, o⟩ := z
  obtain ⟨h1, h2, h3, h4, h5, h6⟩ := h
  simp only at h1 h2 h3 h4 h5 h6 hf ⊢
  obtain ⟨m, rfl⟩ : ∃ m, n = m + 1 := ⟨n - 1, by omega⟩
  obtain ⟨t, e1, e2, e3⟩ := lin_t (l := l) (sp := sp) (H := H) (y := y) (s := s) hf
  have hr : (linN l ws sp H f y s).y = y ∨ (-2251799813685248 ≤ (linN l ws sp H f y s).y ∧ (linN l ws sp H f y s).y ≤ 2251799813685248) := rom_bd hn
  refine ⟨m, t, rfl, e1, e2, ⟨?_, ?_, ?_, e3, ?_, ?_⟩⟩
  · rw [← h1, texG, if_pos hf, e1, Int.toNat_natCast, List.append_assoc]
    rfl
  · simp only; omega
  · simp only [List.length_append, List.length_cons, List.length_nil]; omega
  · simp only; omega
  · simp only; omega
set_option maxRecDepth 100000 in
set_option maxHeartbeats 4000000 in
theorem text12_ok (l : List LFl) (ws : List Int) (sp H y : Int) (s : LSpan) (h : LinOk l H s) (hw : WorOk ws sp) (hH : 0 ≤ H ∧ H ≤ 1099511627776) (hy : -2251799813685248 ≤ y ∧ y ≤ 2251799813685248) :
    FnOk Tryz.prog 88 [.sl 7 (l.map cFl), .sl 1 (ws.map cInt), .raw (.int .i64 sp), .raw (.int .i64 H), .raw (.int .i64 y), aSpan s] [] (.hdr 8) [(8, .row 116 5 ((texF l ws sp H y s).map cSet))] := by
  have hlen := hw.len
  refine fn_of_swp Tryz.func88 rfl (by kernel_rfl) (by kernel_rfl) (Nat.le_of_ble_eq_true rfl) Tryz.results88 ?_
  (refine swp_seqW ?_; simp only [go_sem, Bool.not_eq_true', Bool.not_eq_false'])
  (refine swp_seqW ?_; simp only [go_sem, Bool.not_eq_true', Bool.not_eq_false'])
  refine swp_cutS (fun _ : Unit => ⟨[(13, .hdr 800)], [(800, some (.row 116 5 ((texF l ws sp H y s).map cSet)))], none⟩) (fun _ => True) 120 ?_ ?_
  · (refine swp_lastW ?_; simp only [go_sem, Bool.not_eq_true', Bool.not_eq_false'])
    refine aloop2 [] (fun z : TxX => ⟨[(0, .sl 7 (l.map cFl)), (1, .sl 1 (ws.map cInt)), (2, .raw (.int .i64 sp)), (3, .raw (.int .i64 H)), (4, .raw (.int .i64 z.y)), (11, .hdr 8), (13, .hdr 800), (14, .raw (.int .i64 z.f))], [(8, some (.cells 112 [.raw (.int .i64 s.a), .raw (.int .i64 s.b)])), (800, some (.row 116 5 (z.o.map cSet)))], none⟩) (TxI l ws sp H s (texF l ws sp H y s)) (fun z => ws.length - z.f) 120 ⟨ws.length, 0, y, []⟩ (by simp only [go_sem, Bool.not_eq_true', Bool.not_eq_false']; rfl) (by simp only [go_sem, Bool.not_eq_true', Bool.not_eq_false', List.map_nil]) ?_ ?_
    · exact ⟨rfl, by simp, Nat.le_refl _, Nat.zero_le _, hy.1, by simp only; omega⟩
    rintro z hz
    have hnx := @tx_next l ws sp H s _ z h.near hH hz
    have hdn : ¬ z.f < ws.length → z.o = texF l ws sp H y s := fun q => by
      rw [← hz.e]
      cases hn : z.n with
      | zero => rw [texG, List.append_nil]
      | succ n => rw [texG, if_neg q, List.append_nil]
    obtain ⟨-, -, h3, h4, h5, h6⟩ := hz
    obtain ⟨n, f, y', o⟩ := z
    simp only at h3 h4 h5 h6 hnx hdn
    simp only [go_sem, Bool.not_eq_true', Bool.not_eq_false', List.length_map]
    refine ⟨fun q => ?_, fun q => ?_⟩
    · have hf : f < ws.length := by omega
      obtain ⟨m, t, e1, e2, e3, hI⟩ := hnx hf
      have hI2 := hI.lo
      have hI3 := hI.hi
      have hI4 := hI.fl
      simp only at hI2 hI3 hI4
      have hL := line12_ok l ws sp H f y' s h hw hf ⟨h5, by omega⟩
      have hro := rom_bd (l := l) (w := ws.getD f 0) (H := H) (y := y') (s := s) h.near
      (refine acall2 [] (hL) (by simp only [go_sem, Bool.not_eq_true', Bool.not_eq_false']; rfl) (fit_of (by simp only [go_sem, Bool.not_eq_true', Bool.not_eq_false']) (by simp only [go_sem, Bool.not_eq_true', Bool.not_eq_false']) (by simp only [go_sem, Bool.not_eq_true', Bool.not_eq_false']) (by simp only [go_sem, Bool.not_eq_true', Bool.not_eq_false']) (by simp only [go_sem, Bool.not_eq_true', Bool.not_eq_false']) (by simp only [go_sem, Bool.not_eq_true', Bool.not_eq_false']) (by simp only [go_sem, Bool.not_eq_true', Bool.not_eq_false'])) ?_; simp only [go_sem, Bool.not_eq_true', Bool.not_eq_false'])
      rw [e2]
      generalize hx : linN l ws sp H f y' s = x at *
      have hxy : x.y = y' ∨ (-2251799813685248 ≤ x.y ∧ x.y ≤ 2251799813685248) := by rw [← hx]; exact hro
      repeat' first | contradiction | intro _ | refine And.intro ?_ ?_ | refine ex_get (by omega) ?_ | (show drawB _ _ = true; kernel_rfl) | (refine ret2 [] (by simp only [go_sem, Bool.not_eq_true', Bool.not_eq_false', List.length_map]; rfl) ?_; simp only [go_sem, Bool.not_eq_true', Bool.not_eq_false', List.length_map])
      all_goals first
        | omega
        | (refine ⟨(show drawB _ _ = true by kernel_rfl), ?_⟩)
        | skip
      (refine loop_end [] (⟨m, t, x.y + H, o ++ [x]⟩) (by simp only [go_sem, Bool.not_eq_true', Bool.not_eq_false']; rfl) ?_ ?_ ?_; (focus first | omega | (simp only; omega)); (focus (simp only [go_sem, Bool.not_eq_true', Bool.not_eq_false', List.map_append, List.map_cons, List.map_nil, e2]; done)))
      exact hI
    · rw [hdn (by omega)]
      (refine cut_end [] (()) (by simp only [go_sem, Bool.not_eq_true', Bool.not_eq_false']; rfl) ?_ ?_; (focus (simp only [go_sem, Bool.not_eq_true', Bool.not_eq_false']; done)))
      trivial
  rintro - -
  (refine swp_lastW ?_; simp only [go_sem, Bool.not_eq_true', Bool.not_eq_false'])
  (refine ret2 [] (by simp only [go_sem, Bool.not_eq_true', Bool.not_eq_false']; rfl) ?_; simp only [go_sem, Bool.not_eq_true', Bool.not_eq_false'])
end Go.Proofs.YtblmebjhhanoaaaGreat
/- CHAPTER 06: valid: spans of numbers. -/
/- G -/
/- BOOLS -/
set_option linter.unusedSimpArgs false
set_option linter.unusedVariables false
namespace Go.Proofs.YtblmebjhhanoaaaGreat
open Go.RowKit

def offN (a b n : Int) : Bool := decide (n < a) || decide (b < n)
set_option maxRecDepth 100000 in
theorem has1_ok (n a b : Int) : FnOk Tryz.prog 150 [.raw (.int .i64 n), .hdr 0] [(0, .cells 183 [.raw (.int .i64 a), .raw (.int .i64 b)])] (.raw (.bool (offN a b n))) [(0, .cells 183 [.raw (.int .i64 a), .raw (.int .i64 b)])] := by
  refine fn_of_awp Tryz.func150 rfl (by kernel_rfl) (by kernel_rfl) (Nat.le_of_ble_eq_true rfl) Tryz.results150 ?_
  simp only [go_sem, Bool.not_eq_true', Bool.not_eq_false']
  repeat' first | contradiction | intro _ | refine And.intro ?_ ?_ | refine ex_get (by omega) ?_ | (show drawB _ _ = true; kernel_rfl) | (refine ret2 [] (by simp only [go_sem, Bool.not_eq_true', Bool.not_eq_false']; rfl) ?_; simp only [go_sem, Bool.not_eq_true', Bool.not_eq_false'])
  all_goals (simp [offN] <;> omega)
/-- the place of the first that is so; below 0: none is. -/
def idxI (p : Int → Bool) (l : List Int) : Int := if l.findIdx p < l.length then l.findIdx p else -1
theorem idxI_at {p : Int → Bool} {l : List Int} {k : Nat} (hk : k < l.length) (h : ∀ j (hj : j < l.length), j < k → p l[j] = false) (hp : p l[k] = true) : idxI p l = k := by
  have e : l.findIdx p = k := by
    rw [List.findIdx_eq hk]
    exact ⟨hp, fun j hj => by have := h j (by omega) hj; simpa using this⟩
  unfold idxI
  rw [if_pos (by omega), e]
theorem idxI_no {p : Int → Bool} {l : List Int} (h : ∀ j (hj : j < l.length), p l[j] = false) : idxI p l = -1 := by
  unfold idxI
  rw [if_neg]
  intro hlt
  have := List.findIdx_getElem (w := hlt)
  rw [h _ hlt] at this
  cases this
theorem idxI_any (p : Int → Bool) (l : List Int) : decide (0 ≤ idxI p l) = l.any p := by
  unfold idxI
  by_cases h : l.findIdx p < l.length
  · rw [if_pos h]
    have h2 : l.any p = true := List.any_eq_true.2 ⟨_, List.getElem_mem h, List.findIdx_getElem (w := h)⟩
    rw [h2]; simp
  · rw [if_neg h]
    have h2 : l.any p = false := by
      cases e : l.any p with
      | false => rfl
      | true => exact absurd (List.findIdx_lt_length.2 (by simpa using e)) h
    rw [h2]; rfl
set_option maxRecDepth 100000 in
theorem idx6_ok (l : List Int) (a b : Int) (hl : l.length ≤ 9223372036854775807) : FnOk Tryz.prog 131 [.sl 1 (l.map cInt), .clo (.func 150) [.hdr 0]] [(0, .cells 183 [.raw (.int .i64 a), .raw (.int .i64 b)])] (.raw (.int .i64 (idxI (offN a b) l))) [(0, .cells 183 [.raw (.int .i64 a), .raw (.int .i64 b)])] := by
  refine fn_of_awp Tryz.func131 rfl (by kernel_rfl) (by kernel_rfl) (Nat.le_of_ble_eq_true rfl) Tryz.results131 ?_
  simp only [go_sem, Bool.not_eq_true', Bool.not_eq_false', List.length_map]
  refine aloop2 [] (fun k : Nat => ⟨[(0, .sl 1 (l.map cInt)), (1, .clo (.func 150) [.hdr 0]), (7, .raw (.int .i64 l.length)), (8, .raw (.int .i64 k))], [(0, some (.cells 183 [.raw (.int .i64 a), .raw (.int .i64 b)]))], none⟩) (fun k => k ≤ l.length ∧ ∀ j (hj : j < l.length), j < k → offN a b l[j] = false) (fun k => l.length - k) 4 0 (by simp only [go_sem, Bool.not_eq_true', Bool.not_eq_false']; rfl) (by simp only [go_sem, Bool.not_eq_true', Bool.not_eq_false']) ?_ ?_
  · exact ⟨Nat.zero_le _, fun j _ h => absurd h (Nat.not_lt_zero j)⟩
  · rintro k ⟨h1, h2⟩
    simp only [go_sem, Bool.not_eq_true', Bool.not_eq_false', List.length_map]
    refine ⟨fun h5 => ?_, fun h5 => ?_⟩
    · have hk : k < l.length := by omega
      refine ⟨by omega, ex_get hk ?_⟩
      (refine acall2 [] (has1_ok l[k] a b) (by simp only [go_sem, Bool.not_eq_true', Bool.not_eq_false']; rfl) (fit_of (by simp only [go_sem, Bool.not_eq_true', Bool.not_eq_false']) (by simp only [go_sem, Bool.not_eq_true', Bool.not_eq_false']) (by simp only [go_sem, Bool.not_eq_true', Bool.not_eq_false']) (by simp only [go_sem, Bool.not_eq_true', Bool.not_eq_false']) (by simp only [go_sem, Bool.not_eq_true', Bool.not_eq_false']) (by simp only [go_sem, Bool.not_eq_true', Bool.not_eq_false']) (by simp only [go_sem, Bool.not_eq_true', Bool.not_eq_false'])) ?_; simp only [go_sem, Bool.not_eq_true', Bool.not_eq_false'])
      refine ⟨fun h6 => ?_, fun h6 => ⟨by omega, ?_⟩⟩
      · rw [idxI_at hk h2 h6]
        (refine ret2 [] (by simp only [go_sem, Bool.not_eq_true', Bool.not_eq_false']; rfl) ?_; simp only [go_sem, Bool.not_eq_true', Bool.not_eq_false'])
      · (refine loop_end [] (k + 1) (by simp only [go_sem, Bool.not_eq_true', Bool.not_eq_false']; rfl) ?_ ?_ ?_; (focus first | omega | (simp only; omega)); (focus (simp only [go_sem, Bool.not_eq_true', Bool.not_eq_false']; done)))
        refine ⟨by omega, fun j hj h7 => ?_⟩
        rcases Nat.lt_succ_iff_lt_or_eq.1 h7 with h8 | h8
        · exact h2 j hj h8
        · subst h8; exact h6
    · rw [idxI_no (fun j hj => h2 j hj (by omega))]
      (refine ret2 [] (by simp only [go_sem, Bool.not_eq_true', Bool.not_eq_false']; rfl) ?_; simp only [go_sem, Bool.not_eq_true', Bool.not_eq_false'])
set_option maxRecDepth 100000 in
theorem any6_ok (l : List Int) (a b : Int) (hl : l.length ≤ 9223372036854775807) : FnOk Tryz.prog 149 [.sl 1 (l.map cInt), .clo (.func 150) [.hdr 0]] [(0, .cells 183 [.raw (.int .i64 a), .raw (.int .i64 b)])] (.raw (.bool (l.any (offN a b)))) [(0, .cells 183 [.raw (.int .i64 a), .raw (.int .i64 b)])] := by
  refine fn_of_awp Tryz.func149 rfl (by kernel_rfl) (by kernel_rfl) (Nat.le_of_ble_eq_true rfl) Tryz.results149 ?_
  simp only [go_sem, Bool.not_eq_true', Bool.not_eq_false']
  (refine acall2 [] (idx6_ok l a b hl) (by simp only [go_sem, Bool.not_eq_true', Bool.not_eq_false']; rfl) (fit_of (by simp only [go_sem, Bool.not_eq_true', Bool.not_eq_false']) (by simp only [go_sem, Bool.not_eq_true', Bool.not_eq_false']) (by simp only [go_sem, Bool.not_eq_true', Bool.not_eq_false']) (by simp only [go_sem, Bool.not_eq_true', Bool.not_eq_false']) (by simp only [go_sem, Bool.not_eq_true', Bool.not_eq_false']) (by simp only [go_sem, Bool.not_eq_true', Bool.not_eq_false']) (by simp only [go_sem, Bool.not_eq_true', Bool.not_eq_false'])) ?_; simp only [go_sem, Bool.not_eq_true', Bool.not_eq_false'])
  rw [← idxI_any]
  (refine ret2 [] (by simp only [go_sem, Bool.not_eq_true', Bool.not_eq_false']; rfl) ?_; simp only [go_sem, Bool.not_eq_true', Bool.not_eq_false'])
set_option maxRecDepth 100000 in
theorem has6_ok (l : List Int) (a b : Int) (hl : l.length ≤ 9223372036854775807) : FnOk Tryz.prog 130 [.agg [.raw (.int .i64 a), .raw (.int .i64 b)], .sl 1 (l.map cInt)] [] (.raw (.bool (!l.any (offN a b)))) [] := by
  refine fn_of_awp Tryz.func130 rfl (by kernel_rfl) (by kernel_rfl) (Nat.le_of_ble_eq_true rfl) Tryz.results130 ?_
  simp only [go_sem, Bool.not_eq_true', Bool.not_eq_false']
  (refine acall2 [] (any6_ok l a b hl) (by simp only [go_sem, Bool.not_eq_true', Bool.not_eq_false']; rfl) (fit_of (by simp only [go_sem, Bool.not_eq_true', Bool.not_eq_false']) (by simp only [go_sem, Bool.not_eq_true', Bool.not_eq_false']) (by simp only [go_sem, Bool.not_eq_true', Bool.not_eq_false']) (by simp only [go_sem, Bool.not_eq_true', Bool.not_eq_false']) (by simp only [go_sem, Bool.not_eq_true', Bool.not_eq_false']) (by simp only [go_sem, Bool.not_eq_true', Bool.not_eq_false']) (by simp only [go_sem, Bool.not_eq_true', Bool.not_eq_false'])) ?_; simp only [go_sem, Bool.not_eq_true', Bool.not_eq_false'])
end Go.Proofs.YtblmebjhhanoaaaGreat
/- CHAPTER 06: valid: styles, nodes. -/
/- G -/
/- BOOLS -/
set_option linter.unusedSimpArgs false
set_option linter.unusedVariables false
namespace Go.Proofs.YtblmebjhhanoaaaGreat
open Go.RowKit

def hasL (a b : Int) (l : List Int) : Bool := !l.any (offN a b)
def styB (s : LSty) : Bool := hasL 0 1099511627776 [s.top, s.bottom, s.padTop, s.padBottom, s.inset, s.head] && hasL 1 1099511627776 [s.orphans, s.widows] && hasL 0 4 [s.before, s.after] && hasL 0 1 [s.inside] && hasL 0 3 [s.clear]
theorem hasL_ok (l : List Int) (a b : Int) (hl : l.length ≤ 9223372036854775807) : FnOk Tryz.prog 130 [.agg [.raw (.int .i64 a), .raw (.int .i64 b)], .sl 1 (l.map cInt)] [] (.raw (.bool (hasL a b l))) [] := has6_ok l a b hl
set_option maxRecDepth 100000 in
set_option maxHeartbeats 4000000 in
theorem sty6_ok (s : LSty) : FnOk Tryz.prog 129 [aSty s] [] (.raw (.bool (styB s))) [] := by
  refine fn_of_swp Tryz.func129 rfl (by kernel_rfl) (by kernel_rfl) (Nat.le_of_ble_eq_true rfl) Tryz.results129 ?_
  (refine swp_seqW ?_; simp only [go_sem, Bool.not_eq_true', Bool.not_eq_false'])
  (refine swp_seqW ?_; simp only [go_sem, Bool.not_eq_true', Bool.not_eq_false'])
  (refine swp_seqW ?_; simp only [go_sem, Bool.not_eq_true', Bool.not_eq_false'])
  (refine acallF2 [176 ] [] ( hasL_ok [s.top, s.bottom, s.padTop, s.padBottom, s.inset, s.head] 0 1099511627776 (Nat.le_of_ble_eq_true rfl)) (by simp only [go_sem, Bool.not_eq_true', Bool.not_eq_false']; rfl) (fit_of (by simp only [go_sem, Bool.not_eq_true', Bool.not_eq_false']) (by simp only [go_sem, Bool.not_eq_true', Bool.not_eq_false']) (by simp only [go_sem, Bool.not_eq_true', Bool.not_eq_false']) (by simp only [go_sem, Bool.not_eq_true', Bool.not_eq_false']) (by simp only [go_sem, Bool.not_eq_true', Bool.not_eq_false']) (by simp only [go_sem, Bool.not_eq_true', Bool.not_eq_false']) (by simp only [go_sem, Bool.not_eq_true', Bool.not_eq_false'])) ?_; simp only [go_sem, Bool.not_eq_true', Bool.not_eq_false', Int.reduceToNat, Int.reduceLT, Int.reduceLE, Int.reduceEq, Int.reduceAdd, Int.reduceSub, Int.reduceMul, Int.reduceNeg, Int.reduceNe, decide_false, Int.cast_ofNat_Int, kSet, List.getElem?_cons_succ, List.getElem?_cons_zero, List.set_cons_succ, List.set_cons_zero, exists_eq_left', forall_const, true_implies, List.map])
  refine ⟨fun h1 => ?_, fun h1 => ?_⟩
  · (refine acallF2 [240 ] [] ( hasL_ok [s.orphans, s.widows] 1 1099511627776 (Nat.le_of_ble_eq_true rfl)) (by simp only [go_sem, Bool.not_eq_true', Bool.not_eq_false']; rfl) (fit_of (by simp only [go_sem, Bool.not_eq_true', Bool.not_eq_false']) (by simp only [go_sem, Bool.not_eq_true', Bool.not_eq_false']) (by simp only [go_sem, Bool.not_eq_true', Bool.not_eq_false']) (by simp only [go_sem, Bool.not_eq_true', Bool.not_eq_false']) (by simp only [go_sem, Bool.not_eq_true', Bool.not_eq_false']) (by simp only [go_sem, Bool.not_eq_true', Bool.not_eq_false']) (by simp only [go_sem, Bool.not_eq_true', Bool.not_eq_false'])) ?_; simp only [go_sem, Bool.not_eq_true', Bool.not_eq_false', Int.reduceToNat, Int.reduceLT, Int.reduceLE, Int.reduceEq, Int.reduceAdd, Int.reduceSub, Int.reduceMul, Int.reduceNeg, Int.reduceNe, decide_false, Int.cast_ofNat_Int, kSet, List.getElem?_cons_succ, List.getElem?_cons_zero, List.set_cons_succ, List.set_cons_zero, exists_eq_left', forall_const, true_implies, List.map])
    (refine swp_lastW ?_; simp only [go_sem, Bool.not_eq_true', Bool.not_eq_false', Int.reduceToNat, Int.reduceLT, Int.reduceLE, Int.reduceEq, Int.reduceAdd, Int.reduceSub, Int.reduceMul, Int.reduceNeg, Int.reduceNe, decide_false, Int.cast_ofNat_Int, kSet, List.getElem?_cons_succ, List.getElem?_cons_zero, List.set_cons_succ, List.set_cons_zero, exists_eq_left', forall_const, true_implies])
    refine ⟨fun h2 => ?_, fun h2 => ?_⟩
    · (refine acallF2 [328 ] [] ( hasL_ok [s.before, s.after] 0 4 (Nat.le_of_ble_eq_true rfl)) (by simp only [go_sem, Bool.not_eq_true', Bool.not_eq_false']; rfl) (fit_of (by simp only [go_sem, Bool.not_eq_true', Bool.not_eq_false']) (by simp only [go_sem, Bool.not_eq_true', Bool.not_eq_false']) (by simp only [go_sem, Bool.not_eq_true', Bool.not_eq_false']) (by simp only [go_sem, Bool.not_eq_true', Bool.not_eq_false']) (by simp only [go_sem, Bool.not_eq_true', Bool.not_eq_false']) (by simp only [go_sem, Bool.not_eq_true', Bool.not_eq_false']) (by simp only [go_sem, Bool.not_eq_true', Bool.not_eq_false'])) ?_; simp only [go_sem, Bool.not_eq_true', Bool.not_eq_false', Int.reduceToNat, Int.reduceLT, Int.reduceLE, Int.reduceEq, Int.reduceAdd, Int.reduceSub, Int.reduceMul, Int.reduceNeg, Int.reduceNe, decide_false, Int.cast_ofNat_Int, kSet, List.getElem?_cons_succ, List.getElem?_cons_zero, List.set_cons_succ, List.set_cons_zero, exists_eq_left', forall_const, true_implies, List.map])
      refine ⟨fun h3 => ?_, fun h3 => ?_⟩
      · (refine acallF2 [384 ] [] ( hasL_ok [s.inside] 0 1 (Nat.le_of_ble_eq_true rfl)) (by simp only [go_sem, Bool.not_eq_true', Bool.not_eq_false']; rfl) (fit_of (by simp only [go_sem, Bool.not_eq_true', Bool.not_eq_false']) (by simp only [go_sem, Bool.not_eq_true', Bool.not_eq_false']) (by simp only [go_sem, Bool.not_eq_true', Bool.not_eq_false']) (by simp only [go_sem, Bool.not_eq_true', Bool.not_eq_false']) (by simp only [go_sem, Bool.not_eq_true', Bool.not_eq_false']) (by simp only [go_sem, Bool.not_eq_true', Bool.not_eq_false']) (by simp only [go_sem, Bool.not_eq_true', Bool.not_eq_false'])) ?_; simp only [go_sem, Bool.not_eq_true', Bool.not_eq_false', Int.reduceToNat, Int.reduceLT, Int.reduceLE, Int.reduceEq, Int.reduceAdd, Int.reduceSub, Int.reduceMul, Int.reduceNeg, Int.reduceNe, decide_false, Int.cast_ofNat_Int, kSet, List.getElem?_cons_succ, List.getElem?_cons_zero, List.set_cons_succ, List.set_cons_zero, exists_eq_left', forall_const, true_implies, List.map])
        refine ⟨fun h4 => ?_, fun h4 => ?_⟩
        · (refine acallF2 [440 ] [] ( hasL_ok [s.clear] 0 3 (Nat.le_of_ble_eq_true rfl)) (by simp only [go_sem, Bool.not_eq_true', Bool.not_eq_false']; rfl) (fit_of (by simp only [go_sem, Bool.not_eq_true', Bool.not_eq_false']) (by simp only [go_sem, Bool.not_eq_true', Bool.not_eq_false']) (by simp only [go_sem, Bool.not_eq_true', Bool.not_eq_false']) (by simp only [go_sem, Bool.not_eq_true', Bool.not_eq_false']) (by simp only [go_sem, Bool.not_eq_true', Bool.not_eq_false']) (by simp only [go_sem, Bool.not_eq_true', Bool.not_eq_false']) (by simp only [go_sem, Bool.not_eq_true', Bool.not_eq_false'])) ?_; simp only [go_sem, Bool.not_eq_true', Bool.not_eq_false', Int.reduceToNat, Int.reduceLT, Int.reduceLE, Int.reduceEq, Int.reduceAdd, Int.reduceSub, Int.reduceMul, Int.reduceNeg, Int.reduceNe, decide_false, Int.cast_ofNat_Int, kSet, List.getElem?_cons_succ, List.getElem?_cons_zero, List.set_cons_succ, List.set_cons_zero, exists_eq_left', forall_const, true_implies, List.map])
          simp [styB, *]
        · simp [styB, *]
      · simp [styB, *]
    · simp [styB, *]
  · have e : styB s = false := by simp [styB, h1]
    rw [e]
    (refine swp_lastW ?_; simp only [go_sem, Bool.not_eq_true', Bool.not_eq_false', Int.reduceToNat, Int.reduceLT, Int.reduceLE, Int.reduceEq, Int.reduceAdd, Int.reduceSub, Int.reduceMul, Int.reduceNeg, Int.reduceNe, decide_false, Int.cast_ofNat_Int, kSet, List.getElem?_cons_succ, List.getElem?_cons_zero, List.set_cons_succ, List.set_cons_zero, exists_eq_left', forall_const, true_implies])
def txtB (x : LNo) : Bool := decide (x.line = 0) && decide (x.space = 0) && decide (x.words.length = 0)
def bareB (x : LNo) : Bool := decide (x.st.top = 0) && (decide (x.st.bottom = 0) && (decide (x.st.padTop = 0) && (decide (x.st.padBottom = 0) && (decide (x.st.inset = 0) && (decide (x.st.orphans = 0) && (decide (x.st.widows = 0) && (decide (x.st.head = 0) && (decide (x.st.before = 0) && (decide (x.st.after = 0) && (decide (x.st.inside = 0) && decide (x.st.clear = 0)))))))))))
def nodB (x : LNo) : Bool :=
  if x.kind = 1 then txtB x && decide (x.w = 0) && decide (x.h = 0) && decide (x.side = 0) && styB x.st
  else if x.kind = 2 then bareB x && decide (x.w = 0) && decide (x.h = 0) && decide (x.side = 0) && hasL 1 1099511627776 [x.line] && hasL 1 1099511627776 x.words && hasL 0 1099511627776 [x.space] && decide (0 < x.words.length)
  else if x.kind = 3 then bareB x && txtB x && decide (x.side = 0) && hasL 1 1099511627776 [x.w, x.h]
  else if x.kind = 4 then bareB x && txtB x && hasL 1 1099511627776 [x.w, x.h] && hasL 1 2 [x.side]
  else false
set_option maxRecDepth 100000 in
set_option maxHeartbeats 4000000 in
theorem fits6_ok (x : LNo) (hw : x.words.length ≤ 9223372036854775807) : FnOk Tryz.prog 104 [aNo x] [] (.raw (.bool (nodB x))) [] := by
  refine fn_of_swp Tryz.func104 rfl (by kernel_rfl) (by kernel_rfl) (Nat.le_of_ble_eq_true rfl) Tryz.results104 ?_
  (refine swp_seqW ?_; simp only [go_sem, Bool.not_eq_true', Bool.not_eq_false'])
  (refine swp_seqW ?_; simp only [go_sem, Bool.not_eq_true', Bool.not_eq_false'])
  (refine swp_seqW ?_; simp only [go_sem, Bool.not_eq_true', Bool.not_eq_false'])
  refine swp_cutS (fun b : Bool => ⟨[(1, .hdr 8), (3, .hdr 16), (4, .raw (.bool (bareB x))), (5, .raw (.bool b))], [(8, some (.cells 56 (lNo x))), (16, some (.cells 183 [.raw (.int .i64 1), .raw (.int .i64 1099511627776)]))], none⟩) (fun b => b = txtB x) 4 ?_ ?_
  · (refine swp_lastW ?_; simp only [go_sem, Bool.not_eq_true', Bool.not_eq_false'])
    refine ⟨fun h1 => ⟨fun h2 => ?_, fun h2 => ?_⟩, fun h1 => ?_⟩
    · (refine cut_end [] (decide ((x.words.length : Int) = 0)) (by simp only [go_sem, Bool.not_eq_true', Bool.not_eq_false']; rfl) ?_ ?_; (focus (simp only [go_sem, Bool.not_eq_true', Bool.not_eq_false', bareB]; done)))
      simp only [txtB]; rw [h1, h2]; simp
    · (refine cut_end [] (false) (by simp only [go_sem, Bool.not_eq_true', Bool.not_eq_false']; rfl) ?_ ?_; (focus (simp only [go_sem, Bool.not_eq_true', Bool.not_eq_false', bareB]; done)))
      simp [txtB, h2]
    · (refine cut_end [] (false) (by simp only [go_sem, Bool.not_eq_true', Bool.not_eq_false']; rfl) ?_ ?_; (focus (simp only [go_sem, Bool.not_eq_true', Bool.not_eq_false', bareB]; done)))
      simp [txtB, h1]
  rintro b rfl
  refine swp_seqS ?_
  (refine swp_seqW ?_; simp only [go_sem, Bool.not_eq_true', Bool.not_eq_false'])
  refine swp_block ?_
  (refine swp_seqW ?_; simp only [go_sem, Bool.not_eq_true', Bool.not_eq_false'])
  (refine swp_condW ?_; simp only [go_sem, Bool.not_eq_true', Bool.not_eq_false'])
  refine ⟨fun k1 => ?_, fun k1 => ?_⟩
  · have e : nodB x = (txtB x && decide (x.w = 0) && decide (x.h = 0) && decide (x.side = 0) && styB x.st) := by unfold nodB; rw [if_pos k1]
    rw [e]
    (refine swp_lastW ?_; simp only [go_sem, Bool.not_eq_true', Bool.not_eq_false'])
    repeat' first | contradiction | intro _ | refine And.intro ?_ ?_ | refine ex_get (by omega) ?_ | (show drawB _ _ = true; kernel_rfl) | (refine ret2 [] (by simp only [go_sem, Bool.not_eq_true', Bool.not_eq_false']; rfl) ?_; simp only [go_sem, Bool.not_eq_true', Bool.not_eq_false']) | (refine acall2 [] (sty6_ok x.st) (by simp only [go_sem, Bool.not_eq_true', Bool.not_eq_false']; rfl) (fit_of (by simp only [go_sem, Bool.not_eq_true', Bool.not_eq_false']) (by simp only [go_sem, Bool.not_eq_true', Bool.not_eq_false']) (by simp only [go_sem, Bool.not_eq_true', Bool.not_eq_false']) (by simp only [go_sem, Bool.not_eq_true', Bool.not_eq_false']) (by simp only [go_sem, Bool.not_eq_true', Bool.not_eq_false']) (by simp only [go_sem, Bool.not_eq_true', Bool.not_eq_false']) (by simp only [go_sem, Bool.not_eq_true', Bool.not_eq_false'])) ?_; simp only [go_sem, Bool.not_eq_true', Bool.not_eq_false'])
    all_goals simp [*]
  (refine swp_seqW ?_; simp only [go_sem, Bool.not_eq_true', Bool.not_eq_false'])
  (refine swp_condW ?_; simp only [go_sem, Bool.not_eq_true', Bool.not_eq_false'])
  refine ⟨fun k2 => ?_, fun k2 => ?_⟩
  · have e : nodB x = (bareB x && decide (x.w = 0) && decide (x.h = 0) && decide (x.side = 0) && hasL 1 1099511627776 [x.line] && hasL 1 1099511627776 x.words && hasL 0 1099511627776 [x.space] && decide (0 < x.words.length)) := by unfold nodB; rw [if_neg k1, if_pos k2]
    rw [e]
    (refine swp_lastW ?_; simp only [go_sem, Bool.not_eq_true', Bool.not_eq_false'])
    refine ⟨fun h1 => ⟨fun h2 => ⟨fun h3 => ⟨fun h4 => ?_, fun h4 => ?_⟩, fun h3 => ?_⟩, fun h2 => ?_⟩, fun h1 => ?_⟩
    · (refine acallF2 [240 ] [] ( hasL_ok [x.line] 1 1099511627776 (Nat.le_of_ble_eq_true rfl)) (by simp only [go_sem, Bool.not_eq_true', Bool.not_eq_false']; rfl) (fit_of (by simp only [go_sem, Bool.not_eq_true', Bool.not_eq_false']) (by simp only [go_sem, Bool.not_eq_true', Bool.not_eq_false']) (by simp only [go_sem, Bool.not_eq_true', Bool.not_eq_false']) (by simp only [go_sem, Bool.not_eq_true', Bool.not_eq_false']) (by simp only [go_sem, Bool.not_eq_true', Bool.not_eq_false']) (by simp only [go_sem, Bool.not_eq_true', Bool.not_eq_false']) (by simp only [go_sem, Bool.not_eq_true', Bool.not_eq_false'])) ?_; simp only [go_sem, Bool.not_eq_true', Bool.not_eq_false', Int.reduceToNat, Int.reduceLT, Int.reduceLE, Int.reduceEq, Int.reduceAdd, Int.reduceSub, Int.reduceMul, Int.reduceNeg, Int.reduceNe, decide_false, Int.cast_ofNat_Int, kSet, List.getElem?_cons_succ, List.getElem?_cons_zero, List.set_cons_succ, List.set_cons_zero, exists_eq_left', forall_const, true_implies, List.map])
      refine ⟨fun h5 => ?_, fun h5 => ?_⟩
      · (refine acall2 [] (hasL_ok x.words 1 1099511627776 hw) (by simp only [go_sem, Bool.not_eq_true', Bool.not_eq_false']; rfl) (fit_of (by simp only [go_sem, Bool.not_eq_true', Bool.not_eq_false']) (by simp only [go_sem, Bool.not_eq_true', Bool.not_eq_false']) (by simp only [go_sem, Bool.not_eq_true', Bool.not_eq_false']) (by simp only [go_sem, Bool.not_eq_true', Bool.not_eq_false']) (by simp only [go_sem, Bool.not_eq_true', Bool.not_eq_false']) (by simp only [go_sem, Bool.not_eq_true', Bool.not_eq_false']) (by simp only [go_sem, Bool.not_eq_true', Bool.not_eq_false'])) ?_; simp only [go_sem, Bool.not_eq_true', Bool.not_eq_false'])
        refine ⟨fun h6 => ?_, fun h6 => ?_⟩
        · (refine acallF2 [344 ] [] ( hasL_ok [x.space] 0 1099511627776 (Nat.le_of_ble_eq_true rfl)) (by simp only [go_sem, Bool.not_eq_true', Bool.not_eq_false']; rfl) (fit_of (by simp only [go_sem, Bool.not_eq_true', Bool.not_eq_false']) (by simp only [go_sem, Bool.not_eq_true', Bool.not_eq_false']) (by simp only [go_sem, Bool.not_eq_true', Bool.not_eq_false']) (by simp only [go_sem, Bool.not_eq_true', Bool.not_eq_false']) (by simp only [go_sem, Bool.not_eq_true', Bool.not_eq_false']) (by simp only [go_sem, Bool.not_eq_true', Bool.not_eq_false']) (by simp only [go_sem, Bool.not_eq_true', Bool.not_eq_false'])) ?_; simp only [go_sem, Bool.not_eq_true', Bool.not_eq_false', Int.reduceToNat, Int.reduceLT, Int.reduceLE, Int.reduceEq, Int.reduceAdd, Int.reduceSub, Int.reduceMul, Int.reduceNeg, Int.reduceNe, decide_false, Int.cast_ofNat_Int, kSet, List.getElem?_cons_succ, List.getElem?_cons_zero, List.set_cons_succ, List.set_cons_zero, exists_eq_left', forall_const, true_implies, List.map])
          refine ⟨fun h7 => ?_, fun h7 => ?_⟩ <;> simp [*]
        · simp [*]
      · simp [*]
    all_goals simp [*]
  (refine swp_seqW ?_; simp only [go_sem, Bool.not_eq_true', Bool.not_eq_false'])
  (refine swp_condW ?_; simp only [go_sem, Bool.not_eq_true', Bool.not_eq_false'])
  refine ⟨fun k3 => ?_, fun k3 => ?_⟩
  · have e : nodB x = (bareB x && txtB x && decide (x.side = 0) && hasL 1 1099511627776 [x.w, x.h]) := by unfold nodB; rw [if_neg k1, if_neg k2, if_pos k3]
    rw [e]
    (refine swp_lastW ?_; simp only [go_sem, Bool.not_eq_true', Bool.not_eq_false'])
    refine ⟨fun h1 => ⟨fun h2 => ⟨fun h3 => ?_, fun h3 => ?_⟩, fun h2 => ?_⟩, fun h1 => ?_⟩
    · (refine acallF2 [216 ] [] ( hasL_ok [x.w, x.h] 1 1099511627776 (Nat.le_of_ble_eq_true rfl)) (by simp only [go_sem, Bool.not_eq_true', Bool.not_eq_false']; rfl) (fit_of (by simp only [go_sem, Bool.not_eq_true', Bool.not_eq_false']) (by simp only [go_sem, Bool.not_eq_true', Bool.not_eq_false']) (by simp only [go_sem, Bool.not_eq_true', Bool.not_eq_false']) (by simp only [go_sem, Bool.not_eq_true', Bool.not_eq_false']) (by simp only [go_sem, Bool.not_eq_true', Bool.not_eq_false']) (by simp only [go_sem, Bool.not_eq_true', Bool.not_eq_false']) (by simp only [go_sem, Bool.not_eq_true', Bool.not_eq_false'])) ?_; simp only [go_sem, Bool.not_eq_true', Bool.not_eq_false', Int.reduceToNat, Int.reduceLT, Int.reduceLE, Int.reduceEq, Int.reduceAdd, Int.reduceSub, Int.reduceMul, Int.reduceNeg, Int.reduceNe, decide_false, Int.cast_ofNat_Int, kSet, List.getElem?_cons_succ, List.getElem?_cons_zero, List.set_cons_succ, List.set_cons_zero, exists_eq_left', forall_const, true_implies, List.map])
      simp [*]
    all_goals simp [*]
  (refine swp_seqW ?_; simp only [go_sem, Bool.not_eq_true', Bool.not_eq_false'])
  (refine swp_condW ?_; simp only [go_sem, Bool.not_eq_true', Bool.not_eq_false'])
  refine ⟨fun k4 => ?_, fun k4 => ?_⟩
  · have e : nodB x = (bareB x && txtB x && hasL 1 1099511627776 [x.w, x.h] && hasL 1 2 [x.side]) := by unfold nodB; rw [if_neg k1, if_neg k2, if_neg k3, if_pos k4]
    rw [e]
    (refine swp_lastW ?_; simp only [go_sem, Bool.not_eq_true', Bool.not_eq_false'])
    refine ⟨fun h1 => ⟨fun h2 => ?_, fun h2 => ?_⟩, fun h1 => ?_⟩
    · (refine acallF2 [192 ] [] ( hasL_ok [x.w, x.h] 1 1099511627776 (Nat.le_of_ble_eq_true rfl)) (by simp only [go_sem, Bool.not_eq_true', Bool.not_eq_false']; rfl) (fit_of (by simp only [go_sem, Bool.not_eq_true', Bool.not_eq_false']) (by simp only [go_sem, Bool.not_eq_true', Bool.not_eq_false']) (by simp only [go_sem, Bool.not_eq_true', Bool.not_eq_false']) (by simp only [go_sem, Bool.not_eq_true', Bool.not_eq_false']) (by simp only [go_sem, Bool.not_eq_true', Bool.not_eq_false']) (by simp only [go_sem, Bool.not_eq_true', Bool.not_eq_false']) (by simp only [go_sem, Bool.not_eq_true', Bool.not_eq_false'])) ?_; simp only [go_sem, Bool.not_eq_true', Bool.not_eq_false', Int.reduceToNat, Int.reduceLT, Int.reduceLE, Int.reduceEq, Int.reduceAdd, Int.reduceSub, Int.reduceMul, Int.reduceNeg, Int.reduceNe, decide_false, Int.cast_ofNat_Int, kSet, List.getElem?_cons_succ, List.getElem?_cons_zero, List.set_cons_succ, List.set_cons_zero, exists_eq_left', forall_const, true_implies, List.map])
      refine ⟨fun h3 => ?_, fun h3 => ?_⟩
      · (refine acallF2 [248 ] [] ( hasL_ok [x.side] 1 2 (Nat.le_of_ble_eq_true rfl)) (by simp only [go_sem, Bool.not_eq_true', Bool.not_eq_false']; rfl) (fit_of (by simp only [go_sem, Bool.not_eq_true', Bool.not_eq_false']) (by simp only [go_sem, Bool.not_eq_true', Bool.not_eq_false']) (by simp only [go_sem, Bool.not_eq_true', Bool.not_eq_false']) (by simp only [go_sem, Bool.not_eq_true', Bool.not_eq_false']) (by simp only [go_sem, Bool.not_eq_true', Bool.not_eq_false']) (by simp only [go_sem, Bool.not_eq_true', Bool.not_eq_false']) (by simp only [go_sem, Bool.not_eq_true', Bool.not_eq_false'])) ?_; simp only [go_sem, Bool.not_eq_true', Bool.not_eq_false', Int.reduceToNat, Int.reduceLT, Int.reduceLE, Int.reduceEq, Int.reduceAdd, Int.reduceSub, Int.reduceMul, Int.reduceNeg, Int.reduceNe, decide_false, Int.cast_ofNat_Int, kSet, List.getElem?_cons_succ, List.getElem?_cons_zero, List.set_cons_succ, List.set_cons_zero, exists_eq_left', forall_const, true_implies, List.map])
        simp [*]
      · simp [*]
    all_goals simp [*]
  have e : nodB x = false := by unfold nodB; rw [if_neg k1, if_neg k2, if_neg k3, if_neg k4]
  rw [e]
  (refine swp_lastW ?_; simp only [go_sem, Bool.not_eq_true', Bool.not_eq_false'])
  (refine swp_lastW ?_; simp only [go_sem, Bool.not_eq_true', Bool.not_eq_false'])
end Go.Proofs.YtblmebjhhanoaaaGreat
/- CHAPTER 06: valid: nodes within nodes. -/
/- G -/
/- BOOLS -/
set_option linter.unusedSimpArgs false
set_option linter.unusedVariables false
namespace Go.Proofs.YtblmebjhhanoaaaGreat
open Go.RowKit

def topI (st : List Int) : Int := st.getD (st.length - 1) 0
def popS (i : Int) : Nat → List Int → List Int
  | 0, st => st
  | f + 1, st => if 1 < st.length ∧ topI st = i then popS i f (st.take (st.length - 1)) else st
def isG : List LNo → Nat → List Int → Bool
  | [], _, _ => true
  | x :: l, i, st => nodB x && decide (1 ≤ x.size) && decide (x.size ≤ topI (popS i st.length st) - i) && !(decide (x.kind ≠ 1) && decide (1 < x.size)) && isG l (i + 1) (popS i st.length st ++ [i + x.size])
def isS (l : List LNo) : Bool := isG l 0 [(l.length : Int)]
theorem popS_sub (i : Int) : ∀ f st, (∀ e ∈ popS i f st, e ∈ st) ∧ (popS i f st).length ≤ st.length ∧ (1 ≤ st.length → 1 ≤ (popS i f st).length)
  | 0, st => ⟨fun _ h => h, Nat.le_refl _, fun h => h⟩
  | f + 1, st => by
    rw [popS]
    split
    · next h =>
      obtain ⟨h1, h2, h3⟩ := popS_sub i f (st.take (st.length - 1))
      simp only [List.length_take] at h2 h3
      exact ⟨fun e he => List.mem_of_mem_take (h1 e he), by omega, fun _ => h3 (by omega)⟩
    · exact ⟨fun _ h => h, Nat.le_refl _, fun h => h⟩
theorem topI_mem {st : List Int} (h : 1 ≤ st.length) : topI st ∈ st := by
  unfold topI
  rw [List.getD_eq_getElem?_getD, List.getElem?_eq_getElem (by omega : st.length - 1 < st.length)]
  exact List.getElem_mem _
theorem topI_get {st : List Int} (h : 1 ≤ st.length) : st[st.length - 1]? = some (topI st) := by
  unfold topI
  rw [List.getD_eq_getElem?_getD, List.getElem?_eq_getElem (by omega : st.length - 1 < st.length)]
  rfl
theorem tm1 (k : Nat) : ((k : Int) - 1).toNat = k - 1 := by omega
theorem ex_i {α : Type} {o : Option α} {a : α} {P : α → Prop} (h : o = some a) (p : P a) : ∃ x, o = some x ∧ P x := ⟨a, h, p⟩
structure LIv6 where
  i : Nat
  st : List Int
set_option maxRecDepth 100000 in
set_option maxHeartbeats 4000000 in
theorem is6_ok (l : List LNo) (hl : l.length ≤ 1000) (hw : ∀ x ∈ l, x.words.length ≤ 9223372036854775807) : FnOk Tryz.prog 74 [.sl 20 (l.map cNo)] [] (.raw (.bool (isS l))) [] := by
  refine fn_of_swp Tryz.func74 rfl (by kernel_rfl) (by kernel_rfl) (Nat.le_of_ble_eq_true rfl) Tryz.results74 ?_
  (refine swp_seqW ?_; simp only [go_sem, Bool.not_eq_true', Bool.not_eq_false'])
  (refine swp_seqW ?_; simp only [go_sem, Bool.not_eq_true', Bool.not_eq_false', List.length_map])
  refine swp_cutS (fun _ : Unit => ⟨[], [], none⟩) (fun _ => isS l = true) 4 ?_ ?_
  · (refine swp_seqW ?_; simp only [go_sem, Bool.not_eq_true', Bool.not_eq_false', List.length_map])
    refine swp_block ?_
    refine swp_loop2 [] (fun z : LIv6 => ⟨[(3, .hdr 8), (9, .sl 20 (l.map cNo)), (10, .raw (.int .i64 l.length)), (11, .raw (.int .i64 z.i))], [(8, some (.row 3 1 (z.st.map cInt)))], none⟩) (fun z => z.i ≤ l.length ∧ 1 ≤ z.st.length ∧ z.st.length ≤ z.i + 1 ∧ (∀ e ∈ z.st, 0 ≤ e ∧ e ≤ l.length) ∧ isG (l.drop z.i) z.i z.st = isS l) (fun z => l.length - z.i) 40 ⟨0, [(l.length : Int)]⟩ (by simp only [go_sem, Bool.not_eq_true', Bool.not_eq_false']; rfl) (by simp only [go_sem, Bool.not_eq_true', Bool.not_eq_false']) ?_ ?_
    · exact ⟨Nat.zero_le _, Nat.le_refl _, Nat.le_refl _, fun e he => by simp at he; omega, rfl⟩
    · rintro ⟨i, st⟩ ⟨q1, q2, q3, q4, q5⟩
      simp only at q1 q2 q3 q4 q5
      (refine swp_seqW ?_; simp only [go_sem, Bool.not_eq_true', Bool.not_eq_false'])
      (refine swp_seqW ?_; simp only [go_sem, Bool.not_eq_true', Bool.not_eq_false'])
      refine ⟨fun h5 => ?_, fun h5 => ?_⟩
      rotate_left
      · (refine cut_end [] (()) (by simp only [go_sem, Bool.not_eq_true', Bool.not_eq_false']; rfl) ?_ ?_; (focus (simp only [go_sem, Bool.not_eq_true', Bool.not_eq_false']; done)))
        rw [← q5, List.drop_eq_nil_of_le (by omega)]; rfl
      have hi : i < l.length := by omega
      rw [List.drop_eq_getElem_cons hi, isG] at q5
      have hx := hw l[i] (List.getElem_mem hi)
      have hp := popS_sub i st.length st
      generalize hst : popS i st.length st = st2 at q5 hp
      refine swp_seqS ?_
      refine swp_block ?_
      (refine swp_seqW ?_; simp only [go_sem, Bool.not_eq_true', Bool.not_eq_false'])
      refine ⟨by omega, ex_get hi ?_⟩
      generalize l[i] = x at q5 hx ⊢
      refine swp_cutS (fun _ : Unit => ⟨[(3, .hdr 8), (4, .raw (.int .i64 i)), (5, .hdr 16), (9, .sl 20 (l.map cNo)), (10, .raw (.int .i64 l.length)), (11, .raw (.int .i64 i))], [(8, some (.row 3 1 (st2.map cInt))), (16, some (.cells 56 (lNo x)))], none⟩) (fun _ => True) 60 ?_ ?_
      · refine swp_block ?_
        refine swp_loop2 [] (fun s : List Int => ⟨[(3, .hdr 8), (4, .raw (.int .i64 i)), (5, .hdr 16), (9, .sl 20 (l.map cNo)), (10, .raw (.int .i64 l.length)), (11, .raw (.int .i64 i))], [(8, some (.row 3 1 (s.map cInt))), (16, some (.cells 56 (lNo x)))], none⟩) (fun s => 1 ≤ s.length ∧ s.length ≤ 1001 ∧ ∃ f, s.length ≤ f ∧ popS i f s = st2) (fun s => s.length) 80 st (by simp only [go_sem, Bool.not_eq_true', Bool.not_eq_false']; rfl) (by simp only [go_sem, Bool.not_eq_true', Bool.not_eq_false']) ?_ ?_
        · exact ⟨q2, by omega, st.length, Nat.le_refl _, hst⟩
        · rintro s ⟨p1, p2, f, p3, p4⟩
          obtain ⟨f, rfl⟩ : ∃ g, f = g + 1 := ⟨f - 1, by omega⟩
          rw [popS] at p4
          (refine swp_lastW ?_; simp only [go_sem, Bool.not_eq_true', Bool.not_eq_false', List.length_map, tm1])
          refine ⟨fun h6 => ⟨by omega, by omega, _, topI_get p1, fun h7 => ⟨by omega, by omega, ?_⟩, fun h7 => ?_⟩, fun h6 => ?_⟩
          · rw [if_pos ⟨by omega, h7⟩] at p4
            have e : (s.take (s.length - 1)).length = s.length - 1 := by simp
            (refine loop_end [] (s.take (s.length - 1)) (by simp only [go_sem, Bool.not_eq_true', Bool.not_eq_false']; rfl) ?_ ?_ ?_; (focus first | omega | (simp only; omega)); (focus (simp only [go_sem, Bool.not_eq_true', Bool.not_eq_false']; done)))
            exact ⟨by omega, by omega, f, by omega, p4⟩
          · rw [if_neg (fun q => h7 q.2)] at p4
            subst p4
            (refine cut_end [] (()) (by simp only [go_sem, Bool.not_eq_true', Bool.not_eq_false']; rfl) ?_ ?_; (focus (simp only [go_sem, Bool.not_eq_true', Bool.not_eq_false']; done)))
            trivial
          · rw [if_neg (fun q => h6 (by omega))] at p4
            subst p4
            (refine cut_end [] (()) (by simp only [go_sem, Bool.not_eq_true', Bool.not_eq_false']; rfl) ?_ ?_; (focus (simp only [go_sem, Bool.not_eq_true', Bool.not_eq_false']; done)))
            trivial
      rintro - -
      (refine swp_seqW ?_; simp only [go_sem, Bool.not_eq_true', Bool.not_eq_false'])
      have hp1 : 1 ≤ st2.length := hp.2.2 q2
      have hp2 := q4 _ (hp.1 _ (topI_mem hp1))
      (refine acall2 [] (fits6_ok x hx) (by simp only [go_sem, Bool.not_eq_true', Bool.not_eq_false']; rfl) (fit_of (by simp only [go_sem, Bool.not_eq_true', Bool.not_eq_false']) (by simp only [go_sem, Bool.not_eq_true', Bool.not_eq_false']) (by simp only [go_sem, Bool.not_eq_true', Bool.not_eq_false']) (by simp only [go_sem, Bool.not_eq_true', Bool.not_eq_false']) (by simp only [go_sem, Bool.not_eq_true', Bool.not_eq_false']) (by simp only [go_sem, Bool.not_eq_true', Bool.not_eq_false']) (by simp only [go_sem, Bool.not_eq_true', Bool.not_eq_false'])) ?_; simp only [go_sem, Bool.not_eq_true', Bool.not_eq_false', List.length_map, tm1])
      repeat' first | refine And.intro ?_ ?_ | intro _ | refine ex_i (topI_get hp1) ?_
      all_goals first
        | omega
        | (show drawB _ _ = true; kernel_rfl)
        | (refine Bool.eq_false_iff.2 (fun q => ?_)
           rw [← q5] at q
           simp only [Bool.and_eq_true, Bool.not_eq_true', Bool.and_eq_false_iff, decide_eq_true_eq, decide_eq_false_iff_not] at q
           obtain ⟨⟨⟨⟨u1, u2⟩, u3⟩, u4⟩, u5⟩ := q
           first
             | omega
             | (simp_all; done))
        | skip
      all_goals
        have u : (nodB x && decide (1 ≤ x.size) && decide (x.size ≤ topI st2 - ↑i) && !(decide (x.kind ≠ 1) && decide (1 < x.size))) = true := by
          simp only [Bool.and_eq_true, Bool.not_eq_true', Bool.and_eq_false_iff, decide_eq_true_eq, decide_eq_false_iff_not]
          exact ⟨⟨⟨by assumption, by omega⟩, by omega⟩, by omega⟩
        rw [u, Bool.true_and] at q5
        (refine swp_lastW ?_; simp only [go_sem, Bool.not_eq_true', Bool.not_eq_false', List.length_map])
        refine ⟨by omega, ⟨by omega, by omega⟩, ?_⟩
        (refine swp_lastW ?_; simp only [go_sem, Bool.not_eq_true', Bool.not_eq_false'])
        refine ⟨by omega, ?_⟩
        have e2 : (st2 ++ [(i : Int) + x.size]).length = st2.length + 1 := by simp
        (refine loop_end [] (⟨i + 1, st2 ++ [(i : Int) + x.size]⟩) (by simp only [go_sem, Bool.not_eq_true', Bool.not_eq_false']; rfl) ?_ ?_ ?_; (focus first | omega | (simp only; omega)); (focus (simp only [go_sem, Bool.not_eq_true', Bool.not_eq_false', List.map_append]; done)))
        refine ⟨by simp only; omega, by simp only; omega, by simp only; omega, fun e he => ?_, q5⟩
        rcases List.mem_append.1 he with h | h
        · exact q4 _ (hp.1 _ h)
        · simp only [List.mem_singleton] at h; omega
  rintro - hs
  rw [hs]
  (refine swp_lastW ?_; simp only [go_sem, Bool.not_eq_true', Bool.not_eq_false'])
end Go.Proofs.YtblmebjhhanoaaaGreat
/- CHAPTER 08: tree: of, has, parent. -/
/- G -/
/- BOOLS -/
set_option linter.unusedSimpArgs false
set_option linter.unusedVariables false
namespace Go.Proofs.YtblmebjhhanoaaaGreat
open Go.RowKit

theorem isG_sizes (N : Int) : ∀ (l : List LNo) (i : Nat) (st : List Int), isG l i st = true → 1 ≤ st.length → (∀ e ∈ st, e ≤ N) → ∀ x ∈ l, 1 ≤ x.size ∧ x.size ≤ N
  | [], _, _, _, _, _, x, hx => by cases hx
  | y :: l, i, st, h, h1, h2, x, hx => by
    rw [isG] at h
    simp only [Bool.and_eq_true, Bool.not_eq_true', Bool.and_eq_false_iff, decide_eq_true_eq, decide_eq_false_iff_not] at h
    obtain ⟨⟨⟨⟨u1, u2⟩, u3⟩, u4⟩, u5⟩ := h
    have hp := popS_sub i st.length st
    have ht := h2 _ (hp.1 _ (topI_mem (hp.2.2 h1)))
    rcases List.mem_cons.1 hx with e | e
    · subst e; exact ⟨u2, by omega⟩
    · refine isG_sizes N l (i + 1) _ u5 (by simp) (fun e he => ?_) x e
      rcases List.mem_append.1 he with h | h
      · exact h2 _ (hp.1 _ h)
      · simp only [List.mem_singleton] at h; omega
theorem isS_sizes {l : List LNo} (h : isS l = true) : ∀ x ∈ l, 1 ≤ x.size ∧ x.size ≤ l.length := isG_sizes _ l 0 _ h (Nat.le_refl _) (fun e he => by simp at he; omega)
def docN (l : List LNo) : List LNo := if isS l = true then l else []
theorem docN_len (l : List LNo) : (docN l).length ≤ l.length := by
  unfold docN
  split
  · exact Nat.le_refl _
  · exact Nat.zero_le _
set_option maxRecDepth 100000 in
theorem of8_ok (l : List LNo) (hl : l.length ≤ 1000) (hw : ∀ x ∈ l, x.words.length ≤ 9223372036854775807) : FnOk Tryz.prog 33 [.sl 20 (l.map cNo)] [] (.agg [.sl 20 ((docN l).map cNo)]) [] := by
  refine fn_of_awp Tryz.func33 rfl (by kernel_rfl) (by kernel_rfl) (Nat.le_of_ble_eq_true rfl) Tryz.results33 ?_
  simp only [go_sem, Bool.not_eq_true', Bool.not_eq_false']
  (refine acall2 [] (is6_ok l hl hw) (by simp only [go_sem, Bool.not_eq_true', Bool.not_eq_false']; rfl) (fit_of (by simp only [go_sem, Bool.not_eq_true', Bool.not_eq_false']) (by simp only [go_sem, Bool.not_eq_true', Bool.not_eq_false']) (by simp only [go_sem, Bool.not_eq_true', Bool.not_eq_false']) (by simp only [go_sem, Bool.not_eq_true', Bool.not_eq_false']) (by simp only [go_sem, Bool.not_eq_true', Bool.not_eq_false']) (by simp only [go_sem, Bool.not_eq_true', Bool.not_eq_false']) (by simp only [go_sem, Bool.not_eq_true', Bool.not_eq_false'])) ?_; simp only [go_sem, Bool.not_eq_true', Bool.not_eq_false'])
  refine ⟨fun h => ?_, fun h => ?_⟩
  · have e : docN l = [] := by simp [docN, h]
    rw [e]
    (refine ret2 [40] (by simp only [go_sem, Bool.not_eq_true', Bool.not_eq_false', List.map]; rfl) ?_; simp only [go_sem, Bool.not_eq_true', Bool.not_eq_false', List.map])
  · have e : docN l = l := by simp [docN, h]
    rw [e]
    (refine ret2 [] (by simp only [go_sem, Bool.not_eq_true', Bool.not_eq_false']; rfl) ?_; simp only [go_sem, Bool.not_eq_true', Bool.not_eq_false'])
def hasN (l : List LNo) (a : Int) : Bool := decide (0 ≤ a) && decide (a < l.length)
def sizN (l : List LNo) (k : Nat) : Int := match l[k]? with | some x => x.size | none => 0
theorem sizN_get {l : List LNo} {k : Nat} (hk : k < l.length) : sizN l k = l[k].size := by unfold sizN; rw [List.getElem?_eq_getElem hk]
/-- the parent of a place, among nodes below k. -/
def parI (l : List LNo) (a : Int) : Nat → Int
  | 0 => -1
  | k + 1 => if a < k + sizN l k then k else parI l a k
theorem parI_lt (l : List LNo) (a : Int) : ∀ k, -1 ≤ parI l a k ∧ parI l a k < k
  | 0 => by simp [parI]
  | k + 1 => by
    rw [parI]
    have := parI_lt l a k
    split <;> omega
end Go.Proofs.YtblmebjhhanoaaaGreat
/- CHAPTER 08: tree: Parent, Above. -/
/- G -/
/- BOOLS -/
set_option linter.unusedSimpArgs false
set_option linter.unusedVariables false
namespace Go.Proofs.YtblmebjhhanoaaaGreat
open Go.RowKit

/-- the parent of any place. -/
def parN (l : List LNo) (a : Int) : Int := if hasN l a = true then parI l a a.toNat else -1
end Go.Proofs.YtblmebjhhanoaaaGreat
/- CHAPTER 08: tree: Holds, Kids. -/
/- G -/
/- BOOLS -/
set_option linter.unusedSimpArgs false
set_option linter.unusedVariables false
namespace Go.Proofs.YtblmebjhhanoaaaGreat
open Go.RowKit

def holN (l : List LNo) (a b : Int) : Bool := hasN l a && hasN l b && decide (a ≤ b) && decide (b < a + sizN l a.toNat)
def kidS (l : List LNo) (e : Int) : Nat → Nat → List Int
  | 0, _ => []
  | f + 1, k => if (k : Int) < e then (k : Int) :: kidS l e f (k + (sizN l k).toNat) else []
def kidN (l : List LNo) (a : Int) : List Int :=
  if a = -1 then kidS l l.length l.length 0
  else if hasN l a = true then kidS l (a + sizN l a.toNat) l.length (a.toNat + 1) else []
structure LKd where
  e : Int
  k : Nat
  acc : List Int
end Go.Proofs.YtblmebjhhanoaaaGreat
/- CHAPTER 08: tree: Above. -/
/- G -/
/- BOOLS -/
set_option linter.unusedSimpArgs false
set_option linter.unusedVariables false
namespace Go.Proofs.YtblmebjhhanoaaaGreat
open Go.RowKit

def abvL (l : List LNo) : Nat → Int → List Int
  | 0, _ => []
  | f + 1, p => if 0 ≤ p then p :: abvL l f (parI l p p.toNat) else []
def abvN (l : List LNo) (a : Int) : List Int := if hasN l a = true then abvL l l.length (parI l a a.toNat) else []
structure LAb where
  p : Int
  acc : List Int
end Go.Proofs.YtblmebjhhanoaaaGreat
/- CHAPTER 08: tree: Rooms (under way). -/
/- G -/
/- BOOLS -/
set_option linter.unusedSimpArgs false
set_option linter.unusedVariables false
namespace Go.Proofs.YtblmebjhhanoaaaGreat
open Go.RowKit

structure LRm where
  x : Int
  w : Int
deriving DecidableEq
def cRm (r : LRm) : List PV := [.raw (.int .i64 r.x), .raw (.int .i64 r.w)]
attribute [go_sem] cRm
def insN (l : List LNo) (k : Nat) : Int := match l[k]? with | some x => x.st.inset | none => 0
theorem insN_get {l : List LNo} {k : Nat} (hk : k < l.length) : insN l k = l[k].st.inset := by unfold insN; rw [List.getElem?_eq_getElem hk]
def inR (l : List LNo) (k : Nat) (r : LRm) : LRm := ⟨min (r.x + insN l k) 1099511627776, max (r.w - 2 * insN l k) 1⟩
def putS (l : List LNo) : Nat → Nat → Int → LRm → List LRm
  | 0, _, _, _ => []
  | f + 1, k, e, r => if (k : Int) < e then r :: (putS l f (k + 1) (k + sizN l k) (inR l k r) ++ putS l f (k + (sizN l k).toNat) e r) else []
def okR (r : LRm) : Prop := 0 ≤ r.x ∧ r.x ≤ 1099511627776 ∧ 1 ≤ r.w ∧ r.w ≤ 1099511627776
abbrev putO (l : List LNo) (i : Nat) : List (Nat × AO) := [(0, .cells 22 [.sl 20 (l.map cNo)]), (1, .cells 35 [.hdr i]), (2, .cells 79 [.clo (.func 34) [.hdr 0, .hdr 1, .hdr 2]])]
def nst (l : List LNo) : Nat → Nat → Int → Prop
  | 0, _, _ => False
  | f + 1, k, e => (k : Int) ≤ e ∧ ((k : Int) < e → 1 ≤ sizN l k ∧ k + sizN l k ≤ e ∧ nst l f (k + 1) (k + sizN l k) ∧ nst l f (k + (sizN l k).toNat) e)
theorem putS_len (l : List LNo) : ∀ (f k : Nat) (e : Int) (r : LRm), nst l f k e → ((putS l f k e r).length : Int) = e - k
  | 0, k, e, r, h => absurd h (by simp [nst])
  | f + 1, k, e, r, h => by
    obtain ⟨h1, h2⟩ := h
    rw [putS]
    split
    · next q =>
      obtain ⟨u1, u2, u3, u4⟩ := h2 q
      have e1 := putS_len l f (k + 1) (k + sizN l k) (inR l k r) u3
      have e2 := putS_len l f (k + (sizN l k).toNat) e r u4
      simp only [List.length_cons, List.length_append]
      omega
    · simp only [List.length_nil]; omega
theorem nst_le (l : List LNo) {f k : Nat} {e : Int} (h : nst l f k e) : (k : Int) ≤ e := by
  cases f with
  | zero => exact absurd h (by simp [nst])
  | succ f => exact h.1
structure LPt where
  k : Nat
  acc : List LRm
set_option maxRecDepth 100000 in
set_option maxHeartbeats 4000000 in
theorem put8_ok (l : List LNo) (hl : l.length ≤ 1000) (hi : ∀ x ∈ l, 0 ≤ x.st.inset ∧ x.st.inset ≤ 1099511627776) : ∀ (F f : Nat), f ≤ F → ∀ (k : Nat) (e : Int) (r : LRm) (acc : List LRm), okR r → e ≤ l.length → nst l f k e → acc.length ≤ k → 
    FnOk Tryz.prog 34 [.raw (.int .i64 k), .raw (.int .i64 e), .agg [.raw (.int .i64 r.x), .raw (.int .i64 r.w)], .hdr 0, .hdr 1, .hdr 2] [(0, .cells 22 [.sl 20 (l.map cNo)]), (1, .cells 35 [.hdr 3]), (2, .cells 79 [.clo (.func 34) [.hdr 0, .hdr 1, .hdr 2]]), (3, .row 49 2 (acc.map cRm))] (.tup []) [(0, .cells 22 [.sl 20 (l.map cNo)]), (1, .cells 35 [.hdr 8]), (2, .cells 79 [.clo (.func 34) [.hdr 0, .hdr 1, .hdr 2]]), (8, .row 49 2 ((acc ++ putS l f k e r).map cRm))]
  | 0, f, hf, k, e, r, acc, h1, h2, h3, h5 => by
    obtain rfl : f = 0 := by omega
    exact absurd h3 (by simp [nst])
  | F + 1, f, hf, k, e, r, acc, h1, h2, h3, h5 => by
    refine fn_of_swp Tryz.func34 rfl (by kernel_rfl) (by kernel_rfl) (Nat.le_of_ble_eq_true rfl) Tryz.results34 ?_
    (refine swp_seqW ?_; simp only [go_sem, Bool.not_eq_true', Bool.not_eq_false'])
    (refine swp_seqW ?_; simp only [go_sem, Bool.not_eq_true', Bool.not_eq_false'])
    refine swp_block ?_
    refine swp_loop2 [] (fun z : LPt => ⟨[(1, .raw (.int .i64 e)), (3, .hdr 0), (4, .hdr 1), (5, .hdr 2), (8, .hdr 8), (9, .raw (.int .i64 z.k))], [(1, some (.cells 35 [.hdr 16])), (8, some (.cells 49 [.raw (.int .i64 r.x), .raw (.int .i64 r.w)])), (0, some (.cells 22 [.sl 20 (l.map cNo)])), (2, some (.cells 79 [.clo (.func 34) [.hdr 0, .hdr 1, .hdr 2]])), (16, some (.row 49 2 (z.acc.map cRm)))], none⟩) (fun z => ∃ g, g ≤ f ∧ nst l g z.k e ∧ z.acc ++ putS l g z.k e r = acc ++ putS l f k e r ∧ z.acc.length ≤ z.k) (fun z => l.length - z.k) 4 ⟨k, acc⟩ (by simp only [go_sem, Bool.not_eq_true', Bool.not_eq_false']; rfl) (by simp only [go_sem, Bool.not_eq_true', Bool.not_eq_false']) ?_ ?_
    · exact ⟨f, Nat.le_refl _, h3, rfl, h5⟩
    · rintro ⟨kk, ac⟩ ⟨g, g1, g2, g3, g4⟩
      simp only at g1 g2 g3 g4
      obtain ⟨g, rfl⟩ : ∃ g', g = g' + 1 := by
        cases g with
        | zero => exact absurd g2 (by simp [nst])
        | succ g => exact ⟨g, rfl⟩
      (refine swp_seqW ?_; simp only [go_sem, Bool.not_eq_true', Bool.not_eq_false'])
      refine ⟨fun q => ?_, fun q => ?_⟩
      · obtain ⟨u1, u2, u3, u4⟩ := g2.2 q
        have hk : kk < l.length := by omega
        have hin := hi l[kk] (List.getElem_mem hk)
        have hsz := sizN_get hk
        have hii := insN_get hk
        obtain ⟨m, hm⟩ : ∃ m : Nat, sizN l kk = m := ⟨(sizN l kk).toNat, by omega⟩
        have e1 := putS_len l g (kk + 1) (kk + sizN l kk) (inR l kk r) u3
        rw [putS, if_pos q] at g3
        refine swp_seqS ?_
        refine swp_block ?_
        (refine swp_seqW ?_; simp only [go_sem, Bool.not_eq_true', Bool.not_eq_false'])
        refine ⟨⟨by omega, by omega⟩, ?_⟩
        (refine swp_seqW ?_; simp only [go_sem, Bool.not_eq_true', Bool.not_eq_false'])
        refine ⟨⟨by omega, by omega⟩, l[kk], List.getElem?_eq_getElem hk, ?_⟩
        (refine swp_lastW ?_; simp only [go_sem, Bool.not_eq_true', Bool.not_eq_false'])
        have er : inR l kk r = ⟨min (r.x + l[kk].st.inset) 1099511627776, max (r.w - 2 * l[kk].st.inset) 1⟩ := by unfold inR; rw [hii]
        obtain ⟨o1, o2, o3, o4⟩ := h1
        rw [er] at e1 g3
        rw [hsz] at e1 u1 u2 u3 u4 g3 hm
        refine ⟨by omega, ⟨by omega, by omega⟩, l[kk], List.getElem?_eq_getElem hk, by omega, by omega, by omega, by omega, ?_⟩
        have em : ac.map cRm ++ [[PV.raw (.int .i64 r.x), PV.raw (.int .i64 r.w)]] = (ac ++ [r]).map cRm := by simp [cRm]
        rw [em]
        (refine acall2 [] (put8_ok l hl hi F g (by omega) (kk + 1) (kk + l[kk].size) ⟨min (r.x + l[kk].st.inset) 1099511627776, max (r.w - 2 * l[kk].st.inset) 1⟩ (ac ++ [r]) ⟨by simp only; omega, by simp only; omega, by simp only; omega, by simp only; omega⟩ (by omega) u3 (by simp; omega)) (by simp only [go_sem, Bool.not_eq_true', Bool.not_eq_false']; rfl) (fit_of (by simp only [go_sem, Bool.not_eq_true', Bool.not_eq_false']) (by simp only [go_sem, Bool.not_eq_true', Bool.not_eq_false']) (by simp only [go_sem, Bool.not_eq_true', Bool.not_eq_false']) (by simp only [go_sem, Bool.not_eq_true', Bool.not_eq_false']) (by simp only [go_sem, Bool.not_eq_true', Bool.not_eq_false']) (by simp only [go_sem, Bool.not_eq_true', Bool.not_eq_false']) (by simp only [go_sem, Bool.not_eq_true', Bool.not_eq_false'])) ?_; simp only [go_sem, Bool.not_eq_true', Bool.not_eq_false'])
        refine ⟨(by show drawB _ _ = true; kernel_rfl), ?_⟩
        (refine swp_lastW ?_; simp only [go_sem, Bool.not_eq_true', Bool.not_eq_false'])
        refine ⟨⟨by omega, by omega⟩, l[kk], List.getElem?_eq_getElem hk, by omega, ?_⟩
        rw [hm] at g3 e1 u1 u2 u4 ⊢
        simp only [Int.toNat_natCast] at g3 u4
        generalize putS l g (kk + 1) (kk + (m : Int)) _ = pp at g3 e1 ⊢
        have e5 : (ac ++ [r] ++ pp).length = ac.length + 1 + pp.length := by simp; omega
        (refine loop_end [] (⟨kk + m, ac ++ [r] ++ pp⟩) (by simp only [go_sem, Bool.not_eq_true', Bool.not_eq_false']; rfl) ?_ ?_ ?_; (focus first | omega | (simp only; omega)); (focus (simp only [go_sem, Bool.not_eq_true', Bool.not_eq_false']; done)))
        exact ⟨g, by omega, u4, by rw [← g3]; simp, by simp only; omega⟩
      · rw [← g3, putS, if_neg q, List.append_nil]
        (refine ret2 [] (by simp only [go_sem, Bool.not_eq_true', Bool.not_eq_false']; rfl) ?_; simp only [go_sem, Bool.not_eq_true', Bool.not_eq_false'])
end Go.Proofs.YtblmebjhhanoaaaGreat
/- CHAPTER 08: tree: Rooms. -/
/- G -/
/- BOOLS -/
set_option linter.unusedSimpArgs false
set_option linter.unusedVariables false
namespace Go.Proofs.YtblmebjhhanoaaaGreat
open Go.RowKit

def romN (l : List LNo) (w : Int) : List LRm := if 1 ≤ w ∧ w ≤ 1099511627776 then putS l (l.length + 1) 0 (docN l).length ⟨0, w⟩ else []
set_option maxRecDepth 100000 in
set_option maxHeartbeats 4000000 in
theorem rooms8_ok (l : List LNo) (w : Int) (hl : l.length ≤ 1000) (hw : ∀ x ∈ l, x.words.length ≤ 9223372036854775807) (hi : ∀ x ∈ l, 0 ≤ x.st.inset ∧ x.st.inset ≤ 1099511627776) (hn : nst l (l.length + 1) 0 (docN l).length) : FnOk Tryz.prog 12 [.sl 20 (l.map cNo), .raw (.int .i64 w)] [] (.hdr 8) [(8, .row 49 2 ((romN l w).map cRm))] := by
  have hd := docN_len l
  refine fn_of_swp Tryz.func12 rfl (by kernel_rfl) (by kernel_rfl) (Nat.le_of_ble_eq_true rfl) Tryz.results12 ?_
  (refine swp_seqW ?_; simp only [go_sem, Bool.not_eq_true', Bool.not_eq_false'])
  (refine swp_seqW ?_; simp only [go_sem, Bool.not_eq_true', Bool.not_eq_false'])
  (refine acall2 [] (of8_ok l hl hw) (by simp only [go_sem, Bool.not_eq_true', Bool.not_eq_false']; rfl) (fit_of (by simp only [go_sem, Bool.not_eq_true', Bool.not_eq_false']) (by simp only [go_sem, Bool.not_eq_true', Bool.not_eq_false']) (by simp only [go_sem, Bool.not_eq_true', Bool.not_eq_false']) (by simp only [go_sem, Bool.not_eq_true', Bool.not_eq_false']) (by simp only [go_sem, Bool.not_eq_true', Bool.not_eq_false']) (by simp only [go_sem, Bool.not_eq_true', Bool.not_eq_false']) (by simp only [go_sem, Bool.not_eq_true', Bool.not_eq_false'])) ?_; simp only [go_sem, Bool.not_eq_true', Bool.not_eq_false'])
  (refine swp_seqW ?_; simp only [go_sem, Bool.not_eq_true', Bool.not_eq_false'])
  repeat' first | contradiction | intro _ | refine And.intro ?_ ?_ | refine ex_get (by omega) ?_ | (show drawB _ _ = true; kernel_rfl) | (refine ret2 [] (by simp only [go_sem, Bool.not_eq_true', Bool.not_eq_false']; rfl) ?_; simp only [go_sem, Bool.not_eq_true', Bool.not_eq_false'])
  rotate_left
  · (refine swp_seqW ?_; simp only [go_sem, Bool.not_eq_true', Bool.not_eq_false'])
    (refine swp_seqW ?_; simp only [go_sem, Bool.not_eq_true', Bool.not_eq_false'])
    (refine swp_seqW ?_; simp only [go_sem, Bool.not_eq_true', Bool.not_eq_false'])
    (refine swp_seqW ?_; simp only [go_sem, Bool.not_eq_true', Bool.not_eq_false', List.length_map])
    (refine acall2 [] (put8_ok l hl hi (l.length + 1) (l.length + 1) (Nat.le_refl _) 0 (docN l).length ⟨0, w⟩ [] ⟨by simp, by simp, by simp only; omega, by simp only; omega⟩ (by omega) hn (Nat.le_refl _)) (by simp only [go_sem, Bool.not_eq_true', Bool.not_eq_false']; rfl) (fit_of (by simp only [go_sem, Bool.not_eq_true', Bool.not_eq_false']) (by simp only [go_sem, Bool.not_eq_true', Bool.not_eq_false']) (by simp only [go_sem, Bool.not_eq_true', Bool.not_eq_false']) (by simp only [go_sem, Bool.not_eq_true', Bool.not_eq_false']) (by simp only [go_sem, Bool.not_eq_true', Bool.not_eq_false']) (by simp only [go_sem, Bool.not_eq_true', Bool.not_eq_false']) (by simp only [go_sem, Bool.not_eq_true', Bool.not_eq_false'])) ?_; simp only [go_sem, Bool.not_eq_true', Bool.not_eq_false'])
    have er : romN l w = putS l (l.length + 1) 0 (docN l).length ⟨0, w⟩ := by unfold romN; rw [if_pos ⟨by omega, by omega⟩]
    rw [er]
    (refine swp_lastW ?_; simp only [go_sem, Bool.not_eq_true', Bool.not_eq_false'])
    (refine ret2 [] (by simp only [go_sem, Bool.not_eq_true', Bool.not_eq_false']; rfl) ?_; simp only [go_sem, Bool.not_eq_true', Bool.not_eq_false'])
  all_goals
    have er : romN l w = [] := by unfold romN; rw [if_neg (by omega)]
    rw [er]
    rfl
end Go.Proofs.YtblmebjhhanoaaaGreat
/- CHAPTER 08: nodes of a document lie within one another. -/
/- G -/
set_option linter.unusedSimpArgs false
set_option linter.unusedVariables false
namespace Go.Proofs.YtblmebjhhanoaaaGreat
open Go.RowKit

theorem nst_fuel (l : List LNo) : ∀ (g f k : Nat) (e : Int), nst l f k e → e - k < g → nst l g k e
  | 0, f, k, e, h, q => absurd (nst_le l h) (by omega)
  | g + 1, 0, k, e, h, q => absurd h (by simp [nst])
  | g + 1, f + 1, k, e, h, q => by
    obtain ⟨h1, h2⟩ := h
    refine ⟨h1, fun h => ?_⟩
    obtain ⟨u1, u2, u3, u4⟩ := h2 h
    exact ⟨u1, u2, nst_fuel l g f _ _ u3 (by omega), nst_fuel l g f _ _ u4 (by omega)⟩
def chn (l : List LNo) : Nat → List Int → Prop
  | _, [] => True
  | k, e :: s => (∃ f, nst l f k e) ∧ chn l e.toNat s
theorem topI_rev (a : Int) (t : List Int) : topI (a :: t).reverse = a := by
  unfold topI
  simp [List.getD_eq_getElem?_getD]
theorem take_rev (a : Int) (t : List Int) : (a :: t).reverse.take ((a :: t).reverse.length - 1) = t.reverse := by
  simp
def popR (i : Int) : List Int → List Int
  | a :: b :: t => if a = i then popR i (b :: t) else a :: b :: t
  | s => s
theorem popS_rev (i : Int) : ∀ (f : Nat) (R : List Int), R.length ≤ f → popS i f R.reverse = (popR i R).reverse
  | 0, R, h => by
    obtain rfl : R = [] := List.eq_nil_of_length_eq_zero (by omega)
    rfl
  | f + 1, [], h => by simp [popS, popR]
  | f + 1, [a], h => by simp [popS, popR]
  | f + 1, a :: b :: t, h => by
    rw [popS, topI_rev, take_rev, popR]
    by_cases q : a = i
    · rw [if_pos ⟨by simp, q⟩, if_pos q]
      exact popS_rev i f (b :: t) (by simp only [List.length_cons] at h ⊢; omega)
    · rw [if_neg (fun z => q z.2), if_neg q]
def gdR (k N : Int) : List Int → Prop
  | [] => False
  | [a] => k ≤ a ∧ a = N
  | a :: b :: t => k ≤ a ∧ gdR a N (b :: t)
theorem gdR_le {k N : Int} : ∀ {R : List Int}, gdR k N R → k ≤ N
  | [], h => absurd h (by simp [gdR])
  | [a], h => by obtain ⟨h1, h2⟩ := h; omega
  | a :: b :: t, h => by obtain ⟨h1, h2⟩ := h; have := gdR_le h2; omega
theorem gdR_to {k k2 N a : Int} {t : List Int} (h : gdR k N (a :: t)) (q : k2 ≤ a) : gdR k2 N (a :: t) := by
  cases t with
  | nil => exact ⟨q, h.2⟩
  | cons b t => exact ⟨q, h.2⟩
theorem popR_gd {k N : Int} (hk : k < N) : ∀ (R : List Int), gdR k N R → gdR (k + 1) N (popR k R)
  | [], h => absurd h (by simp [gdR])
  | [a], h => by obtain ⟨h1, h2⟩ := h; exact ⟨by omega, h2⟩
  | a :: b :: t, h => by
    rw [popR]
    split
    · next q => subst q; exact popR_gd hk (b :: t) h.2
    · next q => exact ⟨by have := h.1; omega, h.2⟩
theorem nst_same (l : List LNo) (k : Nat) : nst l 1 k k := ⟨Int.le_refl _, fun h => absurd h (by omega)⟩
theorem popR_chn (l : List LNo) (k : Nat) : ∀ (R : List Int), chn l k (popR k R) → chn l k R
  | [], h => h
  | [a], h => h
  | a :: b :: t, h => by
    rw [popR] at h
    split at h
    · next q => subst q; exact ⟨⟨1, nst_same l k⟩, popR_chn l k (b :: t) h⟩
    · exact h
theorem chn_end (l : List LNo) (k : Nat) : ∀ (R : List Int), gdR k k R → chn l k R
  | [], h => trivial
  | [a], h => by obtain ⟨h1, h2⟩ := h; subst h2; exact ⟨⟨1, nst_same l k⟩, trivial⟩
  | a :: b :: t, h => by
    obtain ⟨h1, h2⟩ := h
    have h3 := gdR_le h2
    obtain rfl : a = k := by omega
    exact ⟨⟨1, nst_same l k⟩, chn_end l k (b :: t) h2⟩
theorem isG_chn (l : List LNo) : ∀ (m k : Nat) (R : List Int), m + k = l.length → gdR k l.length R → isG (l.drop k) k R.reverse = true → chn l k R
  | 0, k, R, hm, hg, h => by
    have e : (l.length : Int) = k := by omega
    rw [e] at hg
    exact chn_end l k R hg
  | m + 1, k, R, hm, hg, h => by
    have hk : k < l.length := by omega
    rw [List.drop_eq_getElem_cons hk, isG, popS_rev _ _ _ (by simp)] at h
    simp only [Bool.and_eq_true, Bool.not_eq_true', Bool.and_eq_false_iff, decide_eq_true_eq, decide_eq_false_iff_not] at h
    obtain ⟨⟨⟨⟨u1, u2⟩, u3⟩, u4⟩, u5⟩ := h
    have hg2 := popR_gd (by omega) R hg
    refine popR_chn l k R ?_
    generalize popR (k : Int) R = R2 at u3 u5 hg2 ⊢
    cases R2 with
    | nil => exact absurd hg2 (by simp [gdR])
    | cons e t =>
      rw [topI_rev] at u3
      have hs := sizN_get hk
      obtain ⟨s, hs2⟩ : ∃ s : Nat, l[k].size = s := ⟨l[k].size.toNat, by omega⟩
      rw [hs2] at u2 u3 u5 hs
      have hR : (e :: t).reverse ++ [(k : Int) + (s : Int)] = (((k : Int) + (s : Int)) :: e :: t).reverse := by simp
      rw [hR] at u5
      have hc := isG_chn l m (k + 1) (((k : Int) + (s : Int)) :: e :: t) (by omega) ⟨by omega, gdR_to hg2 (by omega)⟩ u5
      obtain ⟨⟨f1, n1⟩, ⟨f2, n2⟩, hc⟩ := hc
      have ek : ((k : Int) + (s : Int)).toNat = k + s := by omega
      rw [ek] at n2
      refine ⟨⟨f1 + f2 + (e - k).toNat + 1 + s, ?_⟩, hc⟩
      refine nst_fuel l _ ((e - k).toNat + s + 1) k e ⟨by omega, fun _ => ⟨by omega, by omega, ?_, ?_⟩⟩ (by omega)
      · rw [hs]; exact nst_fuel l _ f1 (k + 1) _ n1 (by omega)
      · rw [hs, Int.toNat_natCast]; exact nst_fuel l _ f2 (k + s) e n2 (by omega)
theorem isS_nst {l : List LNo} (h : isS l = true) : nst l (l.length + 1) 0 l.length := by
  have hc := isG_chn l l.length 0 [(l.length : Int)] (by omega) ⟨by omega, rfl⟩ h
  obtain ⟨⟨f, n⟩, -⟩ := hc
  exact nst_fuel l _ f 0 _ n (by omega)
end Go.Proofs.YtblmebjhhanoaaaGreat
/- CHAPTER 08: tree: Rooms, of any nodes. -/
/- G -/
/- BOOLS -/
set_option linter.unusedSimpArgs false
set_option linter.unusedVariables false
namespace Go.Proofs.YtblmebjhhanoaaaGreat
open Go.RowKit

theorem nodB_ins {x : LNo} (h : nodB x = true) : 0 ≤ x.st.inset ∧ x.st.inset ≤ 1099511627776 := by
  unfold nodB at h
  have hb : bareB x = true → 0 ≤ x.st.inset ∧ x.st.inset ≤ 1099511627776 := by
    intro q
    simp only [bareB, Bool.and_eq_true, decide_eq_true_eq] at q
    omega
  split at h
  · simp only [Bool.and_eq_true, styB, hasL, Bool.not_eq_true', List.any_cons, Bool.or_eq_false_iff, offN, decide_eq_false_iff_not] at h
    omega
  · split at h
    · simp only [Bool.and_eq_true] at h
      exact hb h.1.1.1.1.1.1.1
    · split at h
      · simp only [Bool.and_eq_true] at h
        exact hb h.1.1.1
      · split at h
        · simp only [Bool.and_eq_true] at h
          exact hb h.1.1.1
        · cases h
theorem isG_nod : ∀ (l : List LNo) (i : Nat) (st : List Int), isG l i st = true → ∀ x ∈ l, nodB x = true
  | [], _, _, _, x, hx => by cases hx
  | y :: l, i, st, h, x, hx => by
    rw [isG] at h
    simp only [Bool.and_eq_true] at h
    rcases List.mem_cons.1 hx with e | e
    · subst e; exact h.1.1.1.1
    · exact isG_nod l (i + 1) _ h.2 x e
theorem isS_ins {l : List LNo} (h : isS l = true) : ∀ x ∈ l, 0 ≤ x.st.inset ∧ x.st.inset ≤ 1099511627776 := fun x hx => nodB_ins (isG_nod l 0 _ h x hx)
end Go.Proofs.YtblmebjhhanoaaaGreat
/- CHAPTER 05: nodes in memory of their own; are nodes the same? -/
/- G -/
/- BOOLS -/
set_option linter.unusedSimpArgs false
set_option linter.unusedVariables false
namespace Go.Proofs.YtblmebjhhanoaaaGreat
open Go.RowKit

end Go.Proofs.YtblmebjhhanoaaaGreat
/- CHAPTER 06: the document's answer: which nodes are a document's. -/
/- G -/
/- BOOLS -/
set_option linter.unusedSimpArgs false
set_option linter.unusedVariables false
namespace Go.Proofs.YtblmebjhhanoaaaGreat
open Go.RowKit

def frB (n a b : Int) : Bool := decide (a ≤ n) && decide (n ≤ b)
end Go.Proofs.YtblmebjhhanoaaaGreat
/- CHAPTER 06: the document's answer: rows within rows. -/
/- G -/
/- BOOLS -/
set_option linter.unusedSimpArgs false
set_option linter.unusedVariables false
namespace Go.Proofs.YtblmebjhhanoaaaGreat
open Go.RowKit

def kinN (l : List LNo) (k : Nat) : Int := match l[k]? with | some x => x.kind | none => 0
def rowB (l : List LNo) : Nat → Nat → Int → Bool
  | 0, _, _ => true
  | f + 1, k, e => if (k : Int) < e then decide (1 ≤ sizN l k) && decide (sizN l k ≤ e - k) && !(decide (kinN l k ≠ 1) && decide (1 < sizN l k)) && rowB l f (k + 1) (k + sizN l k) && rowB l f (k + (sizN l k).toNat) e else true
def isR (l : List LNo) : Bool := l.all nodB && rowB l (l.length + 1) 0 l.length
end Go.Proofs.YtblmebjhhanoaaaGreat
/- CHAPTERS 06, 08: nodes of a document: the program's test is the answer's; who stands in whom. -/
/- G -/
set_option linter.unusedSimpArgs false
set_option linter.unusedVariables false
namespace Go.Proofs.YtblmebjhhanoaaaGreat
open Go.RowKit

def leafB (x : LNo) : Bool := !(decide (x.kind ≠ 1) && decide (1 < x.size))
end Go.Proofs.YtblmebjhhanoaaaGreat
/- CHAPTER 08: the document's answer: who stands in whom. -/
/- G -/
/- BOOLS -/
set_option linter.unusedSimpArgs false
set_option linter.unusedVariables false
namespace Go.Proofs.YtblmebjhhanoaaaGreat
open Go.RowKit

/-- the places above, among those below k. -/
def abvD (l : List LNo) (a : Int) : Nat → List Int
  | 0 => []
  | k + 1 => if a < k + sizN l k then (k : Int) :: abvD l a k else abvD l a k
def abvR (l : List LNo) (a : Int) : List Int := if hasN l a = true then abvD l a a.toNat else []
end Go.Proofs.YtblmebjhhanoaaaGreat
/- CHAPTER 08: the document's answer: parents, kids, rooms. -/
/- G -/
/- BOOLS -/
set_option linter.unusedSimpArgs false
set_option linter.unusedVariables false
namespace Go.Proofs.YtblmebjhhanoaaaGreat
open Go.RowKit

def kidR (l : List LNo) (a : Int) (k : Nat) : List Int := ((List.range k).filter (fun i : Nat => decide (parN l i = a))).map (fun i : Nat => (i : Int))
end Go.Proofs.YtblmebjhhanoaaaGreat
/- CHAPTER 08: the document's answer: rooms. -/
/- G -/
/- BOOLS -/
set_option linter.unusedSimpArgs false
set_option linter.unusedVariables false
namespace Go.Proofs.YtblmebjhhanoaaaGreat
open Go.RowKit

def rmR (l : List LNo) (w : Int) : Nat → Nat → LRm
  | 0, _ => ⟨0, w⟩
  | f + 1, i => if parN l i < 0 then ⟨0, w⟩ else inR l (parN l i).toNat (rmR l w f (parN l i).toNat)
theorem parN_lt (l : List LNo) (i : Nat) : -1 ≤ parN l i ∧ parN l i < i := by
  unfold parN
  split
  · exact parI_lt l i _
  · omega
theorem inR_ok {l : List LNo} (hi : ∀ x ∈ l, 0 ≤ x.st.inset ∧ x.st.inset ≤ 1099511627776) {k : Nat} {r : LRm} (h : okR r) : okR (inR l k r) := by
  obtain ⟨h1, h2, h3, h4⟩ := h
  have : 0 ≤ insN l k ∧ insN l k ≤ 1099511627776 := by
    unfold insN
    cases e : l[k]? with
    | none => simp
    | some x => exact hi x (List.mem_of_getElem? e)
  refine ⟨?_, ?_, ?_, ?_⟩ <;> (simp only [inR]; omega)
theorem rmR_ok {l : List LNo} (hi : ∀ x ∈ l, 0 ≤ x.st.inset ∧ x.st.inset ≤ 1099511627776) {w : Int} (hw : 1 ≤ w ∧ w ≤ 1099511627776) : ∀ f i, okR (rmR l w f i)
  | 0, i => ⟨by simp [rmR], by simp [rmR], hw.1, hw.2⟩
  | f + 1, i => by
    rw [rmR]
    split
    · exact ⟨by simp, by simp, hw.1, hw.2⟩
    · exact inR_ok hi (rmR_ok hi hw f _)
theorem rmR_fuel (l : List LNo) (w : Int) : ∀ f g i, i < f → i < g → rmR l w f i = rmR l w g i
  | 0, _, i, h, _ => absurd h (Nat.not_lt_zero _)
  | _ + 1, 0, i, _, h => absurd h (Nat.not_lt_zero _)
  | f + 1, g + 1, i, h1, h2 => by
    have hp := parN_lt l i
    rw [rmR, rmR]
    split
    · rfl
    · rw [rmR_fuel l w f g _ (by omega) (by omega)]
def rmsR (l : List LNo) (w : Int) (k : Nat) : List LRm := (List.range k).map (fun i => rmR l w l.length i)
theorem rmsR_len (l : List LNo) (w : Int) (k : Nat) : (rmsR l w k).length = k := by simp [rmsR]
def rmsN (l : List LNo) (w : Int) : List LRm := if 1 ≤ w ∧ w ≤ 1099511627776 then rmsR l w l.length else []
end Go.Proofs.YtblmebjhhanoaaaGreat
/- CHAPTER 08: the plain law: the program's trees are the answer's. -/
/- G -/
set_option linter.unusedSimpArgs false
set_option linter.unusedVariables false
namespace Go.Proofs.YtblmebjhhanoaaaGreat
open Go.RowKit

theorem nst_lam (l : List LNo) : ∀ (f k : Nat) (e : Int), nst l f k e → ∀ j : Nat, k ≤ j → (j : Int) < e → 1 ≤ sizN l j ∧ j + sizN l j ≤ e ∧ ∀ i : Nat, j < i → (i : Int) < j + sizN l j → i + sizN l i ≤ j + sizN l j
  | 0, k, e, h, _, _, _ => absurd h (by simp [nst])
  | f + 1, k, e, h, j, h1, h2 => by
    obtain ⟨u1, u2, u3, u4⟩ := h.2 (by omega)
    by_cases h3 : j = k
    · subst h3
      exact ⟨u1, u2, fun i h4 h5 => (nst_lam l f _ _ u3 i (by omega) h5).2.1⟩
    · by_cases h4 : (j : Int) < k + sizN l k
      · obtain ⟨w1, w2, w3⟩ := nst_lam l f _ _ u3 j (by omega) h4
        exact ⟨w1, by omega, w3⟩
      · exact nst_lam l f _ _ u4 j (by omega) h2
structure Lam (l : List LNo) : Prop where
  pos : ∀ j : Nat, j < l.length → 1 ≤ sizN l j
  fin : ∀ j : Nat, j < l.length → j + sizN l j ≤ l.length
  nest : ∀ j i : Nat, j < l.length → j < i → (i : Int) < j + sizN l j → i + sizN l i ≤ j + sizN l j
theorem isS_lam {l : List LNo} (h : isS l = true) : Lam l := by
  have := nst_lam l _ _ _ (isS_nst h)
  exact ⟨fun j hj => (this j (Nat.zero_le _) (by omega)).1, fun j hj => (this j (Nat.zero_le _) (by omega)).2.1, fun j i hj => (this j (Nat.zero_le _) (by omega)).2.2 i⟩
theorem parI_is {l : List LNo} {a : Int} {p : Nat} : ∀ {k : Nat}, p < k → a < p + sizN l p → (∀ i : Nat, p < i → i < k → ¬ a < i + sizN l i) → parI l a k = p
  | 0, h, _, _ => absurd h (Nat.not_lt_zero _)
  | k + 1, h, h1, h2 => by
    rw [parI]
    by_cases e : p = k
    · subst e; rw [if_pos h1]
    · rw [if_neg (h2 k (by omega) (by omega))]
      exact parI_is (by omega) h1 (fun i a b => h2 i a (by omega))
theorem parI_no {l : List LNo} {a : Int} : ∀ {k : Nat}, (∀ i : Nat, i < k → ¬ a < i + sizN l i) → parI l a k = -1
  | 0, _ => rfl
  | k + 1, h => by
    rw [parI, if_neg (h k (by omega))]
    exact parI_no fun i hi => h i (by omega)
/-- whom a row of kids belongs to, up to where, from where on. -/
structure Row (l : List LNo) (a e : Int) (k : Nat) : Prop where
  le : (k : Int) ≤ e
  lt : a < k
  en : e ≤ l.length
  own : 0 ≤ a → e = a + sizN l a.toNat
  top : a < 0 → e = l.length
  low : -1 ≤ a
  bd : ∀ i : Nat, a < i → i < k → i + sizN l i ≤ k
theorem parN_nat {l : List LNo} {k : Nat} (h : k < l.length) : parN l k = parI l k k := by
  unfold parN
  rw [if_pos (by simp only [hasN, Bool.and_eq_true, decide_eq_true_eq]; omega), Int.toNat_natCast]
theorem Row.par {l : List LNo} {a e : Int} {k : Nat} (h : Row l a e k) (hk : (k : Int) < e) : parN l k = a := by
  have := h.en
  rw [parN_nat (by omega)]
  have hlow := h.low
  by_cases q : 0 ≤ a
  · obtain ⟨p, rfl⟩ : ∃ p : Nat, a = p := ⟨a.toNat, by omega⟩
    have e1 := h.own q
    rw [Int.toNat_natCast] at e1
    exact parI_is (by have := h.lt; omega) (by omega) fun i h1 h2 h3 => by have := h.bd i (by omega) h2; omega
  · obtain rfl : a = -1 := by omega
    exact parI_no fun i h2 h3 => by have := h.bd i (by omega) h2; omega
theorem Row.next {l : List LNo} (hl : Lam l) {a e : Int} {k : Nat} (h : Row l a e k) (hk : (k : Int) < e) : Row l a e (k + (sizN l k).toNat) := by
  have h0 := h.en
  have h1 := hl.pos k (by omega)
  have hf := hl.fin k (by omega)
  have hlow := h.low
  have hlt := h.lt
  have hbd := h.bd
  refine ⟨?_, by omega, h.en, h.own, h.top, h.low, fun i h2 h3 => ?_⟩
  · by_cases q : 0 ≤ a
    · obtain ⟨p, rfl⟩ : ∃ p : Nat, a = p := ⟨a.toNat, by omega⟩
      have e1 := h.own q
      rw [Int.toNat_natCast] at e1
      have := hl.nest p k (by omega) (by omega) (by omega)
      omega
    · have := h.top (by omega)
      omega
  · by_cases h4 : i < k
    · have := hbd i h2 h4; omega
    · by_cases h5 : i = k
      · subst h5; omega
      · have := hl.nest k i (by omega) (by omega) (by omega); omega
theorem Row.down {l : List LNo} (hl : Lam l) {k : Nat} (hk : k < l.length) : Row l k (k + sizN l k) (k + 1) := by
  have h1 := hl.pos k hk
  have h2 := hl.fin k hk
  exact ⟨by omega, by omega, by omega, fun _ => by rw [Int.toNat_natCast], fun q => absurd q (by omega), by omega, fun i a b => by omega⟩
theorem range_split (k s m : Nat) : List.range' k (s + m) = List.range' k s ++ List.range' (k + s) m := by
  rw [List.range'_append_1]
theorem Row.all (l : List LNo) : Row l (-1) l.length 0 := ⟨by omega, by omega, by omega, fun q => absurd q (by omega), fun _ => rfl, by omega, fun i _ h => absurd h (Nat.not_lt_zero _)⟩
def valR (l : List LNo) (w a : Int) : LRm := if a < 0 then ⟨0, w⟩ else inR l a.toNat (rmR l w l.length a.toNat)
theorem rmR_val {l : List LNo} {w : Int} {i : Nat} (h : i < l.length) : rmR l w l.length i = valR l w (parN l i) := by
  have hp := parN_lt l i
  obtain ⟨m, hm⟩ : ∃ m, l.length = m + 1 := ⟨l.length - 1, by omega⟩
  unfold valR
  rw [hm, rmR]
  split
  · rfl
  · rw [rmR_fuel l w m (m + 1) _ (by omega) (by omega)]
theorem putS_eq {l : List LNo} (hl : Lam l) {w : Int} : ∀ (f k : Nat) (a e : Int), Row l a e k → nst l f k e → putS l f k e (valR l w a) = (List.range' k (e - k).toNat).map (fun i => rmR l w l.length i)
  | 0, k, a, e, h, hn => absurd hn (by simp [nst])
  | f + 1, k, a, e, h, hn => by
    rw [putS]
    split
    · next q =>
      obtain ⟨u1, u2, u3, u4⟩ := hn.2 q
      have h0 := h.en
      have hk : k < l.length := by omega
      have hr := rmR_val (w := w) hk
      rw [h.par q] at hr
      have hv : inR l k (valR l w a) = valR l w k := by
        rw [← hr]
        unfold valR
        rw [if_neg (by omega), Int.toNat_natCast]
      have hnx := h.next hl q
      have hle := hnx.le
      rw [hv, putS_eq hl f (k + 1) k (k + sizN l k) (Row.down hl hk) u3, putS_eq hl f _ a e hnx u4]
      have e1 : (e - k).toNat = 1 + (((k : Int) + sizN l k - (k + 1 : Nat)).toNat + (e - (k + (sizN l k).toNat : Nat)).toNat) := by omega
      have e2 : k + 1 + ((k : Int) + sizN l k - (k + 1 : Nat)).toNat = k + (sizN l k).toNat := by omega
      rw [e1, range_split, range_split, e2]
      simp [hr]
    · have : (e - k).toNat = 0 := by omega
      rw [this]; rfl
theorem rooms_eq {l : List LNo} (h : isS l = true) (w : Int) : romN l w = rmsN l w := by
  have e : docN l = l := by simp [docN, h]
  unfold romN rmsN
  rw [e]
  split
  · have := putS_eq (isS_lam h) (w := w) _ _ _ _ (Row.all l) (isS_nst h)
    have e1 : valR l w (-1) = ⟨0, w⟩ := if_pos (by omega)
    rw [e1] at this
    rw [this]
    have e2 : ((l.length : Int) - (0 : Nat)).toNat = l.length := by omega
    rw [e2, rmsR, List.range_eq_range']
  · rfl
end Go.Proofs.YtblmebjhhanoaaaGreat
/- CHAPTERS 14, 15: atoms; rows of atoms, of floats that are alike; what is near. -/
/- G -/
/- BOOLS -/
/- GET ex_atA ex_atA' -/
set_option linter.unusedSimpArgs false
set_option linter.unusedVariables false
namespace Go.Proofs.YtblmebjhhanoaaaGreat
open Go.RowKit

structure LAt where
  kind : Int
  node : Int
  fr : Int
  to : Int
  x : Int
  y : Int
  w : Int
  h : Int
deriving DecidableEq
def cAt (a : LAt) : List PV := [.raw (.int .i64 a.kind), .raw (.int .i64 a.node), .raw (.int .i64 a.fr), .raw (.int .i64 a.to), .raw (.int .i64 a.x), .raw (.int .i64 a.y), .raw (.int .i64 a.w), .raw (.int .i64 a.h)]
def aAt (a : LAt) : AV := .agg [.raw (.int .i64 a.kind), .raw (.int .i64 a.node), .raw (.int .i64 a.fr), .raw (.int .i64 a.to), .raw (.int .i64 a.x), .raw (.int .i64 a.y), .raw (.int .i64 a.w), .raw (.int .i64 a.h)]
attribute [go_sem] cAt aAt
def atA (l : List LAt) (q : Int) : LAt := l[q.toNat]?.getD ⟨0, 0, 0, 0, 0, 0, 0, 0⟩
theorem atA_get {l : List LAt} {q : Int} (h : q.toNat < l.length) : l[q.toNat]? = some (atA l q) := by simp [atA, h]
theorem ex_atA {l : List LAt} {q : Int} {C : LAt → Prop} (h : q.toNat < l.length) (hC : C (atA l q)) : ∃ x, l[q.toNat]? = some x ∧ C x := ⟨_, atA_get h, hC⟩
theorem ex_atA' {l : List LAt} {k : Nat} {C : LAt → Prop} (h : k < l.length) (hC : C (atA l k)) : ∃ x, l[k]? = some x ∧ C x := ex_atA (q := k) (by omega) hC
theorem fl_ext {x y : LFl} (h : (decide (x.node = y.node) && (decide (x.side = y.side) && (decide (x.anchor = y.anchor) && (decide (x.x = y.x) && (decide (x.y = y.y) && (decide (x.w = y.w) && decide (x.h = y.h))))))) = true) : x = y := by
  simp at h
  cases x; cases y; simp_all
theorem at_ext {x y : LAt} (h : (decide (x.kind = y.kind) && (decide (x.node = y.node) && (decide (x.fr = y.fr) && (decide (x.to = y.to) && (decide (x.x = y.x) && (decide (x.y = y.y) && (decide (x.w = y.w) && decide (x.h = y.h)))))))) = true) : x = y := by
  simp at h
  cases x; cases y; simp_all
set_option maxRecDepth 100000 in
theorem fsame_ok (a b : List LFl) (hl : a.length ≤ 4000) (hb : b.length ≤ 4000) : FnOk Tryz.prog 31 [.sl 7 (a.map cFl), .sl 7 (b.map cFl)] [] (.raw (.bool (decide (a = b)))) [] := by
  refine fn_of_awp Tryz.func31 rfl (by kernel_rfl) (by kernel_rfl) (Nat.le_of_ble_eq_true rfl) Tryz.results31 ?_
  simp only [go_sem, Bool.not_eq_true', Bool.not_eq_false', List.length_map]
  refine ⟨fun h => ?_, fun h => ?_⟩
  · exact fun e => h (by rw [e])
  refine aloop2 [] (fun k : Nat => ⟨[(0, .sl 7 (a.map cFl)), (1, .sl 7 (b.map cFl)), (5, .raw (.int .i64 k))], [], none⟩) (fun k => k ≤ a.length ∧ a.take k = b.take k) (fun k => a.length - k) 4 0 (by simp only [go_sem, Bool.not_eq_true', Bool.not_eq_false']; rfl) (by simp only [go_sem, Bool.not_eq_true', Bool.not_eq_false']) ?_ ?_
  · exact ⟨Nat.zero_le _, rfl⟩
  · rintro k ⟨hk, ht⟩
    simp only [go_sem, Bool.not_eq_true', Bool.not_eq_false', List.length_map]
    have hlen : a.length = b.length := by omega
    refine ⟨fun h5 => ?_, fun h5 => ?_⟩
    · have ka : k < a.length := by omega
      have kb : k < b.length := by omega
      refine ⟨by omega, ex_get ka ⟨by omega, ex_get kb ?_⟩⟩
      repeat' first | contradiction | intro _ | refine And.intro ?_ ?_ | refine ex_atA (by omega) ?_ | refine ex_atA' (by omega) ?_ | refine ex_get (by omega) ?_ | (show drawB _ _ = true; kernel_rfl) | (refine ret2 [] (by simp only [go_sem, Bool.not_eq_true', Bool.not_eq_false']; rfl) ?_; simp only [go_sem, Bool.not_eq_true', Bool.not_eq_false'])
      all_goals first
        | omega
        | (have e : a = b := by assumption
           subst e
           simp_all; done)
        | ((refine loop_end [] (k + 1) (by simp only [go_sem, Bool.not_eq_true', Bool.not_eq_false']; rfl) ?_ ?_ ?_; (focus first | omega | (simp only; omega)); (focus (simp only [go_sem, Bool.not_eq_true', Bool.not_eq_false']; done)))
           refine ⟨by omega, ?_⟩
           rw [List.take_succ_eq_append_getElem ka, List.take_succ_eq_append_getElem kb, ht, fl_ext (x := a[k]) (y := b[k]) (by assumption)])
    · have e : a = b := by
        have h1 : a.take k = a := List.take_of_length_le (by omega)
        have h2 : b.take k = b := List.take_of_length_le (by omega)
        rw [← h1, ← h2, ht]
      first | exact e | (rw [decide_eq_true e])
set_option maxRecDepth 100000 in
theorem same14_ok (a b : List LAt) (hl : a.length ≤ 4000) (hb : b.length ≤ 4000) : FnOk Tryz.prog 30 [.sl 8 (a.map cAt), .sl 8 (b.map cAt)] [] (.raw (.bool (decide (a = b)))) [] := by
  refine fn_of_awp Tryz.func30 rfl (by kernel_rfl) (by kernel_rfl) (Nat.le_of_ble_eq_true rfl) Tryz.results30 ?_
  simp only [go_sem, Bool.not_eq_true', Bool.not_eq_false', List.length_map]
  refine ⟨fun h => ?_, fun h => ?_⟩
  · exact fun e => h (by rw [e])
  refine aloop2 [] (fun k : Nat => ⟨[(0, .sl 8 (a.map cAt)), (1, .sl 8 (b.map cAt)), (5, .raw (.int .i64 k))], [], none⟩) (fun k => k ≤ a.length ∧ a.take k = b.take k) (fun k => a.length - k) 4 0 (by simp only [go_sem, Bool.not_eq_true', Bool.not_eq_false']; rfl) (by simp only [go_sem, Bool.not_eq_true', Bool.not_eq_false']) ?_ ?_
  · exact ⟨Nat.zero_le _, rfl⟩
  · rintro k ⟨hk, ht⟩
    simp only [go_sem, Bool.not_eq_true', Bool.not_eq_false', List.length_map]
    have hlen : a.length = b.length := by omega
    refine ⟨fun h5 => ?_, fun h5 => ?_⟩
    · have ka : k < a.length := by omega
      have kb : k < b.length := by omega
      refine ⟨by omega, ex_get ka ⟨by omega, ex_get kb ?_⟩⟩
      repeat' first | contradiction | intro _ | refine And.intro ?_ ?_ | refine ex_atA (by omega) ?_ | refine ex_atA' (by omega) ?_ | refine ex_get (by omega) ?_ | (show drawB _ _ = true; kernel_rfl) | (refine ret2 [] (by simp only [go_sem, Bool.not_eq_true', Bool.not_eq_false']; rfl) ?_; simp only [go_sem, Bool.not_eq_true', Bool.not_eq_false'])
      all_goals first
        | omega
        | (have e : a = b := by assumption
           subst e
           simp_all; done)
        | ((refine loop_end [] (k + 1) (by simp only [go_sem, Bool.not_eq_true', Bool.not_eq_false']; rfl) ?_ ?_ ?_; (focus first | omega | (simp only; omega)); (focus (simp only [go_sem, Bool.not_eq_true', Bool.not_eq_false']; done)))
           refine ⟨by omega, ?_⟩
           rw [List.take_succ_eq_append_getElem ka, List.take_succ_eq_append_getElem kb, ht, at_ext (x := a[k]) (y := b[k]) (by assumption)])
    · have e : a = b := by
        have h1 : a.take k = a := List.take_of_length_le (by omega)
        have h2 : b.take k = b := List.take_of_length_le (by omega)
        rw [← h1, ← h2, ht]
      first | exact e | (rw [decide_eq_true e])
/-- what chapter 15 speaks of. -/
def good15 (l : List LAt) (k : Nat) : Bool := decide (((-1125899906842624 ≤ (atA l k).x ∧ (atA l k).x ≤ 1125899906842624) ∧ (-1125899906842624 ≤ (atA l k).y ∧ (atA l k).y ≤ 1125899906842624) ∧ (-1125899906842624 ≤ (atA l k).w ∧ (atA l k).w ≤ 1125899906842624) ∧ (-1125899906842624 ≤ (atA l k).h ∧ (atA l k).h ≤ 1125899906842624)) ∧ (0 < (k : Int) → (atA l ((k : Int) - 1)).node ≤ (atA l k).node))
def near15 (l : List LAt) : Bool := (List.range l.length).all (good15 l)
def Near15 (l : List LAt) : Prop := ∀ q : Int, 0 ≤ q → q < l.length → ((-1125899906842624 ≤ (atA l q).x ∧ (atA l q).x ≤ 1125899906842624) ∧ (-1125899906842624 ≤ (atA l q).y ∧ (atA l q).y ≤ 1125899906842624) ∧ (-1125899906842624 ≤ (atA l q).w ∧ (atA l q).w ≤ 1125899906842624) ∧ (-1125899906842624 ≤ (atA l q).h ∧ (atA l q).h ≤ 1125899906842624)) ∧ (0 < q → (atA l (q - 1)).node ≤ (atA l q).node)
end Go.Proofs.YtblmebjhhanoaaaGreat
/- CHAPTER 13: the pen. -/
/- G -/
/- BOOLS -/
set_option linter.unusedSimpArgs false
set_option linter.unusedVariables false
namespace Go.Proofs.YtblmebjhhanoaaaGreat
open Go.RowKit

structure LPen where
  y : Int
  m : Int
deriving DecidableEq
def aPen (p : LPen) : AV := .agg [.raw (.int .i64 p.y), .raw (.int .i64 p.m)]
attribute [go_sem] aPen
def penP (p : LPen) (n : Int) : LPen := if 0 < n then ⟨p.y + p.m + n, 0⟩ else p
def penE (p : LPen) (mg n : Int) : LPen := penP ⟨p.y, max p.m mg⟩ n
def penL (p : LPen) (mg n : Int) : LPen := ⟨(penP p n).y, max (penP p n).m mg⟩
def penC (p : LPen) (low : Int) : LPen := if p.y + p.m < low then ⟨low, 0⟩ else p
def nr52 (x : Int) : Prop := -4503599627370496 ≤ x ∧ x ≤ 4503599627370496
structure PenOk (p : LPen) (a b : Int) : Prop where
  y : -4503599627370496 ≤ p.y ∧ p.y ≤ 4503599627370496
  m : -4503599627370496 ≤ p.m ∧ p.m ≤ 4503599627370496
  a : -4503599627370496 ≤ a ∧ a ≤ 4503599627370496
  b : -4503599627370496 ≤ b ∧ b ≤ 4503599627370496
set_option maxRecDepth 100000 in
theorem pat_ok (p : LPen) (h : PenOk p 0 0) : FnOk Tryz.prog 16 [aPen p] [] (.raw (.int .i64 (p.y + p.m))) [] := by
  have := h.y
  have := h.m
  refine fn_of_awp Tryz.func16 rfl (by kernel_rfl) (by kernel_rfl) (Nat.le_of_ble_eq_true rfl) Tryz.results16 ?_
  simp only [go_sem, Bool.not_eq_true', Bool.not_eq_false']
  repeat' first | contradiction | intro _ | refine And.intro ?_ ?_ | refine ex_get (by omega) ?_ | (show drawB _ _ = true; kernel_rfl) | (refine ret2 [] (by simp only [go_sem, Bool.not_eq_true', Bool.not_eq_false']; rfl) ?_; simp only [go_sem, Bool.not_eq_true', Bool.not_eq_false'])
  all_goals omega
set_option maxRecDepth 100000 in
theorem pwiden_ok (p : LPen) (mg : Int) : FnOk Tryz.prog 76 [.hdr 0, .raw (.int .i64 mg)] [(0, .cells 124 [.raw (.int .i64 p.y), .raw (.int .i64 p.m)])] (.tup []) [(0, .cells 124 [.raw (.int .i64 p.y), .raw (.int .i64 (max p.m mg))])] := by
  refine fn_of_awp Tryz.func76 rfl (by kernel_rfl) (by kernel_rfl) (Nat.le_of_ble_eq_true rfl) Tryz.results76 ?_
  simp only [go_sem, Bool.not_eq_true', Bool.not_eq_false']
  (refine ret2 [] (by simp only [go_sem, Bool.not_eq_true', Bool.not_eq_false']; rfl) ?_; simp only [go_sem, Bool.not_eq_true', Bool.not_eq_false'])
set_option maxRecDepth 100000 in
theorem ppad_ok (p : LPen) (n : Int) (h : PenOk p n 0) : FnOk Tryz.prog 77 [.hdr 0, .raw (.int .i64 n)] [(0, .cells 124 [.raw (.int .i64 p.y), .raw (.int .i64 p.m)])] (.tup []) [(0, .cells 124 [.raw (.int .i64 (penP p n).y), .raw (.int .i64 (penP p n).m)])] := by
  have := h.y
  have := h.m
  have := h.a
  have e1 : 0 < n → penP p n = ⟨p.y + p.m + n, 0⟩ := fun q => by unfold penP; rw [if_pos q]
  have e2 : ¬ 0 < n → penP p n = p := fun q => by unfold penP; rw [if_neg q]
  refine fn_of_awp Tryz.func77 rfl (by kernel_rfl) (by kernel_rfl) (Nat.le_of_ble_eq_true rfl) Tryz.results77 ?_
  simp only [go_sem, Bool.not_eq_true', Bool.not_eq_false']
  repeat' first | contradiction | intro _ | refine And.intro ?_ ?_ | refine ex_get (by omega) ?_ | (show drawB _ _ = true; kernel_rfl) | (refine ret2 [] (by simp only [go_sem, Bool.not_eq_true', Bool.not_eq_false']; rfl) ?_; simp only [go_sem, Bool.not_eq_true', Bool.not_eq_false'])
  all_goals first
    | omega
    | (refine ⟨(show drawB _ _ = true by kernel_rfl), ?_⟩)
    | (rw [e1 (by assumption)])
    | (rw [e2 (by assumption)])
    | skip
set_option maxRecDepth 100000 in
theorem penter_ok (p : LPen) (mg n : Int) (h : PenOk p mg n) : FnOk Tryz.prog 37 [aPen p, .raw (.int .i64 mg), .raw (.int .i64 n)] [] (aPen (penE p mg n)) [] := by
  have h2 := h.y
  have h3 := h.m
  have h4 := h.a
  have h5 := h.b
  have hp : PenOk ⟨p.y, max p.m mg⟩ n 0 := ⟨h2, by simp only; omega, h5, by omega⟩
  refine fn_of_awp Tryz.func37 rfl (by kernel_rfl) (by kernel_rfl) (Nat.le_of_ble_eq_true rfl) Tryz.results37 ?_
  simp only [go_sem, Bool.not_eq_true', Bool.not_eq_false']
  (refine acall2 [] (pwiden_ok p mg) (by simp only [go_sem, Bool.not_eq_true', Bool.not_eq_false']; rfl) (fit_of (by simp only [go_sem, Bool.not_eq_true', Bool.not_eq_false']) (by simp only [go_sem, Bool.not_eq_true', Bool.not_eq_false']) (by simp only [go_sem, Bool.not_eq_true', Bool.not_eq_false']) (by simp only [go_sem, Bool.not_eq_true', Bool.not_eq_false']) (by simp only [go_sem, Bool.not_eq_true', Bool.not_eq_false']) (by simp only [go_sem, Bool.not_eq_true', Bool.not_eq_false']) (by simp only [go_sem, Bool.not_eq_true', Bool.not_eq_false'])) ?_; simp only [go_sem, Bool.not_eq_true', Bool.not_eq_false'])
  (refine acall2 [] (ppad_ok ⟨p.y, max p.m mg⟩ n hp) (by simp only [go_sem, Bool.not_eq_true', Bool.not_eq_false']; rfl) (fit_of (by simp only [go_sem, Bool.not_eq_true', Bool.not_eq_false']) (by simp only [go_sem, Bool.not_eq_true', Bool.not_eq_false']) (by simp only [go_sem, Bool.not_eq_true', Bool.not_eq_false']) (by simp only [go_sem, Bool.not_eq_true', Bool.not_eq_false']) (by simp only [go_sem, Bool.not_eq_true', Bool.not_eq_false']) (by simp only [go_sem, Bool.not_eq_true', Bool.not_eq_false']) (by simp only [go_sem, Bool.not_eq_true', Bool.not_eq_false'])) ?_; simp only [go_sem, Bool.not_eq_true', Bool.not_eq_false'])
  exact ⟨rfl, rfl⟩
set_option maxRecDepth 100000 in
theorem pleave_ok (p : LPen) (mg n : Int) (h : PenOk p mg n) : FnOk Tryz.prog 39 [aPen p, .raw (.int .i64 mg), .raw (.int .i64 n)] [] (aPen (penL p mg n)) [] := by
  have h2 := h.y
  have h3 := h.m
  have h4 := h.a
  have h5 := h.b
  have hp : PenOk p n 0 := ⟨h2, h3, h5, by omega⟩
  refine fn_of_awp Tryz.func39 rfl (by kernel_rfl) (by kernel_rfl) (Nat.le_of_ble_eq_true rfl) Tryz.results39 ?_
  simp only [go_sem, Bool.not_eq_true', Bool.not_eq_false']
  (refine acall2 [] (ppad_ok p n hp) (by simp only [go_sem, Bool.not_eq_true', Bool.not_eq_false']; rfl) (fit_of (by simp only [go_sem, Bool.not_eq_true', Bool.not_eq_false']) (by simp only [go_sem, Bool.not_eq_true', Bool.not_eq_false']) (by simp only [go_sem, Bool.not_eq_true', Bool.not_eq_false']) (by simp only [go_sem, Bool.not_eq_true', Bool.not_eq_false']) (by simp only [go_sem, Bool.not_eq_true', Bool.not_eq_false']) (by simp only [go_sem, Bool.not_eq_true', Bool.not_eq_false']) (by simp only [go_sem, Bool.not_eq_true', Bool.not_eq_false'])) ?_; simp only [go_sem, Bool.not_eq_true', Bool.not_eq_false'])
  (refine acall2 [] (pwiden_ok (penP p n) mg) (by simp only [go_sem, Bool.not_eq_true', Bool.not_eq_false']; rfl) (fit_of (by simp only [go_sem, Bool.not_eq_true', Bool.not_eq_false']) (by simp only [go_sem, Bool.not_eq_true', Bool.not_eq_false']) (by simp only [go_sem, Bool.not_eq_true', Bool.not_eq_false']) (by simp only [go_sem, Bool.not_eq_true', Bool.not_eq_false']) (by simp only [go_sem, Bool.not_eq_true', Bool.not_eq_false']) (by simp only [go_sem, Bool.not_eq_true', Bool.not_eq_false']) (by simp only [go_sem, Bool.not_eq_true', Bool.not_eq_false'])) ?_; simp only [go_sem, Bool.not_eq_true', Bool.not_eq_false'])
  exact ⟨rfl, rfl⟩
set_option maxRecDepth 100000 in
theorem pclear_ok (p : LPen) (low : Int) (h : PenOk p low 0) : FnOk Tryz.prog 41 [aPen p, .raw (.int .i64 low)] [] (aPen (penC p low)) [] := by
  have h2 := h.y
  have h3 := h.m
  have e1 : p.y + p.m < low → penC p low = ⟨low, 0⟩ := fun q => by unfold penC; rw [if_pos q]
  have e2 : ¬ p.y + p.m < low → penC p low = p := fun q => by unfold penC; rw [if_neg q]
  refine fn_of_awp Tryz.func41 rfl (by kernel_rfl) (by kernel_rfl) (Nat.le_of_ble_eq_true rfl) Tryz.results41 ?_
  simp only [go_sem, Bool.not_eq_true', Bool.not_eq_false']
  repeat' first | contradiction | intro _ | refine And.intro ?_ ?_ | refine ex_get (by omega) ?_ | (show drawB _ _ = true; kernel_rfl) | (refine ret2 [] (by simp only [go_sem, Bool.not_eq_true', Bool.not_eq_false']; rfl) ?_; simp only [go_sem, Bool.not_eq_true', Bool.not_eq_false']) | (refine acall2 [] (pat_ok p ⟨h2, h3, by omega, by omega⟩) (by simp only [go_sem, Bool.not_eq_true', Bool.not_eq_false']; rfl) (fit_of (by simp only [go_sem, Bool.not_eq_true', Bool.not_eq_false']) (by simp only [go_sem, Bool.not_eq_true', Bool.not_eq_false']) (by simp only [go_sem, Bool.not_eq_true', Bool.not_eq_false']) (by simp only [go_sem, Bool.not_eq_true', Bool.not_eq_false']) (by simp only [go_sem, Bool.not_eq_true', Bool.not_eq_false']) (by simp only [go_sem, Bool.not_eq_true', Bool.not_eq_false']) (by simp only [go_sem, Bool.not_eq_true', Bool.not_eq_false'])) ?_; simp only [go_sem, Bool.not_eq_true', Bool.not_eq_false'])
  all_goals first
    | omega
    | (rw [e1 (by assumption)])
    | (rw [e2 (by assumption)])
    | skip
end Go.Proofs.YtblmebjhhanoaaaGreat
/- CHAPTER 06: valid: Count and Check; what they count, in plain words. -/
/- G -/
set_option linter.unusedSimpArgs false
set_option linter.unusedVariables false
namespace Go.Proofs.YtblmebjhhanoaaaGreat
open Go.RowKit

def ndN (l : List LNo) (k : Nat) : LNo := l[k]?.getD ⟨0, 0, sty0, 0, 0, [], 0, 0, 0⟩
theorem ndN_get {l : List LNo} {k : Nat} (hk : k < l.length) : ndN l k = l[k] := by unfold ndN; rw [List.getElem?_eq_getElem hk]; rfl
theorem ndN_siz (l : List LNo) (k : Nat) : (ndN l k).size = sizN l k := by
  unfold ndN sizN
  cases l[k]? <;> rfl
/-- how high a node is at most, by its own numbers; how many pieces it is. -/
def hgtN (x : LNo) : Int := if x.kind = 1 then x.st.top + x.st.bottom + x.st.padTop + x.st.padBottom + x.st.head else if x.kind = 2 then x.line * x.words.length else x.h
def pcsN (x : LNo) : Int := if x.kind = 1 then 0 else if x.kind = 2 then x.words.length else 1
def hsN (l : List LNo) (k : Nat) : Int := ((l.take k).map hgtN).sum
def psN (l : List LNo) (k : Nat) : Int := ((l.take k).map pcsN).sum
theorem hsN_succ {l : List LNo} {k : Nat} (hk : k < l.length) : hsN l (k + 1) = hsN l k + hgtN (ndN l k) := by
  unfold hsN
  rw [List.take_succ_eq_append_getElem hk, List.map_append, List.sum_append, ndN_get hk]
  simp
theorem psN_succ {l : List LNo} {k : Nat} (hk : k < l.length) : psN l (k + 1) = psN l k + pcsN (ndN l k) := by
  unfold psN
  rw [List.take_succ_eq_append_getElem hk, List.map_append, List.sum_append, ndN_get hk]
  simp
def hall (l : List LNo) : Int := hsN l l.length
def pall (l : List LNo) : Int := psN l l.length
/-- the ends, above i, of the blocks among the first j. -/
def opE (l : List LNo) (i : Int) : Nat → List Int
  | 0 => []
  | j + 1 => opE l i j ++ if (ndN l j).kind = 1 ∧ i < j + (ndN l j).size then [(j : Int) + (ndN l j).size] else []
theorem opE_filter (l : List LNo) (i m : Int) : ∀ j, (opE l i j).filter (fun e => decide (m < e)) = opE l (max i m) j
  | 0 => rfl
  | j + 1 => by
    rw [opE, opE, List.filter_append, opE_filter l i m j]
    congr 1
    by_cases h1 : (ndN l j).kind = 1
    · by_cases h2 : i < j + (ndN l j).size
      · by_cases h3 : m < j + (ndN l j).size
        · rw [if_pos ⟨h1, h2⟩, if_pos ⟨h1, by omega⟩]; simp [h3]
        · rw [if_pos ⟨h1, h2⟩, if_neg (fun q => by have := q.2; omega)]; simp [h3]
      · rw [if_neg (fun q => h2 q.2), if_neg (fun q => by have := q.2; omega)]; rfl
    · rw [if_neg (fun q => h1 q.1), if_neg (fun q => h1 q.1)]; rfl
theorem opE_len (l : List LNo) (i : Int) : ∀ j, (opE l i j).length ≤ j
  | 0 => Nat.le_refl _
  | j + 1 => by
    have := opE_len l i j
    rw [opE, List.length_append]
    split <;> simp <;> omega
/-- how deep blocks lie within blocks, of the first so many. -/
def dpN (l : List LNo) : Nat → Int
  | 0 => 0
  | i + 1 => if (ndN l i).kind = 1 then max (dpN l i) (opE l i (i + 1)).length else dpN l i
def chkN (l : List LNo) : Int := if isS l = false then 4 else if 16 < dpN l l.length ∨ 2000 < pall l ∨ 2000 < (l.length : Int) ∨ 1099511627776 < hall l then 2 else 0
def cutM (n : Int) : Int := min n 1099511627777
/-! what a document's node is, by its kind -/
structure Blk6 (x : LNo) : Prop where
  top : 0 ≤ x.st.top ∧ x.st.top ≤ 1099511627776
  bottom : 0 ≤ x.st.bottom ∧ x.st.bottom ≤ 1099511627776
  padTop : 0 ≤ x.st.padTop ∧ x.st.padTop ≤ 1099511627776
  padBottom : 0 ≤ x.st.padBottom ∧ x.st.padBottom ≤ 1099511627776
  inset : 0 ≤ x.st.inset ∧ x.st.inset ≤ 1099511627776
  head : 0 ≤ x.st.head ∧ x.st.head ≤ 1099511627776
  clear : 0 ≤ x.st.clear ∧ x.st.clear ≤ 3
  words : x.words = []
structure Txt6 (x : LNo) : Prop where
  line : 1 ≤ x.line ∧ x.line ≤ 1099511627776
  space : 0 ≤ x.space ∧ x.space ≤ 1099511627776
  words : ∀ w ∈ x.words, 1 ≤ w ∧ w ≤ 1099511627776
  some : 0 < x.words.length
structure Box6 (x : LNo) : Prop where
  w : 1 ≤ x.w ∧ x.w ≤ 1099511627776
  h : 1 ≤ x.h ∧ x.h ≤ 1099511627776
  words : x.words = []
theorem hasL_iff {a b : Int} {l : List Int} : hasL a b l = true ↔ ∀ n ∈ l, a ≤ n ∧ n ≤ b := by
  unfold hasL
  rw [Bool.not_eq_true', List.any_eq_false]
  simp only [offN, Bool.or_eq_true, decide_eq_true_eq]
  exact ⟨fun h n hn => by have := h n hn; omega, fun h n hn => by have := h n hn; omega⟩
theorem txtB_w {x : LNo} (h : txtB x = true) : x.words = [] := by
  simp only [txtB, Bool.and_eq_true, decide_eq_true_eq] at h
  exact List.eq_nil_of_length_eq_zero (by omega)
theorem nodB_kind {x : LNo} (h : nodB x = true) : x.kind = 1 ∨ x.kind = 2 ∨ x.kind = 3 ∨ x.kind = 4 := by
  unfold nodB at h
  split at h
  · exact .inl ‹_›
  · split at h
    · exact .inr (.inl ‹_›)
    · split at h
      · exact .inr (.inr (.inl ‹_›))
      · split at h
        · exact .inr (.inr (.inr ‹_›))
        · cases h
theorem nodB_blk {x : LNo} (h : nodB x = true) (k : x.kind = 1) : Blk6 x := by
  unfold nodB at h
  rw [if_pos k] at h
  simp only [Bool.and_eq_true, styB, hasL_iff] at h
  obtain ⟨⟨⟨⟨h1, -⟩, -⟩, -⟩, ⟨⟨⟨h5, -⟩, -⟩, -⟩, h6⟩ := h
  exact ⟨h5 _ (by simp), h5 _ (by simp), h5 _ (by simp), h5 _ (by simp), h5 _ (by simp), h5 _ (by simp), h6 _ (by simp), txtB_w h1⟩
theorem nodB_txt {x : LNo} (h : nodB x = true) (k : x.kind = 2) : Txt6 x := by
  unfold nodB at h
  rw [if_neg (by omega), if_pos k] at h
  simp only [Bool.and_eq_true, hasL_iff, decide_eq_true_eq] at h
  obtain ⟨⟨⟨⟨-, h1⟩, h2⟩, h3⟩, h4⟩ := h
  exact ⟨h1 _ (by simp), h3 _ (by simp), h2, by omega⟩
theorem nodB_mono {x : LNo} (h : nodB x = true) (k : x.kind = 3) : Box6 x := by
  unfold nodB at h
  rw [if_neg (by omega), if_neg (by omega), if_pos k] at h
  simp only [Bool.and_eq_true, hasL_iff] at h
  obtain ⟨⟨⟨-, h1⟩, -⟩, h2⟩ := h
  exact ⟨h2 _ (by simp), h2 _ (by simp), txtB_w h1⟩
theorem nodB_flt {x : LNo} (h : nodB x = true) (k : x.kind = 4) : Box6 x ∧ 1 ≤ x.side ∧ x.side ≤ 2 := by
  unfold nodB at h
  rw [if_neg (by omega), if_neg (by omega), if_neg (by omega), if_pos k] at h
  simp only [Bool.and_eq_true, hasL_iff] at h
  obtain ⟨⟨⟨-, h1⟩, h2⟩, h3⟩ := h
  exact ⟨⟨h2 _ (by simp), h2 _ (by simp), txtB_w h1⟩, h3 _ (by simp)⟩
theorem nod_at {l : List LNo} (h : isS l = true) {k : Nat} (hk : k < l.length) : nodB (ndN l k) = true := by
  rw [ndN_get hk]
  exact isG_nod l 0 _ h _ (List.getElem_mem hk)
theorem mul_nn {a b : Int} (h1 : 0 ≤ a) (h2 : 0 ≤ b) : 0 ≤ a * b := Int.mul_nonneg h1 h2
theorem hgt_nn {x : LNo} (h : nodB x = true) : 0 ≤ hgtN x := by
  unfold hgtN
  rcases nodB_kind h with k | k | k | k
  · obtain ⟨a, b, c, d, e, f, -⟩ := nodB_blk h k
    rw [if_pos k]; omega
  · obtain ⟨a, -⟩ := nodB_txt h k
    rw [if_neg (by omega), if_pos k]
    exact mul_nn (by omega) (by omega)
  · obtain ⟨-, a, -⟩ := nodB_mono h k
    rw [if_neg (by omega), if_neg (by omega)]; omega
  · obtain ⟨⟨-, a, -⟩, -⟩ := nodB_flt h k
    rw [if_neg (by omega), if_neg (by omega)]; omega
theorem pcs_nn (x : LNo) : 0 ≤ pcsN x := by
  unfold pcsN
  split
  · omega
  · split <;> omega
theorem hs_mono {l : List LNo} (h : isS l = true) : ∀ {j k : Nat}, j ≤ k → k ≤ l.length → hsN l j ≤ hsN l k := by
  intro j k hjk hk
  induction k with
  | zero => obtain rfl : j = 0 := by omega
            exact Int.le_refl _
  | succ k ih =>
    by_cases e : j = k + 1
    · subst e; exact Int.le_refl _
    · have h1 := ih (by omega) (by omega)
      have h2 := hsN_succ (l := l) (k := k) (by omega)
      have h3 := hgt_nn (nod_at h (k := k) (by omega))
      omega
theorem ps_mono {l : List LNo} : ∀ {j k : Nat}, j ≤ k → k ≤ l.length → psN l j ≤ psN l k := by
  intro j k hjk hk
  induction k with
  | zero => obtain rfl : j = 0 := by omega
            exact Int.le_refl _
  | succ k ih =>
    by_cases e : j = k + 1
    · subst e; exact Int.le_refl _
    · have h1 := ih (by omega) (by omega)
      have h2 := psN_succ (l := l) (k := k) (by omega)
      have h3 := pcs_nn (ndN l k)
      omega
theorem hsN_zero (l : List LNo) : hsN l 0 = 0 := rfl
theorem psN_zero (l : List LNo) : psN l 0 = 0 := rfl
end Go.Proofs.YtblmebjhhanoaaaGreat
/- CHAPTER 14: flow: what is laid out, in plain words; in which bounds it lies. -/
/- G -/
set_option linter.unusedSimpArgs false
set_option linter.unusedVariables false
namespace Go.Proofs.YtblmebjhhanoaaaGreat
open Go.RowKit

def spK (l : List LNo) (w : Int) (k : Nat) : LSpan := ⟨(rmR l w l.length k).x, (rmR l w l.length k).x + (rmR l w l.length k).w⟩
/-- the galley so far, and the pen. -/
structure LGs where
  a : List LAt
  f : List LFl
  p : LPen
def atP (p : LPen) : Int := p.y + p.m
def lowO (sides : Int) (f : List LFl) : LIs := mostF (lowF sides) f
def clrG (x : LNo) (s : LGs) : LPen := if (lowO x.st.clear s.f).is = true then penC s.p (lowO x.st.clear s.f).n else s.p
def entG (x : LNo) (s : LGs) : LGs := ⟨s.a, s.f, penE (clrG x s) x.st.top x.st.padTop⟩
def lvG (x : LNo) (s : LGs) : LGs := ⟨s.a, s.f, penL s.p x.st.bottom x.st.padBottom⟩
def atL (k : Nat) (H : Int) (z : LSet) : LAt := ⟨1, k, z.f, z.t, z.x, z.y, z.w, H⟩
def setG (k : Nat) (H : Int) (s : LGs) (z : LSet) : LGs := ⟨s.a ++ [atL k H z], s.f, ⟨z.y + H, 0⟩⟩
def txtG (sp : LSpan) (k : Nat) (x : LNo) (s : LGs) : LGs := (texF s.f x.words x.space x.line (atP s.p) sp).foldl (setG k x.line) s
def monY (sp : LSpan) (x : LNo) (s : LGs) : Int := romY s.f x.w x.h (atP s.p) sp
def monA (sp : LSpan) (k : Nat) (x : LNo) (s : LGs) : LAt := ⟨2, k, 0, 0, (bandF s.f (monY sp x s) x.h sp).a, monY sp x s, x.w, x.h⟩
def monG (sp : LSpan) (k : Nat) (x : LNo) (s : LGs) : LGs := ⟨s.a ++ [monA sp k x s], s.f, ⟨monY sp x s + x.h, 0⟩⟩
def newF (k : Nat) (x : LNo) (s : LGs) : LFl := ⟨k, x.side, s.a.length, 0, 0, x.w, x.h⟩
def fltG (sp : LSpan) (k : Nat) (x : LNo) (s : LGs) : LGs := ⟨s.a, putP s.f (newF k x s) (atP s.p) sp, s.p⟩
/-- one node, and all within it. -/
def nodG (l : List LNo) (w : Int) (kids : Nat → Int → LGs → LGs) (k : Nat) (s : LGs) : LGs :=
  if (ndN l k).kind = 1 then lvG (ndN l k) (kids (k + 1) (k + (ndN l k).size) (entG (ndN l k) s))
  else if (ndN l k).kind = 2 then txtG (spK l w k) k (ndN l k) s
  else if (ndN l k).kind = 3 then monG (spK l w k) k (ndN l k) s
  else fltG (spK l w k) k (ndN l k) s
def rowG (l : List LNo) (w : Int) : Nat → Nat → Int → LGs → LGs
  | 0, _, _, s => s
  | n + 1, k, e, s => if (k : Int) < e then rowG l w n (k + (ndN l k).size.toNat) e (nodG l w (rowG l w n) k s) else s
/-- in which bounds a float lies, among so many. -/
structure FlOk (B : Int) (n : Nat) (f : LFl) : Prop where
  x : 0 ≤ f.x ∧ f.x + f.w ≤ 1099511627776 * (2 + (n : Int))
  y : 0 ≤ f.y ∧ f.y + f.h ≤ B
  w : 1 ≤ f.w ∧ f.w ≤ 1099511627776
  h : 1 ≤ f.h ∧ f.h ≤ 1099511627776
  side : f.side = 1 ∨ f.side = 2
structure GsOk (l : List LNo) (B : Int) (k : Nat) (s : LGs) : Prop where
  y : 0 ≤ s.p.y
  m : 0 ≤ s.p.m
  b : s.p.y + s.p.m ≤ B
  fl : s.f.length ≤ k
  al : (s.a.length : Int) ≤ psN l k
  fs : ∀ f ∈ s.f, FlOk B s.f.length f
theorem FlOk.mono {B B' : Int} {n n' : Nat} {f : LFl} (h : FlOk B n f) (hB : B ≤ B') (hn : n ≤ n') : FlOk B' n' f := by
  obtain ⟨⟨a, b⟩, ⟨c, d⟩, e, g, i⟩ := h
  exact ⟨⟨a, by omega⟩, ⟨c, by omega⟩, e, g, i⟩
theorem GsOk.mono {l : List LNo} {B B' : Int} {k : Nat} {s : LGs} (h : GsOk l B k s) (hB : B ≤ B') : GsOk l B' k s := by
  obtain ⟨a, b, c, d, e, f⟩ := h
  exact ⟨a, b, by omega, d, e, fun x hx => (f x hx).mono hB (Nat.le_refl _)⟩
theorem GsOk.near {l : List LNo} {B : Int} {k : Nat} {s : LGs} (h : GsOk l B k s) (hB : B ≤ 1099511627776) (hk : k ≤ 60) : s.f.all nearF = true := by
  rw [List.all_eq_true]
  intro f hf
  obtain ⟨⟨a, b⟩, ⟨c, d⟩, e, g, -⟩ := h.fs f hf
  have := h.fl
  exact nearF_iff.2 ⟨⟨by omega, by omega⟩, ⟨by omega, by omega⟩, ⟨by omega, by omega⟩, ⟨by omega, by omega⟩⟩
theorem most_at {t : LFl → LIs} {l : List LFl} : (mostF t l).is = true → ∃ f ∈ l, (mostF t l).n = (t f).n := by
  refine fold_inv (P := fun o : LIs => o.is = true → ∃ f ∈ l, o.n = (t f).n) l ⟨0, false⟩ (fun h => by cases h) fun o f hf ih h => ?_
  unfold mostT at h ⊢
  split at h
  · next hc => rw [if_pos hc]; exact ⟨f, hf, rfl⟩
  · next hc => rw [if_neg hc]; exact ih h
theorem dn_at {l : List LFl} {W H : Int} {s : LSpan} : ∀ (n : Nat) (y : Int), dnP l W H s n y = y ∨ ∃ f ∈ l, dnP l W H s n y = f.y + f.h
  | 0, y => .inl rfl
  | n + 1, y => by
    rw [dnP]
    split
    · exact .inl rfl
    · next hc =>
      have hi : (nextF l y H s).is = true := by
        cases q : (nextF l y H s).is with
        | true => rfl
        | false => exact absurd (.inr q) hc
      rcases dn_at n (nextF l y H s).n with e | e
      · obtain ⟨f, hf, e2, -⟩ := next_bot hi
        exact .inr ⟨f, hf, by rw [e, e2]⟩
      · exact .inr e
theorem dn_ge {l : List LFl} {W H : Int} {s : LSpan} : ∀ (n : Nat) (y : Int), y ≤ dnP l W H s n y
  | 0, y => Int.le_refl _
  | n + 1, y => by
    rw [dnP]
    split
    · exact Int.le_refl _
    · next hc =>
      have hi : (nextF l y H s).is = true := by
        cases q : (nextF l y H s).is with
        | true => rfl
        | false => exact absurd (.inr q) hc
      obtain ⟨f, hf, e2, e3⟩ := next_bot hi
      have := dn_ge (l := l) (W := W) (H := H) (s := s) n (nextF l y H s).n
      omega
theorem rom_ge (l : List LFl) (w H y : Int) (s : LSpan) : y ≤ romY l w H y s := dn_ge _ _
theorem rom_le {l : List LFl} {w H y B : Int} {s : LSpan} (hy : y ≤ B) (hf : ∀ f ∈ l, f.y + f.h ≤ B) : romY l w H y s ≤ B := by
  rcases dn_at (l := l) (W := w) (H := H) (s := s) (cntP l y) y with e | ⟨f, h1, e⟩
  · unfold romY; rw [e]; exact hy
  · unfold romY; rw [e]; exact hf f h1
theorem from_ge (l : List LFl) (y : Int) : y ≤ fromP l y := by
  unfold fromP
  split
  · omega
  · exact Int.le_refl _
theorem from_le {l : List LFl} {y B : Int} (hy : y ≤ B) (hf : ∀ f ∈ l, f.y ≤ B) : fromP l y ≤ B := by
  unfold fromP
  split
  · next h =>
    obtain ⟨f, h1, h2⟩ := most_at h
    have e : (mostF topF l).n = f.y := h2
    have := hf f h1
    omega
  · exact hy
theorem spot_le {l : List LFl} {f : LFl} {y B : Int} {s : LSpan} (hy : y ≤ B) (h1 : ∀ f ∈ l, f.y ≤ B) (h2 : ∀ f ∈ l, f.y + f.h ≤ B) : spotY l f y s ≤ B := by
  unfold spotY
  rcases dn_at (l := l) (W := f.w) (H := f.h) (s := s) (l.length + 1) (fromP l y) with e | ⟨g, h3, e⟩
  · rw [e]; exact from_le hy h1
  · rw [e]; exact h2 g h3
theorem spot_ge (l : List LFl) (f : LFl) (y : Int) (s : LSpan) : y ≤ spotY l f y s := by
  have := from_ge l y
  have := dn_ge (l := l) (W := f.w) (H := f.h) (s := s) (l.length + 1) (fromP l y)
  unfold spotY
  omega
theorem band_lo (l : List LFl) (y H : Int) (s : LSpan) : s.a ≤ (bandF l y H s).a ∧ (bandF l y H s).b ≤ s.b := fold_mono l s
theorem band_hi {l : List LFl} {y H R : Int} {s : LSpan} (hs : s.a ≤ R) (hf : ∀ f ∈ l, f.x + f.w ≤ R) : (bandF l y H s).a ≤ R :=
  fold_inv (P := fun o : LSpan => o.a ≤ R) l s hs fun o f hf' ih => by
    unfold ofT cutF
    have := hf f hf'
    split
    · split <;> (simp only; omega)
    · exact ih
structure SpOk (s : LSpan) : Prop where
  a : 0 ≤ s.a ∧ s.a ≤ 1099511627776
  b : s.a < s.b ∧ s.b ≤ 2199023255552
theorem spK_ok {l : List LNo} {w : Int} (hi : ∀ x ∈ l, 0 ≤ x.st.inset ∧ x.st.inset ≤ 1099511627776) (hw : 1 ≤ w ∧ w ≤ 1099511627776) (k : Nat) : SpOk (spK l w k) := by
  obtain ⟨h1, h2, h3, h4⟩ := rmR_ok hi hw l.length k
  exact ⟨⟨h1, h2⟩, by unfold spK; simp only; omega, by unfold spK; simp only; omega⟩
/-- where a new float lies. -/
theorem put_ok' {l : List LFl} {f : LFl} {y B : Int} {s : LSpan} (hs : SpOk s) (hy : 0 ≤ y ∧ y ≤ B) (hl : ∀ g ∈ l, FlOk B l.length g) (hw : 1 ≤ f.w ∧ f.w ≤ 1099511627776) (hh : 1 ≤ f.h ∧ f.h ≤ 1099511627776) (hd : f.side = 1 ∨ f.side = 2) : FlOk (B + f.h) (l.length + 1) (setP l f y s) := by
  have h1 := spot_le (l := l) (f := f) (s := s) hy.2 (fun g hg => by have := (hl g hg).y; have := (hl g hg).h; omega) (fun g hg => (hl g hg).y.2)
  have h2 := spot_ge l f y s
  obtain ⟨⟨a1, a2⟩, b1, b2⟩ := hs
  have h3 := band_lo l (spotY l f y s) f.h s
  have h4 := band_hi (l := l) (y := spotY l f y s) (H := f.h) (s := s) (R := 1099511627776 * (2 + (l.length : Int))) (by omega) (fun g hg => (hl g hg).x.2)
  refine ⟨?_, ⟨by simp only [setP]; omega, by simp only [setP]; omega⟩, hw, hh, hd⟩
  simp only [setP, spotX]
  generalize bandF l (spotY l f y s) f.h s = b at *
  split <;> (constructor <;> omega)
end Go.Proofs.YtblmebjhhanoaaaGreat
