/- CONTRACTS of the functions, and plain laws, joined out of: GScrA GScrB GScrC NodO RecP GRecA GRecB GRecC GBanA GBanB GBanC GBanD GPlaA GPlaB WorP WorL G16 GWorA GWorB GLinA GLinB. -/
import Derived.Test.YtblmebjhhanoaaaChecked
import Derived.Test.YtblmebjhhanoaaaKE3
/- THE SCRIPT'S READER: tokens (of plain letters, without remarks). -/
/- G -/
/- BOOLS -/
set_option linter.unusedSimpArgs false
set_option linter.unusedVariables false
namespace Go.Proofs.Ytblmebjhhanoaaa
open Go.RowKit

def ascii (s : ByteArray) : Prop := ∀ q : Nat, q < s.size → byteAt s q ≤ 127
theorem byteAt_ge (s : ByteArray) (q : Nat) : 0 ≤ byteAt s q := by unfold byteAt; omega
def inB (s : ByteArray) (k : Nat) (a b : Int) : Bool := decide (k < s.size ∧ a ≤ byteAt s k ∧ byteAt s k ≤ b)
set_option maxRecDepth 100000 in
theorem in4_ok (s : ByteArray) (k : Nat) (a b : Int) : FnOk Try.prog 85 [.raw (.string s), .raw (.int .i64 k), .raw (.int .u8 a), .raw (.int .u8 b)] [] (.raw (.bool (inB s k a b))) [] := by
  refine fn_of_awp Try.func85 rfl (by kernel_rfl) (by kernel_rfl) (Nat.le_of_ble_eq_true rfl) Try.results85 ?_
  simp only [go_sem, Bool.not_eq_true', Bool.not_eq_false']
  repeat' first | contradiction | intro _ | refine And.intro ?_ ?_ | refine ex_get (by omega) ?_ | (show drawB _ _ = true; kernel_rfl) | (refine ret2 [] (by simp only [go_sem, Bool.not_eq_true', Bool.not_eq_false']; rfl) ?_; simp only [go_sem, Bool.not_eq_true', Bool.not_eq_false'])
  all_goals first
    | omega
    | (unfold inB; refine decide_eq_decide.2 ?_; omega)
    | (unfold inB; refine (decide_eq_false ?_); omega)
    | (unfold inB; refine (decide_eq_false ?_).symm; omega)
    | skip
set_option maxRecDepth 100000 in
theorem size4_ok (s : ByteArray) (k : Nat) (ha : ascii s) (hk : k < s.size) : FnOk Try.prog 84 [.raw (.string s), .raw (.int .i64 k)] [] (.raw (.int .i64 1)) [] := by
  refine fn_of_swp Try.func84 rfl (by kernel_rfl) (by kernel_rfl) (Nat.le_of_ble_eq_true rfl) Try.results84 ?_
  have e : inB s k 0 127 = true := by
    unfold inB
    have := byteAt_ge s k
    have := ha k hk
    exact decide_eq_true ⟨hk, by omega, by omega⟩
  (refine swp_seqW ?_; simp only [go_sem, Bool.not_eq_true', Bool.not_eq_false'])
  (refine swp_seqW ?_; simp only [go_sem, Bool.not_eq_true', Bool.not_eq_false'])
  (refine acall2 [] (in4_ok s k 0 127) (by simp only [go_sem, Bool.not_eq_true', Bool.not_eq_false']; rfl) (fit_of (by simp only [go_sem, Bool.not_eq_true', Bool.not_eq_false']) (by simp only [go_sem, Bool.not_eq_true', Bool.not_eq_false']) (by simp only [go_sem, Bool.not_eq_true', Bool.not_eq_false']) (by simp only [go_sem, Bool.not_eq_true', Bool.not_eq_false']) (by simp only [go_sem, Bool.not_eq_true', Bool.not_eq_false']) (by simp only [go_sem, Bool.not_eq_true', Bool.not_eq_false']) (by simp only [go_sem, Bool.not_eq_true', Bool.not_eq_false'])) ?_; simp only [go_sem, Bool.not_eq_true', Bool.not_eq_false', e])
set_option maxRecDepth 100000 in
theorem rune4_ok (s : ByteArray) (k : Nat) (ha : ascii s) (hk : k < s.size) : FnOk Try.prog 86 [.raw (.string s), .raw (.int .i64 k), .raw (.int .i64 1)] [] (.raw (.int .i32 (byteAt s k))) [] := by
  refine fn_of_swp Try.func86 rfl (by kernel_rfl) (by kernel_rfl) (Nat.le_of_ble_eq_true rfl) Try.results86 ?_
  have h1 := byteAt_ge s k
  have h2 := ha k hk
  have e : IntKind.i32.wrap (byteAt s k) = byteAt s k := IntWalk.i32_in _ ⟨by omega, by omega⟩
  (refine swp_seqW ?_; simp only [go_sem, Bool.not_eq_true', Bool.not_eq_false'])
  (refine swp_seqW ?_; simp only [go_sem, Bool.not_eq_true', Bool.not_eq_false', Int.reduceToNat, Int.reduceLT, Int.reduceLE, Int.reduceEq, Int.reduceAdd, Int.reduceSub, Int.reduceMul, Int.reduceNeg, Int.reduceNe, decide_false, Int.cast_ofNat_Int, kSet, List.getElem?_cons_succ, List.getElem?_cons_zero, List.set_cons_succ, List.set_cons_zero, exists_eq_left', forall_const, true_implies])
  exact ⟨by omega, e.symm⟩
structure LTk where
  kind : Int
  sign : Int
  n : Int
  at_ : Int
deriving DecidableEq
def cTk (x : LTk) : List PV := [.raw (.int .i64 x.kind), .raw (.int .i32 x.sign), .raw (.int .i64 x.n), .raw (.int .i64 x.at_)]
attribute [go_sem] cTk
/-- digits from a place on. -/
def numS (s : ByteArray) : Nat → Nat → Int → Nat × Int
  | 0, e, n => (e, n)
  | f + 1, e, n => if inB s e 48 57 = true then numS s f (e + 1) (min (10 * n + (byteAt s e - 48)) 2199023255552) else (e, n)
def tokS (s : ByteArray) : Nat → Nat → Option (List LTk)
  | 0, _ => none
  | f + 1, k => if k < s.size then
      (if byteAt s k = 35 then none
       else if byteAt s k = 32 ∨ byteAt s k = 9 ∨ byteAt s k = 10 then tokS s f (k + 1)
       else if inB s k 48 57 = true then
         (let q := numS s (s.size - k) k 0
          if 1099511627776 < q.2 ∨ byteAt s k = 48 ∧ k + 1 < q.1 then none
          else match tokS s f q.1 with
            | some r => some (⟨2, 0, q.2, k⟩ :: r)
            | none => none)
       else match tokS s f (k + 1) with
         | some r => some (⟨1, byteAt s k, 0, k⟩ :: r)
         | none => none)
    else some []
theorem numS_end (s : ByteArray) : ∀ (f e : Nat) (n : Int), e + f = s.size → (numS s f e n).1 ≤ s.size ∧ e ≤ (numS s f e n).1
  | 0, e, n, h => ⟨by simp only [numS]; omega, by simp only [numS]; omega⟩
  | f + 1, e, n, h => by
    simp only [numS]
    split
    · have := numS_end s f (e + 1) (min (10 * n + (byteAt s e - 48)) 2199023255552) (by omega)
      omega
    · simp only; omega
structure LTz where
  k : Nat
  acc : List LTk
structure TokInv (s : ByteArray) (toks : List LTk) (z : LTz) : Prop where
  le : z.k ≤ s.size
  len : z.acc.length ≤ z.k
  ex : ∃ f rest, tokS s f z.k = some rest ∧ z.acc ++ rest = toks
inductive TokWay (s : ByteArray) (toks acc : List LTk) (k : Nat) : Prop
  | space (h : byteAt s k = 32 ∨ byteAt s k = 9 ∨ byteAt s k = 10) (hi : TokInv s toks ⟨k + 1, acc⟩)
  | sign (h : ¬ (byteAt s k = 32 ∨ byteAt s k = 9 ∨ byteAt s k = 10)) (hd : inB s k 48 57 = false) (hi : TokInv s toks ⟨k + 1, acc ++ [⟨1, byteAt s k, 0, k⟩]⟩)
  | num (h : ¬ (byteAt s k = 32 ∨ byteAt s k = 9 ∨ byteAt s k = 10)) (hd : inB s k 48 57 = true) (hn : ¬ (1099511627776 < (numS s (s.size - k) k 0).2 ∨ byteAt s k = 48 ∧ k + 1 < (numS s (s.size - k) k 0).1)) (hg : k < (numS s (s.size - k) k 0).1) (hi : TokInv s toks ⟨(numS s (s.size - k) k 0).1, acc ++ [⟨2, 0, (numS s (s.size - k) k 0).2, k⟩]⟩)
theorem numS_fwd (s : ByteArray) {f e : Nat} {n : Int} (h : e + f = s.size) (hd : inB s e 48 57 = true) : e < (numS s f e n).1 := by
  cases f with
  | zero =>
    have : e < s.size := (of_decide_eq_true hd).1
    omega
  | succ f =>
    simp only [numS]
    rw [if_pos hd]
    have := numS_end s f (e + 1) (min (10 * n + (byteAt s e - 48)) 2199023255552) (by omega)
    omega
theorem tok_way {s : ByteArray} {toks acc : List LTk} {k : Nat} (hk : k < s.size) (h : TokInv s toks ⟨k, acc⟩) : byteAt s k ≠ 35 ∧ TokWay s toks acc k := by
  obtain ⟨h1, h2, f, rest, h3, h4⟩ := h
  simp only at h1 h2 h3 h4
  cases f with
  | zero => simp [tokS] at h3
  | succ f =>
    simp only [tokS] at h3
    rw [if_pos hk] at h3
    split at h3
    · cases h3
    · next h35 =>
      refine ⟨h35, ?_⟩
      split at h3
      · next hs => exact .space hs ⟨hk, by simp only; omega, f, rest, h3, h4⟩
      · next hs =>
        split at h3
        · next hd =>
          split at h3
          · cases h3
          · next hn =>
            have hfw := numS_fwd s (f := s.size - k) (n := 0) (by omega) hd
            have hen := numS_end s (s.size - k) k 0 (by omega)
            split at h3
            · next r hr =>
              injection h3 with h3
              subst h3
              exact .num hs hd hn hfw ⟨hen.1, by simp; omega, f, r, hr, by rw [← h4]; simp⟩
            · cases h3
        · next hd =>
          split at h3
          · next r hr =>
            injection h3 with h3
            subst h3
            exact .sign hs (by simpa using hd) ⟨hk, by simp; omega, f, r, hr, by rw [← h4]; simp⟩
          · cases h3
theorem tok_end {s : ByteArray} {toks acc : List LTk} {k : Nat} (hk : ¬ k < s.size) (h : TokInv s toks ⟨k, acc⟩) : acc = toks := by
  obtain ⟨h1, h2, f, rest, h3, h4⟩ := h
  simp only at h3 h4
  cases f with
  | zero => simp [tokS] at h3
  | succ f =>
    simp only [tokS] at h3
    rw [if_neg hk] at h3
    injection h3 with h3
    subst h3
    simpa using h4
set_option maxRecDepth 100000 in
set_option maxHeartbeats 4000000 in
theorem tok4_ok (s : ByteArray) (toks : List LTk) (ha : ascii s) (hs : s.size ≤ 1000) (h : tokS s (s.size + 1) 0 = some toks) : FnOk Try.prog 65 [.raw (.string s)] [] (.tup [.hdr 8, .raw (.int .i64 0), .raw (.int .i64 0)]) [(8, .row 120 4 (toks.map cTk))] := by
  refine fn_of_swp Try.func65 rfl (by kernel_rfl) (by kernel_rfl) (Nat.le_of_ble_eq_true rfl) Try.results65 ?_
  (refine swp_seqW ?_; simp only [go_sem, Bool.not_eq_true', Bool.not_eq_false'])
  (refine swp_seqW ?_; simp only [go_sem, Bool.not_eq_true', Bool.not_eq_false'])
  (refine swp_seqW ?_; simp only [go_sem, Bool.not_eq_true', Bool.not_eq_false'])
  refine swp_seqS ?_
  (refine swp_seqW ?_; simp only [go_sem, Bool.not_eq_true', Bool.not_eq_false'])
  refine swp_block ?_
  refine swp_loop2 [] (fun z : LTz => ⟨[(0, .raw (.string s)), (5, .hdr 8), (6, .raw (.int .i64 0)), (7, .raw (.int .i64 z.k))], [(8, some (.row 120 4 (z.acc.map cTk)))], none⟩) (TokInv s toks) (fun z => s.size - z.k) 4 ⟨0, []⟩ (by simp only [go_sem, Bool.not_eq_true', Bool.not_eq_false']; rfl) (by simp only [go_sem, Bool.not_eq_true', Bool.not_eq_false']) ?_ ?_
  · exact ⟨Nat.zero_le _, Nat.le_refl _, _, _, h, rfl⟩
  · rintro ⟨k, acc⟩ hi
    have hi1 := hi.le
    have hi2 := hi.len
    simp only at hi1 hi2
    (refine swp_seqW ?_; simp only [go_sem, Bool.not_eq_true', Bool.not_eq_false', List.length_map])
    refine ⟨fun h5 => ?_, fun h5 => ?_⟩
    · have hk : k < s.size := by omega
      obtain ⟨h35, hw⟩ := tok_way hk hi
      clear hi h
      refine swp_block ?_
      (refine swp_seqW ?_; simp only [go_sem, Bool.not_eq_true', Bool.not_eq_false'])
      (refine acall2 [] (size4_ok s k ha hk) (by simp only [go_sem, Bool.not_eq_true', Bool.not_eq_false']; rfl) (fit_of (by simp only [go_sem, Bool.not_eq_true', Bool.not_eq_false']) (by simp only [go_sem, Bool.not_eq_true', Bool.not_eq_false']) (by simp only [go_sem, Bool.not_eq_true', Bool.not_eq_false']) (by simp only [go_sem, Bool.not_eq_true', Bool.not_eq_false']) (by simp only [go_sem, Bool.not_eq_true', Bool.not_eq_false']) (by simp only [go_sem, Bool.not_eq_true', Bool.not_eq_false']) (by simp only [go_sem, Bool.not_eq_true', Bool.not_eq_false'])) ?_; simp only [go_sem, Bool.not_eq_true', Bool.not_eq_false'])
      (refine swp_seqW ?_; simp only [go_sem, Bool.not_eq_true', Bool.not_eq_false', Int.reduceToNat, Int.reduceLT, Int.reduceLE, Int.reduceEq, Int.reduceAdd, Int.reduceSub, Int.reduceMul, Int.reduceNeg, Int.reduceNe, decide_false, Int.cast_ofNat_Int, kSet, List.getElem?_cons_succ, List.getElem?_cons_zero, List.set_cons_succ, List.set_cons_zero, exists_eq_left', forall_const, true_implies])
      (refine swp_seqW ?_; simp only [go_sem, Bool.not_eq_true', Bool.not_eq_false'])
      refine ⟨by omega, ?_⟩
      (refine swp_seqW ?_; simp only [go_sem, Bool.not_eq_true', Bool.not_eq_false', Int.reduceToNat, Int.reduceLT, Int.reduceLE, Int.reduceEq, Int.reduceAdd, Int.reduceSub, Int.reduceMul, Int.reduceNeg, Int.reduceNe, decide_false, Int.cast_ofNat_Int, kSet, List.getElem?_cons_succ, List.getElem?_cons_zero, List.set_cons_succ, List.set_cons_zero, exists_eq_left', forall_const, true_implies])
      (refine swp_seqW ?_; simp only [go_sem, Bool.not_eq_true', Bool.not_eq_false', h35])
      have hc0 := byteAt_ge s k
      have hc1 := ha k hk
      rcases hw with ⟨hsp, hi⟩ | ⟨hsp, hd, hi⟩ | ⟨hsp, hd, hn, hg, hi⟩
      · (refine swp_lastW ?_; simp only [go_sem, Bool.not_eq_true', Bool.not_eq_false', h35])
        repeat' first | contradiction | intro _ | refine And.intro ?_ ?_ | refine ex_get (by omega) ?_ | (show drawB _ _ = true; kernel_rfl) | (refine ret2 [] (by simp only [go_sem, Bool.not_eq_true', Bool.not_eq_false']; rfl) ?_; simp only [go_sem, Bool.not_eq_true', Bool.not_eq_false'])
        all_goals first
          | omega
          | ((refine loop_end [] (⟨k + 1, acc⟩) (by simp only [go_sem, Bool.not_eq_true', Bool.not_eq_false']; rfl) ?_ ?_ ?_; (focus first | omega | (simp only; omega)); (focus (simp only [go_sem, Bool.not_eq_true', Bool.not_eq_false']; done)))
             exact hi)
          | (exfalso; omega)
          | skip
      · refine swp_cutW (fun _ : Unit => ⟨[(0, .raw (.string s)), (5, .hdr 8), (6, .raw (.int .i64 0)), (7, .raw (.int .i64 k)), (8, .raw (.int .i64 1))], [(8, some (.row 120 4 (acc.map cTk)))], none⟩) (fun _ => True) 4 ?_ ?_
        · simp only [go_sem, Bool.not_eq_true', Bool.not_eq_false', h35]
          repeat' first | contradiction | intro _ | refine And.intro ?_ ?_ | refine ex_get (by omega) ?_ | (show drawB _ _ = true; kernel_rfl) | (refine ret2 [] (by simp only [go_sem, Bool.not_eq_true', Bool.not_eq_false']; rfl) ?_; simp only [go_sem, Bool.not_eq_true', Bool.not_eq_false'])
          all_goals first
            | omega
            | ((refine cut_end [] (()) (by simp only [go_sem, Bool.not_eq_true', Bool.not_eq_false']; rfl) ?_ ?_; (focus (simp only [go_sem, Bool.not_eq_true', Bool.not_eq_false']; done)))
               trivial)
            | skip
        rintro - -
        (refine swp_lastW ?_; simp only [go_sem, Bool.not_eq_true', Bool.not_eq_false'])
        (refine acall2 [] (in4_ok s k 48 57) (by simp only [go_sem, Bool.not_eq_true', Bool.not_eq_false']; rfl) (fit_of (by simp only [go_sem, Bool.not_eq_true', Bool.not_eq_false']) (by simp only [go_sem, Bool.not_eq_true', Bool.not_eq_false']) (by simp only [go_sem, Bool.not_eq_true', Bool.not_eq_false']) (by simp only [go_sem, Bool.not_eq_true', Bool.not_eq_false']) (by simp only [go_sem, Bool.not_eq_true', Bool.not_eq_false']) (by simp only [go_sem, Bool.not_eq_true', Bool.not_eq_false']) (by simp only [go_sem, Bool.not_eq_true', Bool.not_eq_false'])) ?_; simp only [go_sem, Bool.not_eq_true', Bool.not_eq_false', hd])
        (refine acall2 [] (rune4_ok s k ha hk) (by simp only [go_sem, Bool.not_eq_true', Bool.not_eq_false']; rfl) (fit_of (by simp only [go_sem, Bool.not_eq_true', Bool.not_eq_false']) (by simp only [go_sem, Bool.not_eq_true', Bool.not_eq_false']) (by simp only [go_sem, Bool.not_eq_true', Bool.not_eq_false']) (by simp only [go_sem, Bool.not_eq_true', Bool.not_eq_false']) (by simp only [go_sem, Bool.not_eq_true', Bool.not_eq_false']) (by simp only [go_sem, Bool.not_eq_true', Bool.not_eq_false']) (by simp only [go_sem, Bool.not_eq_true', Bool.not_eq_false'])) ?_; simp only [go_sem, Bool.not_eq_true', Bool.not_eq_false'])
        refine ⟨⟨by omega, by omega⟩, ⟨by omega, by omega⟩, ?_⟩
        (refine loop_end [] (⟨k + 1, acc ++ [⟨1, byteAt s k, 0, k⟩]⟩) (by simp only [go_sem, Bool.not_eq_true', Bool.not_eq_false']; rfl) ?_ ?_ ?_; (focus first | omega | (simp only; omega)); (focus (simp only [go_sem, Bool.not_eq_true', Bool.not_eq_false', List.map_append]; done)))
        exact hi
      · refine swp_cutW (fun _ : Unit => ⟨[(0, .raw (.string s)), (5, .hdr 8), (6, .raw (.int .i64 0)), (7, .raw (.int .i64 k)), (8, .raw (.int .i64 1)), (9, .raw (.int .u8 (byteAt s k)))], [(8, some (.row 120 4 (acc.map cTk)))], none⟩) (fun _ => True) 4 ?_ ?_
        · simp only [go_sem, Bool.not_eq_true', Bool.not_eq_false', h35]
          repeat' first | contradiction | intro _ | refine And.intro ?_ ?_ | refine ex_get (by omega) ?_ | (show drawB _ _ = true; kernel_rfl) | (refine ret2 [] (by simp only [go_sem, Bool.not_eq_true', Bool.not_eq_false']; rfl) ?_; simp only [go_sem, Bool.not_eq_true', Bool.not_eq_false'])
          all_goals first
            | omega
            | ((refine cut_end [] (()) (by simp only [go_sem, Bool.not_eq_true', Bool.not_eq_false']; rfl) ?_ ?_; (focus (simp only [go_sem, Bool.not_eq_true', Bool.not_eq_false']; done)))
               trivial)
        rintro - -
        (refine swp_seqW ?_; simp only [go_sem, Bool.not_eq_true', Bool.not_eq_false'])
        (refine acall2 [] (in4_ok s k 48 57) (by simp only [go_sem, Bool.not_eq_true', Bool.not_eq_false']; rfl) (fit_of (by simp only [go_sem, Bool.not_eq_true', Bool.not_eq_false']) (by simp only [go_sem, Bool.not_eq_true', Bool.not_eq_false']) (by simp only [go_sem, Bool.not_eq_true', Bool.not_eq_false']) (by simp only [go_sem, Bool.not_eq_true', Bool.not_eq_false']) (by simp only [go_sem, Bool.not_eq_true', Bool.not_eq_false']) (by simp only [go_sem, Bool.not_eq_true', Bool.not_eq_false']) (by simp only [go_sem, Bool.not_eq_true', Bool.not_eq_false'])) ?_; simp only [go_sem, Bool.not_eq_true', Bool.not_eq_false', hd])
        (refine swp_seqW ?_; simp only [go_sem, Bool.not_eq_true', Bool.not_eq_false'])
        refine swp_cutS (fun _ : Unit => ⟨[(0, .raw (.string s)), (5, .hdr 8), (6, .raw (.int .i64 0)), (7, .raw (.int .i64 k)), (9, .raw (.int .u8 (byteAt s k))), (10, .raw (.int .i64 (numS s (s.size - k) k 0).2)), (11, .raw (.int .i64 (numS s (s.size - k) k 0).1))], [(8, some (.row 120 4 (acc.map cTk)))], none⟩) (fun _ => True) 4 ?_ ?_
        · refine swp_block ?_
          refine swp_loop2 [] (fun z : KY Int => ⟨[(0, .raw (.string s)), (5, .hdr 8), (6, .raw (.int .i64 0)), (7, .raw (.int .i64 k)), (9, .raw (.int .u8 (byteAt s k))), (10, .raw (.int .i64 z.o)), (11, .raw (.int .i64 z.k))], [(8, some (.row 120 4 (acc.map cTk)))], none⟩) (fun z => z.k ≤ s.size ∧ 0 ≤ z.o ∧ z.o ≤ 2199023255552 ∧ numS s (s.size - z.k) z.k z.o = numS s (s.size - k) k 0) (fun z => s.size - z.k) 4 ⟨k, 0⟩ (by simp only [go_sem, Bool.not_eq_true', Bool.not_eq_false']; rfl) (by simp only [go_sem, Bool.not_eq_true', Bool.not_eq_false']) ?_ ?_
          · exact ⟨by show k ≤ s.size; omega, by simp, by simp, rfl⟩
          · rintro ⟨e, n⟩ ⟨q1, q2, q3, q4⟩
            simp only at q1 q2 q3 q4
            (refine swp_lastW ?_; simp only [go_sem, Bool.not_eq_true', Bool.not_eq_false'])
            (refine acall2 [] (in4_ok s e 48 57) (by simp only [go_sem, Bool.not_eq_true', Bool.not_eq_false']; rfl) (fit_of (by simp only [go_sem, Bool.not_eq_true', Bool.not_eq_false']) (by simp only [go_sem, Bool.not_eq_true', Bool.not_eq_false']) (by simp only [go_sem, Bool.not_eq_true', Bool.not_eq_false']) (by simp only [go_sem, Bool.not_eq_true', Bool.not_eq_false']) (by simp only [go_sem, Bool.not_eq_true', Bool.not_eq_false']) (by simp only [go_sem, Bool.not_eq_true', Bool.not_eq_false']) (by simp only [go_sem, Bool.not_eq_true', Bool.not_eq_false'])) ?_; simp only [go_sem, Bool.not_eq_true', Bool.not_eq_false'])
            refine ⟨fun h7 => ?_, fun h7 => ?_⟩
            · obtain ⟨h8, h9, h10⟩ : e < s.size ∧ 48 ≤ byteAt s e ∧ byteAt s e ≤ 57 := of_decide_eq_true h7
              have ew : IntKind.i64.wrap (byteAt s e - 48) = byteAt s e - 48 := IntWalk.i64_in _ ⟨by omega, by omega⟩
              have en : numS s (s.size - e) e n = numS s (s.size - (e + 1)) (e + 1) (min (10 * n + (byteAt s e - 48)) 2199023255552) := by
                rw [show s.size - e = (s.size - (e + 1)) + 1 by omega, numS, if_pos h7]
              simp only [ew]
              repeat' first | contradiction | intro _ | refine And.intro ?_ ?_ | refine ex_get (by omega) ?_ | (show drawB _ _ = true; kernel_rfl) | (refine ret2 [] (by simp only [go_sem, Bool.not_eq_true', Bool.not_eq_false']; rfl) ?_; simp only [go_sem, Bool.not_eq_true', Bool.not_eq_false'])
              all_goals first
                | omega
                | ((refine loop_end [] (⟨e + 1, min (10 * n + (byteAt s e - 48)) 2199023255552⟩) (by simp only [go_sem, Bool.not_eq_true', Bool.not_eq_false']; rfl) ?_ ?_ ?_; (focus first | omega | (simp only; omega)); (focus (simp only [go_sem, Bool.not_eq_true', Bool.not_eq_false']; done)))
                   exact ⟨by show e + 1 ≤ s.size; omega, by simp only; omega, by simp only; omega, by rw [← q4, en]⟩)
                | skip
            · have en : numS s (s.size - k) k 0 = (e, n) := by
                rw [← q4]
                cases hf : s.size - e with
                | zero => rfl
                | succ f => rw [numS, if_neg (by rw [h7]; decide)]
              rw [en]
              (refine cut_end [] (()) (by simp only [go_sem, Bool.not_eq_true', Bool.not_eq_false']; rfl) ?_ ?_; (focus (simp only [go_sem, Bool.not_eq_true', Bool.not_eq_false']; done)))
              trivial
        rintro - -
        have hen := numS_end s (s.size - k) k 0 (by omega)
        generalize numS s (s.size - k) k 0 = q at hn hg hi hen
        (refine swp_lastW ?_; simp only [go_sem, Bool.not_eq_true', Bool.not_eq_false'])
        repeat' first | contradiction | intro _ | refine And.intro ?_ ?_ | refine ex_get (by omega) ?_ | (show drawB _ _ = true; kernel_rfl) | (refine ret2 [] (by simp only [go_sem, Bool.not_eq_true', Bool.not_eq_false']; rfl) ?_; simp only [go_sem, Bool.not_eq_true', Bool.not_eq_false'])
        all_goals first
          | omega
          | ((refine loop_end [] (⟨q.1, acc ++ [⟨2, 0, q.2, k⟩]⟩) (by simp only [go_sem, Bool.not_eq_true', Bool.not_eq_false']; rfl) ?_ ?_ ?_; (focus first | omega | (simp only; omega)); (focus (simp only [go_sem, Bool.not_eq_true', Bool.not_eq_false', List.map_append]; done)))
             exact hi)
          | skip
    · rw [← tok_end (by omega) hi]
      (refine swp_lastW ?_; simp only [go_sem, Bool.not_eq_true', Bool.not_eq_false'])
      (refine ret2 [] (by simp only [go_sem, Bool.not_eq_true', Bool.not_eq_false']; rfl) ?_; simp only [go_sem, Bool.not_eq_true', Bool.not_eq_false'])
end Go.Proofs.Ytblmebjhhanoaaa
/- THE SCRIPT'S READER: what stands at a place; attributes. -/
/- G -/
/- BOOLS -/
/- GET get_tk -/
set_option linter.unusedSimpArgs false
set_option linter.unusedVariables false
namespace Go.Proofs.Ytblmebjhhanoaaa
open Go.RowKit

def tkAt (l : List LTk) (k : Nat) : LTk := l.getD k ⟨0, 0, 0, 0⟩
theorem get_tk {l : List LTk} {k : Nat} {C : LTk → Prop} (h : k < l.length) (hC : C (tkAt l k)) : ∃ x, l[k]? = some x ∧ C x :=
  ⟨tkAt l k, by simp [tkAt, List.getD_eq_getElem?_getD, h], hC⟩
def signB (l : List LTk) (k : Nat) (c : Int) : Bool := decide (k < l.length ∧ (tkAt l k).kind = 1 ∧ (tkAt l k).sign = c)
def numB (l : List LTk) (k : Nat) (a b : Int) : Bool := decide (k < l.length ∧ (tkAt l k).kind = 2 ∧ a ≤ (tkAt l k).n ∧ (tkAt l k).n ≤ b)
set_option maxRecDepth 100000 in
theorem sign5_ok (l : List LTk) (k : Nat) (c : Int) (hl : l.length ≤ 1000) : FnOk Try.prog 87 [.sl 4 (l.map cTk), .raw (.int .i64 k), .raw (.int .i32 c)] [] (.raw (.bool (signB l k c))) [] := by
  refine fn_of_awp Try.func87 rfl (by kernel_rfl) (by kernel_rfl) (Nat.le_of_ble_eq_true rfl) Try.results87 ?_
  simp only [go_sem, Bool.not_eq_true', Bool.not_eq_false', List.length_map]
  repeat' first | contradiction | intro _ | refine And.intro ?_ ?_ | refine get_tk (by omega) ?_ | refine ex_get (by omega) ?_ | (show drawB _ _ = true; kernel_rfl) | (refine ret2 [] (by simp only [go_sem, Bool.not_eq_true', Bool.not_eq_false']; rfl) ?_; simp only [go_sem, Bool.not_eq_true', Bool.not_eq_false'])
  all_goals first
    | omega
    | (unfold signB; refine decide_eq_decide.2 ?_; omega)
    | (unfold signB; refine (decide_eq_false ?_); omega)
    | (unfold signB; refine (decide_eq_false ?_).symm; omega)
    | skip
set_option maxRecDepth 100000 in
theorem num5_ok (l : List LTk) (k : Nat) (a b : Int) (hl : l.length ≤ 1000) : FnOk Try.prog 133 [.sl 4 (l.map cTk), .raw (.int .i64 k), .raw (.int .i64 a), .raw (.int .i64 b)] [] (.raw (.bool (numB l k a b))) [] := by
  refine fn_of_awp Try.func133 rfl (by kernel_rfl) (by kernel_rfl) (Nat.le_of_ble_eq_true rfl) Try.results133 ?_
  simp only [go_sem, Bool.not_eq_true', Bool.not_eq_false', List.length_map]
  repeat' first | contradiction | intro _ | refine And.intro ?_ ?_ | refine get_tk (by omega) ?_ | refine ex_get (by omega) ?_ | (show drawB _ _ = true; kernel_rfl) | (refine ret2 [] (by simp only [go_sem, Bool.not_eq_true', Bool.not_eq_false']; rfl) ?_; simp only [go_sem, Bool.not_eq_true', Bool.not_eq_false'])
  all_goals first
    | omega
    | (unfold numB; refine decide_eq_decide.2 ?_; omega)
    | (unfold numB; refine (decide_eq_false ?_); omega)
    | (unfold numB; refine (decide_eq_false ?_).symm; omega)
    | skip
set_option maxRecDepth 100000 in
theorem most5_ok : FnOk Try.prog 135 [] [] (.raw (.int .i64 1099511627776)) [] := by
  refine fn_of_awp Try.func135 rfl (by kernel_rfl) (by kernel_rfl) (Nat.le_of_ble_eq_true rfl) Try.results135 ?_
  simp only [go_sem, Bool.not_eq_true', Bool.not_eq_false']
def lettersS : ByteArray := ⟨#[109, 110, 112, 113, 105, 111, 119, 104, 66, 65, 73, 99]⟩
set_option maxRecDepth 100000 in
theorem letters5_ok : FnOk Try.prog 144 [] [] (.raw (.string lettersS)) [] := by
  refine fn_of_awp Try.func144 rfl (by kernel_rfl) (by kernel_rfl) (Nat.le_of_ble_eq_true rfl) Try.results144 ?_
  simp only [go_sem, Bool.not_eq_true', Bool.not_eq_false']
  rfl
def limA (c : Int) : Int := if c = 111 ∨ c = 119 ∨ c = 104 then 1 else 0
def limB (c : Int) : Int := if c = 66 ∨ c = 65 then 4 else if c = 73 then 1 else if c = 99 then 3 else 1099511627776
set_option maxRecDepth 100000 in
theorem limits5_ok (c : Int) : FnOk Try.prog 132 [.raw (.int .u8 c)] [] (.tup [.raw (.int .i64 (limA c)), .raw (.int .i64 (limB c))]) [] := by
  refine fn_of_awp Try.func132 rfl (by kernel_rfl) (by kernel_rfl) (Nat.le_of_ble_eq_true rfl) Try.results132 ?_
  simp only [go_sem, Bool.not_eq_true', Bool.not_eq_false']
  repeat' first | contradiction | intro _ | refine And.intro ?_ ?_ | refine get_tk (by omega) ?_ | refine ex_get (by omega) ?_ | (show drawB _ _ = true; kernel_rfl) | (refine ret2 [] (by simp only [go_sem, Bool.not_eq_true', Bool.not_eq_false']; rfl) ?_; simp only [go_sem, Bool.not_eq_true', Bool.not_eq_false']) | (refine acall2 [] (most5_ok) (by simp only [go_sem, Bool.not_eq_true', Bool.not_eq_false']; rfl) (fit_of (by simp only [go_sem, Bool.not_eq_true', Bool.not_eq_false']) (by simp only [go_sem, Bool.not_eq_true', Bool.not_eq_false']) (by simp only [go_sem, Bool.not_eq_true', Bool.not_eq_false']) (by simp only [go_sem, Bool.not_eq_true', Bool.not_eq_false']) (by simp only [go_sem, Bool.not_eq_true', Bool.not_eq_false']) (by simp only [go_sem, Bool.not_eq_true', Bool.not_eq_false']) (by simp only [go_sem, Bool.not_eq_true', Bool.not_eq_false'])) ?_; simp only [go_sem, Bool.not_eq_true', Bool.not_eq_false'])
  all_goals first
    | (unfold limA; split <;> omega)
    | (unfold limB; repeat' split; all_goals omega)
    | skip
structure LSty where
  top : Int
  bottom : Int
  padTop : Int
  padBottom : Int
  inset : Int
  orphans : Int
  widows : Int
  head : Int
  before : Int
  after : Int
  inside : Int
  clear : Int
deriving DecidableEq
def lSty (s : LSty) : List AV := [.raw (.int .i64 s.top), .raw (.int .i64 s.bottom), .raw (.int .i64 s.padTop), .raw (.int .i64 s.padBottom), .raw (.int .i64 s.inset), .raw (.int .i64 s.orphans), .raw (.int .i64 s.widows), .raw (.int .i64 s.head), .raw (.int .i64 s.before), .raw (.int .i64 s.after), .raw (.int .i64 s.inside), .raw (.int .i64 s.clear)]
def aSty (s : LSty) : AV := .agg (lSty s)
attribute [go_sem] lSty aSty
def withS (s : LSty) (c n : Int) : LSty :=
  ⟨if c = 109 then n else s.top, if c = 110 then n else s.bottom, if c = 112 then n else s.padTop, if c = 113 then n else s.padBottom, if c = 105 then n else s.inset, if c = 111 then n else s.orphans, if c = 119 then n else s.widows, if c = 104 then n else s.head, if c = 66 then n else s.before, if c = 65 then n else s.after, if c = 73 then n else s.inside, if c = 99 then n else s.clear⟩
set_option maxRecDepth 100000 in
set_option maxHeartbeats 4000000 in
theorem with5_ok (s : LSty) (c n : Int) : FnOk Try.prog 134 [aSty s, .raw (.int .u8 c), .raw (.int .i64 n)] [] (aSty (withS s c n)) [] := by
  refine fn_of_awp Try.func134 rfl (by kernel_rfl) (by kernel_rfl) (Nat.le_of_ble_eq_true rfl) Try.results134 ?_
  simp only [go_sem, Bool.not_eq_true', Bool.not_eq_false']
  repeat' first | contradiction | intro _ | refine And.intro ?_ ?_ | refine get_tk (by omega) ?_ | refine ex_get (by omega) ?_ | (show drawB _ _ = true; kernel_rfl) | (refine ret2 [] (by simp only [go_sem, Bool.not_eq_true', Bool.not_eq_false']; rfl) ?_; simp only [go_sem, Bool.not_eq_true', Bool.not_eq_false'])
  all_goals (simp only [withS]; first | (rw [if_pos (by omega)]; done) | (rw [if_neg (by omega)]; done))
def hasB (s : ByteArray) (c : Int) : Bool := (List.range s.size).any fun j => decide (byteAt s j = c)
theorem hasB_iff {s : ByteArray} {c : Int} : hasB s c = true ↔ ∃ j : Nat, j < s.size ∧ byteAt s j = c := by
  simp [hasB]
def letterS (l : List LTk) (k : Nat) (told : ByteArray) : Int := if k < l.length ∧ (tkAt l k).kind = 1 ∧ hasB lettersS (tkAt l k).sign = true ∧ hasB told (tkAt l k).sign = false then (tkAt l k).sign else 0
theorem letterS_yes {l : List LTk} {k : Nat} {told : ByteArray} {c : Int} (hs : signB l k c = true) (hc : hasB lettersS c = true) : letterS l k told = if hasB told c = true then 0 else c := by
  obtain ⟨h1, h2, h3⟩ : k < l.length ∧ (tkAt l k).kind = 1 ∧ (tkAt l k).sign = c := of_decide_eq_true hs
  unfold letterS
  rw [h3]
  cases hasB told c with
  | true => rw [if_neg (by simp)]; rfl
  | false => rw [if_pos ⟨h1, h2, hc, rfl⟩]; rfl
theorem letterS_no {l : List LTk} {k : Nat} {told : ByteArray} (h : ∀ j : Nat, j < 12 → signB l k (byteAt lettersS j) = false) : letterS l k told = 0 := by
  unfold letterS
  rw [if_neg]
  rintro ⟨h1, h2, h3, h4⟩
  obtain ⟨j, h5, h6⟩ := hasB_iff.1 h3
  have := h j h5
  rw [h6] at this
  exact absurd ⟨h1, h2, rfl⟩ (of_decide_eq_false this)
theorem lettersS_size : lettersS.size = 12 := rfl
set_option maxRecDepth 100000 in
set_option maxHeartbeats 4000000 in
theorem letter5_ok (l : List LTk) (k : Nat) (told : ByteArray) (hl : l.length ≤ 1000) (ht : told.size ≤ 1000) : FnOk Try.prog 131 [.sl 4 (l.map cTk), .raw (.int .i64 k), .raw (.string told)] [] (.raw (.int .u8 (letterS l k told))) [] := by
  refine fn_of_awp Try.func131 rfl (by kernel_rfl) (by kernel_rfl) (Nat.le_of_ble_eq_true rfl) Try.results131 ?_
  simp only [go_sem, Bool.not_eq_true', Bool.not_eq_false']
  (refine acall2 [] (letters5_ok) (by simp only [go_sem, Bool.not_eq_true', Bool.not_eq_false']; rfl) (fit_of (by simp only [go_sem, Bool.not_eq_true', Bool.not_eq_false']) (by simp only [go_sem, Bool.not_eq_true', Bool.not_eq_false']) (by simp only [go_sem, Bool.not_eq_true', Bool.not_eq_false']) (by simp only [go_sem, Bool.not_eq_true', Bool.not_eq_false']) (by simp only [go_sem, Bool.not_eq_true', Bool.not_eq_false']) (by simp only [go_sem, Bool.not_eq_true', Bool.not_eq_false']) (by simp only [go_sem, Bool.not_eq_true', Bool.not_eq_false'])) ?_; simp only [go_sem, Bool.not_eq_true', Bool.not_eq_false'])
  refine aloop2 [] (fun i : Nat => ⟨[(0, .sl 4 (l.map cTk)), (1, .raw (.int .i64 k)), (2, .raw (.string told)), (7, .raw (.string lettersS)), (8, .raw (.int .i64 i))], [], none⟩) (fun i => i ≤ 12 ∧ ∀ j : Nat, j < i → signB l k (byteAt lettersS j) = false) (fun i => 12 - i) 4 0 (by simp only [go_sem, Bool.not_eq_true', Bool.not_eq_false']; rfl) (by simp only [go_sem, Bool.not_eq_true', Bool.not_eq_false']) ?_ ?_
  · exact ⟨Nat.zero_le _, fun j h => absurd h (Nat.not_lt_zero j)⟩
  · rintro i ⟨h1, h2⟩
    have hz := lettersS_size
    simp only [go_sem, Bool.not_eq_true', Bool.not_eq_false']
    refine ⟨fun h5 => ?_, fun h5 => ?_⟩
    · have hi : i < lettersS.size := by omega
      have hb1 := byteAt_ge lettersS i
      have hb2 : byteAt lettersS i ≤ 127 := by
        have : ∀ j : Fin 12, byteAt lettersS j ≤ 127 := by decide
        exact this ⟨i, by omega⟩
      have ew : IntKind.i32.wrap (byteAt lettersS i) = byteAt lettersS i := IntWalk.i32_in _ ⟨by omega, by omega⟩
      refine ⟨by omega, ?_⟩
      simp only [ew]
      (refine acall2 [] (sign5_ok l k (byteAt lettersS i) hl) (by simp only [go_sem, Bool.not_eq_true', Bool.not_eq_false']; rfl) (fit_of (by simp only [go_sem, Bool.not_eq_true', Bool.not_eq_false']) (by simp only [go_sem, Bool.not_eq_true', Bool.not_eq_false']) (by simp only [go_sem, Bool.not_eq_true', Bool.not_eq_false']) (by simp only [go_sem, Bool.not_eq_true', Bool.not_eq_false']) (by simp only [go_sem, Bool.not_eq_true', Bool.not_eq_false']) (by simp only [go_sem, Bool.not_eq_true', Bool.not_eq_false']) (by simp only [go_sem, Bool.not_eq_true', Bool.not_eq_false'])) ?_; simp only [go_sem, Bool.not_eq_true', Bool.not_eq_false'])
      refine ⟨fun h6 => ⟨by omega, ?_⟩, fun h6 => ?_⟩
      · (refine loop_end [] (i + 1) (by simp only [go_sem, Bool.not_eq_true', Bool.not_eq_false']; rfl) ?_ ?_ ?_; (focus first | omega | (simp only; omega)); (focus (simp only [go_sem, Bool.not_eq_true', Bool.not_eq_false']; done)))
        refine ⟨by omega, fun j hj => ?_⟩
        rcases Nat.lt_succ_iff_lt_or_eq.1 hj with h8 | h8
        · exact h2 j h8
        · subst h8; exact h6
      · have hy := letterS_yes (told := told) h6 (hasB_iff.2 ⟨i, hi, rfl⟩)
        rw [hy]
        refine aloop2 [] (fun j : Nat => ⟨[(2, .raw (.string told)), (7, .raw (.string lettersS)), (8, .raw (.int .i64 i)), (9, .raw (.int .i64 j))], [], none⟩) (fun j => j ≤ told.size ∧ ∀ q : Nat, q < j → byteAt told q ≠ byteAt lettersS i) (fun j => told.size - j) 4 0 (by simp only [go_sem, Bool.not_eq_true', Bool.not_eq_false']; rfl) (by simp only [go_sem, Bool.not_eq_true', Bool.not_eq_false']) ?_ ?_
        · exact ⟨Nat.zero_le _, fun j h => absurd h (Nat.not_lt_zero j)⟩
        · rintro j ⟨q1, q2⟩
          simp only [go_sem, Bool.not_eq_true', Bool.not_eq_false']
          refine ⟨fun h7 => ?_, fun h7 => ?_⟩
          · have hj : j < told.size := by omega
            repeat' first | contradiction | intro _ | refine And.intro ?_ ?_ | refine get_tk (by omega) ?_ | refine ex_get (by omega) ?_ | (show drawB _ _ = true; kernel_rfl) | (refine ret2 [] (by simp only [go_sem, Bool.not_eq_true', Bool.not_eq_false']; rfl) ?_; simp only [go_sem, Bool.not_eq_true', Bool.not_eq_false'])
            all_goals first
              | omega
              | ((refine loop_end [] (j + 1) (by simp only [go_sem, Bool.not_eq_true', Bool.not_eq_false']; rfl) ?_ ?_ ?_; (focus first | omega | (simp only; omega)); (focus (simp only [go_sem, Bool.not_eq_true', Bool.not_eq_false']; done)))
                 refine ⟨by omega, fun q hq => ?_⟩
                 rcases Nat.lt_succ_iff_lt_or_eq.1 hq with h8 | h8
                 · exact q2 q h8
                 · subst h8; assumption)
              | (rw [if_pos (hasB_iff.2 ⟨j, hj, by assumption⟩)]; done)
              | skip
          · have hn : ¬ hasB told (byteAt lettersS i) = true := fun q => by
              obtain ⟨j', a, b⟩ := hasB_iff.1 q
              exact q2 j' (by omega) b
            rw [if_neg hn]
            repeat' first | contradiction | intro _ | refine And.intro ?_ ?_ | refine get_tk (by omega) ?_ | refine ex_get (by omega) ?_ | (show drawB _ _ = true; kernel_rfl) | (refine ret2 [] (by simp only [go_sem, Bool.not_eq_true', Bool.not_eq_false']; rfl) ?_; simp only [go_sem, Bool.not_eq_true', Bool.not_eq_false'])
            all_goals first
              | omega
              | skip
    · have e : i = 12 := by omega
      subst e
      rw [letterS_no h2]
end Go.Proofs.Ytblmebjhhanoaaa
/- THE SCRIPT'S READER: nodes; texts and boxes. -/
/- G -/
/- BOOLS -/
/- GET get_tk -/
set_option linter.unusedSimpArgs false
set_option linter.unusedVariables false
namespace Go.Proofs.Ytblmebjhhanoaaa
open Go.RowKit

structure LNo where
  kind : Int
  size : Int
  st : LSty
  line : Int
  space : Int
  words : List Int
  side : Int
  w : Int
  h : Int
deriving DecidableEq
def cNo (x : LNo) : List PV := [.raw (.int .i64 x.kind), .raw (.int .i64 x.size), .raw (.int .i64 x.st.top), .raw (.int .i64 x.st.bottom), .raw (.int .i64 x.st.padTop), .raw (.int .i64 x.st.padBottom), .raw (.int .i64 x.st.inset), .raw (.int .i64 x.st.orphans), .raw (.int .i64 x.st.widows), .raw (.int .i64 x.st.head), .raw (.int .i64 x.st.before), .raw (.int .i64 x.st.after), .raw (.int .i64 x.st.inside), .raw (.int .i64 x.st.clear), .raw (.int .i64 x.line), .raw (.int .i64 x.space), .sl 1 (x.words.map cInt), .raw (.int .i64 x.side), .raw (.int .i64 x.w), .raw (.int .i64 x.h)]
def lNo (x : LNo) : List AV := [.raw (.int .i64 x.kind), .raw (.int .i64 x.size), .raw (.int .i64 x.st.top), .raw (.int .i64 x.st.bottom), .raw (.int .i64 x.st.padTop), .raw (.int .i64 x.st.padBottom), .raw (.int .i64 x.st.inset), .raw (.int .i64 x.st.orphans), .raw (.int .i64 x.st.widows), .raw (.int .i64 x.st.head), .raw (.int .i64 x.st.before), .raw (.int .i64 x.st.after), .raw (.int .i64 x.st.inside), .raw (.int .i64 x.st.clear), .raw (.int .i64 x.line), .raw (.int .i64 x.space), .sl 1 (x.words.map cInt), .raw (.int .i64 x.side), .raw (.int .i64 x.w), .raw (.int .i64 x.h)]
def aNo (x : LNo) : AV := .agg (lNo x)
attribute [go_sem] cNo lNo aNo
def sty0 : LSty := ⟨0, 0, 0, 0, 0, 0, 0, 0, 0, 0, 0, 0⟩
def aGot (r : List LNo × Nat) : AV := .agg [.sl 20 (r.1.map cNo), .raw (.int .i64 r.2), .raw (.int .i64 0)]
attribute [go_sem] sty0 aGot
def boxS (l : List LTk) (k : Nat) (x : LNo) (c : Int) : Option (List LNo × Nat) :=
  if k ≤ l.length ∧ numB l k 1 1099511627776 = true ∧ numB l (k + 1) 1 1099511627776 = true ∧ signB l (k + 2) c = true then some ([⟨x.kind, x.size, x.st, x.line, x.space, x.words, x.side, (tkAt l k).n, (tkAt l (k + 1)).n⟩], k + 3) else none
set_option maxRecDepth 100000 in
set_option maxHeartbeats 4000000 in
theorem box5_ok (l : List LTk) (k : Nat) (x : LNo) (c : Int) (r : List LNo × Nat) (hl : l.length ≤ 1000) (h : boxS l k x c = some r) : FnOk Try.prog 114 [.sl 4 (l.map cTk), .raw (.int .i64 k), aNo x, .raw (.int .i32 c)] [] (aGot r) [] := by
  refine fn_of_swp Try.func114 rfl (by kernel_rfl) (by kernel_rfl) (Nat.le_of_ble_eq_true rfl) Try.results114 ?_
  unfold boxS at h
  split at h
  case isFalse => cases h
  next hh =>
  obtain ⟨h0, h1, h2, h3⟩ := hh
  injection h with h
  subst h
  have k1 : k < l.length := (of_decide_eq_true h1).1
  have k2 : k + 1 < l.length := (of_decide_eq_true h2).1
  (refine swp_seqW ?_; simp only [go_sem, Bool.not_eq_true', Bool.not_eq_false'])
  refine swp_cutS (fun _ : Unit => ⟨[(0, .sl 4 (l.map cTk)), (1, .raw (.int .i64 k)), (3, .raw (.int .i32 c)), (6, .hdr 8), (8, .hdr 16)], [(8, some (.cells 37 (lNo x))), (16, some (.cells 117 [.hdr 17, .raw (.int .i64 0), .raw (.int .i64 0)])), (17, some (.row 37 20 []))], none⟩) (fun _ => True) 4 ?_ ?_
  · (refine swp_seqW ?_; simp only [go_sem, Bool.not_eq_true', Bool.not_eq_false'])
    refine swp_block ?_
    refine swp_loop2 [] (fun i : Nat => ⟨[(0, .sl 4 (l.map cTk)), (1, .raw (.int .i64 k)), (3, .raw (.int .i32 c)), (6, .hdr 8), (8, .hdr 16), (9, .raw (.int .i64 i))], [(8, some (.cells 37 (lNo x))), (16, some (.cells 117 [.hdr 17, .raw (.int .i64 0), .raw (.int .i64 0)])), (17, some (.row 37 20 []))], none⟩) (fun i => i ≤ 2) (fun i => 2 - i) 5 0 (by simp only [go_sem, Bool.not_eq_true', Bool.not_eq_false']; rfl) (by simp only [go_sem, Bool.not_eq_true', Bool.not_eq_false']) ?_ ?_
    · exact Nat.zero_le _
    · intro i hi
      (refine swp_lastW ?_; simp only [go_sem, Bool.not_eq_true', Bool.not_eq_false'])
      refine ⟨fun h5 => ?_, fun h5 => ?_⟩
      · refine ⟨by omega, ?_⟩
        (refine acall2 [] (most5_ok) (by simp only [go_sem, Bool.not_eq_true', Bool.not_eq_false']; rfl) (fit_of (by simp only [go_sem, Bool.not_eq_true', Bool.not_eq_false']) (by simp only [go_sem, Bool.not_eq_true', Bool.not_eq_false']) (by simp only [go_sem, Bool.not_eq_true', Bool.not_eq_false']) (by simp only [go_sem, Bool.not_eq_true', Bool.not_eq_false']) (by simp only [go_sem, Bool.not_eq_true', Bool.not_eq_false']) (by simp only [go_sem, Bool.not_eq_true', Bool.not_eq_false']) (by simp only [go_sem, Bool.not_eq_true', Bool.not_eq_false'])) ?_; simp only [go_sem, Bool.not_eq_true', Bool.not_eq_false'])
        have hn : numB l (k + i) 1 1099511627776 = true := by
          rcases (by omega : i = 0 ∨ i = 1) with q | q <;> subst q <;> assumption
        (refine acall2 [] (num5_ok l (k + i) 1 1099511627776 hl) (by simp only [go_sem, Bool.not_eq_true', Bool.not_eq_false']; rfl) (fit_of (by simp only [go_sem, Bool.not_eq_true', Bool.not_eq_false']) (by simp only [go_sem, Bool.not_eq_true', Bool.not_eq_false']) (by simp only [go_sem, Bool.not_eq_true', Bool.not_eq_false']) (by simp only [go_sem, Bool.not_eq_true', Bool.not_eq_false']) (by simp only [go_sem, Bool.not_eq_true', Bool.not_eq_false']) (by simp only [go_sem, Bool.not_eq_true', Bool.not_eq_false']) (by simp only [go_sem, Bool.not_eq_true', Bool.not_eq_false'])) ?_; simp only [go_sem, Bool.not_eq_true', Bool.not_eq_false', hn])
        refine ⟨by omega, ?_⟩
        (refine loop_end [] (i + 1) (by simp only [go_sem, Bool.not_eq_true', Bool.not_eq_false']; rfl) ?_ ?_ ?_; (focus first | omega | (simp only; omega)); (focus (simp only [go_sem, Bool.not_eq_true', Bool.not_eq_false']; done)))
        omega
      · (refine cut_end [] (()) (by simp only [go_sem, Bool.not_eq_true', Bool.not_eq_false']; rfl) ?_ ?_; (focus (simp only [go_sem, Bool.not_eq_true', Bool.not_eq_false']; done)))
        trivial
  rintro - -
  (refine swp_lastW ?_; simp only [go_sem, Bool.not_eq_true', Bool.not_eq_false', List.length_map])
  refine ⟨by omega, ?_⟩
  (refine acall2 [] (sign5_ok l (k + 2) c hl) (by simp only [go_sem, Bool.not_eq_true', Bool.not_eq_false']; rfl) (fit_of (by simp only [go_sem, Bool.not_eq_true', Bool.not_eq_false']) (by simp only [go_sem, Bool.not_eq_true', Bool.not_eq_false']) (by simp only [go_sem, Bool.not_eq_true', Bool.not_eq_false']) (by simp only [go_sem, Bool.not_eq_true', Bool.not_eq_false']) (by simp only [go_sem, Bool.not_eq_true', Bool.not_eq_false']) (by simp only [go_sem, Bool.not_eq_true', Bool.not_eq_false']) (by simp only [go_sem, Bool.not_eq_true', Bool.not_eq_false'])) ?_; simp only [go_sem, Bool.not_eq_true', Bool.not_eq_false', h3])
  repeat' first | refine And.intro ?_ ?_ | refine get_tk (by omega) ?_
  all_goals first
    | omega
    | (refine ret2 [208] (by simp only [go_sem, Bool.not_eq_true', Bool.not_eq_false']; rfl) ?_; simp only [go_sem, Bool.not_eq_true', Bool.not_eq_false'])
    | skip
def wordsS (l : List LTk) : Nat → Nat → List Int × Nat
  | 0, k => ([], k)
  | f + 1, k => if numB l k 1 1099511627776 = true then ((tkAt l k).n :: (wordsS l f (k + 1)).1, (wordsS l f (k + 1)).2) else ([], k)
theorem wordsS_le (l : List LTk) : ∀ f k : Nat, k ≤ (wordsS l f k).2 ∧ (k ≤ l.length → (wordsS l f k).2 ≤ l.length) ∧ (wordsS l f k).1.length ≤ f
  | 0, k => ⟨Nat.le_refl _, fun h => h, Nat.le_refl _⟩
  | f + 1, k => by
    simp only [wordsS]
    split
    · next h =>
      have hk : k < l.length := (of_decide_eq_true h).1
      obtain ⟨h1, h2, h3⟩ := wordsS_le l f (k + 1)
      exact ⟨by simp only; omega, fun _ => h2 hk, by simp only [List.length_cons]; omega⟩
    · exact ⟨Nat.le_refl _, fun h => h, Nat.zero_le _⟩
def textS (l : List LTk) (k : Nat) : Option (List LNo × Nat) :=
  if k ≤ l.length ∧ numB l (k + 1) 1 1099511627776 = true ∧ numB l (k + 2) 0 1099511627776 = true ∧ (wordsS l l.length (k + 3)).1 ≠ [] ∧ signB l (wordsS l l.length (k + 3)).2 41 = true then
    some ([⟨2, 1, sty0, (tkAt l (k + 1)).n, (tkAt l (k + 2)).n, (wordsS l l.length (k + 3)).1, 0, 0, 0⟩], (wordsS l l.length (k + 3)).2 + 1) else none
structure LWd where
  k : Nat
  acc : List Int
theorem tn2 (k : Nat) : ((k : Int) + 2).toNat = k + 2 := by omega
set_option maxRecDepth 100000 in
set_option maxHeartbeats 4000000 in
theorem text5_ok (l : List LTk) (k : Nat) (r : List LNo × Nat) (hl : l.length ≤ 1000) (h : textS l k = some r) : FnOk Try.prog 113 [.sl 4 (l.map cTk), .raw (.int .i64 k)] [] (aGot r) [] := by
  refine fn_of_swp Try.func113 rfl (by kernel_rfl) (by kernel_rfl) (Nat.le_of_ble_eq_true rfl) Try.results113 ?_
  unfold textS at h
  split at h
  case isFalse => cases h
  next hh =>
  obtain ⟨h0, h1, h2, h3, h4⟩ := hh
  injection h with h
  subst h
  have k1 : k + 1 < l.length := (of_decide_eq_true h1).1
  have k2 : k + 2 < l.length := (of_decide_eq_true h2).1
  (refine swp_seqW ?_; simp only [go_sem, Bool.not_eq_true', Bool.not_eq_false'])
  (refine swp_seqW ?_; simp only [go_sem, Bool.not_eq_true', Bool.not_eq_false'])
  refine ⟨by omega, ?_⟩
  (refine acall2 [] (most5_ok) (by simp only [go_sem, Bool.not_eq_true', Bool.not_eq_false']; rfl) (fit_of (by simp only [go_sem, Bool.not_eq_true', Bool.not_eq_false']) (by simp only [go_sem, Bool.not_eq_true', Bool.not_eq_false']) (by simp only [go_sem, Bool.not_eq_true', Bool.not_eq_false']) (by simp only [go_sem, Bool.not_eq_true', Bool.not_eq_false']) (by simp only [go_sem, Bool.not_eq_true', Bool.not_eq_false']) (by simp only [go_sem, Bool.not_eq_true', Bool.not_eq_false']) (by simp only [go_sem, Bool.not_eq_true', Bool.not_eq_false'])) ?_; simp only [go_sem, Bool.not_eq_true', Bool.not_eq_false'])
  (refine acall2 [] (num5_ok l (k + 1) 1 1099511627776 hl) (by simp only [go_sem, Bool.not_eq_true', Bool.not_eq_false']; rfl) (fit_of (by simp only [go_sem, Bool.not_eq_true', Bool.not_eq_false']) (by simp only [go_sem, Bool.not_eq_true', Bool.not_eq_false']) (by simp only [go_sem, Bool.not_eq_true', Bool.not_eq_false']) (by simp only [go_sem, Bool.not_eq_true', Bool.not_eq_false']) (by simp only [go_sem, Bool.not_eq_true', Bool.not_eq_false']) (by simp only [go_sem, Bool.not_eq_true', Bool.not_eq_false']) (by simp only [go_sem, Bool.not_eq_true', Bool.not_eq_false'])) ?_; simp only [go_sem, Bool.not_eq_true', Bool.not_eq_false', h1])
  (refine swp_seqW ?_; simp only [go_sem, Bool.not_eq_true', Bool.not_eq_false'])
  refine ⟨by omega, ?_⟩
  (refine acall2 [] (most5_ok) (by simp only [go_sem, Bool.not_eq_true', Bool.not_eq_false']; rfl) (fit_of (by simp only [go_sem, Bool.not_eq_true', Bool.not_eq_false']) (by simp only [go_sem, Bool.not_eq_true', Bool.not_eq_false']) (by simp only [go_sem, Bool.not_eq_true', Bool.not_eq_false']) (by simp only [go_sem, Bool.not_eq_true', Bool.not_eq_false']) (by simp only [go_sem, Bool.not_eq_true', Bool.not_eq_false']) (by simp only [go_sem, Bool.not_eq_true', Bool.not_eq_false']) (by simp only [go_sem, Bool.not_eq_true', Bool.not_eq_false'])) ?_; simp only [go_sem, Bool.not_eq_true', Bool.not_eq_false'])
  (refine acall2 [] (num5_ok l (k + 2) 0 1099511627776 hl) (by simp only [go_sem, Bool.not_eq_true', Bool.not_eq_false']; rfl) (fit_of (by simp only [go_sem, Bool.not_eq_true', Bool.not_eq_false']) (by simp only [go_sem, Bool.not_eq_true', Bool.not_eq_false']) (by simp only [go_sem, Bool.not_eq_true', Bool.not_eq_false']) (by simp only [go_sem, Bool.not_eq_true', Bool.not_eq_false']) (by simp only [go_sem, Bool.not_eq_true', Bool.not_eq_false']) (by simp only [go_sem, Bool.not_eq_true', Bool.not_eq_false']) (by simp only [go_sem, Bool.not_eq_true', Bool.not_eq_false'])) ?_; simp only [go_sem, Bool.not_eq_true', Bool.not_eq_false', h2])
  (refine swp_seqW ?_; simp only [go_sem, Bool.not_eq_true', Bool.not_eq_false', List.length_map, tn2])
  refine ⟨by omega, by omega, get_tk (by omega) ⟨by omega, by omega, get_tk (by omega) ⟨by kernel_rfl, ?_⟩⟩⟩
  (refine swp_seqW ?_; simp only [go_sem, Bool.not_eq_true', Bool.not_eq_false'])
  refine ⟨by omega, ?_⟩
  generalize (tkAt l (k + 1)).n = m1
  generalize (tkAt l (k + 2)).n = m2
  refine swp_cutS (fun w : LWd => ⟨[(0, .sl 4 (l.map cTk)), (4, .hdr 8), (5, .hdr 16), (6, .raw (.int .i64 w.k))], [(8, some (.cells 117 [.hdr 9, .raw (.int .i64 0), .raw (.int .i64 0)])), (9, some (.row 37 20 [])), (16, some (.cells 37 [.raw (.int .i64 2), .raw (.int .i64 1), .raw (.int .i64 0), .raw (.int .i64 0), .raw (.int .i64 0), .raw (.int .i64 0), .raw (.int .i64 0), .raw (.int .i64 0), .raw (.int .i64 0), .raw (.int .i64 0), .raw (.int .i64 0), .raw (.int .i64 0), .raw (.int .i64 0), .raw (.int .i64 0), .raw (.int .i64 m1), .raw (.int .i64 m2), .hdr 17, .raw (.int .i64 0), .raw (.int .i64 0), .raw (.int .i64 0)])), (17, some (.row 3 1 (w.acc.map cInt)))], none⟩) (fun w => (w.acc, w.k) = wordsS l l.length (k + 3)) 4 ?_ ?_
  · refine swp_block ?_
    refine swp_loop2 [] (fun w : LWd => ⟨[(0, .sl 4 (l.map cTk)), (4, .hdr 8), (5, .hdr 16), (6, .raw (.int .i64 w.k))], [(8, some (.cells 117 [.hdr 9, .raw (.int .i64 0), .raw (.int .i64 0)])), (9, some (.row 37 20 [])), (16, some (.cells 37 [.raw (.int .i64 2), .raw (.int .i64 1), .raw (.int .i64 0), .raw (.int .i64 0), .raw (.int .i64 0), .raw (.int .i64 0), .raw (.int .i64 0), .raw (.int .i64 0), .raw (.int .i64 0), .raw (.int .i64 0), .raw (.int .i64 0), .raw (.int .i64 0), .raw (.int .i64 0), .raw (.int .i64 0), .raw (.int .i64 m1), .raw (.int .i64 m2), .hdr 17, .raw (.int .i64 0), .raw (.int .i64 0), .raw (.int .i64 0)])), (17, some (.row 3 1 (w.acc.map cInt)))], none⟩) (fun w => w.k ≤ l.length ∧ w.acc.length ≤ w.k ∧ ∃ f, l.length ≤ f + w.k ∧ (w.acc ++ (wordsS l f w.k).1, (wordsS l f w.k).2) = wordsS l l.length (k + 3)) (fun w => l.length - w.k) 40 ⟨k + 3, []⟩ (by simp only [go_sem, Bool.not_eq_true', Bool.not_eq_false']; rfl) (by simp only [go_sem, Bool.not_eq_true', Bool.not_eq_false']) ?_ ?_
    · exact ⟨by show k + 3 ≤ l.length; omega, Nat.zero_le _, l.length, by omega, rfl⟩
    · rintro ⟨kk, acc⟩ ⟨q1, q2, f, q3, q4⟩
      simp only at q1 q2 q3 q4
      (refine swp_lastW ?_; simp only [go_sem, Bool.not_eq_true', Bool.not_eq_false', List.length_map])
      (refine acall2 [] (most5_ok) (by simp only [go_sem, Bool.not_eq_true', Bool.not_eq_false']; rfl) (fit_of (by simp only [go_sem, Bool.not_eq_true', Bool.not_eq_false']) (by simp only [go_sem, Bool.not_eq_true', Bool.not_eq_false']) (by simp only [go_sem, Bool.not_eq_true', Bool.not_eq_false']) (by simp only [go_sem, Bool.not_eq_true', Bool.not_eq_false']) (by simp only [go_sem, Bool.not_eq_true', Bool.not_eq_false']) (by simp only [go_sem, Bool.not_eq_true', Bool.not_eq_false']) (by simp only [go_sem, Bool.not_eq_true', Bool.not_eq_false'])) ?_; simp only [go_sem, Bool.not_eq_true', Bool.not_eq_false'])
      (refine acall2 [] (num5_ok l kk 1 1099511627776 hl) (by simp only [go_sem, Bool.not_eq_true', Bool.not_eq_false']; rfl) (fit_of (by simp only [go_sem, Bool.not_eq_true', Bool.not_eq_false']) (by simp only [go_sem, Bool.not_eq_true', Bool.not_eq_false']) (by simp only [go_sem, Bool.not_eq_true', Bool.not_eq_false']) (by simp only [go_sem, Bool.not_eq_true', Bool.not_eq_false']) (by simp only [go_sem, Bool.not_eq_true', Bool.not_eq_false']) (by simp only [go_sem, Bool.not_eq_true', Bool.not_eq_false']) (by simp only [go_sem, Bool.not_eq_true', Bool.not_eq_false'])) ?_; simp only [go_sem, Bool.not_eq_true', Bool.not_eq_false'])
      refine ⟨fun h7 => ?_, fun h7 => ?_⟩
      · have hk : kk < l.length := (of_decide_eq_true h7).1
        obtain ⟨g, rfl⟩ : ∃ g, f = g + 1 := ⟨f - 1, by omega⟩
        rw [wordsS, if_pos h7] at q4
        repeat' first | refine And.intro ?_ ?_ | refine get_tk (by omega) ?_
        all_goals first
          | omega
          | (show drawB _ _ = true; kernel_rfl)
          | ((refine loop_end [] (⟨kk + 1, acc ++ [(tkAt l kk).n]⟩) (by simp only [go_sem, Bool.not_eq_true', Bool.not_eq_false']; rfl) ?_ ?_ ?_; (focus first | omega | (simp only; omega)); (focus (simp only [go_sem, Bool.not_eq_true', Bool.not_eq_false', List.map_append]; done)))
             exact ⟨by show kk + 1 ≤ l.length; omega, by simp; omega, g, by simp only; omega, by rw [← q4]; simp⟩)
          | skip
      · have e : (acc, kk) = wordsS l l.length (k + 3) := by
          rw [← q4]
          cases f with
          | zero => simp [wordsS]
          | succ g => rw [wordsS, if_neg (by rw [h7]; decide)]; simp
        (refine cut_end [] (⟨kk, acc⟩) (by simp only [go_sem, Bool.not_eq_true', Bool.not_eq_false']; rfl) ?_ ?_; (focus (simp only [go_sem, Bool.not_eq_true', Bool.not_eq_false']; done)))
        exact e
  rintro ⟨kk, acc⟩ hw
  simp only at hw
  have hwl := wordsS_le l l.length (k + 3)
  rw [← hw] at h3 h4 hwl ⊢
  simp only at h3 h4 hwl ⊢
  have hacc : acc.length ≠ 0 := fun q => h3 (List.eq_nil_of_length_eq_zero q)
  have kk1 : kk < l.length := (of_decide_eq_true h4).1
  (refine swp_lastW ?_; simp only [go_sem, Bool.not_eq_true', Bool.not_eq_false', List.length_map])
  refine ⟨fun _ => ?_, fun q => by omega⟩
  (refine acall2 [] (sign5_ok l kk 41 hl) (by simp only [go_sem, Bool.not_eq_true', Bool.not_eq_false']; rfl) (fit_of (by simp only [go_sem, Bool.not_eq_true', Bool.not_eq_false']) (by simp only [go_sem, Bool.not_eq_true', Bool.not_eq_false']) (by simp only [go_sem, Bool.not_eq_true', Bool.not_eq_false']) (by simp only [go_sem, Bool.not_eq_true', Bool.not_eq_false']) (by simp only [go_sem, Bool.not_eq_true', Bool.not_eq_false']) (by simp only [go_sem, Bool.not_eq_true', Bool.not_eq_false']) (by simp only [go_sem, Bool.not_eq_true', Bool.not_eq_false'])) ?_; simp only [go_sem, Bool.not_eq_true', Bool.not_eq_false', h4])
  refine ⟨by omega, ?_⟩
  (refine ret2 [120] (by simp only [go_sem, Bool.not_eq_true', Bool.not_eq_false']; rfl) ?_; simp only [go_sem, Bool.not_eq_true', Bool.not_eq_false'])
end Go.Proofs.Ytblmebjhhanoaaa
/- NODES as arguments. -/
/- G -/
set_option linter.unusedSimpArgs false
set_option linter.unusedVariables false
namespace Go.Proofs.Ytblmebjhhanoaaa
set_option maxRecDepth 100000
open Go.ChangeShapes Go.WideShapes Go.ChangeAt Go.RowKit Go.Deep

theorem open_st : OpenT Try.prog 34 (fun s : LSty => [.raw (.int .i64 s.top), .raw (.int .i64 s.bottom), .raw (.int .i64 s.padTop), .raw (.int .i64 s.padBottom), .raw (.int .i64 s.inset), .raw (.int .i64 s.orphans), .raw (.int .i64 s.widows), .raw (.int .i64 s.head), .raw (.int .i64 s.before), .raw (.int .i64 s.after), .raw (.int .i64 s.inside), .raw (.int .i64 s.clear)]) (fun _ => True) := ⟨fun {H enc w fuel cs y} h => by
  obtain ⟨ys, n, -, -, hlen, hyl, hg⟩ := DataW.trod_struct Try.underlying34 h
  have hcs : cs.length = 12 := hlen.trans (by kernel_rfl)
  obtain ⟨z0, c0, i0⟩ := fld hg hyl 0 1 (open_i Try.underlying3) 0 rfl rfl rfl (by kernel_rfl)
  obtain ⟨z1, c1, i1⟩ := fld hg hyl 1 1 (open_i Try.underlying3) 1 rfl rfl rfl (by kernel_rfl)
  obtain ⟨z2, c2, i2⟩ := fld hg hyl 2 1 (open_i Try.underlying3) 2 rfl rfl rfl (by kernel_rfl)
  obtain ⟨z3, c3, i3⟩ := fld hg hyl 3 1 (open_i Try.underlying3) 3 rfl rfl rfl (by kernel_rfl)
  obtain ⟨z4, c4, i4⟩ := fld hg hyl 4 1 (open_i Try.underlying3) 4 rfl rfl rfl (by kernel_rfl)
  obtain ⟨z5, c5, i5⟩ := fld hg hyl 5 1 (open_i Try.underlying3) 5 rfl rfl rfl (by kernel_rfl)
  obtain ⟨z6, c6, i6⟩ := fld hg hyl 6 1 (open_i Try.underlying3) 6 rfl rfl rfl (by kernel_rfl)
  obtain ⟨z7, c7, i7⟩ := fld hg hyl 7 1 (open_i Try.underlying3) 7 rfl rfl rfl (by kernel_rfl)
  obtain ⟨z8, c8, i8⟩ := fld hg hyl 8 1 (open_i Try.underlying3) 8 rfl rfl rfl (by kernel_rfl)
  obtain ⟨z9, c9, i9⟩ := fld hg hyl 9 1 (open_i Try.underlying3) 9 rfl rfl rfl (by kernel_rfl)
  obtain ⟨z10, c10, i10⟩ := fld hg hyl 10 1 (open_i Try.underlying3) 10 rfl rfl rfl (by kernel_rfl)
  obtain ⟨z11, c11, i11⟩ := fld hg hyl 11 1 (open_i Try.underlying3) 11 rfl rfl rfl (by kernel_rfl)
  exact ⟨⟨z0, z1, z2, z3, z4, z5, z6, z7, z8, z9, z10, z11⟩, cr_all hcs (cr_app c0 (cr_app c1 (cr_app c2 (cr_app c3 (cr_app c4 (cr_app c5 (cr_app c6 (cr_app c7 (cr_app c8 (cr_app c9 (cr_app c10 c11))))))))))), trivial⟩⟩
theorem open_no : OpenT Try.prog 37 cNo (fun x : LNo => x.words.length ≤ 9223372036854775807) := ⟨fun {H enc w fuel cs y} h => by
  obtain ⟨ys, n, -, -, hlen, hyl, hg⟩ := DataW.trod_struct Try.underlying37 h
  have hcs : cs.length = 20 := hlen.trans (by kernel_rfl)
  obtain ⟨z0, c0, i0⟩ := fld hg hyl 0 1 (open_i Try.underlying3) 0 rfl rfl rfl (by kernel_rfl)
  obtain ⟨z1, c1, i1⟩ := fld hg hyl 1 1 (open_i Try.underlying3) 1 rfl rfl rfl (by kernel_rfl)
  obtain ⟨z2, c2, i2⟩ := fld hg hyl 2 12 open_st 2 rfl rfl rfl (by kernel_rfl)
  obtain ⟨z3, c3, i3⟩ := fld hg hyl 14 1 (open_i Try.underlying3) 3 rfl rfl rfl (by kernel_rfl)
  obtain ⟨z4, c4, i4⟩ := fld hg hyl 15 1 (open_i Try.underlying3) 4 rfl rfl rfl (by kernel_rfl)
  obtain ⟨z5, c5, i5⟩ := fld hg hyl 16 1 (open_sl Try.underlying35 (by kernel_rfl) (Nat.zero_lt_succ _) (fun _ => rfl) (open_i Try.underlying3)) 5 rfl rfl rfl (by kernel_rfl)
  obtain ⟨z6, c6, i6⟩ := fld hg hyl 17 1 (open_i Try.underlying3) 6 rfl rfl rfl (by kernel_rfl)
  obtain ⟨z7, c7, i7⟩ := fld hg hyl 18 1 (open_i Try.underlying3) 7 rfl rfl rfl (by kernel_rfl)
  obtain ⟨z8, c8, i8⟩ := fld hg hyl 19 1 (open_i Try.underlying3) 8 rfl rfl rfl (by kernel_rfl)
  exact ⟨⟨z0, z1, z2, z3, z4, z5, z6, z7, z8⟩, cr_all hcs (cr_app c0 (cr_app c1 (cr_app c2 (cr_app c3 (cr_app c4 (cr_app c5 (cr_app c6 (cr_app c7 c8)))))))), i5.1⟩⟩
theorem open_nos : OpenT Try.prog 22 (fun xs : List LNo => [.sl 20 (xs.map cNo)]) (fun xs => xs.length ≤ 9223372036854775807 ∧ ∀ x ∈ xs, (fun x : LNo => x.words.length ≤ 9223372036854775807) x) := open_sl Try.underlying22 (by kernel_rfl) (Nat.zero_lt_succ _) (fun _ => rfl) open_no
end Go.Proofs.Ytblmebjhhanoaaa
/- PLAIN: spans and rectangles, as chapters 2 and 3 have them; no program in sight. -/
set_option linter.unusedSimpArgs false
set_option linter.unusedVariables false
namespace Go.Proofs.Ytblmebjhhanoaaa

structure LSpan where
  a : Int
  b : Int
deriving DecidableEq
structure LRect where
  x : Int
  y : Int
  w : Int
  h : Int
deriving DecidableEq
def emS (s : LSpan) : Bool := decide (s.b ≤ s.a)
def lenS (s : LSpan) : Int := if s.b ≤ s.a then 0 else s.b - s.a
def noneR (r : LRect) : Bool := decide (r.w < 1 ∨ r.h < 1)
def acr (r : LRect) : LSpan := ⟨r.x, r.x + r.w⟩
def dwn (r : LRect) : LSpan := ⟨r.y, r.y + r.h⟩
def ofS (c d : LSpan) : LRect := if lenS c < 1 ∨ lenS d < 1 then ⟨0, 0, 0, 0⟩ else ⟨c.a, d.a, lenS c, lenS d⟩
def ofE (l r t b : Int) : LRect := if r ≤ l ∨ b ≤ t then ⟨0, 0, 0, 0⟩ else ⟨l, t, r - l, b - t⟩
def meetS (a b : LSpan) : LSpan := if a.b ≤ a.a ∨ b.b ≤ b.a ∨ min a.b b.b ≤ max a.a b.a then ⟨0, 0⟩ else ⟨max a.a b.a, min a.b b.b⟩
def hullT (o s : LSpan) : LSpan := if s.b ≤ s.a then o else if o.a = 0 ∧ o.b = 0 then s else ⟨min o.a s.a, max o.b s.b⟩
def hullS (l : List LSpan) : LSpan := l.foldl hullT ⟨0, 0⟩
def somes3 (l : List LRect) : List LRect := l.filter fun r => !noneR r
def hullR (l : List LRect) : LRect := ofS (hullS ((somes3 l).map acr)) (hullS ((somes3 l).map dwn))
def rhullT (o r : LRect) : LRect := if noneR r then o else
  let o := if noneR o then r else o
  ofE (min o.x r.x) (max (o.x + o.w) (r.x + r.w)) (min o.y r.y) (max (o.y + o.h) (r.y + r.h))
def rhullR (l : List LRect) : LRect := l.foldl rhullT ⟨0, 0, 0, 0⟩

theorem snoc_ind {α : Type} {p : List α → Prop} (h0 : p []) (h1 : ∀ l a, p l → p (l ++ [a])) (l : List α) : p l := by
  rw [← List.reverse_reverse l]
  induction l.reverse with
  | nil => exact h0
  | cons a l ih => rw [List.reverse_cons]; exact h1 _ _ ih
theorem ofE_ofS (l r t b : Int) : ofE l r t b = ofS ⟨l, r⟩ ⟨t, b⟩ := by
  unfold ofE ofS lenS
  simp only
  by_cases h1 : r ≤ l <;> by_cases h2 : b ≤ t
  · simp [h1, h2]
  · simp [h1, h2]
  · simp [h1, h2]
  · rw [if_neg (by omega), if_neg h1, if_neg h2, if_neg (by omega)]
theorem hullT_ne {o s : LSpan} (h : s.a < s.b) (h1 : o.a < o.b) : hullT o s = ⟨min o.a s.a, max o.b s.b⟩ := by
  unfold hullT
  rw [if_neg (by omega), if_neg (by omega)]
theorem hullT_first {s : LSpan} (h : s.a < s.b) : hullT ⟨0, 0⟩ s = s := by
  unfold hullT
  rw [if_neg (by omega), if_pos ⟨rfl, rfl⟩]
theorem hullS_snoc (l : List LSpan) (s : LSpan) : hullS (l ++ [s]) = hullT (hullS l) s := by simp [hullS]
theorem rhullR_snoc (l : List LRect) (r : LRect) : rhullR (l ++ [r]) = rhullT (rhullR l) r := by simp [rhullR]
theorem somes3_snoc (l : List LRect) (r : LRect) : somes3 (l ++ [r]) = if noneR r then somes3 l else somes3 l ++ [r] := by
  unfold somes3
  rw [List.filter_append]
  cases h : noneR r <;> simp [h]
/-- nothing, or both ways something. -/
def Both (a d : LSpan) : Prop := (a = ⟨0, 0⟩ ∧ d = ⟨0, 0⟩) ∨ (a.a < a.b ∧ d.a < d.b)
theorem both_snoc {a d : LSpan} (h : Both a d) {r : LRect} (hr : noneR r = false) : Both (hullT a (acr r)) (hullT d (dwn r)) := by
  simp only [noneR, decide_eq_false_iff_not, not_or, Int.not_lt] at hr
  have ha : (acr r).a < (acr r).b := by simp only [acr]; omega
  have hd : (dwn r).a < (dwn r).b := by simp only [dwn]; omega
  right
  rcases h with ⟨rfl, rfl⟩ | ⟨h1, h2⟩
  · rw [hullT_first ha, hullT_first hd]; exact ⟨ha, hd⟩
  · rw [hullT_ne ha h1, hullT_ne hd h2]
    simp only
    omega
theorem both_hull (l : List LRect) : Both (hullS ((somes3 l).map acr)) (hullS ((somes3 l).map dwn)) := by
  refine snoc_ind (p := fun l => Both (hullS ((somes3 l).map acr)) (hullS ((somes3 l).map dwn))) (Or.inl ⟨rfl, rfl⟩) (fun l r ih => ?_) l
  rw [somes3_snoc]
  cases h : noneR r
  · simp only [Bool.false_eq_true, if_false, List.map_append, List.map_cons, List.map_nil, hullS_snoc]
    exact both_snoc ih h
  · exact ih
theorem rhull_step {a d : LSpan} (h : Both a d) (r : LRect) (hr : noneR r = false) : rhullT (ofS a d) r = ofS (hullT a (acr r)) (hullT d (dwn r)) := by
  have hr' := hr
  simp only [noneR, decide_eq_false_iff_not, not_or, Int.not_lt] at hr'
  have ha : (acr r).a < (acr r).b := by simp only [acr]; omega
  have hd : (dwn r).a < (dwn r).b := by simp only [dwn]; omega
  unfold rhullT
  rw [hr]
  simp only [Bool.false_eq_true, if_false, ofE_ofS]
  rcases h with ⟨rfl, rfl⟩ | ⟨h1, h2⟩
  · have e : ofS ⟨0, 0⟩ ⟨0, 0⟩ = ⟨0, 0, 0, 0⟩ := by decide
    have e3 : noneR ⟨0, 0, 0, 0⟩ = true := by decide
    rw [e, hullT_first ha, hullT_first hd, e3]
    simp only [if_true, Int.min_self, Int.max_self]
    rfl
  · have e : ofS a d = ⟨a.a, d.a, a.b - a.a, d.b - d.a⟩ := by
      unfold ofS lenS
      rw [if_neg (show ¬ a.b ≤ a.a by omega), if_neg (show ¬ d.b ≤ d.a by omega), if_neg (by omega)]
    have e3 : noneR ⟨a.a, d.a, a.b - a.a, d.b - d.a⟩ = false := by simp only [noneR, decide_eq_false_iff_not]; omega
    rw [e, hullT_ne ha h1, hullT_ne hd h2, e3]
    simp only [Bool.false_eq_true, if_false]
    rw [show a.a + (a.b - a.a) = a.b by omega, show d.a + (d.b - d.a) = d.b by omega]
    rfl
/-- the hull one by one is that of the spans. -/
theorem rhull_eq (l : List LRect) : rhullR l = hullR l := by
  refine snoc_ind (p := fun l => rhullR l = hullR l) (by decide) (fun l r ih => ?_) l
  rw [rhullR_snoc, ih]
  unfold hullR
  rw [somes3_snoc]
  cases h : noneR r
  · simp only [Bool.false_eq_true, if_false, List.map_append, List.map_cons, List.map_nil, hullS_snoc]
    exact rhull_step (both_hull _) r h
  · unfold rhullT; rw [h]; rfl
def nearS (s : LSpan) : Prop := -2305843009213693952 ≤ s.a ∧ s.b ≤ 2305843009213693952
theorem hullS_bd (l : List LSpan) (h : ∀ s ∈ l, nearS s) : nearS (hullS l) := by
  revert h
  refine snoc_ind (p := fun l => (∀ s ∈ l, nearS s) → nearS (hullS l)) (fun _ => by simp [hullS, nearS]) (fun l s ih h => ?_) l
  rw [hullS_snoc]
  have h1 := ih (fun s hs => h s (List.mem_append_left _ hs))
  have h2 := h s (by simp)
  unfold hullT
  split
  · exact h1
  · split
    · exact h2
    · unfold nearS at *; simp only; omega

/-! slices -/
def nr3 (n : Int) : Bool := decide (-1152921504606846976 ≤ n ∧ n ≤ 1152921504606846976)
def nearR (r : LRect) : Bool := nr3 r.x && nr3 r.y && nr3 r.w && nr3 r.h
theorem nearR_iff {r : LRect} : nearR r = true ↔ (-1152921504606846976 ≤ r.x ∧ r.x ≤ 1152921504606846976) ∧ (-1152921504606846976 ≤ r.y ∧ r.y ≤ 1152921504606846976) ∧ (-1152921504606846976 ≤ r.w ∧ r.w ≤ 1152921504606846976) ∧ (-1152921504606846976 ≤ r.h ∧ r.h ≤ 1152921504606846976) := by
  simp [nearR, nr3, and_assoc]
def sliceN (r : LRect) (high : Int) : Nat := if noneR r ∨ high < 1 ∨ 32768 ≤ (r.h - 1) / high then 0 else ((r.h - 1) / high + 1).toNat
def sliceR (r : LRect) (high : Int) (i : Nat) : LRect := ⟨r.x, r.y + i * high, r.w, min high (r.h - i * high)⟩
def slicesR (r : LRect) (high : Int) : List LRect := (List.range (sliceN r high)).map (sliceR r high)
theorem sliceN_lt {r : LRect} {high : Int} (h1 : noneR r = false) (h2 : 1 ≤ high) (h3 : (r.h - 1) / high < 32768) (i : Nat) : i < sliceN r high ↔ (i : Int) * high < r.h := by
  have h1' := h1
  simp only [noneR, decide_eq_false_iff_not, not_or, Int.not_lt] at h1'
  unfold sliceN
  rw [h1, if_neg (by simp; omega)]
  have := Int.ediv_nonneg (show 0 ≤ r.h - 1 by omega) (show 0 ≤ high by omega)
  have h4 := Int.le_ediv_iff_mul_le (a := i) (b := r.h - 1) (c := high) (by omega)
  omega
theorem sliceN_le {r : LRect} {high : Int} : sliceN r high ≤ 32768 := by
  unfold sliceN
  split
  · omega
  · omega
end Go.Proofs.Ytblmebjhhanoaaa
/- CHAPTERS 2 and 3: what spans and rectangles are asked, as contracts. -/
/- G -/
set_option linter.unusedSimpArgs false
set_option linter.unusedVariables false
namespace Go.Proofs.Ytblmebjhhanoaaa
open Go.RowKit

def cSpan (s : LSpan) : List PV := [.raw (.int .i64 s.a), .raw (.int .i64 s.b)]
def aSpan (s : LSpan) : AV := .agg [.raw (.int .i64 s.a), .raw (.int .i64 s.b)]
def cRect (r : LRect) : List PV := [.raw (.int .i64 r.x), .raw (.int .i64 r.y), .raw (.int .i64 r.w), .raw (.int .i64 r.h)]
def aRect (r : LRect) : AV := .agg [.raw (.int .i64 r.x), .raw (.int .i64 r.y), .raw (.int .i64 r.w), .raw (.int .i64 r.h)]
attribute [go_sem] cSpan aSpan cRect aRect

set_option maxRecDepth 100000 in
theorem snone_ok (s : LSpan) : FnOk Try.prog 62 [aSpan s] [] (.raw (.bool (emS s))) [] := by
  refine fn_of_awp Try.func62 rfl (by kernel_rfl) (by kernel_rfl) (Nat.le_of_ble_eq_true rfl) Try.results62 ?_
  simp only [go_sem]
  simp [emS]
set_option maxRecDepth 100000 in
theorem slen_ok (s : LSpan) (hs : nearS s) : FnOk Try.prog 61 [aSpan s] [] (.raw (.int .i64 (lenS s))) [] := by
  refine fn_of_awp Try.func61 rfl (by kernel_rfl) (by kernel_rfl) (Nat.le_of_ble_eq_true rfl) Try.results61 ?_
  simp only [go_sem]
  (refine acall2 [] (snone_ok s) (by simp only [go_sem]; rfl) (fit_of (by simp only [go_sem]) (by simp only [go_sem]) (by simp only [go_sem]) (by simp only [go_sem]) (by simp only [go_sem]) (by simp only [go_sem]) (by simp only [go_sem])) ?_; simp only [go_sem])
  simp only [emS, decide_eq_true_eq, decide_eq_false_iff_not, lenS]
  unfold nearS at hs
  refine ⟨fun h => by rw [if_pos h], fun h => ⟨by omega, by rw [if_neg h]⟩⟩
set_option maxRecDepth 100000 in
theorem rnone_ok (r : LRect) : FnOk Try.prog 35 [aRect r] [] (.raw (.bool (noneR r))) [] := by
  refine fn_of_awp Try.func35 rfl (by kernel_rfl) (by kernel_rfl) (Nat.le_of_ble_eq_true rfl) Try.results35 ?_
  simp only [go_sem]
  refine ⟨fun h => by simp [noneR, h], fun h => by simp [noneR, h]⟩
theorem ofS_none (c d : LSpan) : noneR ⟨c.a, d.a, lenS c, lenS d⟩ = decide (lenS c < 1 ∨ lenS d < 1) := rfl
set_option maxRecDepth 100000 in
theorem rof_ok (c d : LSpan) (hc : nearS c) (hd : nearS d) : FnOk Try.prog 36 [aSpan c, aSpan d] [] (aRect (ofS c d)) [] := by
  refine fn_of_awp Try.func36 rfl (by kernel_rfl) (by kernel_rfl) (Nat.le_of_ble_eq_true rfl) Try.results36 ?_
  simp only [go_sem]
  (refine acall2 [] (slen_ok c hc) (by simp only [go_sem]; rfl) (fit_of (by simp only [go_sem]) (by simp only [go_sem]) (by simp only [go_sem]) (by simp only [go_sem]) (by simp only [go_sem]) (by simp only [go_sem]) (by simp only [go_sem])) ?_; simp only [go_sem])
  (refine acall2 [] (slen_ok d hd) (by simp only [go_sem]; rfl) (fit_of (by simp only [go_sem]) (by simp only [go_sem]) (by simp only [go_sem]) (by simp only [go_sem]) (by simp only [go_sem]) (by simp only [go_sem]) (by simp only [go_sem])) ?_; simp only [go_sem])
  refine ⟨by kernel_rfl, ?_⟩
  (refine acall2 [] (rnone_ok ⟨c.a, d.a, lenS c, lenS d⟩) (by simp only [go_sem]; rfl) (fit_of (by simp only [go_sem]) (by simp only [go_sem]) (by simp only [go_sem]) (by simp only [go_sem]) (by simp only [go_sem]) (by simp only [go_sem]) (by simp only [go_sem])) ?_; simp only [go_sem, ofS_none])
  refine ⟨fun h => ?_, fun h => ?_⟩
  · simp [ofS, if_pos h]
  · simp [ofS, if_neg h]
set_option maxRecDepth 100000 in
theorem across_ok (r : LRect) (h : nearR r = true) : FnOk Try.prog 38 [aRect r] [] (aSpan (acr r)) [] := by
  refine fn_of_awp Try.func38 rfl (by kernel_rfl) (by kernel_rfl) (Nat.le_of_ble_eq_true rfl) Try.results38 ?_
  simp only [go_sem]
  rw [nearR_iff] at h
  exact ⟨by omega, rfl, rfl⟩
set_option maxRecDepth 100000 in
theorem down_ok (r : LRect) (h : nearR r = true) : FnOk Try.prog 39 [aRect r] [] (aSpan (dwn r)) [] := by
  refine fn_of_awp Try.func39 rfl (by kernel_rfl) (by kernel_rfl) (Nat.le_of_ble_eq_true rfl) Try.results39 ?_
  simp only [go_sem]
  rw [nearR_iff] at h
  exact ⟨by omega, rfl, rfl⟩
set_option maxRecDepth 100000 in
theorem smeet_ok (a b : LSpan) : FnOk Try.prog 37 [aSpan a, aSpan b] [] (aSpan (meetS a b)) [] := by
  refine fn_of_awp Try.func37 rfl (by kernel_rfl) (by kernel_rfl) (Nat.le_of_ble_eq_true rfl) Try.results37 ?_
  simp only [go_sem]
  (refine acall2 [] (snone_ok a) (by simp only [go_sem]; rfl) (fit_of (by simp only [go_sem]) (by simp only [go_sem]) (by simp only [go_sem]) (by simp only [go_sem]) (by simp only [go_sem]) (by simp only [go_sem]) (by simp only [go_sem])) ?_; simp only [go_sem])
  have hz : emS a = true ∨ emS b = true ∨ emS ⟨max a.a b.a, min a.b b.b⟩ = true → meetS a b = ⟨0, 0⟩ := fun h => by
    simp only [emS, decide_eq_true_eq] at h
    exact if_pos h
  have hn : emS a = false → emS b = false → emS ⟨max a.a b.a, min a.b b.b⟩ = false → meetS a b = ⟨max a.a b.a, min a.b b.b⟩ := fun h1 h2 h3 => by
    simp only [emS, decide_eq_false_iff_not] at h1 h2 h3
    exact if_neg (by omega)
  refine ⟨fun h => ?_, fun h => ?_⟩
  · (refine acall2 [] (snone_ok b) (by simp only [go_sem]; rfl) (fit_of (by simp only [go_sem]) (by simp only [go_sem]) (by simp only [go_sem]) (by simp only [go_sem]) (by simp only [go_sem]) (by simp only [go_sem]) (by simp only [go_sem])) ?_; simp only [go_sem])
    refine ⟨fun h1 => ?_, fun h1 => ?_⟩
    · (refine acall2 [] (snone_ok ⟨max a.a b.a, min a.b b.b⟩) (by simp only [go_sem]; rfl) (fit_of (by simp only [go_sem]) (by simp only [go_sem]) (by simp only [go_sem]) (by simp only [go_sem]) (by simp only [go_sem]) (by simp only [go_sem]) (by simp only [go_sem])) ?_; simp only [go_sem])
      refine ⟨fun h2 => ?_, fun h2 => ?_⟩
      · rw [hz (.inr (.inr h2))]; exact ⟨rfl, rfl⟩
      · rw [hn h h1 h2]; exact ⟨rfl, rfl⟩
    · rw [hz (.inr (.inl h1))]; exact ⟨rfl, rfl⟩
  · rw [hz (.inl h)]; exact ⟨rfl, rfl⟩
theorem hullS_nil : hullS [] = ⟨0, 0⟩ := rfl
theorem take_succ' {α : Type} (l : List α) (k : Nat) (h : k < l.length) : l.take (k + 1) = l.take k ++ [l[k]] := List.take_succ_eq_append_getElem h
end Go.Proofs.Ytblmebjhhanoaaa
/- CHAPTER 3: hulls and slices, the program's and the reference's. -/
/- G -/
set_option linter.unusedSimpArgs false
set_option linter.unusedVariables false
namespace Go.Proofs.Ytblmebjhhanoaaa
open Go.RowKit

theorem somes3_take {l : List LRect} {k : Nat} (h : k < l.length) : somes3 (l.take (k + 1)) = if noneR l[k] then somes3 (l.take k) else somes3 (l.take k) ++ [l[k]] := by
  rw [List.take_succ_eq_append_getElem h, somes3_snoc]
theorem somes3_len (l : List LRect) : (somes3 l).length ≤ l.length := List.length_filter_le ..
theorem nearR_at {l : List LRect} (h : l.all nearR = true) {k : Nat} (hk : k < l.length) : nearR l[k] = true := by
  rw [List.all_eq_true] at h
  exact h _ (List.getElem_mem hk)
theorem acr_near {r : LRect} (h : nearR r = true) : nearS (acr r) := by
  rw [nearR_iff] at h; unfold nearS acr; simp only; omega
theorem dwn_near {r : LRect} (h : nearR r = true) : nearS (dwn r) := by
  rw [nearR_iff] at h; unfold nearS dwn; simp only; omega
theorem hullA_near {l : List LRect} (h : l.all nearR = true) : nearS (hullS ((somes3 l).map acr)) := hullS_bd _ fun s hs => by
  rw [List.mem_map] at hs
  obtain ⟨r, hr, rfl⟩ := hs
  rw [List.all_eq_true] at h
  exact acr_near (h r (List.mem_filter.1 hr).1)
theorem hullD_near {l : List LRect} (h : l.all nearR = true) : nearS (hullS ((somes3 l).map dwn)) := hullS_bd _ fun s hs => by
  rw [List.mem_map] at hs
  obtain ⟨r, hr, rfl⟩ := hs
  rw [List.all_eq_true] at h
  exact dwn_near (h r (List.mem_filter.1 hr).1)
theorem all_take {α : Type} {p : α → Bool} {l : List α} (h : l.all p = true) (k : Nat) : (l.take k).all p = true := by
  rw [List.all_eq_true] at h ⊢
  exact fun x hx => h x (List.mem_of_mem_take hx)

theorem rhull_bd {l : List LRect} (h : l.all nearR = true) : (-2305843009213693952 ≤ (rhullR l).x ∧ 0 ≤ (rhullR l).w ∧ (rhullR l).x + (rhullR l).w ≤ 2305843009213693952) ∧ (-2305843009213693952 ≤ (rhullR l).y ∧ 0 ≤ (rhullR l).h ∧ (rhullR l).y + (rhullR l).h ≤ 2305843009213693952) := by
  rw [rhull_eq]
  have h1 := hullA_near h
  have h2 := hullD_near h
  unfold hullR ofS lenS
  unfold nearS at h1 h2
  repeat' split
  all_goals (simp only at *; omega)
end Go.Proofs.Ytblmebjhhanoaaa
/- CHAPTER 3: slices, the program's and the reference's; rows compared; the chapter's examples. -/
/- G -/
set_option linter.unusedSimpArgs false
set_option linter.unusedVariables false
namespace Go.Proofs.Ytblmebjhhanoaaa
open Go.RowKit

theorem div_facts {h high : Int} (h1 : 1 ≤ h) (h2 : 1 ≤ high) (h3 : h ≤ 1152921504606846976) : (h - 1).tdiv high = (h - 1) / high ∧ 0 ≤ (h - 1) / high ∧ (h - 1) / high ≤ 1152921504606846976 := by
  refine ⟨Int.tdiv_eq_ediv_of_nonneg (by omega), Int.ediv_nonneg (by omega) (by omega), ?_⟩
  have := Int.ediv_le_self high (show 0 ≤ h - 1 by omega)
  omega
theorem sliceN_none {r : LRect} {high : Int} (h : noneR r = true ∨ high < 1 ∨ 32768 ≤ (r.h - 1) / high) : slicesR r high = [] := by
  unfold slicesR sliceN
  rw [if_pos h]
  rfl
theorem range_succ' (n : Nat) : List.range (n + 1) = List.range n ++ [n] := List.range_succ
theorem div_up {h high : Int} (h1 : 1 ≤ h) (h2 : 1 ≤ high) : h.tdiv high = h / high ∧ 0 ≤ h / high ∧ h / high * high ≤ h ∧ (h / high * high < h → (h - 1) / high = h / high) ∧ (¬ h / high * high < h → (h - 1) / high = h / high - 1) := by
  have a1 : h / high * high ≤ h := (Int.le_ediv_iff_mul_le (by omega)).1 (Int.le_refl _)
  have a2 : h < (h / high + 1) * high := (Int.ediv_lt_iff_lt_mul (by omega)).1 (by omega)
  have key : ∀ q : Int, q * high ≤ h - 1 → h - 1 < (q + 1) * high → (h - 1) / high = q := fun q b1 b2 => by
    have c1 := (Int.le_ediv_iff_mul_le (a := q) (b := h - 1) (c := high) (by omega)).2 b1
    have c2 := (Int.ediv_lt_iff_lt_mul (a := h - 1) (b := q + 1) (c := high) (by omega)).2 b2
    omega
  refine ⟨Int.tdiv_eq_ediv_of_nonneg (by omega), Int.ediv_nonneg (by omega) (by omega), a1, fun h3 => key _ (by omega) (by omega), fun h3 => key _ ?_ ?_⟩
  · rw [Int.sub_mul]; omega
  · rw [Int.sub_add_cancel]; omega
structure SlX where
  i : Nat
  y : Int
  h : Int
def SlInv (r : LRect) (high : Int) (x : SlX) : Prop := x.i ≤ sliceN r high ∧ (x.i < sliceN r high → x.y = r.y + x.i * high) ∧ (-1152921504606846976 ≤ x.y ∧ x.y ≤ 2305843009213693952)
end Go.Proofs.Ytblmebjhhanoaaa
/- CHAPTER 10: bands; floats, what they leave free. -/
/- G -/
set_option linter.unusedSimpArgs false
set_option linter.unusedVariables false
namespace Go.Proofs.Ytblmebjhhanoaaa
open Go.RowKit

structure LFl where
  node : Int
  side : Int
  anchor : Int
  x : Int
  y : Int
  w : Int
  h : Int
deriving DecidableEq
def cFl (f : LFl) : List PV := [.raw (.int .i64 f.node), .raw (.int .i64 f.side), .raw (.int .i64 f.anchor), .raw (.int .i64 f.x), .raw (.int .i64 f.y), .raw (.int .i64 f.w), .raw (.int .i64 f.h)]
def aFl (f : LFl) : AV := .agg [.raw (.int .i64 f.node), .raw (.int .i64 f.side), .raw (.int .i64 f.anchor), .raw (.int .i64 f.x), .raw (.int .i64 f.y), .raw (.int .i64 f.w), .raw (.int .i64 f.h)]
def aPl (f : LFl) : AV := .agg [.raw (.int .i64 f.node), .raw (.int .i64 f.side), .raw (.int .i64 f.anchor), .raw (.int .i64 f.x), .raw (.int .i64 f.y), .raw (.int .i64 f.w), .raw (.int .i64 f.h), .raw (.int .i64 f.x), .raw (.int .i64 f.y), .raw (.int .i64 f.w), .raw (.int .i64 f.h)]
def rcF (f : LFl) : LRect := ⟨f.x, f.y, f.w, f.h⟩
attribute [go_sem] cFl aFl aPl rcF acr dwn
def nr10 (n : Int) : Bool := decide (-1125899906842624 ≤ n ∧ n ≤ 1125899906842624)
def nearF (f : LFl) : Bool := nr10 f.x && nr10 f.y && nr10 f.w && nr10 f.h
theorem nearF_iff {f : LFl} : nearF f = true ↔ (-1125899906842624 ≤ f.x ∧ f.x ≤ 1125899906842624) ∧ (-1125899906842624 ≤ f.y ∧ f.y ≤ 1125899906842624) ∧ (-1125899906842624 ≤ f.w ∧ f.w ≤ 1125899906842624) ∧ (-1125899906842624 ≤ f.h ∧ f.h ≤ 1125899906842624) := by
  simp only [nearF, nr10, Bool.and_eq_true, decide_eq_true_eq, and_assoc]
theorem nearRF {f : LFl} (h : nearF f = true) : nearR (rcF f) = true := by
  rw [nearF_iff] at h
  exact nearR_iff.2 (by simp only [rcF]; omega)
def meetF (f : LFl) (y high : Int) : Bool := decide (0 < f.h ∧ f.y < y + max high 1 ∧ y < f.y + f.h)
def cutF (f : LFl) (s : LSpan) : LSpan := if f.side = 1 then ⟨max s.a (f.x + f.w), s.b⟩ else ⟨s.a, min s.b f.x⟩
def ofT (y high : Int) (s : LSpan) (f : LFl) : LSpan := if meetF f y high then cutF f s else s
def bandF (l : List LFl) (y high : Int) (s : LSpan) : LSpan := l.foldl (ofT y high) s
structure LIs where
  n : Int
  is : Bool
deriving DecidableEq
def nextT (y high : Int) (s : LSpan) (o : LIs) (f : LFl) : LIs := if meetF f y high = true ∧ ¬ ((cutF f s).a = s.a ∧ (cutF f s).b = s.b) ∧ (o.is = true → f.y + f.h < o.n) then ⟨f.y + f.h, true⟩ else o
def nextF (l : List LFl) (y high : Int) (s : LSpan) : LIs := l.foldl (nextT y high s) ⟨0, false⟩
def mostT (t : LFl → LIs) (o : LIs) (f : LFl) : LIs := if (t f).is = true ∧ (o.is = true → o.n < (t f).n) then ⟨(t f).n, true⟩ else o
def lowF (sides : Int) (f : LFl) : LIs := ⟨f.y + f.h, decide (andI f.side sides ≠ 0)⟩
def topF (f : LFl) : LIs := ⟨f.y, true⟩
def mostF (t : LFl → LIs) (l : List LFl) : LIs := l.foldl (mostT t) ⟨0, false⟩
def aIs (o : LIs) : AV := .tup [.raw (.int .i64 o.n), .raw (.bool o.is)]
attribute [go_sem] aIs
set_option maxRecDepth 100000 in
theorem bof_ok (f : LFl) : FnOk Try.prog 107 [aFl f] [] (aPl f) [] := by
  refine fn_of_awp Try.func107 rfl (by kernel_rfl) (by kernel_rfl) (Nat.le_of_ble_eq_true rfl) Try.results107 ?_
  simp only [go_sem]
set_option maxRecDepth 100000 in
theorem bbot_ok (f : LFl) (h : nearF f = true) : FnOk Try.prog 79 [aPl f] [] (.raw (.int .i64 (f.y + f.h))) [] := by
  refine fn_of_awp Try.func79 rfl (by kernel_rfl) (by kernel_rfl) (Nat.le_of_ble_eq_true rfl) Try.results79 ?_
  simp only [go_sem]
  (refine acall2 [] (down_ok (rcF f) (nearRF h)) (by simp only [go_sem]; rfl) (fit_of (by simp only [go_sem]) (by simp only [go_sem]) (by simp only [go_sem]) (by simp only [go_sem]) (by simp only [go_sem]) (by simp only [go_sem]) (by simp only [go_sem])) ?_; simp only [go_sem])
theorem meetS_zero (a b : LSpan) : ((meetS a b).a = 0 ∧ (meetS a b).b = 0) ↔ (a.b ≤ a.a ∨ b.b ≤ b.a ∨ min a.b b.b ≤ max a.a b.a) := by
  unfold meetS
  split
  · next h => exact ⟨fun _ => h, fun _ => ⟨rfl, rfl⟩⟩
  · next h => exact ⟨fun h1 => by simp only at h1; omega, fun h1 => absurd h1 h⟩
set_option maxRecDepth 100000 in
theorem apart_ok (a b : LSpan) : FnOk Try.prog 148 [aSpan a, aSpan b] [] (.raw (.bool (decide ((meetS a b).a = 0 ∧ (meetS a b).b = 0)))) [] := by
  refine fn_of_awp Try.func148 rfl (by kernel_rfl) (by kernel_rfl) (Nat.le_of_ble_eq_true rfl) Try.results148 ?_
  simp only [go_sem]
  (refine acall2 [] (smeet_ok a b) (by simp only [go_sem]; rfl) (fit_of (by simp only [go_sem]) (by simp only [go_sem]) (by simp only [go_sem]) (by simp only [go_sem]) (by simp only [go_sem]) (by simp only [go_sem]) (by simp only [go_sem])) ?_; simp only [go_sem])
  simp
theorem meetF_eq (f : LFl) (y high : Int) (hh : 1 ≤ max high 1) : meetF f y high = !decide ((meetS ⟨f.y, f.y + f.h⟩ ⟨y, y + max high 1⟩).a = 0 ∧ (meetS ⟨f.y, f.y + f.h⟩ ⟨y, y + max high 1⟩).b = 0) := by
  have e := meetS_zero ⟨f.y, f.y + f.h⟩ ⟨y, y + max high 1⟩
  rw [Bool.eq_iff_iff]
  simp only [Bool.not_eq_true', decide_eq_false_iff_not, e, meetF, decide_eq_true_eq]
  omega
set_option maxRecDepth 100000 in
theorem meets_ok (f : LFl) (y high : Int) (h : nearF f = true) (hy : -4503599627370496 ≤ y ∧ y ≤ 4503599627370496) (hh : -4503599627370496 ≤ high ∧ high ≤ 4503599627370496) : FnOk Try.prog 141 [aPl f, .raw (.int .i64 y), .raw (.int .i64 high)] [] (.raw (.bool (meetF f y high))) [] := by
  refine fn_of_awp Try.func141 rfl (by kernel_rfl) (by kernel_rfl) (Nat.le_of_ble_eq_true rfl) Try.results141 ?_
  simp only [go_sem]
  (refine acall2 [] (down_ok (rcF f) (nearRF h)) (by simp only [go_sem]; rfl) (fit_of (by simp only [go_sem]) (by simp only [go_sem]) (by simp only [go_sem]) (by simp only [go_sem]) (by simp only [go_sem]) (by simp only [go_sem]) (by simp only [go_sem])) ?_; simp only [go_sem])
  refine ⟨by omega, ?_⟩
  (refine acall2 [] (apart_ok (dwn (rcF f)) ⟨y, y + max high 1⟩) (by simp only [go_sem]; rfl) (fit_of (by simp only [go_sem]) (by simp only [go_sem]) (by simp only [go_sem]) (by simp only [go_sem]) (by simp only [go_sem]) (by simp only [go_sem]) (by simp only [go_sem])) ?_; simp only [go_sem])
  exact meetF_eq f y high (by omega)
set_option maxRecDepth 100000 in
theorem cut_ok (f : LFl) (s : LSpan) (h : nearF f = true) : FnOk Try.prog 125 [aPl f, aSpan s] [] (aSpan (cutF f s)) [] := by
  refine fn_of_awp Try.func125 rfl (by kernel_rfl) (by kernel_rfl) (Nat.le_of_ble_eq_true rfl) Try.results125 ?_
  simp only [go_sem]
  (refine acall2 [] (across_ok (rcF f) (nearRF h)) (by simp only [go_sem]; rfl) (fit_of (by simp only [go_sem]) (by simp only [go_sem]) (by simp only [go_sem]) (by simp only [go_sem]) (by simp only [go_sem]) (by simp only [go_sem]) (by simp only [go_sem])) ?_; simp only [go_sem])
  exact ⟨fun h1 => by rw [cutF, if_pos h1]; exact ⟨rfl, rfl⟩, fun h1 => by rw [cutF, if_neg h1]; exact ⟨rfl, rfl⟩⟩
/-! folds, step by step -/
structure KX (α : Type) where
  k : Nat
  o : α
def FInv {α β : Type} (f : α → β → α) (a : α) (l : List β) (z : KX α) : Prop := z.k ≤ l.length ∧ z.o = (l.take z.k).foldl f a
theorem fInv_first {α β : Type} (f : α → β → α) (a : α) (l : List β) : FInv f a l ⟨0, a⟩ := ⟨Nat.zero_le _, rfl⟩
theorem fInv_next {α β : Type} {f : α → β → α} {a : α} {l : List β} {k : Nat} {o o' : α} (h : FInv f a l ⟨k, o⟩) (hk : k < l.length) (e : o' = f o l[k]) : FInv f a l ⟨k + 1, o'⟩ := by
  obtain ⟨h1, h2⟩ := h
  refine ⟨hk, ?_⟩
  simp only at h2 ⊢
  rw [List.take_succ_eq_append_getElem hk, List.foldl_append, ← h2, e]
  rfl
theorem fInv_last {α β : Type} {f : α → β → α} {a : α} {l : List β} {k : Nat} {o : α} (h : FInv f a l ⟨k, o⟩) (hk : ¬ (k : Int) < l.length) : o = l.foldl f a := by
  obtain ⟨h1, h2⟩ := h
  simp only at h1 h2
  rw [h2, List.take_of_length_le (by omega)]
theorem all_at {α : Type} {p : α → Bool} {l : List α} (h : l.all p = true) {k : Nat} (hk : k < l.length) : p l[k] = true := List.all_eq_true.1 h _ (List.getElem_mem hk)
set_option maxRecDepth 100000 in
theorem ofc_ok (f : LFl) (s : LSpan) (h : nearF f = true) : FnOk Try.prog 142 [aPl f, .hdr 0] [(0, .cells 87 [.raw (.int .i64 s.a), .raw (.int .i64 s.b)])] (.tup []) [(0, .cells 87 [.raw (.int .i64 (cutF f s).a), .raw (.int .i64 (cutF f s).b)])] := by
  refine fn_of_awp Try.func142 rfl (by kernel_rfl) (by kernel_rfl) (Nat.le_of_ble_eq_true rfl) Try.results142 ?_
  simp only [go_sem]
  (refine acall2 [] (cut_ok f s h) (by simp only [go_sem]; rfl) (fit_of (by simp only [go_sem]) (by simp only [go_sem]) (by simp only [go_sem]) (by simp only [go_sem]) (by simp only [go_sem]) (by simp only [go_sem]) (by simp only [go_sem])) ?_; simp only [go_sem])
  (refine ret2 [] (by simp only [go_sem]; rfl) ?_; simp only [go_sem])
def nextC (s : LSpan) (o : LIs) (f : LFl) : LIs := if ¬ ((cutF f s).a = s.a ∧ (cutF f s).b = s.b) ∧ (o.is = true → f.y + f.h < o.n) then ⟨f.y + f.h, true⟩ else o
theorem nextT_eq (y high : Int) (s : LSpan) (o : LIs) (f : LFl) : nextT y high s o f = if meetF f y high = true then nextC s o f else o := by
  unfold nextT nextC
  by_cases h : meetF f y high = true
  · simp only [h, true_and, if_true]
  · rw [if_neg (fun q => h q.1), if_neg h]
set_option maxRecDepth 100000 in
theorem nextc_ok (f : LFl) (s : LSpan) (o : LIs) (h : nearF f = true) : FnOk Try.prog 124 [aPl f, .hdr 0, .hdr 1, .hdr 2] [(0, .cells 87 [.raw (.int .i64 s.a), .raw (.int .i64 s.b)]), (1, .cells 4 [.raw (.bool o.is)]), (2, .cells 3 [.raw (.int .i64 o.n)])] (.tup []) [(0, .cells 87 [.raw (.int .i64 s.a), .raw (.int .i64 s.b)]), (1, .cells 4 [.raw (.bool (nextC s o f).is)]), (2, .cells 3 [.raw (.int .i64 (nextC s o f).n)])] := by
  refine fn_of_awp Try.func124 rfl (by kernel_rfl) (by kernel_rfl) (Nat.le_of_ble_eq_true rfl) Try.results124 ?_
  simp only [go_sem]
  repeat' first | intro _ | refine And.intro ?_ ?_ | refine ex_get (by omega) ?_ | (show drawB _ _ = true; kernel_rfl) | (refine ret2 [] (by simp only [go_sem]; rfl) ?_; simp only [go_sem]) | (refine acall2 [] (cut_ok f s h) (by simp only [go_sem]; rfl) (fit_of (by simp only [go_sem]) (by simp only [go_sem]) (by simp only [go_sem]) (by simp only [go_sem]) (by simp only [go_sem]) (by simp only [go_sem]) (by simp only [go_sem])) ?_; simp only [go_sem]) | (refine acall2 [] (bbot_ok f h) (by simp only [go_sem]; rfl) (fit_of (by simp only [go_sem]) (by simp only [go_sem]) (by simp only [go_sem]) (by simp only [go_sem]) (by simp only [go_sem]) (by simp only [go_sem]) (by simp only [go_sem])) ?_; simp only [go_sem])
  all_goals (unfold nextC; split <;> first | rfl | omega | (simp_all; done) | (simp_all; omega))
set_option maxRecDepth 100000 in
theorem lowc_ok (f : LFl) (sides : Int) (h : nearF f = true) : FnOk Try.prog 78 [aPl f, .hdr 0] [(0, .cells 3 [.raw (.int .i64 sides)])] (aIs (lowF sides f)) [(0, .cells 3 [.raw (.int .i64 sides)])] := by
  refine fn_of_awp Try.func78 rfl (by kernel_rfl) (by kernel_rfl) (Nat.le_of_ble_eq_true rfl) Try.results78 ?_
  simp only [go_sem]
  repeat' first | intro _ | refine And.intro ?_ ?_ | refine ex_get (by omega) ?_ | (show drawB _ _ = true; kernel_rfl) | (refine ret2 [] (by simp only [go_sem]; rfl) ?_; simp only [go_sem]) | (refine acall2 [] (bbot_ok f h) (by simp only [go_sem]; rfl) (fit_of (by simp only [go_sem]) (by simp only [go_sem]) (by simp only [go_sem]) (by simp only [go_sem]) (by simp only [go_sem]) (by simp only [go_sem]) (by simp only [go_sem])) ?_; simp only [go_sem])
  all_goals simp [lowF]
set_option maxRecDepth 100000 in
theorem topc_ok (f : LFl) (h : nearF f = true) : FnOk Try.prog 143 [aPl f] [] (aIs (topF f)) [] := by
  refine fn_of_awp Try.func143 rfl (by kernel_rfl) (by kernel_rfl) (Nat.le_of_ble_eq_true rfl) Try.results143 ?_
  simp only [go_sem]
  repeat' first | intro _ | refine And.intro ?_ ?_ | refine ex_get (by omega) ?_ | (show drawB _ _ = true; kernel_rfl) | (refine ret2 [] (by simp only [go_sem]; rfl) ?_; simp only [go_sem]) | (refine acall2 [] (down_ok (rcF f) (nearRF h)) (by simp only [go_sem]; rfl) (fit_of (by simp only [go_sem]) (by simp only [go_sem]) (by simp only [go_sem]) (by simp only [go_sem]) (by simp only [go_sem]) (by simp only [go_sem]) (by simp only [go_sem])) ?_; simp only [go_sem])
  all_goals rfl
end Go.Proofs.Ytblmebjhhanoaaa
/- CHAPTER 10: the program's bands: all, most, and what they tell. -/
/- G -/
set_option linter.unusedSimpArgs false
set_option linter.unusedVariables false
namespace Go.Proofs.Ytblmebjhhanoaaa
open Go.RowKit

theorem most_pos {t : LFl → LIs} {o : LIs} {f : LFl} (h : (t f).is = true ∧ (o.is = true → o.n < (t f).n)) : (⟨(t f).n, true⟩ : LIs) = mostT t o f := by rw [mostT, if_pos h]
theorem most_neg {t : LFl → LIs} {o : LIs} {f : LFl} (h : (t f).is = true → o.is = true ∧ ¬ o.n < (t f).n) : o = mostT t o f := by
  rw [mostT, if_neg]
  rintro ⟨h1, h2⟩
  exact (h h1).2 (h2 (h h1).1)
def in10 (n : Int) : Prop := -4503599627370496 ≤ n ∧ n ≤ 4503599627370496
set_option maxRecDepth 100000 in
theorem allOf_ok (l : List LFl) (y high : Int) (s : LSpan) (hl : l.length ≤ 100) (hn : l.all nearF = true) (hy : in10 y) (hh : in10 high) : FnOk Try.prog 123 [.sl 7 (l.map cFl), .raw (.int .i64 y), .raw (.int .i64 high), .clo (.func 142) [.hdr 1]] [(1, .cells 87 [.raw (.int .i64 s.a), .raw (.int .i64 s.b)])] (.tup []) [(1, .cells 87 [.raw (.int .i64 (bandF l y high s).a), .raw (.int .i64 (bandF l y high s).b)])] := by
  refine fn_of_awp Try.func123 rfl (by kernel_rfl) (by kernel_rfl) (Nat.le_of_ble_eq_true rfl) Try.results123 ?_
  simp only [go_sem, List.length_map]
  refine aloop2 [] (fun z : KX LSpan => ⟨[(1, .raw (.int .i64 y)), (2, .raw (.int .i64 high)), (3, .clo (.func 142) [.hdr 1]), (11, .sl 7 (l.map cFl)), (12, .raw (.int .i64 l.length)), (13, .raw (.int .i64 z.k))], [(1, some (.cells 87 [.raw (.int .i64 z.o.a), .raw (.int .i64 z.o.b)]))], none⟩) (FInv (ofT y high) s l) (fun z => l.length - z.k) 2 ⟨0, s⟩ (by simp only [go_sem]; rfl) (by simp only [go_sem]) ?_ ?_
  · exact fInv_first _ _ _
  · rintro ⟨k, o⟩ hi
    simp only [go_sem, List.length_map]
    refine ⟨fun h5 => ?_, fun h5 => ?_⟩
    · have hk : k < l.length := by omega
      have hf := all_at hn hk
      refine ⟨by omega, l[k], by simp, ?_⟩
      repeat' first | intro _ | refine And.intro ?_ ?_ | refine ex_get (by omega) ?_ | (show drawB _ _ = true; kernel_rfl) | (refine ret2 [] (by simp only [go_sem]; rfl) ?_; simp only [go_sem]) | (refine acall2 [] (bof_ok l[k]) (by simp only [go_sem]; rfl) (fit_of (by simp only [go_sem]) (by simp only [go_sem]) (by simp only [go_sem]) (by simp only [go_sem]) (by simp only [go_sem]) (by simp only [go_sem]) (by simp only [go_sem])) ?_; simp only [go_sem]) | (refine acall2 [] (meets_ok l[k] y high hf hy hh) (by simp only [go_sem]; rfl) (fit_of (by simp only [go_sem]) (by simp only [go_sem]) (by simp only [go_sem]) (by simp only [go_sem]) (by simp only [go_sem]) (by simp only [go_sem]) (by simp only [go_sem])) ?_; simp only [go_sem]) | (refine acall2 [] (ofc_ok l[k] o hf) (by simp only [go_sem]; rfl) (fit_of (by simp only [go_sem]) (by simp only [go_sem]) (by simp only [go_sem]) (by simp only [go_sem]) (by simp only [go_sem]) (by simp only [go_sem]) (by simp only [go_sem])) ?_; simp only [go_sem])
      all_goals first | omega | ((refine loop_end [] (⟨k + 1, cutF l[k] o⟩) (by simp only [go_sem]; rfl) ?_ ?_ ?_; (focus first | omega | (simp only; omega)); (focus (simp only [go_sem]; done))); exact fInv_next hi hk (by rw [ofT, if_pos (by assumption)])) | ((refine loop_end [] (⟨k + 1, o⟩) (by simp only [go_sem]; rfl) ?_ ?_ ?_; (focus first | omega | (simp only; omega)); (focus (simp only [go_sem]; done))); exact fInv_next hi hk (by rw [ofT, if_neg (by simp [*])]))
    · have e := fInv_last hi h5
      repeat' first | intro _ | refine And.intro ?_ ?_ | refine ex_get (by omega) ?_ | (show drawB _ _ = true; kernel_rfl) | (refine ret2 [] (by simp only [go_sem]; rfl) ?_; simp only [go_sem])
      all_goals (rw [e]; rfl)
set_option maxRecDepth 100000 in
theorem allNext_ok (l : List LFl) (y high : Int) (s : LSpan) (hl : l.length ≤ 100) (hn : l.all nearF = true) (hy : in10 y) (hh : in10 high) : FnOk Try.prog 123 [.sl 7 (l.map cFl), .raw (.int .i64 y), .raw (.int .i64 high), .clo (.func 124) [.hdr 1, .hdr 2, .hdr 3]] [(1, .cells 87 [.raw (.int .i64 s.a), .raw (.int .i64 s.b)]), (2, .cells 4 [.raw (.bool false)]), (3, .cells 3 [.raw (.int .i64 0)])] (.tup []) [(1, .cells 87 [.raw (.int .i64 s.a), .raw (.int .i64 s.b)]), (2, .cells 4 [.raw (.bool (nextF l y high s).is)]), (3, .cells 3 [.raw (.int .i64 (nextF l y high s).n)])] := by
  refine fn_of_awp Try.func123 rfl (by kernel_rfl) (by kernel_rfl) (Nat.le_of_ble_eq_true rfl) Try.results123 ?_
  simp only [go_sem, List.length_map]
  refine aloop2 [] (fun z : KX LIs => ⟨[(1, .raw (.int .i64 y)), (2, .raw (.int .i64 high)), (3, .clo (.func 124) [.hdr 1, .hdr 2, .hdr 3]), (11, .sl 7 (l.map cFl)), (12, .raw (.int .i64 l.length)), (13, .raw (.int .i64 z.k))], [(1, some (.cells 87 [.raw (.int .i64 s.a), .raw (.int .i64 s.b)])), (2, some (.cells 4 [.raw (.bool z.o.is)])), (3, some (.cells 3 [.raw (.int .i64 z.o.n)]))], none⟩) (FInv (nextT y high s) ⟨0, false⟩ l) (fun z => l.length - z.k) 2 ⟨0, ⟨0, false⟩⟩ (by simp only [go_sem]; rfl) (by simp only [go_sem]) ?_ ?_
  · exact fInv_first _ _ _
  · rintro ⟨k, o⟩ hi
    simp only [go_sem, List.length_map]
    refine ⟨fun h5 => ?_, fun h5 => ?_⟩
    · have hk : k < l.length := by omega
      have hf := all_at hn hk
      refine ⟨by omega, l[k], by simp, ?_⟩
      repeat' first | intro _ | refine And.intro ?_ ?_ | refine ex_get (by omega) ?_ | (show drawB _ _ = true; kernel_rfl) | (refine ret2 [] (by simp only [go_sem]; rfl) ?_; simp only [go_sem]) | (refine acall2 [] (bof_ok l[k]) (by simp only [go_sem]; rfl) (fit_of (by simp only [go_sem]) (by simp only [go_sem]) (by simp only [go_sem]) (by simp only [go_sem]) (by simp only [go_sem]) (by simp only [go_sem]) (by simp only [go_sem])) ?_; simp only [go_sem]) | (refine acall2 [] (meets_ok l[k] y high hf hy hh) (by simp only [go_sem]; rfl) (fit_of (by simp only [go_sem]) (by simp only [go_sem]) (by simp only [go_sem]) (by simp only [go_sem]) (by simp only [go_sem]) (by simp only [go_sem]) (by simp only [go_sem])) ?_; simp only [go_sem]) | (refine acall2 [] (nextc_ok l[k] s o hf) (by simp only [go_sem]; rfl) (fit_of (by simp only [go_sem]) (by simp only [go_sem]) (by simp only [go_sem]) (by simp only [go_sem]) (by simp only [go_sem]) (by simp only [go_sem]) (by simp only [go_sem])) ?_; simp only [go_sem])
      all_goals first | omega | ((refine loop_end [] (⟨k + 1, nextC s o l[k]⟩) (by simp only [go_sem]; rfl) ?_ ?_ ?_; (focus first | omega | (simp only; omega)); (focus (simp only [go_sem]; done))); exact fInv_next hi hk (by rw [nextT_eq, if_pos (by assumption)])) | ((refine loop_end [] (⟨k + 1, o⟩) (by simp only [go_sem]; rfl) ?_ ?_ ?_; (focus first | omega | (simp only; omega)); (focus (simp only [go_sem]; done))); exact fInv_next hi hk (by rw [nextT_eq, if_neg (by simp [*])]))
    · have e := fInv_last hi h5
      repeat' first | intro _ | refine And.intro ?_ ?_ | refine ex_get (by omega) ?_ | (show drawB _ _ = true; kernel_rfl) | (refine ret2 [] (by simp only [go_sem]; rfl) ?_; simp only [go_sem])
      all_goals (rw [e]; rfl)
set_option maxRecDepth 100000 in
theorem mostLow_ok (l : List LFl) (sides : Int) (hl : l.length ≤ 100) (hn : l.all nearF = true) : FnOk Try.prog 77 [.sl 7 (l.map cFl), .clo (.func 78) [.hdr 1]] [(1, .cells 3 [.raw (.int .i64 sides)])] (aIs (mostF (lowF sides) l)) [] := by
  refine fn_of_awp Try.func77 rfl (by kernel_rfl) (by kernel_rfl) (Nat.le_of_ble_eq_true rfl) Try.results77 ?_
  simp only [go_sem, List.length_map]
  refine aloop2 [] (fun z : KX LIs => ⟨[(1, .clo (.func 78) [.hdr 1]), (4, .raw (.int .i64 0)), (5, .raw (.bool false)), (6, .raw (.int .i64 z.o.n)), (7, .raw (.bool z.o.is)), (12, .sl 7 (l.map cFl)), (13, .raw (.int .i64 l.length)), (14, .raw (.int .i64 z.k))], [(1, some (.cells 3 [.raw (.int .i64 sides)]))], none⟩) (FInv (mostT (lowF sides)) ⟨0, false⟩ l) (fun z => l.length - z.k) 2 ⟨0, ⟨0, false⟩⟩ (by simp only [go_sem]; rfl) (by simp only [go_sem]) ?_ ?_
  · exact fInv_first _ _ _
  · rintro ⟨k, o⟩ hi
    simp only [go_sem, List.length_map]
    refine ⟨fun h5 => ?_, fun h5 => ?_⟩
    · have hk : k < l.length := by omega
      have hf := all_at hn hk
      refine ⟨by omega, l[k], by simp, ?_⟩
      repeat' first | intro _ | refine And.intro ?_ ?_ | refine ex_get (by omega) ?_ | (show drawB _ _ = true; kernel_rfl) | (refine ret2 [] (by simp only [go_sem]; rfl) ?_; simp only [go_sem]) | (refine acall2 [] (bof_ok l[k]) (by simp only [go_sem]; rfl) (fit_of (by simp only [go_sem]) (by simp only [go_sem]) (by simp only [go_sem]) (by simp only [go_sem]) (by simp only [go_sem]) (by simp only [go_sem]) (by simp only [go_sem])) ?_; simp only [go_sem]) | (refine acall2 [] (lowc_ok l[k] sides hf) (by simp only [go_sem]; rfl) (fit_of (by simp only [go_sem]) (by simp only [go_sem]) (by simp only [go_sem]) (by simp only [go_sem]) (by simp only [go_sem]) (by simp only [go_sem]) (by simp only [go_sem])) ?_; simp only [go_sem])
      all_goals first | omega | ((refine loop_end [] (⟨k + 1, ⟨(lowF sides l[k]).n, true⟩⟩) (by simp only [go_sem]; rfl) ?_ ?_ ?_; (focus first | omega | (simp only; omega)); (focus (simp only [go_sem]; done))); refine fInv_next hi hk (most_pos ?_); simp_all; done) | ((refine loop_end [] (⟨k + 1, o⟩) (by simp only [go_sem]; rfl) ?_ ?_ ?_; (focus first | omega | (simp only; omega)); (focus (simp only [go_sem]; done))); refine fInv_next hi hk (most_neg ?_); simp_all; try omega)
    · have e := fInv_last hi h5
      repeat' first | intro _ | refine And.intro ?_ ?_ | refine ex_get (by omega) ?_ | (show drawB _ _ = true; kernel_rfl) | (refine ret2 [] (by simp only [go_sem]; rfl) ?_; simp only [go_sem])
      all_goals (rw [e]; rfl)
set_option maxRecDepth 100000 in
theorem mostTop_ok (l : List LFl) (hl : l.length ≤ 100) (hn : l.all nearF = true) : FnOk Try.prog 77 [.sl 7 (l.map cFl), .clo (.func 143) []] [] (aIs (mostF topF l)) [] := by
  refine fn_of_awp Try.func77 rfl (by kernel_rfl) (by kernel_rfl) (Nat.le_of_ble_eq_true rfl) Try.results77 ?_
  simp only [go_sem, List.length_map]
  refine aloop2 [] (fun z : KX LIs => ⟨[(1, .clo (.func 143) []), (4, .raw (.int .i64 0)), (5, .raw (.bool false)), (6, .raw (.int .i64 z.o.n)), (7, .raw (.bool z.o.is)), (12, .sl 7 (l.map cFl)), (13, .raw (.int .i64 l.length)), (14, .raw (.int .i64 z.k))], [], none⟩) (FInv (mostT topF) ⟨0, false⟩ l) (fun z => l.length - z.k) 2 ⟨0, ⟨0, false⟩⟩ (by simp only [go_sem]; rfl) (by simp only [go_sem]) ?_ ?_
  · exact fInv_first _ _ _
  · rintro ⟨k, o⟩ hi
    simp only [go_sem, List.length_map]
    refine ⟨fun h5 => ?_, fun h5 => ?_⟩
    · have hk : k < l.length := by omega
      have hf := all_at hn hk
      refine ⟨by omega, l[k], by simp, ?_⟩
      repeat' first | intro _ | refine And.intro ?_ ?_ | refine ex_get (by omega) ?_ | (show drawB _ _ = true; kernel_rfl) | (refine ret2 [] (by simp only [go_sem]; rfl) ?_; simp only [go_sem]) | (refine acall2 [] (bof_ok l[k]) (by simp only [go_sem]; rfl) (fit_of (by simp only [go_sem]) (by simp only [go_sem]) (by simp only [go_sem]) (by simp only [go_sem]) (by simp only [go_sem]) (by simp only [go_sem]) (by simp only [go_sem])) ?_; simp only [go_sem]) | (refine acall2 [] (topc_ok l[k] hf) (by simp only [go_sem]; rfl) (fit_of (by simp only [go_sem]) (by simp only [go_sem]) (by simp only [go_sem]) (by simp only [go_sem]) (by simp only [go_sem]) (by simp only [go_sem]) (by simp only [go_sem])) ?_; simp only [go_sem])
      all_goals first | omega | ((refine loop_end [] (⟨k + 1, ⟨(topF l[k]).n, true⟩⟩) (by simp only [go_sem]; rfl) ?_ ?_ ?_; (focus first | omega | (simp only; omega)); (focus (simp only [go_sem]; done))); refine fInv_next hi hk (most_pos ?_); simp_all; done) | ((refine loop_end [] (⟨k + 1, o⟩) (by simp only [go_sem]; rfl) ?_ ?_ ?_; (focus first | omega | (simp only; omega)); (focus (simp only [go_sem]; done))); refine fInv_next hi hk (most_neg ?_); simp_all; try omega)
    · have e := fInv_last hi h5
      repeat' first | intro _ | refine And.intro ?_ ?_ | refine ex_get (by omega) ?_ | (show drawB _ _ = true; kernel_rfl) | (refine ret2 [] (by simp only [go_sem]; rfl) ?_; simp only [go_sem])
      all_goals (rw [e]; rfl)

set_option maxRecDepth 100000 in
theorem bof10_ok (l : List LFl) (y high : Int) (s : LSpan) (hl : l.length ≤ 100) (hn : l.all nearF = true) (hy : in10 y) (hh : in10 high) : FnOk Try.prog 126 [.sl 7 (l.map cFl), .raw (.int .i64 y), .raw (.int .i64 high), aSpan s] [] (aSpan (bandF l y high s)) [] := by
  refine fn_of_awp Try.func126 rfl (by kernel_rfl) (by kernel_rfl) (Nat.le_of_ble_eq_true rfl) Try.results126 ?_
  simp only [go_sem]
  repeat' first | intro _ | refine And.intro ?_ ?_ | refine ex_get (by omega) ?_ | (show drawB _ _ = true; kernel_rfl) | (refine ret2 [] (by simp only [go_sem]; rfl) ?_; simp only [go_sem]) | (refine acall2 [] (allOf_ok l y high s hl hn hy hh) (by simp only [go_sem]; rfl) (fit_of (by simp only [go_sem]) (by simp only [go_sem]) (by simp only [go_sem]) (by simp only [go_sem]) (by simp only [go_sem]) (by simp only [go_sem]) (by simp only [go_sem])) ?_; simp only [go_sem])
set_option maxRecDepth 100000 in
theorem bnext_ok (l : List LFl) (y high : Int) (s : LSpan) (hl : l.length ≤ 100) (hn : l.all nearF = true) (hy : in10 y) (hh : in10 high) : FnOk Try.prog 103 [.sl 7 (l.map cFl), .raw (.int .i64 y), .raw (.int .i64 high), aSpan s] [] (aIs (nextF l y high s)) [] := by
  refine fn_of_awp Try.func103 rfl (by kernel_rfl) (by kernel_rfl) (Nat.le_of_ble_eq_true rfl) Try.results103 ?_
  simp only [go_sem]
  repeat' first | intro _ | refine And.intro ?_ ?_ | refine ex_get (by omega) ?_ | (show drawB _ _ = true; kernel_rfl) | (refine ret2 [] (by simp only [go_sem]; rfl) ?_; simp only [go_sem]) | (refine acall2 [] (allNext_ok l y high s hl hn hy hh) (by simp only [go_sem]; rfl) (fit_of (by simp only [go_sem]) (by simp only [go_sem]) (by simp only [go_sem]) (by simp only [go_sem]) (by simp only [go_sem]) (by simp only [go_sem]) (by simp only [go_sem])) ?_; simp only [go_sem])
set_option maxRecDepth 100000 in
theorem blow_ok (l : List LFl) (sides : Int) (hl : l.length ≤ 100) (hn : l.all nearF = true) : FnOk Try.prog 57 [.sl 7 (l.map cFl), .raw (.int .i64 sides)] [] (aIs (mostF (lowF sides) l)) [] := by
  refine fn_of_awp Try.func57 rfl (by kernel_rfl) (by kernel_rfl) (Nat.le_of_ble_eq_true rfl) Try.results57 ?_
  simp only [go_sem]
  repeat' first | intro _ | refine And.intro ?_ ?_ | refine ex_get (by omega) ?_ | (show drawB _ _ = true; kernel_rfl) | (refine ret2 [] (by simp only [go_sem]; rfl) ?_; simp only [go_sem]) | (refine acall2 [] (mostLow_ok l sides hl hn) (by simp only [go_sem]; rfl) (fit_of (by simp only [go_sem]) (by simp only [go_sem]) (by simp only [go_sem]) (by simp only [go_sem]) (by simp only [go_sem]) (by simp only [go_sem]) (by simp only [go_sem])) ?_; simp only [go_sem])
set_option maxRecDepth 100000 in
theorem btop_ok (l : List LFl) (hl : l.length ≤ 100) (hn : l.all nearF = true) : FnOk Try.prog 127 [.sl 7 (l.map cFl)] [] (aIs (mostF topF l)) [] := by
  refine fn_of_awp Try.func127 rfl (by kernel_rfl) (by kernel_rfl) (Nat.le_of_ble_eq_true rfl) Try.results127 ?_
  simp only [go_sem]
  repeat' first | intro _ | refine And.intro ?_ ?_ | refine ex_get (by omega) ?_ | (show drawB _ _ = true; kernel_rfl) | (refine ret2 [] (by simp only [go_sem]; rfl) ?_; simp only [go_sem]) | (refine acall2 [] (mostTop_ok l hl hn) (by simp only [go_sem]; rfl) (fit_of (by simp only [go_sem]) (by simp only [go_sem]) (by simp only [go_sem]) (by simp only [go_sem]) (by simp only [go_sem]) (by simp only [go_sem]) (by simp only [go_sem])) ?_; simp only [go_sem])
end Go.Proofs.Ytblmebjhhanoaaa
/- CHAPTER 10: the reference's bands. -/
/- G -/
/- BOOLS -/
set_option linter.unusedSimpArgs false
set_option linter.unusedVariables false
namespace Go.Proofs.Ytblmebjhhanoaaa
open Go.RowKit

set_option maxRecDepth 100000 in
theorem rmeets_ok (f : LFl) (y high : Int) (h : nearF f = true) (hy : in10 y) (hh : in10 high) : FnOk Try.prog 138 [aFl f, .raw (.int .i64 y), .raw (.int .i64 high)] [] (.raw (.bool (meetF f y high))) [] := by
  refine fn_of_awp Try.func138 rfl (by kernel_rfl) (by kernel_rfl) (Nat.le_of_ble_eq_true rfl) Try.results138 ?_
  simp only [go_sem, Bool.not_eq_true', Bool.not_eq_false']
  rw [nearF_iff] at h
  unfold in10 at hy hh
  repeat' first | contradiction | intro _ | refine And.intro ?_ ?_ | refine ex_get (by omega) ?_ | (show drawB _ _ = true; kernel_rfl) | (refine ret2 [] (by simp only [go_sem, Bool.not_eq_true', Bool.not_eq_false']; rfl) ?_; simp only [go_sem, Bool.not_eq_true', Bool.not_eq_false'])
  all_goals first | omega | (simp only [meetF]; first | (rw [decide_eq_true (by omega)]; done) | (rw [decide_eq_false (by omega)]; done) | (simp only [eq_comm, decide_eq_decide]; omega))
theorem cutF_l {f : LFl} {s : LSpan} (h : f.side = 1) : cutF f s = ⟨max s.a (f.x + f.w), s.b⟩ := if_pos h
theorem cutF_r {f : LFl} {s : LSpan} (h : ¬ f.side = 1) : cutF f s = ⟨s.a, min s.b f.x⟩ := if_neg h
set_option maxRecDepth 100000 in
theorem rof10_ok (l : List LFl) (y high : Int) (s : LSpan) (hl : l.length ≤ 100) (hn : l.all nearF = true) (hy : in10 y) (hh : in10 high) : FnOk Try.prog 118 [.sl 7 (l.map cFl), .raw (.int .i64 y), .raw (.int .i64 high), aSpan s] [] (aSpan (bandF l y high s)) [] := by
  refine fn_of_awp Try.func118 rfl (by kernel_rfl) (by kernel_rfl) (Nat.le_of_ble_eq_true rfl) Try.results118 ?_
  simp only [go_sem, Bool.not_eq_true', Bool.not_eq_false', List.length_map]
  refine aloop2 [] (fun z : KX LSpan => ⟨[(0, .sl 7 (l.map cFl)), (1, .raw (.int .i64 y)), (2, .raw (.int .i64 high)), (7, .hdr 8), (8, .hdr 16), (9, .raw (.int .i64 z.k))], [(8, some (.cells 87 [.raw (.int .i64 z.o.a), .raw (.int .i64 z.o.b)])), (16, some (.cells 87 [.raw (.int .i64 0), .raw (.int .i64 0)]))], none⟩) (FInv (ofT y high) s l) (fun z => l.length - z.k) 3 ⟨0, s⟩ (by simp only [go_sem, Bool.not_eq_true', Bool.not_eq_false']; rfl) (by simp only [go_sem, Bool.not_eq_true', Bool.not_eq_false']) ?_ ?_
  · exact fInv_first _ _ _
  · rintro ⟨k, o⟩ hi
    simp only [go_sem, Bool.not_eq_true', Bool.not_eq_false', List.length_map]
    refine ⟨fun h5 => ?_, fun h5 => ?_⟩
    · have hk : k < l.length := by omega
      have hf := all_at hn hk
      have hf' := nearF_iff.1 hf
      refine ⟨by omega, l[k], by simp, ?_⟩
      repeat' first | contradiction | intro _ | refine And.intro ?_ ?_ | refine ex_get (by omega) ?_ | (show drawB _ _ = true; kernel_rfl) | (refine ret2 [] (by simp only [go_sem, Bool.not_eq_true', Bool.not_eq_false']; rfl) ?_; simp only [go_sem, Bool.not_eq_true', Bool.not_eq_false']) | (refine acall2 [] (rmeets_ok l[k] y high hf hy hh) (by simp only [go_sem, Bool.not_eq_true', Bool.not_eq_false']; rfl) (fit_of (by simp only [go_sem, Bool.not_eq_true', Bool.not_eq_false']) (by simp only [go_sem, Bool.not_eq_true', Bool.not_eq_false']) (by simp only [go_sem, Bool.not_eq_true', Bool.not_eq_false']) (by simp only [go_sem, Bool.not_eq_true', Bool.not_eq_false']) (by simp only [go_sem, Bool.not_eq_true', Bool.not_eq_false']) (by simp only [go_sem, Bool.not_eq_true', Bool.not_eq_false']) (by simp only [go_sem, Bool.not_eq_true', Bool.not_eq_false'])) ?_; simp only [go_sem, Bool.not_eq_true', Bool.not_eq_false'])
      all_goals first | omega | ((refine loop_end [] (⟨k + 1, ⟨max o.a (l[k].x + l[k].w), o.b⟩⟩) (by simp only [go_sem, Bool.not_eq_true', Bool.not_eq_false']; rfl) ?_ ?_ ?_; (focus first | omega | (simp only; omega)); (focus (simp only [go_sem, Bool.not_eq_true', Bool.not_eq_false']; done))); exact fInv_next hi hk (by rw [ofT, if_pos (by simp_all), cutF_l (by assumption)])) | ((refine loop_end [] (⟨k + 1, ⟨o.a, min o.b l[k].x⟩⟩) (by simp only [go_sem, Bool.not_eq_true', Bool.not_eq_false']; rfl) ?_ ?_ ?_; (focus first | omega | (simp only; omega)); (focus (simp only [go_sem, Bool.not_eq_true', Bool.not_eq_false']; done))); exact fInv_next hi hk (by rw [ofT, if_pos (by simp_all), cutF_r (by assumption)])) | ((refine loop_end [] (⟨k + 1, o⟩) (by simp only [go_sem, Bool.not_eq_true', Bool.not_eq_false']; rfl) ?_ ?_ ?_; (focus first | omega | (simp only; omega)); (focus (simp only [go_sem, Bool.not_eq_true', Bool.not_eq_false']; done))); exact fInv_next hi hk (by rw [ofT, if_neg (by simp_all)]))
    · have e := fInv_last hi h5
      repeat' first | contradiction | intro _ | refine And.intro ?_ ?_ | refine ex_get (by omega) ?_ | (show drawB _ _ = true; kernel_rfl) | (refine ret2 [] (by simp only [go_sem, Bool.not_eq_true', Bool.not_eq_false']; rfl) ?_; simp only [go_sem, Bool.not_eq_true', Bool.not_eq_false'])
      all_goals (rw [e]; rfl)
theorem nextC_l {f : LFl} {s : LSpan} {o : LIs} {y high : Int} (hm : meetF f y high = true) (h1 : f.side = 1 → ¬ f.x + f.w ≤ s.a) (h2 : ¬ f.side = 1 → ¬ s.b ≤ f.x) (h3 : o.is = true → f.y + f.h < o.n) : (⟨f.y + f.h, true⟩ : LIs) = nextT y high s o f := by
  rw [nextT, if_pos]
  refine ⟨hm, ?_, h3⟩
  by_cases h : f.side = 1
  · rw [cutF_l h]; have := h1 h; simp only; omega
  · rw [cutF_r h]; have := h2 h; simp only; omega
theorem nextC_n {f : LFl} {s : LSpan} {o : LIs} {y high : Int} (h : meetF f y high = false ∨ (f.side = 1 ∧ f.x + f.w ≤ s.a) ∨ (¬ f.side = 1 ∧ s.b ≤ f.x) ∨ (o.is = true ∧ ¬ f.y + f.h < o.n)) : o = nextT y high s o f := by
  rw [nextT, if_neg]
  rintro ⟨h1, h2, h3⟩
  rcases h with h | ⟨h, q⟩ | ⟨h, q⟩ | ⟨h, q⟩
  · rw [h1] at h; cases h
  · rw [cutF_l h] at h2; exact h2 ⟨by simp only; omega, rfl⟩
  · rw [cutF_r h] at h2; exact h2 ⟨rfl, by simp only; omega⟩
  · exact q (h3 h)
set_option maxRecDepth 100000 in
set_option maxHeartbeats 2000000 in
theorem rnext_ok (l : List LFl) (y high : Int) (s : LSpan) (hl : l.length ≤ 100) (hn : l.all nearF = true) (hy : in10 y) (hh : in10 high) : FnOk Try.prog 119 [.sl 7 (l.map cFl), .raw (.int .i64 y), .raw (.int .i64 high), aSpan s] [] (aIs (nextF l y high s)) [] := by
  refine fn_of_awp Try.func119 rfl (by kernel_rfl) (by kernel_rfl) (Nat.le_of_ble_eq_true rfl) Try.results119 ?_
  simp only [go_sem, Bool.not_eq_true', Bool.not_eq_false', List.length_map]
  refine aloop2 [] (fun z : KX LIs => ⟨[(0, .sl 7 (l.map cFl)), (1, .raw (.int .i64 y)), (2, .raw (.int .i64 high)), (7, .hdr 8), (8, .raw (.int .i64 0)), (9, .raw (.bool false)), (10, .raw (.int .i64 z.o.n)), (11, .raw (.bool z.o.is)), (12, .raw (.int .i64 z.k))], [(8, some (.cells 87 [.raw (.int .i64 s.a), .raw (.int .i64 s.b)]))], none⟩) (FInv (nextT y high s) ⟨0, false⟩ l) (fun z => l.length - z.k) 2 ⟨0, ⟨0, false⟩⟩ (by simp only [go_sem, Bool.not_eq_true', Bool.not_eq_false']; rfl) (by simp only [go_sem, Bool.not_eq_true', Bool.not_eq_false']) ?_ ?_
  · exact fInv_first _ _ _
  · rintro ⟨k, o⟩ hi
    simp only [go_sem, Bool.not_eq_true', Bool.not_eq_false', List.length_map]
    refine ⟨fun h5 => ?_, fun h5 => ?_⟩
    · have hk : k < l.length := by omega
      have hf := all_at hn hk
      have hf' := nearF_iff.1 hf
      refine ⟨by omega, l[k], by simp, ?_⟩
      repeat' first | contradiction | intro _ | refine And.intro ?_ ?_ | refine ex_get (by omega) ?_ | (show drawB _ _ = true; kernel_rfl) | (refine ret2 [] (by simp only [go_sem, Bool.not_eq_true', Bool.not_eq_false']; rfl) ?_; simp only [go_sem, Bool.not_eq_true', Bool.not_eq_false']) | (refine acall2 [] (rmeets_ok l[k] y high hf hy hh) (by simp only [go_sem, Bool.not_eq_true', Bool.not_eq_false']; rfl) (fit_of (by simp only [go_sem, Bool.not_eq_true', Bool.not_eq_false']) (by simp only [go_sem, Bool.not_eq_true', Bool.not_eq_false']) (by simp only [go_sem, Bool.not_eq_true', Bool.not_eq_false']) (by simp only [go_sem, Bool.not_eq_true', Bool.not_eq_false']) (by simp only [go_sem, Bool.not_eq_true', Bool.not_eq_false']) (by simp only [go_sem, Bool.not_eq_true', Bool.not_eq_false']) (by simp only [go_sem, Bool.not_eq_true', Bool.not_eq_false'])) ?_; simp only [go_sem, Bool.not_eq_true', Bool.not_eq_false'])
      all_goals try omega
      all_goals first | ((refine loop_end [] (⟨k + 1, ⟨l[k].y + l[k].h, true⟩⟩) (by simp only [go_sem, Bool.not_eq_true', Bool.not_eq_false']; rfl) ?_ ?_ ?_; (focus first | omega | (simp only; omega)); (focus (simp only [go_sem, Bool.not_eq_true', Bool.not_eq_false']; done))); refine fInv_next hi hk (nextC_l ?_ ?_ ?_ ?_) <;> first | assumption | (intro q; first | assumption | contradiction | (exact absurd q (ne_true_of_eq_false (by assumption))))) | ((refine loop_end [] (⟨k + 1, o⟩) (by simp only [go_sem, Bool.not_eq_true', Bool.not_eq_false']; rfl) ?_ ?_ ?_; (focus first | omega | (simp only; omega)); (focus (simp only [go_sem, Bool.not_eq_true', Bool.not_eq_false']; done))); refine fInv_next hi hk (nextC_n ?_); first | exact .inl (by assumption) | exact .inr (.inl ⟨by assumption, by assumption⟩) | exact .inr (.inr (.inl ⟨by assumption, by assumption⟩)) | exact .inr (.inr (.inr ⟨by assumption, by assumption⟩)))
    · have e := fInv_last hi h5
      repeat' first | contradiction | intro _ | refine And.intro ?_ ?_ | refine ex_get (by omega) ?_ | (show drawB _ _ = true; kernel_rfl) | (refine ret2 [] (by simp only [go_sem, Bool.not_eq_true', Bool.not_eq_false']; rfl) ?_; simp only [go_sem, Bool.not_eq_true', Bool.not_eq_false'])
      all_goals (rw [e]; rfl)
theorem low_pos {f : LFl} {sides : Int} {o : LIs} (h : ¬ andI f.side sides = 0) (h2 : o.is = true → o.n < f.y + f.h) : (⟨f.y + f.h, true⟩ : LIs) = mostT (lowF sides) o f := most_pos (t := lowF sides) ⟨decide_eq_true h, h2⟩
theorem low_neg {f : LFl} {sides : Int} {o : LIs} (h : andI f.side sides = 0 ∨ (o.is = true ∧ ¬ o.n < f.y + f.h)) : o = mostT (lowF sides) o f := most_neg fun q => by
  rcases h with h | h
  · exact absurd h (of_decide_eq_true q)
  · exact h
theorem top_pos {f : LFl} {o : LIs} (h2 : o.is = true → o.n < f.y) : (⟨f.y, true⟩ : LIs) = mostT topF o f := most_pos (t := topF) ⟨rfl, h2⟩
theorem top_neg {f : LFl} {o : LIs} (h : o.is = true ∧ ¬ o.n < f.y) : o = mostT topF o f := most_neg fun _ => h
set_option maxRecDepth 100000 in
theorem rlow_ok (l : List LFl) (sides : Int) (hl : l.length ≤ 100) (hn : l.all nearF = true) : FnOk Try.prog 91 [.sl 7 (l.map cFl), .raw (.int .i64 sides)] [] (aIs (mostF (lowF sides) l)) [] := by
  refine fn_of_awp Try.func91 rfl (by kernel_rfl) (by kernel_rfl) (Nat.le_of_ble_eq_true rfl) Try.results91 ?_
  simp only [go_sem, Bool.not_eq_true', Bool.not_eq_false', List.length_map]
  refine aloop2 [] (fun z : KX LIs => ⟨[(0, .sl 7 (l.map cFl)), (1, .raw (.int .i64 sides)), (4, .raw (.int .i64 0)), (5, .raw (.bool false)), (6, .raw (.int .i64 z.o.n)), (7, .raw (.bool z.o.is)), (8, .raw (.int .i64 z.k))], [], none⟩) (FInv (mostT (lowF sides)) ⟨0, false⟩ l) (fun z => l.length - z.k) 2 ⟨0, ⟨0, false⟩⟩ (by simp only [go_sem, Bool.not_eq_true', Bool.not_eq_false']; rfl) (by simp only [go_sem, Bool.not_eq_true', Bool.not_eq_false']) ?_ ?_
  · exact fInv_first _ _ _
  · rintro ⟨k, o⟩ hi
    simp only [go_sem, Bool.not_eq_true', Bool.not_eq_false', List.length_map]
    refine ⟨fun h5 => ?_, fun h5 => ?_⟩
    · have hk : k < l.length := by omega
      have hf := all_at hn hk
      have hf' := nearF_iff.1 hf
      refine ⟨by omega, l[k], by simp, ?_⟩
      repeat' first | contradiction | intro _ | refine And.intro ?_ ?_ | refine ex_get (by omega) ?_ | (show drawB _ _ = true; kernel_rfl) | (refine ret2 [] (by simp only [go_sem, Bool.not_eq_true', Bool.not_eq_false']; rfl) ?_; simp only [go_sem, Bool.not_eq_true', Bool.not_eq_false'])
      all_goals try omega
      all_goals first | ((refine loop_end [] (⟨k + 1, ⟨l[k].y + l[k].h, true⟩⟩) (by simp only [go_sem, Bool.not_eq_true', Bool.not_eq_false']; rfl) ?_ ?_ ?_; (focus first | omega | (simp only; omega)); (focus (simp only [go_sem, Bool.not_eq_true', Bool.not_eq_false']; done))); refine fInv_next hi hk (low_pos ?_ ?_) <;> first | assumption | (intro q; first | assumption | contradiction | (exact absurd q (ne_true_of_eq_false (by assumption))))) | ((refine loop_end [] (⟨k + 1, o⟩) (by simp only [go_sem, Bool.not_eq_true', Bool.not_eq_false']; rfl) ?_ ?_ ?_; (focus first | omega | (simp only; omega)); (focus (simp only [go_sem, Bool.not_eq_true', Bool.not_eq_false']; done))); refine fInv_next hi hk (low_neg ?_); first | exact .inl (by assumption) | exact .inr ⟨by assumption, by assumption⟩)
    · have e := fInv_last hi h5
      repeat' first | contradiction | intro _ | refine And.intro ?_ ?_ | refine ex_get (by omega) ?_ | (show drawB _ _ = true; kernel_rfl) | (refine ret2 [] (by simp only [go_sem, Bool.not_eq_true', Bool.not_eq_false']; rfl) ?_; simp only [go_sem, Bool.not_eq_true', Bool.not_eq_false'])
      all_goals (rw [e]; rfl)
theorem top_is (l : List LFl) : (mostF topF l).is = decide (0 < l.length) := by
  have h : ∀ (l : List LFl) (o : LIs), (l.foldl (mostT topF) o).is = (o.is || decide (0 < l.length)) := by
    intro l
    induction l with
    | nil => intro o; simp
    | cons f l ih =>
      intro o
      rw [List.foldl_cons, ih]
      by_cases h : o.is = true
      · rw [h, mostT]; split <;> simp [h]
      · rw [mostT, if_pos ⟨rfl, fun q => absurd q h⟩]; simp
  simpa [mostF] using h l ⟨0, false⟩
set_option maxRecDepth 100000 in
theorem rtop_ok (l : List LFl) (hl : l.length ≤ 100) : FnOk Try.prog 140 [.sl 7 (l.map cFl)] [] (aIs (mostF topF l)) [] := by
  refine fn_of_awp Try.func140 rfl (by kernel_rfl) (by kernel_rfl) (Nat.le_of_ble_eq_true rfl) Try.results140 ?_
  simp only [go_sem, Bool.not_eq_true', Bool.not_eq_false', List.length_map]
  refine aloop2 [] (fun z : KX LIs => ⟨[(0, .sl 7 (l.map cFl)), (2, .raw (.int .i64 0)), (3, .raw (.bool false)), (4, .raw (.int .i64 z.o.n)), (5, .raw (.int .i64 z.k))], [], none⟩) (FInv (mostT topF) ⟨0, false⟩ l) (fun z => l.length - z.k) 2 ⟨0, ⟨0, false⟩⟩ (by simp only [go_sem, Bool.not_eq_true', Bool.not_eq_false']; rfl) (by simp only [go_sem, Bool.not_eq_true', Bool.not_eq_false']) ?_ ?_
  · exact fInv_first _ _ _
  · rintro ⟨k, o⟩ hi
    have hs : o.is = decide (0 < k) := by
      have h1 := top_is (l.take k)
      have h2 := hi.2
      have h3 := hi.1
      simp only at h2 h3
      rw [h2]
      have h4 := top_is (l.take k)
      rw [List.length_take, Nat.min_eq_left h3] at h4
      exact h4
    simp only [go_sem, Bool.not_eq_true', Bool.not_eq_false', List.length_map]
    refine ⟨fun h5 => ?_, fun h5 => ?_⟩
    · have hk : k < l.length := by omega
      repeat' first | contradiction | intro _ | refine And.intro ?_ ?_ | refine ex_get (by omega) ?_ | (show drawB _ _ = true; kernel_rfl) | (refine ret2 [] (by simp only [go_sem, Bool.not_eq_true', Bool.not_eq_false']; rfl) ?_; simp only [go_sem, Bool.not_eq_true', Bool.not_eq_false'])
      all_goals try omega
      all_goals first | ((refine loop_end [] (⟨k + 1, ⟨l[k].y, true⟩⟩) (by simp only [go_sem, Bool.not_eq_true', Bool.not_eq_false']; rfl) ?_ ?_ ?_; (focus first | omega | (simp only; omega)); (focus (simp only [go_sem, Bool.not_eq_true', Bool.not_eq_false']; done))); refine fInv_next hi hk (top_pos ?_); intro q; rw [hs, decide_eq_true_eq] at q; omega) | ((refine loop_end [] (⟨k + 1, o⟩) (by simp only [go_sem, Bool.not_eq_true', Bool.not_eq_false']; rfl) ?_ ?_ ?_; (focus first | omega | (simp only; omega)); (focus (simp only [go_sem, Bool.not_eq_true', Bool.not_eq_false']; done))); refine fInv_next hi hk (top_neg ?_); rw [hs, decide_eq_true_eq]; omega)
    · have e := fInv_last hi h5
      have hti := top_is l
      repeat' first | contradiction | intro _ | refine And.intro ?_ ?_ | refine ex_get (by omega) ?_ | (show drawB _ _ = true; kernel_rfl) | (refine ret2 [] (by simp only [go_sem, Bool.not_eq_true', Bool.not_eq_false']; rfl) ?_; simp only [go_sem, Bool.not_eq_true', Bool.not_eq_false'])
      all_goals first | (rw [e]; rfl) | (rw [hti, decide_eq_decide]; omega)
end Go.Proofs.Ytblmebjhhanoaaa
/- CHAPTER 10: the law BandsTell. -/
/- G -/
/- BOOLS -/
set_option linter.unusedSimpArgs false
set_option linter.unusedVariables false
namespace Go.Proofs.Ytblmebjhhanoaaa
open Go.RowKit

theorem take_all' {α : Type} (p : α → Bool) (xs : List α) (k : Nat) (h : k < xs.length) : (xs.take (k + 1)).all p = ((xs.take k).all p && p xs[k]) := by
  rw [List.take_succ_eq_append_getElem h, List.all_append]
  simp
theorem all_of_pre {α : Type} {p : α → Bool} {l : List α} {k : Nat} (h : (l.take k).all p = true) (hk : l.length ≤ k) : l.all p = true := by
  rwa [List.take_of_length_le hk] at h
theorem all_not {α : Type} {p : α → Bool} {l : List α} {k : Nat} (hk : k < l.length) (hq : p l[k] = false) : l.all p = false := List.all_eq_false.2 ⟨l[k], List.getElem_mem hk, by rw [hq]; decide⟩
set_option maxRecDepth 100000 in
theorem same10_ok (l : List LFl) (hl : l.length ≤ 100) : FnOk Try.prog 51 [.sl 7 (l.map cFl), .sl 7 (l.map cFl)] [] (.raw (.bool true)) [] := by
  refine fn_of_awp Try.func51 rfl (by kernel_rfl) (by kernel_rfl) (Nat.le_of_ble_eq_true rfl) Try.results51 ?_
  simp only [go_sem, Bool.not_eq_true', Bool.not_eq_false', List.length_map]
  refine aloop2 [] (fun k : Nat => ⟨[(0, .sl 7 (l.map cFl)), (1, .sl 7 (l.map cFl)), (4, .raw (.bool false)), (5, .raw (.int .i64 k))], [], none⟩) (fun k => k ≤ l.length) (fun k => l.length - k) 3 0 (by simp only [go_sem, Bool.not_eq_true', Bool.not_eq_false']; rfl) (by simp only [go_sem, Bool.not_eq_true', Bool.not_eq_false']) ?_ ?_
  · exact Nat.zero_le _
  · intro k hk
    simp only [go_sem, Bool.not_eq_true', Bool.not_eq_false', List.length_map]
    repeat' first | contradiction | intro _ | refine And.intro ?_ ?_ | refine ex_get (by omega) ?_ | (show drawB _ _ = true; kernel_rfl) | (refine ret2 [] (by simp only [go_sem, Bool.not_eq_true', Bool.not_eq_false']; rfl) ?_; simp only [go_sem, Bool.not_eq_true', Bool.not_eq_false'])
    all_goals first | omega | ((refine loop_end [] (k + 1) (by simp only [go_sem, Bool.not_eq_true', Bool.not_eq_false']; rfl) ?_ ?_ ?_; (focus first | omega | (simp only; omega)); (focus (simp only [go_sem, Bool.not_eq_true', Bool.not_eq_false']; done))); omega) | (simp_all; done)
end Go.Proofs.Ytblmebjhhanoaaa
/- CHAPTER 11: place; where a float goes. -/
/- G -/
/- BOOLS -/
set_option linter.unusedSimpArgs false
set_option linter.unusedVariables false
namespace Go.Proofs.Ytblmebjhhanoaaa
open Go.RowKit

/-- down from a height, as many steps as told at most. -/
def dnP (l : List LFl) (W H : Int) (s : LSpan) : Nat → Int → Int
  | 0, y => y
  | n + 1, y => if W ≤ lenS (bandF l y H s) ∨ (nextF l y H s).is = false then y else dnP l W H s n (nextF l y H s).n
def cntP (l : List LFl) (y : Int) : Nat := (l.filter fun f => decide (y < f.y + f.h)).length
theorem fold_inv {α β : Type} {f : α → β → α} {P : α → Prop} : ∀ (l : List β) (a : α), P a → (∀ a, ∀ b ∈ l, P a → P (f a b)) → P (l.foldl f a)
  | [], a, h, _ => h
  | b :: l, a, h, hs => by rw [List.foldl_cons]; exact fold_inv l _ (hs a b List.mem_cons_self h) fun a c hc => hs a c (List.mem_cons_of_mem _ hc)
theorem next_bot {l : List LFl} {y H : Int} {s : LSpan} : (nextF l y H s).is = true → ∃ f ∈ l, (nextF l y H s).n = f.y + f.h ∧ y < f.y + f.h := by
  refine fold_inv (P := fun o : LIs => o.is = true → ∃ f ∈ l, o.n = f.y + f.h ∧ y < f.y + f.h) l ⟨0, false⟩ (fun h => by cases h) fun o f hf ih h => ?_
  unfold nextT at h ⊢
  split at h
  · next hc =>
    rw [if_pos hc]
    have := hc.1
    rw [meetF, decide_eq_true_eq] at this
    exact ⟨f, hf, rfl, this.2.2⟩
  · next hc => rw [if_neg hc]; exact ih h
theorem top_at {l : List LFl} : (mostF topF l).is = true → ∃ f ∈ l, (mostF topF l).n = f.y := by
  refine fold_inv (P := fun o : LIs => o.is = true → ∃ f ∈ l, o.n = f.y) l ⟨0, false⟩ (fun h => by cases h) fun o f hf ih h => ?_
  unfold mostT at h ⊢
  split at h
  · next hc => rw [if_pos hc]; exact ⟨f, hf, rfl⟩
  · next hc => rw [if_neg hc]; exact ih h
theorem cnt_le (l : List LFl) (y : Int) : cntP l y ≤ l.length := List.length_filter_le _ _
theorem cnt_lt {l : List LFl} {y n : Int} (h : ∃ f ∈ l, n = f.y + f.h ∧ y < f.y + f.h) : cntP l n < cntP l y := by
  obtain ⟨f, hf, rfl, hy⟩ := h
  unfold cntP
  induction l with
  | nil => cases hf
  | cons g l ih =>
    have hm : ∀ (l : List LFl), (l.filter fun g => decide (f.y + f.h < g.y + g.h)).length ≤ (l.filter fun g => decide (y < g.y + g.h)).length := by
      intro l
      induction l with
      | nil => exact Nat.le_refl _
      | cons g l ih =>
        rw [List.filter_cons, List.filter_cons]
        by_cases h1 : f.y + f.h < g.y + g.h
        · rw [if_pos (by simpa using h1), if_pos (by simp; omega)]; simpa using ih
        · rw [if_neg (by simpa using h1)]
          split
          · exact Nat.le_succ_of_le ih
          · exact ih
    rw [List.filter_cons, List.filter_cons]
    rcases List.mem_cons.1 hf with rfl | hf
    · rw [if_neg (by simp), if_pos (by simpa using hy)]
      exact Nat.lt_succ_of_le (hm l)
    · have := ih hf
      by_cases h1 : f.y + f.h < g.y + g.h
      · rw [if_pos (by simpa using h1), if_pos (by simp; omega)]; simpa using this
      · rw [if_neg (by simpa using h1)]
        split
        · exact Nat.lt_succ_of_lt this
        · exact this
theorem dn_stop {l : List LFl} {W H : Int} {s : LSpan} {y : Int} (h : W ≤ lenS (bandF l y H s) ∨ (nextF l y H s).is = false) : ∀ n, dnP l W H s n y = y
  | 0 => rfl
  | n + 1 => by unfold dnP; rw [if_pos h]
theorem dn_step {l : List LFl} {W H : Int} {s : LSpan} {y : Int} {n : Nat} (h : ¬ (W ≤ lenS (bandF l y H s) ∨ (nextF l y H s).is = false)) : dnP l W H s (n + 1) y = dnP l W H s n (nextF l y H s).n := by
  rw [dnP, if_neg h]
theorem dn_lt {l : List LFl} {W H : Int} {s : LSpan} {y : Int} (h : ¬ (W ≤ lenS (bandF l y H s) ∨ (nextF l y H s).is = false)) : cntP l (nextF l y H s).n < cntP l y :=
  cnt_lt (next_bot (by
    cases hq : (nextF l y H s).is with
    | false => exact absurd (.inr hq) h
    | true => rfl))
theorem dn_enough {l : List LFl} {W H : Int} {s : LSpan} : ∀ (m : Nat) (y : Int), cntP l y ≤ m → dnP l W H s m y = dnP l W H s (cntP l y) y
  | 0, y, h => by rw [Nat.le_zero.1 h]
  | m + 1, y, h => by
    by_cases hs : W ≤ lenS (bandF l y H s) ∨ (nextF l y H s).is = false
    · rw [dn_stop hs, dn_stop hs]
    · have hl := dn_lt hs
      obtain ⟨k, hk⟩ : ∃ k, cntP l y = k + 1 := ⟨cntP l y - 1, by omega⟩
      rw [hk, dn_step hs, dn_step hs, dn_enough m _ (by omega), dn_enough k _ (by omega)]
theorem next_bd {l : List LFl} (hn : l.all nearF = true) {y H : Int} {s : LSpan} (h : (nextF l y H s).is = true) : -2251799813685248 ≤ (nextF l y H s).n ∧ (nextF l y H s).n ≤ 2251799813685248 := by
  obtain ⟨f, hf, e, -⟩ := next_bot h
  have := nearF_iff.1 (List.all_eq_true.1 hn f hf)
  omega
theorem band_bd {l : List LFl} (hn : l.all nearF = true) {y H : Int} {s : LSpan} (h : (-1125899906842624 ≤ s.a ∧ s.a ≤ 1125899906842624) ∧ (-1125899906842624 ≤ s.b ∧ s.b ≤ 1125899906842624)) : (-2251799813685248 ≤ (bandF l y H s).a ∧ (bandF l y H s).a ≤ 2251799813685248) ∧ (-2251799813685248 ≤ (bandF l y H s).b ∧ (bandF l y H s).b ≤ 2251799813685248) := by
  refine fold_inv (P := fun o : LSpan => (-2251799813685248 ≤ o.a ∧ o.a ≤ 2251799813685248) ∧ (-2251799813685248 ≤ o.b ∧ o.b ≤ 2251799813685248)) l s (by omega) fun o f hf ih => ?_
  have := nearF_iff.1 (List.all_eq_true.1 hn f hf)
  unfold ofT cutF
  split
  · split <;> (simp only; omega)
  · exact ih
def fromP (l : List LFl) (y : Int) : Int := if (mostF topF l).is = true then max y (mostF topF l).n else y
def spotY (l : List LFl) (f : LFl) (y : Int) (s : LSpan) : Int := dnP l f.w f.h s (l.length + 1) (fromP l y)
def spotX (l : List LFl) (f : LFl) (y : Int) (s : LSpan) : Int := if f.side = 1 then (bandF l (spotY l f y s) f.h s).a else max (bandF l (spotY l f y s) f.h s).a ((bandF l (spotY l f y s) f.h s).b - f.w)
def setP (l : List LFl) (f : LFl) (y : Int) (s : LSpan) : LFl := ⟨f.node, f.side, f.anchor, spotX l f y s, spotY l f y s, f.w, f.h⟩
structure PlaOk (l : List LFl) (f : LFl) (y : Int) (s : LSpan) : Prop where
  len : l.length ≤ 60
  near : l.all nearF = true
  nf : nearF f = true
  y : -1125899906842624 ≤ y ∧ y ≤ 1125899906842624
  s : (-1125899906842624 ≤ s.a ∧ s.a ≤ 1125899906842624) ∧ (-1125899906842624 ≤ s.b ∧ s.b ≤ 1125899906842624)
theorem from_bd {l : List LFl} {f : LFl} {y : Int} {s : LSpan} (h : PlaOk l f y s) : -2251799813685248 ≤ fromP l y ∧ fromP l y ≤ 2251799813685248 := by
  have hy := h.y
  unfold fromP
  split
  · next ht =>
    obtain ⟨g, hg, e⟩ := top_at ht
    have := nearF_iff.1 (List.all_eq_true.1 h.near g hg)
    omega
  · omega
theorem band_nearS {l : List LFl} {f : LFl} {y : Int} {s : LSpan} (h : PlaOk l f y s) (y' H : Int) : nearS (bandF l y' H s) := by
  have := band_bd h.near (y := y') (H := H) h.s
  unfold nearS
  omega
def aSch (l : List LFl) (f : LFl) (s : LSpan) : AV := .agg [.raw (.int .i64 f.node), .raw (.int .i64 f.side), .raw (.int .i64 f.anchor), .raw (.int .i64 f.x), .raw (.int .i64 f.y), .raw (.int .i64 f.w), .raw (.int .i64 f.h), .sl 7 (l.map cFl), .raw (.int .i64 s.a), .raw (.int .i64 s.b)]
attribute [go_sem] aSch
theorem in10_of {y : Int} (h : -2251799813685248 ≤ y ∧ y ≤ 2251799813685248) : in10 y := by unfold in10; omega
set_option maxRecDepth 100000 in
theorem down11_ok (l : List LFl) (f : LFl) (y0 : Int) (s : LSpan) (h : PlaOk l f y0 s) (y : Int) (hy : -2251799813685248 ≤ y ∧ y ≤ 2251799813685248) : FnOk Try.prog 128 [aSch l f s, .raw (.int .i64 y)] []
    (.tup [aSpan (bandF l (dnP l f.w f.h s (l.length + 1) y) f.h s), .raw (.int .i64 (dnP l f.w f.h s (l.length + 1) y))]) [] := by
  refine fn_of_awp Try.func128 rfl (by kernel_rfl) (by kernel_rfl) (Nat.le_of_ble_eq_true rfl) Try.results128 ?_
  simp only [go_sem, Bool.not_eq_true', Bool.not_eq_false']
  rw [dn_enough _ _ (Nat.le_succ_of_le (cnt_le l y))]
  have hnf := nearF_iff.1 h.nf
  refine aloop2 [] (fun z : Int => ⟨[(1, .raw (.int .i64 z)), (2, .hdr 8), (4, .hdr 16)], [(8, some (.cells 177 [.raw (.int .i64 f.node), .raw (.int .i64 f.side), .raw (.int .i64 f.anchor), .raw (.int .i64 f.x), .raw (.int .i64 f.y), .raw (.int .i64 f.w), .raw (.int .i64 f.h), .sl 7 (l.map cFl), .raw (.int .i64 s.a), .raw (.int .i64 s.b)])), (16, some (.cells 87 [.raw (.int .i64 0), .raw (.int .i64 0)]))], none⟩) (fun z => dnP l f.w f.h s (cntP l z) z = dnP l f.w f.h s (cntP l y) y ∧ -2251799813685248 ≤ z ∧ z ≤ 2251799813685248) (fun z => cntP l z) 4 y (by simp only [go_sem, Bool.not_eq_true', Bool.not_eq_false']; rfl) (by simp only [go_sem, Bool.not_eq_true', Bool.not_eq_false']) ?_ ?_
  · exact ⟨rfl, hy⟩
  · rintro z ⟨hz, hb⟩
    have hlen := h.len
    have hin : in10 z := in10_of hb
    have hhi : in10 f.h := by unfold in10; omega
    have hs := band_nearS h z f.h
    have hst := @dn_stop l f.w f.h s z
    have hdl := @dn_lt l f.w f.h s z
    simp only [go_sem, Bool.not_eq_true', Bool.not_eq_false']
    repeat' first | contradiction | intro _ | refine And.intro ?_ ?_ | refine ex_get (by omega) ?_ | (show drawB _ _ = true; kernel_rfl) | (refine ret2 [] (by simp only [go_sem, Bool.not_eq_true', Bool.not_eq_false']; rfl) ?_; simp only [go_sem, Bool.not_eq_true', Bool.not_eq_false']) | (refine acall2 [] (bof10_ok l z f.h s (by omega) h.near hin hhi) (by simp only [go_sem, Bool.not_eq_true', Bool.not_eq_false']; rfl) (fit_of (by simp only [go_sem, Bool.not_eq_true', Bool.not_eq_false']) (by simp only [go_sem, Bool.not_eq_true', Bool.not_eq_false']) (by simp only [go_sem, Bool.not_eq_true', Bool.not_eq_false']) (by simp only [go_sem, Bool.not_eq_true', Bool.not_eq_false']) (by simp only [go_sem, Bool.not_eq_true', Bool.not_eq_false']) (by simp only [go_sem, Bool.not_eq_true', Bool.not_eq_false']) (by simp only [go_sem, Bool.not_eq_true', Bool.not_eq_false'])) ?_; simp only [go_sem, Bool.not_eq_true', Bool.not_eq_false']) | (refine acall2 [] (bnext_ok l z f.h s (by omega) h.near hin hhi) (by simp only [go_sem, Bool.not_eq_true', Bool.not_eq_false']; rfl) (fit_of (by simp only [go_sem, Bool.not_eq_true', Bool.not_eq_false']) (by simp only [go_sem, Bool.not_eq_true', Bool.not_eq_false']) (by simp only [go_sem, Bool.not_eq_true', Bool.not_eq_false']) (by simp only [go_sem, Bool.not_eq_true', Bool.not_eq_false']) (by simp only [go_sem, Bool.not_eq_true', Bool.not_eq_false']) (by simp only [go_sem, Bool.not_eq_true', Bool.not_eq_false']) (by simp only [go_sem, Bool.not_eq_true', Bool.not_eq_false'])) ?_; simp only [go_sem, Bool.not_eq_true', Bool.not_eq_false']) | (refine acall2 [] (slen_ok (bandF l z f.h s) hs) (by simp only [go_sem, Bool.not_eq_true', Bool.not_eq_false']; rfl) (fit_of (by simp only [go_sem, Bool.not_eq_true', Bool.not_eq_false']) (by simp only [go_sem, Bool.not_eq_true', Bool.not_eq_false']) (by simp only [go_sem, Bool.not_eq_true', Bool.not_eq_false']) (by simp only [go_sem, Bool.not_eq_true', Bool.not_eq_false']) (by simp only [go_sem, Bool.not_eq_true', Bool.not_eq_false']) (by simp only [go_sem, Bool.not_eq_true', Bool.not_eq_false']) (by simp only [go_sem, Bool.not_eq_true', Bool.not_eq_false'])) ?_; simp only [go_sem, Bool.not_eq_true', Bool.not_eq_false'])
    all_goals first
      | (rw [← hz, hst (.inl (by assumption))]; done)
      | (rw [← hz, hst (.inr (by assumption))]; done)
      | (have hns : ¬ (f.w ≤ lenS (bandF l z f.h s) ∨ (nextF l z f.h s).is = false) := by rintro (q | q) <;> simp_all
         have hlt := hdl hns
         have hnb := next_bd h.near (y := z) (H := f.h) (s := s) (by assumption)
         (refine loop_end [] ((nextF l z f.h s).n) (by simp only [go_sem, Bool.not_eq_true', Bool.not_eq_false']; rfl) ?_ ?_ ?_; (focus first | omega | (simp only; omega)); (focus (simp only [go_sem, Bool.not_eq_true', Bool.not_eq_false']; done)))
         refine ⟨?_, hnb⟩
         rw [← hz]
         obtain ⟨k, hk⟩ : ∃ k, cntP l z = k + 1 := ⟨cntP l z - 1, by omega⟩
         rw [hk, dn_step hns, dn_enough k _ (by omega)])
def aPla (l : List LFl) (f : LFl) (y : Int) (s : LSpan) : AV := .tup [.raw (.int .i64 (spotX l f y s)), .raw (.int .i64 (spotY l f y s))]
attribute [go_sem] aPla
theorem from_t {l : List LFl} {y : Int} (h : (mostF topF l).is = true) : fromP l y = max y (mostF topF l).n := if_pos h
theorem from_f {l : List LFl} {y : Int} (h : (mostF topF l).is = false) : fromP l y = y := if_neg (by rw [h]; decide)
theorem spotX_l {l : List LFl} {f : LFl} {y : Int} {s : LSpan} (h : f.side = 1) : spotX l f y s = (bandF l (spotY l f y s) f.h s).a := if_pos h
theorem spotX_r {l : List LFl} {f : LFl} {y : Int} {s : LSpan} (h : ¬ f.side = 1) : spotX l f y s = max (bandF l (spotY l f y s) f.h s).a ((bandF l (spotY l f y s) f.h s).b - f.w) := if_neg h
set_option maxRecDepth 100000 in
theorem spot11_ok (l : List LFl) (f : LFl) (y : Int) (s : LSpan) (h : PlaOk l f y s) : FnOk Try.prog 105 [.sl 7 (l.map cFl), aFl f, .raw (.int .i64 y), aSpan s] [] (aPla l f y s) [] := by
  refine fn_of_awp Try.func105 rfl (by kernel_rfl) (by kernel_rfl) (Nat.le_of_ble_eq_true rfl) Try.results105 ?_
  simp only [go_sem, Bool.not_eq_true', Bool.not_eq_false']
  have hlen := h.len
  have hnf := nearF_iff.1 h.nf
  have hfr := from_bd h
  have hbb := band_bd h.near (y := spotY l f y s) (H := f.h) h.s
  have e1 : spotY l f y s = dnP l f.w f.h s (l.length + 1) (fromP l y) := rfl
  (refine acall2 [] (btop_ok l (by omega) h.near) (by simp only [go_sem, Bool.not_eq_true', Bool.not_eq_false']; rfl) (fit_of (by simp only [go_sem, Bool.not_eq_true', Bool.not_eq_false']) (by simp only [go_sem, Bool.not_eq_true', Bool.not_eq_false']) (by simp only [go_sem, Bool.not_eq_true', Bool.not_eq_false']) (by simp only [go_sem, Bool.not_eq_true', Bool.not_eq_false']) (by simp only [go_sem, Bool.not_eq_true', Bool.not_eq_false']) (by simp only [go_sem, Bool.not_eq_true', Bool.not_eq_false']) (by simp only [go_sem, Bool.not_eq_true', Bool.not_eq_false'])) ?_; simp only [go_sem, Bool.not_eq_true', Bool.not_eq_false'])
  refine ⟨fun ht => ?_, fun ht => ?_⟩
  · rw [from_t ht] at e1 hfr
    (refine acall2 [] (down11_ok l f y s h (max y (mostF topF l).n) hfr) (by simp only [go_sem, Bool.not_eq_true', Bool.not_eq_false']; rfl) (fit_of (by simp only [go_sem, Bool.not_eq_true', Bool.not_eq_false']) (by simp only [go_sem, Bool.not_eq_true', Bool.not_eq_false']) (by simp only [go_sem, Bool.not_eq_true', Bool.not_eq_false']) (by simp only [go_sem, Bool.not_eq_true', Bool.not_eq_false']) (by simp only [go_sem, Bool.not_eq_true', Bool.not_eq_false']) (by simp only [go_sem, Bool.not_eq_true', Bool.not_eq_false']) (by simp only [go_sem, Bool.not_eq_true', Bool.not_eq_false'])) ?_; simp only [go_sem, Bool.not_eq_true', Bool.not_eq_false', ← e1])
    repeat' first | contradiction | intro _ | refine And.intro ?_ ?_ | refine ex_get (by omega) ?_ | (show drawB _ _ = true; kernel_rfl) | (refine ret2 [] (by simp only [go_sem, Bool.not_eq_true', Bool.not_eq_false']; rfl) ?_; simp only [go_sem, Bool.not_eq_true', Bool.not_eq_false'])
    all_goals first | omega | (rw [spotX_l (by assumption)]; done) | (rw [spotX_r (by assumption)]; done)
  · rw [from_f ht] at e1 hfr
    (refine acall2 [] (down11_ok l f y s h y hfr) (by simp only [go_sem, Bool.not_eq_true', Bool.not_eq_false']; rfl) (fit_of (by simp only [go_sem, Bool.not_eq_true', Bool.not_eq_false']) (by simp only [go_sem, Bool.not_eq_true', Bool.not_eq_false']) (by simp only [go_sem, Bool.not_eq_true', Bool.not_eq_false']) (by simp only [go_sem, Bool.not_eq_true', Bool.not_eq_false']) (by simp only [go_sem, Bool.not_eq_true', Bool.not_eq_false']) (by simp only [go_sem, Bool.not_eq_true', Bool.not_eq_false']) (by simp only [go_sem, Bool.not_eq_true', Bool.not_eq_false'])) ?_; simp only [go_sem, Bool.not_eq_true', Bool.not_eq_false', ← e1])
    repeat' first | contradiction | intro _ | refine And.intro ?_ ?_ | refine ex_get (by omega) ?_ | (show drawB _ _ = true; kernel_rfl) | (refine ret2 [] (by simp only [go_sem, Bool.not_eq_true', Bool.not_eq_false']; rfl) ?_; simp only [go_sem, Bool.not_eq_true', Bool.not_eq_false'])
    all_goals first | omega | (rw [spotX_l (by assumption)]; done) | (rw [spotX_r (by assumption)]; done)
end Go.Proofs.Ytblmebjhhanoaaa
/- CHAPTER 11: the document's answer; placing. -/
/- G -/
/- BOOLS -/
set_option linter.unusedSimpArgs false
set_option linter.unusedVariables false
namespace Go.Proofs.Ytblmebjhhanoaaa
open Go.RowKit

set_option maxRecDepth 100000 in
theorem rnone2_ok (s : LSpan) : FnOk Try.prog 139 [aSpan s] [] (.raw (.bool (emS s))) [] := by
  refine fn_of_awp Try.func139 rfl (by kernel_rfl) (by kernel_rfl) (Nat.le_of_ble_eq_true rfl) Try.results139 ?_
  simp only [go_sem, Bool.not_eq_true', Bool.not_eq_false']
  rfl
set_option maxRecDepth 100000 in
theorem rlen2_ok (s : LSpan) (hs : nearS s) : FnOk Try.prog 120 [aSpan s] [] (.raw (.int .i64 (lenS s))) [] := by
  refine fn_of_awp Try.func120 rfl (by kernel_rfl) (by kernel_rfl) (Nat.le_of_ble_eq_true rfl) Try.results120 ?_
  simp only [go_sem, Bool.not_eq_true', Bool.not_eq_false']
  unfold nearS at hs
  repeat' first | contradiction | intro _ | refine And.intro ?_ ?_ | refine ex_get (by omega) ?_ | (show drawB _ _ = true; kernel_rfl) | (refine ret2 [] (by simp only [go_sem, Bool.not_eq_true', Bool.not_eq_false']; rfl) ?_; simp only [go_sem, Bool.not_eq_true', Bool.not_eq_false']) | (refine acall2 [] (rnone2_ok s) (by simp only [go_sem, Bool.not_eq_true', Bool.not_eq_false']; rfl) (fit_of (by simp only [go_sem, Bool.not_eq_true', Bool.not_eq_false']) (by simp only [go_sem, Bool.not_eq_true', Bool.not_eq_false']) (by simp only [go_sem, Bool.not_eq_true', Bool.not_eq_false']) (by simp only [go_sem, Bool.not_eq_true', Bool.not_eq_false']) (by simp only [go_sem, Bool.not_eq_true', Bool.not_eq_false']) (by simp only [go_sem, Bool.not_eq_true', Bool.not_eq_false']) (by simp only [go_sem, Bool.not_eq_true', Bool.not_eq_false'])) ?_; simp only [go_sem, Bool.not_eq_true', Bool.not_eq_false'])
  all_goals (unfold emS at *; simp_all [lenS]; try omega)
set_option maxRecDepth 100000 in
set_option maxHeartbeats 4000000 in
theorem rspot11_ok (l : List LFl) (f : LFl) (y : Int) (s : LSpan) (h : PlaOk l f y s) : FnOk Try.prog 121 [.sl 7 (l.map cFl), aFl f, .raw (.int .i64 y), aSpan s] [] (aPla l f y s) [] := by
  refine fn_of_awp Try.func121 rfl (by kernel_rfl) (by kernel_rfl) (Nat.le_of_ble_eq_true rfl) Try.results121 ?_
  simp only [go_sem, Bool.not_eq_true', Bool.not_eq_false']
  have hlen := h.len
  have hnf := nearF_iff.1 h.nf
  have hfr := from_bd h
  have hbb := band_bd h.near (y := spotY l f y s) (H := f.h) h.s
  have e1 : spotY l f y s = dnP l f.w f.h s (l.length + 1) (fromP l y) := rfl
  have hhi : in10 f.h := by unfold in10; omega
  have hof : ∀ z, -2251799813685248 ≤ z ∧ z ≤ 2251799813685248 → in10 z := fun z hz => in10_of hz
  (refine acall2 [] (rtop_ok l (by omega)) (by simp only [go_sem, Bool.not_eq_true', Bool.not_eq_false']; rfl) (fit_of (by simp only [go_sem, Bool.not_eq_true', Bool.not_eq_false']) (by simp only [go_sem, Bool.not_eq_true', Bool.not_eq_false']) (by simp only [go_sem, Bool.not_eq_true', Bool.not_eq_false']) (by simp only [go_sem, Bool.not_eq_true', Bool.not_eq_false']) (by simp only [go_sem, Bool.not_eq_true', Bool.not_eq_false']) (by simp only [go_sem, Bool.not_eq_true', Bool.not_eq_false']) (by simp only [go_sem, Bool.not_eq_true', Bool.not_eq_false'])) ?_; simp only [go_sem, Bool.not_eq_true', Bool.not_eq_false'])
  refine ⟨fun ht => ⟨fun hm => ?_, fun hm => ?_⟩, fun ht => ?_⟩
  · have e3 : fromP l y = (mostF topF l).n := (by rw [from_t ht]; omega)
    rw [e3] at e1 hfr
    refine aloop2 [] (fun z : KX Int => ⟨[(0, .sl 7 (l.map cFl)), (2, .raw (.int .i64 z.o)), (5, .hdr 8), (7, .hdr 16), (8, .raw (.int .i64 0)), (9, .raw (.int .i64 0)), (12, .raw (.int .i64 z.k))], [(8, some (.cells 39 [.raw (.int .i64 f.node), .raw (.int .i64 f.side), .raw (.int .i64 f.anchor), .raw (.int .i64 f.x), .raw (.int .i64 f.y), .raw (.int .i64 f.w), .raw (.int .i64 f.h)])), (16, some (.cells 87 [.raw (.int .i64 s.a), .raw (.int .i64 s.b)]))], none⟩) (fun z => z.k ≤ l.length + 1 ∧ dnP l f.w f.h s (l.length + 1 - z.k) z.o = spotY l f y s ∧ -2251799813685248 ≤ z.o ∧ z.o ≤ 2251799813685248) (fun z => l.length + 1 - z.k) 4 ⟨0, (mostF topF l).n⟩ (by simp only [go_sem, Bool.not_eq_true', Bool.not_eq_false']; rfl) (by simp only [go_sem, Bool.not_eq_true', Bool.not_eq_false']) ?_ ?_
    · exact ⟨Nat.zero_le _, e1.symm, hfr⟩
    · rintro ⟨k, z⟩ ⟨hk, hz, hb⟩
      simp only at hk hz hb
      have hin := hof z hb
      have hs := band_nearS h z f.h
      have hst := @dn_stop l f.w f.h s z
      have hx1 := @spotX_l l f y s
      have hx2 := @spotX_r l f y s
      simp only [go_sem, Bool.not_eq_true', Bool.not_eq_false']
      repeat' first | contradiction | intro _ | refine And.intro ?_ ?_ | refine ex_get (by omega) ?_ | (show drawB _ _ = true; kernel_rfl) | (refine ret2 [] (by simp only [go_sem, Bool.not_eq_true', Bool.not_eq_false']; rfl) ?_; simp only [go_sem, Bool.not_eq_true', Bool.not_eq_false']) | (refine acall2 [] (rof10_ok l z f.h s (by omega) h.near hin hhi) (by simp only [go_sem, Bool.not_eq_true', Bool.not_eq_false']; rfl) (fit_of (by simp only [go_sem, Bool.not_eq_true', Bool.not_eq_false']) (by simp only [go_sem, Bool.not_eq_true', Bool.not_eq_false']) (by simp only [go_sem, Bool.not_eq_true', Bool.not_eq_false']) (by simp only [go_sem, Bool.not_eq_true', Bool.not_eq_false']) (by simp only [go_sem, Bool.not_eq_true', Bool.not_eq_false']) (by simp only [go_sem, Bool.not_eq_true', Bool.not_eq_false']) (by simp only [go_sem, Bool.not_eq_true', Bool.not_eq_false'])) ?_; simp only [go_sem, Bool.not_eq_true', Bool.not_eq_false']) | (refine acall2 [] (rnext_ok l z f.h s (by omega) h.near hin hhi) (by simp only [go_sem, Bool.not_eq_true', Bool.not_eq_false']; rfl) (fit_of (by simp only [go_sem, Bool.not_eq_true', Bool.not_eq_false']) (by simp only [go_sem, Bool.not_eq_true', Bool.not_eq_false']) (by simp only [go_sem, Bool.not_eq_true', Bool.not_eq_false']) (by simp only [go_sem, Bool.not_eq_true', Bool.not_eq_false']) (by simp only [go_sem, Bool.not_eq_true', Bool.not_eq_false']) (by simp only [go_sem, Bool.not_eq_true', Bool.not_eq_false']) (by simp only [go_sem, Bool.not_eq_true', Bool.not_eq_false'])) ?_; simp only [go_sem, Bool.not_eq_true', Bool.not_eq_false']) | (refine acall2 [] (rlen2_ok (bandF l z f.h s) hs) (by simp only [go_sem, Bool.not_eq_true', Bool.not_eq_false']; rfl) (fit_of (by simp only [go_sem, Bool.not_eq_true', Bool.not_eq_false']) (by simp only [go_sem, Bool.not_eq_true', Bool.not_eq_false']) (by simp only [go_sem, Bool.not_eq_true', Bool.not_eq_false']) (by simp only [go_sem, Bool.not_eq_true', Bool.not_eq_false']) (by simp only [go_sem, Bool.not_eq_true', Bool.not_eq_false']) (by simp only [go_sem, Bool.not_eq_true', Bool.not_eq_false']) (by simp only [go_sem, Bool.not_eq_true', Bool.not_eq_false'])) ?_; simp only [go_sem, Bool.not_eq_true', Bool.not_eq_false'])
      all_goals try (have hY : spotY l f y s = z := by
                       first
                         | (rw [← hz]; exact hst (.inl (by assumption)) _)
                         | (rw [← hz]; exact hst (.inr (by assumption)) _)
                         | (rw [← hz, show l.length + 1 - k = 0 by omega]; rfl)
                     rw [hY] at hbb hx1 hx2)
      all_goals first
        | omega
        | exact hx1 (by assumption)
        | exact hx2 (by assumption)
        | (have hnb := next_bd h.near (y := z) (H := f.h) (s := s) (by assumption)
           (refine loop_end [] (⟨k + 1, (nextF l z f.h s).n⟩) (by simp only [go_sem, Bool.not_eq_true', Bool.not_eq_false']; rfl) ?_ ?_ ?_; (focus first | omega | (simp only; omega)); (focus (simp only [go_sem, Bool.not_eq_true', Bool.not_eq_false']; done)))
           refine ⟨(by show k + 1 ≤ l.length + 1; omega), ?_, hnb⟩
           rw [← hz]
           obtain ⟨m, hm'⟩ : ∃ m, l.length + 1 - k = m + 1 := ⟨l.length - k, by omega⟩
           have hns : ¬ (f.w ≤ lenS (bandF l z f.h s) ∨ (nextF l z f.h s).is = false) := by rintro (q | q) <;> simp_all
           rw [hm', dn_step hns, show l.length + 1 - (k + 1) = m by omega])
  · have e3 : fromP l y = y := (by rw [from_t ht]; omega)
    rw [e3] at e1 hfr
    refine aloop2 [] (fun z : KX Int => ⟨[(0, .sl 7 (l.map cFl)), (2, .raw (.int .i64 z.o)), (5, .hdr 8), (7, .hdr 16), (8, .raw (.int .i64 0)), (9, .raw (.int .i64 0)), (12, .raw (.int .i64 z.k))], [(8, some (.cells 39 [.raw (.int .i64 f.node), .raw (.int .i64 f.side), .raw (.int .i64 f.anchor), .raw (.int .i64 f.x), .raw (.int .i64 f.y), .raw (.int .i64 f.w), .raw (.int .i64 f.h)])), (16, some (.cells 87 [.raw (.int .i64 s.a), .raw (.int .i64 s.b)]))], none⟩) (fun z => z.k ≤ l.length + 1 ∧ dnP l f.w f.h s (l.length + 1 - z.k) z.o = spotY l f y s ∧ -2251799813685248 ≤ z.o ∧ z.o ≤ 2251799813685248) (fun z => l.length + 1 - z.k) 4 ⟨0, y⟩ (by simp only [go_sem, Bool.not_eq_true', Bool.not_eq_false']; rfl) (by simp only [go_sem, Bool.not_eq_true', Bool.not_eq_false']) ?_ ?_
    · exact ⟨Nat.zero_le _, e1.symm, hfr⟩
    · rintro ⟨k, z⟩ ⟨hk, hz, hb⟩
      simp only at hk hz hb
      have hin := hof z hb
      have hs := band_nearS h z f.h
      have hst := @dn_stop l f.w f.h s z
      have hx1 := @spotX_l l f y s
      have hx2 := @spotX_r l f y s
      simp only [go_sem, Bool.not_eq_true', Bool.not_eq_false']
      repeat' first | contradiction | intro _ | refine And.intro ?_ ?_ | refine ex_get (by omega) ?_ | (show drawB _ _ = true; kernel_rfl) | (refine ret2 [] (by simp only [go_sem, Bool.not_eq_true', Bool.not_eq_false']; rfl) ?_; simp only [go_sem, Bool.not_eq_true', Bool.not_eq_false']) | (refine acall2 [] (rof10_ok l z f.h s (by omega) h.near hin hhi) (by simp only [go_sem, Bool.not_eq_true', Bool.not_eq_false']; rfl) (fit_of (by simp only [go_sem, Bool.not_eq_true', Bool.not_eq_false']) (by simp only [go_sem, Bool.not_eq_true', Bool.not_eq_false']) (by simp only [go_sem, Bool.not_eq_true', Bool.not_eq_false']) (by simp only [go_sem, Bool.not_eq_true', Bool.not_eq_false']) (by simp only [go_sem, Bool.not_eq_true', Bool.not_eq_false']) (by simp only [go_sem, Bool.not_eq_true', Bool.not_eq_false']) (by simp only [go_sem, Bool.not_eq_true', Bool.not_eq_false'])) ?_; simp only [go_sem, Bool.not_eq_true', Bool.not_eq_false']) | (refine acall2 [] (rnext_ok l z f.h s (by omega) h.near hin hhi) (by simp only [go_sem, Bool.not_eq_true', Bool.not_eq_false']; rfl) (fit_of (by simp only [go_sem, Bool.not_eq_true', Bool.not_eq_false']) (by simp only [go_sem, Bool.not_eq_true', Bool.not_eq_false']) (by simp only [go_sem, Bool.not_eq_true', Bool.not_eq_false']) (by simp only [go_sem, Bool.not_eq_true', Bool.not_eq_false']) (by simp only [go_sem, Bool.not_eq_true', Bool.not_eq_false']) (by simp only [go_sem, Bool.not_eq_true', Bool.not_eq_false']) (by simp only [go_sem, Bool.not_eq_true', Bool.not_eq_false'])) ?_; simp only [go_sem, Bool.not_eq_true', Bool.not_eq_false']) | (refine acall2 [] (rlen2_ok (bandF l z f.h s) hs) (by simp only [go_sem, Bool.not_eq_true', Bool.not_eq_false']; rfl) (fit_of (by simp only [go_sem, Bool.not_eq_true', Bool.not_eq_false']) (by simp only [go_sem, Bool.not_eq_true', Bool.not_eq_false']) (by simp only [go_sem, Bool.not_eq_true', Bool.not_eq_false']) (by simp only [go_sem, Bool.not_eq_true', Bool.not_eq_false']) (by simp only [go_sem, Bool.not_eq_true', Bool.not_eq_false']) (by simp only [go_sem, Bool.not_eq_true', Bool.not_eq_false']) (by simp only [go_sem, Bool.not_eq_true', Bool.not_eq_false'])) ?_; simp only [go_sem, Bool.not_eq_true', Bool.not_eq_false'])
      all_goals try (have hY : spotY l f y s = z := by
                       first
                         | (rw [← hz]; exact hst (.inl (by assumption)) _)
                         | (rw [← hz]; exact hst (.inr (by assumption)) _)
                         | (rw [← hz, show l.length + 1 - k = 0 by omega]; rfl)
                     rw [hY] at hbb hx1 hx2)
      all_goals first
        | omega
        | exact hx1 (by assumption)
        | exact hx2 (by assumption)
        | (have hnb := next_bd h.near (y := z) (H := f.h) (s := s) (by assumption)
           (refine loop_end [] (⟨k + 1, (nextF l z f.h s).n⟩) (by simp only [go_sem, Bool.not_eq_true', Bool.not_eq_false']; rfl) ?_ ?_ ?_; (focus first | omega | (simp only; omega)); (focus (simp only [go_sem, Bool.not_eq_true', Bool.not_eq_false']; done)))
           refine ⟨(by show k + 1 ≤ l.length + 1; omega), ?_, hnb⟩
           rw [← hz]
           obtain ⟨m, hm'⟩ : ∃ m, l.length + 1 - k = m + 1 := ⟨l.length - k, by omega⟩
           have hns : ¬ (f.w ≤ lenS (bandF l z f.h s) ∨ (nextF l z f.h s).is = false) := by rintro (q | q) <;> simp_all
           rw [hm', dn_step hns, show l.length + 1 - (k + 1) = m by omega])
  · have e3 : fromP l y = y := (by rw [from_f ht])
    rw [e3] at e1 hfr
    refine aloop2 [] (fun z : KX Int => ⟨[(0, .sl 7 (l.map cFl)), (2, .raw (.int .i64 z.o)), (5, .hdr 8), (7, .hdr 16), (8, .raw (.int .i64 0)), (9, .raw (.int .i64 0)), (12, .raw (.int .i64 z.k))], [(8, some (.cells 39 [.raw (.int .i64 f.node), .raw (.int .i64 f.side), .raw (.int .i64 f.anchor), .raw (.int .i64 f.x), .raw (.int .i64 f.y), .raw (.int .i64 f.w), .raw (.int .i64 f.h)])), (16, some (.cells 87 [.raw (.int .i64 s.a), .raw (.int .i64 s.b)]))], none⟩) (fun z => z.k ≤ l.length + 1 ∧ dnP l f.w f.h s (l.length + 1 - z.k) z.o = spotY l f y s ∧ -2251799813685248 ≤ z.o ∧ z.o ≤ 2251799813685248) (fun z => l.length + 1 - z.k) 4 ⟨0, y⟩ (by simp only [go_sem, Bool.not_eq_true', Bool.not_eq_false']; rfl) (by simp only [go_sem, Bool.not_eq_true', Bool.not_eq_false']) ?_ ?_
    · exact ⟨Nat.zero_le _, e1.symm, hfr⟩
    · rintro ⟨k, z⟩ ⟨hk, hz, hb⟩
      simp only at hk hz hb
      have hin := hof z hb
      have hs := band_nearS h z f.h
      have hst := @dn_stop l f.w f.h s z
      have hx1 := @spotX_l l f y s
      have hx2 := @spotX_r l f y s
      simp only [go_sem, Bool.not_eq_true', Bool.not_eq_false']
      repeat' first | contradiction | intro _ | refine And.intro ?_ ?_ | refine ex_get (by omega) ?_ | (show drawB _ _ = true; kernel_rfl) | (refine ret2 [] (by simp only [go_sem, Bool.not_eq_true', Bool.not_eq_false']; rfl) ?_; simp only [go_sem, Bool.not_eq_true', Bool.not_eq_false']) | (refine acall2 [] (rof10_ok l z f.h s (by omega) h.near hin hhi) (by simp only [go_sem, Bool.not_eq_true', Bool.not_eq_false']; rfl) (fit_of (by simp only [go_sem, Bool.not_eq_true', Bool.not_eq_false']) (by simp only [go_sem, Bool.not_eq_true', Bool.not_eq_false']) (by simp only [go_sem, Bool.not_eq_true', Bool.not_eq_false']) (by simp only [go_sem, Bool.not_eq_true', Bool.not_eq_false']) (by simp only [go_sem, Bool.not_eq_true', Bool.not_eq_false']) (by simp only [go_sem, Bool.not_eq_true', Bool.not_eq_false']) (by simp only [go_sem, Bool.not_eq_true', Bool.not_eq_false'])) ?_; simp only [go_sem, Bool.not_eq_true', Bool.not_eq_false']) | (refine acall2 [] (rnext_ok l z f.h s (by omega) h.near hin hhi) (by simp only [go_sem, Bool.not_eq_true', Bool.not_eq_false']; rfl) (fit_of (by simp only [go_sem, Bool.not_eq_true', Bool.not_eq_false']) (by simp only [go_sem, Bool.not_eq_true', Bool.not_eq_false']) (by simp only [go_sem, Bool.not_eq_true', Bool.not_eq_false']) (by simp only [go_sem, Bool.not_eq_true', Bool.not_eq_false']) (by simp only [go_sem, Bool.not_eq_true', Bool.not_eq_false']) (by simp only [go_sem, Bool.not_eq_true', Bool.not_eq_false']) (by simp only [go_sem, Bool.not_eq_true', Bool.not_eq_false'])) ?_; simp only [go_sem, Bool.not_eq_true', Bool.not_eq_false']) | (refine acall2 [] (rlen2_ok (bandF l z f.h s) hs) (by simp only [go_sem, Bool.not_eq_true', Bool.not_eq_false']; rfl) (fit_of (by simp only [go_sem, Bool.not_eq_true', Bool.not_eq_false']) (by simp only [go_sem, Bool.not_eq_true', Bool.not_eq_false']) (by simp only [go_sem, Bool.not_eq_true', Bool.not_eq_false']) (by simp only [go_sem, Bool.not_eq_true', Bool.not_eq_false']) (by simp only [go_sem, Bool.not_eq_true', Bool.not_eq_false']) (by simp only [go_sem, Bool.not_eq_true', Bool.not_eq_false']) (by simp only [go_sem, Bool.not_eq_true', Bool.not_eq_false'])) ?_; simp only [go_sem, Bool.not_eq_true', Bool.not_eq_false'])
      all_goals try (have hY : spotY l f y s = z := by
                       first
                         | (rw [← hz]; exact hst (.inl (by assumption)) _)
                         | (rw [← hz]; exact hst (.inr (by assumption)) _)
                         | (rw [← hz, show l.length + 1 - k = 0 by omega]; rfl)
                     rw [hY] at hbb hx1 hx2)
      all_goals first
        | omega
        | exact hx1 (by assumption)
        | exact hx2 (by assumption)
        | (have hnb := next_bd h.near (y := z) (H := f.h) (s := s) (by assumption)
           (refine loop_end [] (⟨k + 1, (nextF l z f.h s).n⟩) (by simp only [go_sem, Bool.not_eq_true', Bool.not_eq_false']; rfl) ?_ ?_ ?_; (focus first | omega | (simp only; omega)); (focus (simp only [go_sem, Bool.not_eq_true', Bool.not_eq_false']; done)))
           refine ⟨(by show k + 1 ≤ l.length + 1; omega), ?_, hnb⟩
           rw [← hz]
           obtain ⟨m, hm'⟩ : ∃ m, l.length + 1 - k = m + 1 := ⟨l.length - k, by omega⟩
           have hns : ¬ (f.w ≤ lenS (bandF l z f.h s) ∨ (nextF l z f.h s).is = false) := by rintro (q | q) <;> simp_all
           rw [hm', dn_step hns, show l.length + 1 - (k + 1) = m by omega])
set_option maxRecDepth 100000 in
theorem clone11_ok (l : List LFl) (hl : l.length ≤ 100) : FnOk Try.prog 106 [.sl 7 (l.map cFl)] [] (.hdr 8) [(8, .row 39 7 (l.map cFl))] := by
  refine fn_of_awp Try.func106 rfl (by kernel_rfl) (by kernel_rfl) (Nat.le_of_ble_eq_true rfl) Try.results106 ?_
  simp only [go_sem, Bool.not_eq_true', Bool.not_eq_false']
  repeat' first | contradiction | intro _ | refine And.intro ?_ ?_ | refine ex_get (by omega) ?_ | (show drawB _ _ = true; kernel_rfl) | (refine ret2 [] (by simp only [go_sem, Bool.not_eq_true', Bool.not_eq_false']; rfl) ?_; simp only [go_sem, Bool.not_eq_true', Bool.not_eq_false'])
  all_goals first | omega | (simp_all; done)
theorem set_cl (l : List LFl) (f : LFl) (y : Int) (s : LSpan) : cFl (setP l f y s) = [.raw (.int .i64 f.node), .raw (.int .i64 f.side), .raw (.int .i64 f.anchor), .raw (.int .i64 (spotX l f y s)), .raw (.int .i64 (spotY l f y s)), .raw (.int .i64 f.w), .raw (.int .i64 f.h)] := rfl
def putP (l : List LFl) (f : LFl) (y : Int) (s : LSpan) : List LFl := l ++ [setP l f y s]
theorem put_cl (l : List LFl) (f : LFl) (y : Int) (s : LSpan) : (putP l f y s).map cFl = l.map cFl ++ [cFl (setP l f y s)] := by simp [putP]
set_option maxRecDepth 100000 in
theorem put11_ok (l : List LFl) (f : LFl) (y : Int) (s : LSpan) (h : PlaOk l f y s) : FnOk Try.prog 76 [.sl 7 (l.map cFl), aFl f, .raw (.int .i64 y), aSpan s] [] (.hdr 8) [(8, .row 39 7 ((putP l f y s).map cFl))] := by
  refine fn_of_awp Try.func76 rfl (by kernel_rfl) (by kernel_rfl) (Nat.le_of_ble_eq_true rfl) Try.results76 ?_
  simp only [go_sem, Bool.not_eq_true', Bool.not_eq_false']
  have hlen := h.len
  repeat' first | contradiction | intro _ | refine And.intro ?_ ?_ | refine ex_get (by omega) ?_ | (show drawB _ _ = true; kernel_rfl) | (refine ret2 [] (by simp only [go_sem, Bool.not_eq_true', Bool.not_eq_false', put_cl, set_cl]; rfl) ?_; simp only [go_sem, Bool.not_eq_true', Bool.not_eq_false', put_cl, set_cl]) | (refine acall2 [] (spot11_ok l f y s h) (by simp only [go_sem, Bool.not_eq_true', Bool.not_eq_false']; rfl) (fit_of (by simp only [go_sem, Bool.not_eq_true', Bool.not_eq_false']) (by simp only [go_sem, Bool.not_eq_true', Bool.not_eq_false']) (by simp only [go_sem, Bool.not_eq_true', Bool.not_eq_false']) (by simp only [go_sem, Bool.not_eq_true', Bool.not_eq_false']) (by simp only [go_sem, Bool.not_eq_true', Bool.not_eq_false']) (by simp only [go_sem, Bool.not_eq_true', Bool.not_eq_false']) (by simp only [go_sem, Bool.not_eq_true', Bool.not_eq_false'])) ?_; simp only [go_sem, Bool.not_eq_true', Bool.not_eq_false', put_cl, set_cl]) | (refine acall2 [] (clone11_ok l (by omega)) (by simp only [go_sem, Bool.not_eq_true', Bool.not_eq_false']; rfl) (fit_of (by simp only [go_sem, Bool.not_eq_true', Bool.not_eq_false']) (by simp only [go_sem, Bool.not_eq_true', Bool.not_eq_false']) (by simp only [go_sem, Bool.not_eq_true', Bool.not_eq_false']) (by simp only [go_sem, Bool.not_eq_true', Bool.not_eq_false']) (by simp only [go_sem, Bool.not_eq_true', Bool.not_eq_false']) (by simp only [go_sem, Bool.not_eq_true', Bool.not_eq_false']) (by simp only [go_sem, Bool.not_eq_true', Bool.not_eq_false'])) ?_; simp only [go_sem, Bool.not_eq_true', Bool.not_eq_false', put_cl, set_cl])
  all_goals first | omega | rfl
set_option maxRecDepth 100000 in
theorem rput11_ok (l : List LFl) (f : LFl) (y : Int) (s : LSpan) (h : PlaOk l f y s) : FnOk Try.prog 97 [.sl 7 (l.map cFl), aFl f, .raw (.int .i64 y), aSpan s] [] (.hdr 8) [(8, .row 39 7 ((putP l f y s).map cFl))] := by
  refine fn_of_awp Try.func97 rfl (by kernel_rfl) (by kernel_rfl) (Nat.le_of_ble_eq_true rfl) Try.results97 ?_
  simp only [go_sem, Bool.not_eq_true', Bool.not_eq_false']
  have hlen := h.len
  repeat' first | contradiction | intro _ | refine And.intro ?_ ?_ | refine ex_get (by omega) ?_ | (show drawB _ _ = true; kernel_rfl) | (refine ret2 [] (by simp only [go_sem, Bool.not_eq_true', Bool.not_eq_false', put_cl, set_cl]; rfl) ?_; simp only [go_sem, Bool.not_eq_true', Bool.not_eq_false', put_cl, set_cl]) | (refine acall2 [] (rspot11_ok l f y s h) (by simp only [go_sem, Bool.not_eq_true', Bool.not_eq_false']; rfl) (fit_of (by simp only [go_sem, Bool.not_eq_true', Bool.not_eq_false']) (by simp only [go_sem, Bool.not_eq_true', Bool.not_eq_false']) (by simp only [go_sem, Bool.not_eq_true', Bool.not_eq_false']) (by simp only [go_sem, Bool.not_eq_true', Bool.not_eq_false']) (by simp only [go_sem, Bool.not_eq_true', Bool.not_eq_false']) (by simp only [go_sem, Bool.not_eq_true', Bool.not_eq_false']) (by simp only [go_sem, Bool.not_eq_true', Bool.not_eq_false'])) ?_; simp only [go_sem, Bool.not_eq_true', Bool.not_eq_false', put_cl, set_cl])
  all_goals first | omega | rfl
end Go.Proofs.Ytblmebjhhanoaaa
/- PLAIN: words and lines, as chapter 9 has them; no program in sight. -/
set_option linter.unusedSimpArgs false
set_option linter.unusedVariables false
namespace Go.Proofs.Ytblmebjhhanoaaa

structure WRun where
  f : Int
  t : Int
  w : Int

/-- how wide words are with spaces between; of none: less a space. -/
def wideN (sp : Int) (ys : List Int) : Int := ys.sum + ((ys.length : Int) - 1) * sp
/-- the words from one place to another one. -/
def seg (xs : List Int) (f t : Nat) : List Int := (xs.drop f).take (t - f)
theorem seg_same (xs : List Int) (f : Nat) : seg xs f f = [] := by simp [seg]
theorem seg_succ (xs : List Int) (f t : Nat) (h : f ≤ t) (ht : t < xs.length) : seg xs f (t + 1) = seg xs f t ++ [xs[t]] := by
  unfold seg
  rw [show t + 1 - f = (t - f) + 1 by omega, List.take_succ_eq_append_getElem (by simp; omega)]
  simp only [List.getElem_drop]
  congr 3
  omega
theorem seg_len (xs : List Int) (f t : Nat) (ht : t ≤ xs.length) : (seg xs f t).length = t - f := by
  unfold seg; rw [List.length_take, List.length_drop]; omega
theorem wide_succ (sp : Int) (ys : List Int) (x : Int) : wideN sp (ys ++ [x]) = wideN sp ys + (sp + x) := by
  unfold wideN
  rw [List.sum_append, List.length_append]
  have e : ((ys.length + [x].length : Nat) : Int) - 1 = ((ys.length : Int) - 1) + 1 := by rw [List.length_singleton]; omega
  rw [e, Int.add_mul]
  simp
  omega
theorem wide_seg (sp : Int) (xs : List Int) (f t : Nat) (h : f ≤ t) (ht : t < xs.length) : wideN sp (seg xs f (t + 1)) = wideN sp (seg xs f t) + (sp + xs[t]) := by rw [seg_succ xs f t h ht, wide_succ]
theorem wide_none (sp : Int) (xs : List Int) (f : Nat) : wideN sp (seg xs f f) = -sp := by rw [seg_same]; simp [wideN]

/-- near: from 0 to 2^45. -/
def nr9 (x : Int) : Bool := decide (0 ≤ x ∧ x ≤ 35184372088832)
def near9 (xs : List Int) (sp width : Int) : Bool := nr9 sp && nr9 width && xs.all nr9
theorem near9_at {xs : List Int} (h : xs.all nr9 = true) (k : Nat) (hk : k < xs.length) : 0 ≤ xs[k] ∧ xs[k] ≤ 35184372088832 := by
  rw [List.all_eq_true] at h
  have := h _ (List.getElem_mem hk)
  simpa [nr9] using this
theorem wide_bd {sp : Int} {xs : List Int} (h : xs.all nr9 = true) (hs : 0 ≤ sp ∧ sp ≤ 35184372088832) (f : Nat) : ∀ t, f ≤ t → t ≤ xs.length → -sp ≤ wideN sp (seg xs f t) ∧ wideN sp (seg xs f t) ≤ 70368744177664 * ((t : Int) - f) - sp := by
  intro t
  induction t with
  | zero => intro h1 _; obtain rfl : f = 0 := by omega
            rw [wide_none]; omega
  | succ t ih =>
    intro h1 h2
    by_cases e : f = t + 1
    · subst e; rw [wide_none]; omega
    · have := ih (by omega) (by omega)
      rw [wide_seg sp xs f t (by omega) (by omega)]
      have := near9_at h t (by omega)
      omega

def wideF (xs : List Int) (sp f t : Int) : Int := if f < 0 ∨ (xs.length : Int) ≤ f ∨ t ≤ f ∨ (xs.length : Int) < t then 0 else wideN sp (seg xs f.toNat t.toNat)

/-- how far a line goes that holds the words from f to t. -/
def growT (xs : List Int) (sp width : Int) (f : Nat) : Nat → Nat → Nat
  | 0, t => t
  | n + 1, t => if t < xs.length ∧ wideN sp (seg xs f (t + 1)) ≤ width then growT xs sp width f n (t + 1) else t
def takeT (xs : List Int) (sp width : Int) (f : Nat) : Nat := growT xs sp width f (xs.length - (f + 1)) (f + 1)
theorem growT_ge (xs : List Int) (sp width : Int) (f : Nat) : ∀ n t, t ≤ growT xs sp width f n t
  | 0, t => Nat.le_refl _
  | n + 1, t => by
    unfold growT
    split
    · have := growT_ge xs sp width f n (t + 1); omega
    · exact Nat.le_refl _
theorem growT_le (xs : List Int) (sp width : Int) (f : Nat) : ∀ n t, t ≤ xs.length → growT xs sp width f n t ≤ xs.length
  | 0, t, h => h
  | n + 1, t, h => by
    unfold growT
    split
    · next h1 => exact growT_le xs sp width f n (t + 1) (by omega)
    · exact h
theorem growT_yes {xs : List Int} {sp width : Int} {f t : Nat} (h : t < xs.length) (hw : wideN sp (seg xs f (t + 1)) ≤ width) : growT xs sp width f (xs.length - t) t = growT xs sp width f (xs.length - (t + 1)) (t + 1) := by
  rw [show xs.length - t = (xs.length - (t + 1)) + 1 by omega]
  show (if _ then _ else _) = _
  rw [if_pos ⟨h, hw⟩]
theorem growT_no {xs : List Int} {sp width : Int} {f t : Nat} (h : ¬ (t < xs.length ∧ wideN sp (seg xs f (t + 1)) ≤ width)) : growT xs sp width f (xs.length - t) t = t := by
  cases e : xs.length - t with
  | zero => rfl
  | succ n => show (if _ then _ else _) = _; rw [if_neg h]
def takeF (xs : List Int) (sp width f : Int) : WRun := if f < 0 ∨ (xs.length : Int) ≤ f then ⟨0, 0, 0⟩ else ⟨f, (takeT xs sp width f.toNat : Nat), wideN sp (seg xs f.toNat (takeT xs sp width f.toNat))⟩
theorem takeT_bd (xs : List Int) (sp width : Int) (f : Nat) (h : f < xs.length) : f < takeT xs sp width f ∧ takeT xs sp width f ≤ xs.length := by
  have h1 := growT_ge xs sp width f (xs.length - (f + 1)) (f + 1)
  have h2 := growT_le xs sp width f (xs.length - (f + 1)) (f + 1) (by omega)
  unfold takeT
  omega
/-- all lines from a place on. -/
def allG (xs : List Int) (sp width : Int) : Nat → Nat → List WRun
  | 0, _ => []
  | n + 1, f => if f < xs.length then takeF xs sp width f :: allG xs sp width n (takeT xs sp width f) else []
def allF (xs : List Int) (sp width : Int) : List WRun := allG xs sp width xs.length 0
end Go.Proofs.Ytblmebjhhanoaaa
/- PLAIN: chapter 9's laws of lines; no program in sight. -/
set_option linter.unusedSimpArgs false
set_option linter.unusedVariables false
namespace Go.Proofs.Ytblmebjhhanoaaa

theorem seg_all {xs : List Int} (h : xs.all nr9 = true) (f t : Nat) : (seg xs f t).all nr9 = true := by
  rw [List.all_eq_true] at h ⊢
  intro x hx
  exact h x (List.mem_of_mem_drop (List.mem_of_mem_take hx))
theorem sum_nonneg {xs : List Int} (h : xs.all nr9 = true) : 0 ≤ xs.sum := by
  induction xs with
  | nil => simp
  | cons x xs ih =>
    simp only [List.all_cons, Bool.and_eq_true, nr9, decide_eq_true_eq] at h
    have := ih h.2
    rw [List.sum_cons]
    omega
theorem seg_app (xs : List Int) {f m t : Nat} (h1 : f ≤ m) (h2 : m ≤ t) : seg xs f t = seg xs f m ++ seg xs m t := by
  unfold seg
  have e1 : xs.drop m = (xs.drop f).drop (m - f) := by rw [List.drop_drop]; congr 1; omega
  have e2 : t - f = (m - f) + (t - m) := by omega
  rw [e1, e2, List.take_add]
/-- from a later word on: no wider. -/
theorem wide_anti {xs : List Int} {sp : Int} (h : xs.all nr9 = true) (hs : 0 ≤ sp) {f m t : Nat} (h1 : f ≤ m) (h2 : m < t) (ht : t ≤ xs.length) : wideN sp (seg xs m t) ≤ wideN sp (seg xs f t) := by
  rw [seg_app xs h1 (Nat.le_of_lt h2)]
  unfold wideN
  rw [List.sum_append, List.length_append]
  have hn := sum_nonneg (seg_all h f m)
  have e : ((((seg xs f m).length + (seg xs m t).length : Nat) : Int) - 1) * sp = ((seg xs m t).length - 1 : Int) * sp + ((seg xs f m).length : Int) * sp := by
    rw [← Int.add_mul]; congr 1; omega
  rw [e]
  have := Int.mul_nonneg (show 0 ≤ ((seg xs f m).length : Int) by omega) hs
  omega
theorem wide_mono {xs : List Int} {sp : Int} (h : xs.all nr9 = true) (hs : 0 ≤ sp) {f : Nat} : ∀ {e t : Nat}, f ≤ e → e ≤ t → t ≤ xs.length → wideN sp (seg xs f e) ≤ wideN sp (seg xs f t) := by
  intro e t h1 h2
  induction t with
  | zero => intro _; obtain rfl : e = 0 := by omega
            exact Int.le_refl _
  | succ t ih =>
    intro ht
    by_cases he : e = t + 1
    · rw [he]; exact Int.le_refl _
    · have := ih (by omega) (by omega)
      rw [wide_seg sp xs f t (by omega) (by omega)]
      have := near9_at h t (by omega)
      omega
theorem growT_reach {xs : List Int} {sp w : Int} {f : Nat} (h : xs.all nr9 = true) (hs : 0 ≤ sp) {e : Nat} (he : e ≤ xs.length) (hw : wideN sp (seg xs f e) ≤ w) : ∀ n t, f ≤ t → t ≤ e → e ≤ t + n → e ≤ growT xs sp w f n t := by
  intro n
  induction n with
  | zero => intro t _ h1 h2; exact h2
  | succ n ih =>
    intro t h0 h1 h2
    unfold growT
    by_cases ht : t = e
    · split
      · have := growT_ge xs sp w f n (t + 1); omega
      · omega
    · have := wide_mono h hs (f := f) (e := t + 1) (t := e) (by omega) (by omega) he
      rw [if_pos ⟨by omega, by omega⟩]
      exact ih (t + 1) (by omega) (by omega) (by omega)
theorem growT_fits {xs : List Int} {sp w : Int} {f : Nat} : ∀ n t, growT xs sp w f n t = t ∨ wideN sp (seg xs f (growT xs sp w f n t)) ≤ w := by
  intro n
  induction n with
  | zero => intro t; exact .inl rfl
  | succ n ih =>
    intro t
    unfold growT
    split
    · next h => rcases ih (t + 1) with h1 | h1
                · right; rw [h1]; exact h.2
                · exact .inr h1
    · exact .inl rfl
theorem growT_full {xs : List Int} {sp w : Int} {f : Nat} : ∀ n t, xs.length ≤ t + n → growT xs sp w f n t < xs.length → w < wideN sp (seg xs f (growT xs sp w f n t + 1)) := by
  intro n
  induction n with
  | zero => intro t h1 h2; unfold growT at h2; omega
  | succ n ih =>
    intro t h1
    unfold growT
    split
    · exact ih (t + 1) (by omega)
    · next h => intro h2; omega
theorem takeT_reach {xs : List Int} {sp w : Int} (h : xs.all nr9 = true) (hs : 0 ≤ sp) {f e : Nat} (hf : f < xs.length) (he : e ≤ xs.length) (hw : e ≤ f + 1 ∨ wideN sp (seg xs f e) ≤ w) : e ≤ takeT xs sp w f := by
  by_cases h1 : e ≤ f + 1
  · have := (takeT_bd xs sp w f hf).1; omega
  · exact growT_reach h hs he (by omega) _ _ (by omega) (by omega) (by omega)
theorem takeT_fits (xs : List Int) (sp w : Int) (f : Nat) : takeT xs sp w f = f + 1 ∨ wideN sp (seg xs f (takeT xs sp w f)) ≤ w := growT_fits _ _
theorem takeT_full {xs : List Int} {sp w : Int} {f : Nat} (hf : f < xs.length) (h : takeT xs sp w f < xs.length) : w < wideN sp (seg xs f (takeT xs sp w f + 1)) := growT_full _ _ (by omega) h
theorem takeT_mono {xs : List Int} {sp w w' : Int} (h : xs.all nr9 = true) (hs : 0 ≤ sp) (hw : w ≤ w') {f f' : Nat} (hf : f ≤ f') (hf' : f' < xs.length) : takeT xs sp w f ≤ takeT xs sp w' f' := by
  have hb := takeT_bd xs sp w f (by omega)
  refine takeT_reach h hs hf' hb.2 ?_
  by_cases h1 : takeT xs sp w f ≤ f' + 1
  · exact .inl h1
  · right
    have := wide_anti h hs hf (show f' < takeT xs sp w f by omega) hb.2
    rcases takeT_fits xs sp w f with h2 | h2 <;> omega
/-- rows of lines, the next one from where the one ahead ends; the last one at the end. -/
def Lines (xs : List Int) (sp w : Int) : Nat → List WRun → Prop
  | f, [] => f = xs.length
  | f, r :: l => f < xs.length ∧ r = ⟨f, (takeT xs sp w f : Nat), wideN sp (seg xs f (takeT xs sp w f))⟩ ∧ Lines xs sp w (takeT xs sp w f) l
theorem allG_lines (xs : List Int) (sp w : Int) : ∀ n f, xs.length ≤ f + n → f ≤ xs.length → Lines xs sp w f (allG xs sp w n f) := by
  intro n
  induction n with
  | zero => intro f h1 h2; show f = _; omega
  | succ n ih =>
    intro f h1 h2
    show Lines xs sp w f (if _ then _ else _)
    split
    · next h =>
      have hb := takeT_bd xs sp w f h
      refine ⟨h, ?_, ih _ (by omega) hb.2⟩
      unfold takeF
      rw [if_neg (by omega)]
      simp
    · show f = _; omega
theorem all_lines (xs : List Int) (sp w : Int) : Lines xs sp w 0 (allF xs sp w) := allG_lines xs sp w _ 0 (by omega) (by omega)
theorem lines_le {xs : List Int} {sp w w' : Int} (h : xs.all nr9 = true) (hs : 0 ≤ sp) (hw : w ≤ w') : ∀ {l l' : List WRun} {f f' : Nat}, f ≤ f' → Lines xs sp w f l → Lines xs sp w' f' l' → l'.length ≤ l.length := by
  intro l l'
  induction l' generalizing l with
  | nil => intro _ _ _ _ _; exact Nat.zero_le _
  | cons r' l' ih =>
    intro f f' hf h1 h2
    cases l with
    | nil => have h1 : f = _ := h1; have := h2.1; omega
    | cons r l =>
      have := ih (takeT_mono h hs hw hf h2.1) h1.2.2 h2.2.2
      simp only [List.length_cons]
      omega
/-- one line more of another parting: lines that are taken go as far. -/
theorem lines_step {xs : List Int} {sp w : Int} (h : xs.all nr9 = true) (hs : 0 ≤ sp) {l : List WRun} {f g e : Nat} (hfg : f ≤ g) (hl : Lines xs sp w g l) (hf : f < e) (he : e ≤ xs.length) (hw : e ≤ f + 1 ∨ wideN sp (seg xs f e) ≤ w) : ∃ g', e ≤ g' ∧ Lines xs sp w g' (l.drop 1) := by
  cases l with
  | nil => have hl' : g = _ := hl; exact ⟨g, by omega, hl⟩
  | cons r l =>
    refine ⟨takeT xs sp w g, ?_, hl.2.2⟩
    have h1 := takeT_reach h hs (show f < xs.length by omega) he hw
    have h2 := takeT_mono h hs (Int.le_refl w) hfg hl.1
    omega
end Go.Proofs.Ytblmebjhhanoaaa
/- ENGINE (second) 16: a drawn statement with a tail that waits for all ahead (a call of yield in it); ranges over functions whose text is parted; over any program. -/
/- G -/
set_option linter.unusedSimpArgs false
set_option linter.unusedVariables false
namespace Go.Proofs.Ytblmebjhhanoaaa
open Go.RowKit

def tailB (n : Nat) (l : List Oper) : Bool := decide (n < l.length) && Region.sinkB .any l.toArray n && Region.chainB .any l.toArray n && Region.seqB .any l.toArray (l.length - n) n ((List.range l.length).map (fun j => decide (j < n))).toArray
theorem wpAnyIn_of_seq {F : Fence} {m : Nat} {P : Program} {ops : Array Oper} {md : Region.Mode} {Q' : Exit → Act → World → Prop} : ∀ (l : List Oper) (k : Nat) (listed : Array Bool) (a : Act) (w : World), (∀ j, l[j]? = ops[k + j]?) →
    Region.seqB md ops l.length k listed = true → wpListIn F m P ops Q' l a w → wpAnyIn F m P md ops Q' l.length listed a w
  | [], _, _, _, _, _, hB, h => ⟨by simpa [Region.seqB] using hB, h⟩
  | o :: l, k, listed, a, w, hl, hB, h => by
    have h0 : ops[k]? = some o := by simpa using (hl 0).symm
    simp only [List.length_cons, Region.seqB, Bool.and_eq_true, decide_eq_true_eq] at hB
    refine ⟨fun h1 => (by rw [hB.1] at h1; cases h1), fun i hi => ?_⟩
    rw [hB.1] at hi
    have hik : i = k := by simpa using hi
    subst hik
    have hw : wpOpIn F m P ops Q' i (wpListIn F m P ops Q' l) a w := by unfold wpOpIn; simp only [h0]; exact h
    exact wpOpIn_mono (fun a' w' h' => wpAnyIn_of_seq l (i + 1) _ a' w' (fun j => by have := hl (j + 1); simpa [Nat.add_assoc, Nat.add_comm 1 j] using this) hB.2 h') hw
set_option maxHeartbeats 1000000 in
/-- a statement whose order is open, but for a tail that waits for all ahead. -/
theorem draw_tail {P : Program} {ops T : List Oper} {K : Nat → AS → Prop} {n : Nat} {S : AS} (hmx : P.follows .mixedOrders = true) (hTB : tailB ops.length (ops ++ T) = true) (h : AOps P (ops.map (·.dst)) ops (drawK ops (fun n' S' => AOps P ((ops ++ T).map (·.dst)) T K n' S')) n ⟨S.t, S.s, some []⟩) : ADraw P (ops ++ T) K n S := by
  intro rd m0 c id p ρ a w Q hd hmod hn ha hQ
  unfold tailB at hTB
  simp only [Bool.and_eq_true, decide_eq_true_eq] at hTB
  obtain ⟨⟨⟨hTn, hTs⟩, hTc⟩, hTq⟩ := hTB
  have hAT : ∀ i, i < ops.length → (ops ++ T).toArray[i]? = ops[i]? := fun i hi => by
    rw [List.getElem?_toArray, List.getElem?_append_left hi]
  have hsz : (ops ++ T).toArray.size = ops.length + T.length := by simp
  obtain ⟨Es, Sf, hch, hK⟩ := aops_chain ops n _ rfl h
  obtain ⟨hlen, hat, hfg, hfo, hfl⟩ := chain_at ops n _ Es Sf hch
  have hlg := hfl [] rfl
  unfold drawK at hK
  rw [hlg] at hK
  dsimp only at hK
  obtain ⟨hB, hK⟩ := hK
  unfold drawB at hB
  simp only [List.append_nil, List.reverse_reverse, Bool.and_eq_true] at hB
  obtain ⟨⟨-, hback⟩, hcross⟩ := hB
  have hback : ∀ i o, ops[i]? = some o → ∀ e ∈ o.after, Region.binds .any e = true → e.on < i := fun i o ho e he hb => by
    have h1 := List.all_eq_true.1 hback (o, i) (by rw [List.mem_iff_getElem?]; exact ⟨i, by simp [ho]⟩)
    have h2 := List.all_eq_true.1 h1 e (by simpa using he)
    simpa [hb] using h2
  -- two that are not ordered do not cross
  have hpair : ∀ i j x y Ex Ey, i < j → ops[i]? = some x → ops[j]? = some y → Es[i]? = some Ex → Es[j]? = some Ey → (((bfm ops [])[j]?).getD 0).testBit i = true ∨
      (crossB ops x y = false ∧ (∀ q ∈ Ex.objs.map (·.1), q ∉ Ey.reads ∧ q ∉ Ey.objs.map (·.1)) ∧ ∀ q ∈ Ey.objs.map (·.1), q ∉ Ex.reads) := by
    intro i j x y Ex Ey hij hx hy hEx hEy
    have hjl : j < ops.length := (List.getElem?_eq_some_iff.1 hy).1
    have h1 := List.all_eq_true.1 (List.all_eq_true.1 hcross j (List.mem_range.2 hjl)) i (List.mem_range.2 hij)
    rw [Bool.or_eq_true] at h1
    rcases h1 with h1 | h1
    · exact .inl h1
    · refine .inr ?_
      simp only [hx, hy, List.getElem?_map, hEx, hEy, Option.map_some, Bool.and_eq_true, Bool.not_eq_true'] at h1
      obtain ⟨⟨h2, h3⟩, h4⟩ := h1
      refine ⟨h2, fun q hq => ?_, meetB_none h4⟩
      have := meetB_none h3 q hq
      rw [List.mem_append] at this
      exact ⟨fun e => this (.inl e), fun e => this (.inr e)⟩
  have hEs : ∀ i o, ops[i]? = some o → ∃ E, Es[i]? = some E := fun i o ho => ⟨_, List.getElem?_eq_getElem (by rw [hlen]; exact (List.getElem?_eq_some_iff.1 ho).1)⟩
  have hwr := @wrs_get ops Es
  -- the blocks of names in use
  have key : ∀ (f : Nat) (listed : Array Bool) (ρ' : Env) (a' : Act) (w' : World), HeadInv .any (ops ++ T).toArray ops.length listed → cnt (fun j => !listed.getD j false) ops.length = f →
      Mod c (fun i => p i ∨ ∃ j, j < ops.length ∧ listed.getD j false = true ∧ i / 8 = n + j) ρ' (ap (wrs ops Es) (fun j => listed.getD j false) S) a'.tmps w' → DefOk c a' w' → wpAnyIn (FW rd) m0 P .any (ops ++ T).toArray Q (f + T.length) listed a' w' := by
    intro f
    induction f with
    | zero =>
      intro listed ρ' a' w' inv hc hm ha'
      have hall := cnt_zero _ hc
      have hl : ∀ j, j < ops.length → listed.getD j false = true := fun j hj => by simpa using hall j hj
      rw [Nat.zero_add]
      have hle : listed = ((List.range (ops ++ T).length).map (fun j => decide (j < ops.length))).toArray := by
        refine Array.ext (by rw [inv.size]; simp) fun j h1 h2 => ?_
        have hj : j < ops.length + T.length := by rw [inv.size, hsz] at h1; exact h1
        have e1 : listed.getD j false = listed[j] := by simp [h1]
        have e2 : listed.getD j true = listed[j] := by simp [h1]
        have e3 : ((List.range (ops ++ T).length).map (fun j => decide (j < ops.length))).toArray[j] = decide (j < ops.length) := by simp
        rw [e3]
        by_cases hjn : j < ops.length
        · rw [← e1, hl j hjn]; simp [hjn]
        · rw [← e2, inv.tail j (by omega) (by rw [hsz]; exact hj)]; simp [hjn]
      refine wpAnyIn_of_seq T ops.length listed a' w' (fun j => by rw [List.getElem?_toArray, List.getElem?_append_right (by omega)]; congr 1; omega) (by rw [hle, show T.length = (ops ++ T).length - ops.length by simp]; exact hTq) ?_
      refine aops_sound (P := P) (D := (ops ++ T).map (·.dst)) (opsA := (ops ++ T).toArray) (fun j => by rw [List.getElem?_map, List.getElem?_toArray]) (fun n' S' p' ρ' a' w' h1 h2 h3 h4 => hQ n' S' p' ρ' a' w' h1 h2 h3 h4) T _ ⟨Sf.t, Sf.s, none⟩ _ ρ' a' w' (fun o ho => hd o (List.mem_append_right _ ho)) hK (hm.same (fun t => ?_) (fun q => ?_)) (fun i hi => ?_) ha'
      · rw [ap_get]
        exact (hfg t).trans (gL_congr fun k d E hk _ => by
          obtain ⟨o, ho, -⟩ := (hwr k d E).1 hk
          rw [hl k (List.getElem?_eq_some_iff.1 ho).1])
      · rw [ap_obj]
        exact (hfo q).trans (oL_congr fun k d E hk _ => by
          obtain ⟨o, ho, -⟩ := (hwr k d E).1 hk
          rw [hl k (List.getElem?_eq_some_iff.1 ho).1])
      · rcases hi with hi | ⟨j, h1, -, h3⟩
        · have := hn i hi; omega
        · omega
    | succ f ih =>
      intro listed ρ' a' w' inv hc hm ha'
      have hLcl : ∀ j m, (bfm ops [])[j]? = some m → listed.getD j false = true → ∀ i, m.testBit i = true → listed.getD i false = true := by
        refine bfm_closed (L := fun j => listed.getD j false) ops [] 0 rfl (fun i o ho hL e he hb => ?_) (fun j m hj => by simp at hj)
        rw [Nat.zero_add] at hL ⊢
        exact ⟨hback i o ho e he hb, inv.closed i o (by rw [hAT i (List.getElem?_eq_some_iff.1 ho).1]; exact ho) hL e he hb⟩
      obtain ⟨m, hm', hm1, hm2⟩ := cnt_pos ops.length (by rw [hc]; omega)
      have hmun : listed.getD m false = false := by simpa using hm1
      have hmr : m ∈ Region.ready .any (ops ++ T).toArray listed := by
        refine mem_ready.2 ⟨getD_in (by rw [inv.size, hsz]; omega) hmun, ops[m], by rw [hAT m hm', List.getElem?_eq_getElem hm'], fun e he hb => ?_⟩
        have := hm2 e.on (hback m ops[m] (List.getElem?_eq_getElem hm') e he hb)
        simpa using this
      rw [Nat.succ_add]
      refine ⟨fun h0 => (by rw [h0] at hmr; cases hmr), fun i hi => ?_⟩
      obtain ⟨hiun, o, ho, hall⟩ := mem_ready.1 hi
      have hiun' : listed.getD i false = false := getD_both hiun
      have hil : i < ops.length := by
        refine Nat.lt_of_not_le fun hge => ?_
        exact tail_waits hTs hTc (by rw [hsz]; rw [List.length_append] at hTn; exact hTn) inv (ops.length - m) m rfl hm' (getD_in (by rw [inv.size, hsz]; omega) hmun) i hge hi
      have ho' : ops[i]? = some o := by rw [← hAT i hil]; exact ho
      obtain ⟨E, ran, Si, hE, ⟨hG, hD, hS⟩, hgi, hoi⟩ := hat i o ho'
      -- those who come up later don't reach here
      have hlater : ∀ k, listed.getD k false = true → (((bfm ops [])[k]?).getD 0).testBit i = true → False := fun k hk ht => by
        cases hb : (bfm ops [])[k]? with
        | none => rw [hb] at ht; simp at ht
        | some m => rw [hb] at ht; have := hLcl k m hb hk i ht; rw [hiun'] at this; cases this
      have hmine : ∀ k, (((bfm ops [])[i]?).getD 0).testBit k = true → listed.getD k false = true := fun k ht => by
        cases hb : (bfm ops [])[i]? with
        | none => rw [hb] at ht; simp at ht
        | some m =>
          rw [hb] at ht
          have hh : (fun j => listed.getD j false || decide (j = i)) k = true := by
            refine bfm_closed (L := fun j => listed.getD j false || decide (j = i)) ops [] 0 rfl (fun j oj hj hL e he hbd => ?_) (fun j m hj => by simp at hj) i m hb (by simp) k ht
            rw [Nat.zero_add] at hL ⊢
            refine ⟨hback j oj hj e he hbd, ?_⟩
            simp only [Bool.or_eq_true, decide_eq_true_eq] at hL ⊢
            rcases hL with hL | rfl
            · exact .inl (inv.closed j oj (by rw [hAT j (List.getElem?_eq_some_iff.1 hj).1]; exact hj) hL e he hbd)
            · rw [ho'] at hj
              injection hj with hj
              subst hj
              exact .inl (hall e he hbd)
          simp only [Bool.or_eq_true, decide_eq_true_eq] at hh
          rcases hh with h | h
          · exact h
          · subst h
            exact absurd (bfm_lt ops [] 0 rfl (fun i o ho e he hb => by rw [Nat.zero_add]; exact hback i o ho e he hb) (fun j m hj => by simp at hj) k m hb k ht) (Nat.lt_irrefl _)
      -- what it looks at is as it was in the text's order
      have hsame : ∀ t, t ∈ slotsOf ops o → (ap (wrs ops Es) (fun j => listed.getD j false) S).get t = Si.get t := fun t ht => by
        rw [ap_get, hgi t]
        refine gL_congr fun k d Ek hk hdk => ?_
        obtain ⟨ok, hok, hEk, hdst⟩ := (hwr k d Ek).1 hk
        subst hdk
        rcases Nat.lt_trichotomy k i with hlt | heq | hgt
        · simp only [hlt, decide_true]
          rcases hpair k i ok o Ek E hlt hok ho' hEk hE with h1 | ⟨h1, -⟩
          · exact hmine k h1
          · exact absurd ht ((crossB_none h1).1 t hdst).1
        · subst heq; simp [hiun']
        · simp only [show ¬ k < i by omega, decide_false]
          rcases hpair i k o ok E Ek hgt ho' hok hE hEk with h1 | ⟨h1, -⟩
          · cases hL : listed.getD k false with
            | false => rfl
            | true => exact (hlater k hL h1).elim
          · exact absurd ht ((crossB_none h1).2 t hdst)
      have hsameo : ∀ q, q ∈ E.reads → (ap (wrs ops Es) (fun j => listed.getD j false) S).obj q = Si.obj q := fun q hq => by
        rw [ap_obj, hoi q]
        refine oL_congr fun k d Ek hk hfk => ?_
        obtain ⟨ok, hok, hEk, hdst⟩ := (hwr k d Ek).1 hk
        have hkey := find_keys.1 hfk
        rcases Nat.lt_trichotomy k i with hlt | heq | hgt
        · simp only [hlt, decide_true]
          rcases hpair k i ok o Ek E hlt hok ho' hEk hE with h1 | ⟨-, h1, -⟩
          · exact hmine k h1
          · exact absurd hq (h1 q hkey).1
        · subst heq; simp [hiun']
        · simp only [show ¬ k < i by omega, decide_false]
          rcases hpair i k o ok E Ek hgt ho' hok hE hEk with h1 | ⟨-, -, h1⟩
          · cases hL : listed.getD k false with
            | false => rfl
            | true => exact (hlater k hL h1).elim
          · exact absurd hq (h1 q hkey)
      -- the state behind it
      have hLi : (fun j => (listed.setIfInBounds i true).getD j false) = fun j => if j = i then true else listed.getD j false := by
        funext j
        by_cases hji : j = i
        · subst hji
          have : j < listed.size := by rw [inv.size, hsz]; omega
          simp [this]
        · rw [if_neg hji, getD_set_ne false (Ne.symm hji)]
      have hLi0 : (fun j => if j = i then false else listed.getD j false) = fun j => listed.getD j false := by
        funext j
        by_cases hji : j = i
        · subst hji; simp [hiun']
        · rw [if_neg hji]
      have hwi : (wrs ops Es)[i]? = some (o.dst, E) := (hwr i o.dst E).2 ⟨o, ho', hE, rfl⟩
      have hnew : ∀ S1 : AS, (∀ t, S1.get t = if o.dst = some t then E.val else (ap (wrs ops Es) (fun j => listed.getD j false) S).get t) → (∀ q, S1.obj q = match find E.objs q with | some r => r | none => (ap (wrs ops Es) (fun j => listed.getD j false) S).obj q) →
          (∀ t, (ap (wrs ops Es) (fun j => (listed.setIfInBounds i true).getD j false) S).get t = S1.get t) ∧ (∀ q, (ap (wrs ops Es) (fun j => (listed.setIfInBounds i true).getD j false) S).obj q = S1.obj q) := fun S1 e1 e2 => by
        refine ⟨fun t => ?_, fun q => ?_⟩
        · rw [e1 t, ap_get, ap_get, hLi, gL_add hwi (fun k d' E' hlt hk hd1 hd2 => ?_), hLi0]
          obtain ⟨ok, hok, hEk, hdst⟩ := (hwr k d' E').1 hk
          rcases hpair i k o ok E E' hlt ho' hok hE hEk with h1 | ⟨h1, -⟩
          · cases hL : listed.getD k false with
            | false => rfl
            | true => exact (hlater k hL h1).elim
          · exact absurd (hdst.trans (hd1.trans hd2)) ((crossB_none h1).1 t hd2).2
        · rw [e2 q, ap_obj, ap_obj, hLi, oL_add hwi (fun k d' E' hlt hk hd1 hd2 => ?_), hLi0]
          · cases find E.objs q <;> rfl
          obtain ⟨ok, hok, hEk, hdst⟩ := (hwr k d' E').1 hk
          rcases hpair i k o ok E E' hlt ho' hok hE hEk with h1 | ⟨-, h1, -⟩
          · cases hL : listed.getD k false with
            | false => rfl
            | true => exact (hlater k hL h1).elim
          · exact absurd (find_keys.1 hd1) (h1 q (find_keys.1 hd2)).2
      have hpp : ∀ j, (fun q => p q ∨ ∃ j, j < ops.length ∧ listed.getD j false = true ∧ q / 8 = n + j) j ∨ j / 8 = n + i → p j ∨ ∃ k, k < ops.length ∧ (listed.setIfInBounds i true).getD k false = true ∧ j / 8 = n + k := by
        rintro j ((h | ⟨k, h1, h2, h3⟩) | h)
        · exact .inl h
        · exact .inr ⟨k, h1, getD_set_true h2, h3⟩
        · refine .inr ⟨i, hil, ?_, h⟩
          have := congrFun hLi i
          simpa using this
      have hcnt : cnt (fun j => !(listed.setIfInBounds i true).getD j false) ops.length = f := by
        have h1 := cnt_set (p := fun j => !listed.getD j false) (i := i) (by simp only [hiun']; rfl) ops.length hil
        have h2 : cnt (fun j => !(listed.setIfInBounds i true).getD j false) ops.length = cnt (set1 (fun j => !listed.getD j false) i false) ops.length := by
          refine cnt_congr _ fun j _ => ?_
          have := congrFun hLi j
          show (!(listed.setIfInBounds i true).getD j false) = set1 (fun j => !listed.getD j false) i false j
          rw [show (listed.setIfInBounds i true).getD j false = if j = i then true else listed.getD j false from this]
          unfold set1
          by_cases hji : j = i
          · simp [hji]
          · simp [hji]
        omega
      have hdd : ∀ v, DefOk c (a'.put o.dst v) w' := fun v => ha'.put o.dst v
      -- is it asked for?
      have hwant : Region.wanted o (yielded (ops ++ T).toArray a'.tmps) = ran := by
        unfold GuardIs at hG
        unfold Region.wanted
        cases hg : o.guard with
        | none => rw [hg] at hG; simp [hG]
        | some q =>
          obtain ⟨j, want⟩ := q
          rw [hg] at hG
          obtain ⟨d, b, h1, h2, h3⟩ := hG
          have hbind0 : (ops.toArray[j]?).bind (·.dst) = some d := by
            rw [List.getElem?_map] at h1
            cases hoj : ops[j]? with
            | none => rw [hoj] at h1; simp at h1
            | some oj => rw [hoj] at h1; simp at h1; simp [hoj, h1]
          have hbind : ((ops ++ T).toArray[j]?).bind (·.dst) = some d := by
            have hjl : j < ops.length := by
              rw [List.getElem?_map, Option.map_eq_some_iff] at h1
              obtain ⟨oj, h1, -⟩ := h1
              exact (List.getElem?_eq_some_iff.1 h1).1
            rw [hAT j hjl]
            simpa using hbind0
          have hsl : d ∈ slotsOf ops o := mem_slots.2 (.inr ⟨j, want, hg, by simpa using hbind0⟩)
          have hb : a'.tmps.getD d undef = b := by
            have := hm.tmps d
            rw [hsame d hsl, h2] at this
            simpa [Rep] using this
          simp only [yielded_bv hbind hb, h3]
      unfold wpOpIn
      rw [ho]
      show if Region.wanted o _ then _ else _
      rw [hwant]
      cases ran with
      | false =>
        rw [if_neg (by simp)]
        have hE0 := hS rfl
        subst hE0
        obtain ⟨n1, n2⟩ := hnew ((ap (wrs ops Es) (fun j => listed.getD j false) S).putO o.dst (.raw undef)) (fun t => putO_get _ _ _ t) (fun q => by rw [putO_obj]; rfl)
        refine ⟨fun _ _ => trivial, ?_⟩
        exact ih _ ρ' _ w' (inv.set hi hil) hcnt (((hm.put o.dst (v := .raw undef) (by simp [Rep]) (hd o (List.mem_append_left _ (List.mem_of_getElem? ho')))).same n1 n2).mono fun j hj => hpp j (.inl hj)) (hdd undef)
      | true =>
        rw [if_pos rfl]
        refine hD rfl (ap (wrs ops Es) (fun j => listed.getD j false) S) (fun x hx => ?_) hsameo rd m0 (c.anew (ap (wrs ops Es) (fun j => listed.getD j false) S) ρ' w') _ ρ' a' w' hm.rebase (fun q hq e => ?_) _ Q fun v ρ2 w2 hm2' hv => ?_
        · cases x with
          | tmp t => exact hsame t (mem_slots.2 (.inl hx))
          | _ => rfl
        · rcases hq with hq | ⟨j, h1, h2, h3⟩
          · have := hn q hq; omega
          · have : j = i := by omega
            subst this
            rw [hiun'] at h2
            cases h2
        · obtain ⟨n1, n2⟩ := hnew (((ap (wrs ops Es) (fun j => listed.getD j false) S).upd E.objs).putO o.dst E.val) (fun t => putO_get _ _ _ t) (fun q => (putO_obj _ _ _ q).trans (upd_obj _ _ q))
          have hm2 := hm.back hm2'
          exact ih _ ρ2 _ w2 (inv.set hi hil) hcnt (((hm2.put o.dst hv (hd o (List.mem_append_left _ (List.mem_of_getElem? ho')))).same n1 n2).mono hpp) ((ha'.keep hm hm2').put o.dst v)
  have hcn : ∀ k, cnt (fun j => !(Array.replicate (ops ++ T).toArray.size false).getD j false) k = k := by
    intro k
    induction k with
    | zero => rfl
    | succ k ih => unfold cnt; rw [ih, getD_replicate_false]; rfl
  refine wpIn_region_any hmx ?_
  have := key ops.length (Array.replicate (ops ++ T).toArray.size false) ρ a { w with drawn := w.drawn + 1 } ⟨by simp, fun j oj _ hl => (by rw [getD_replicate_false] at hl; cases hl), fun t _ h2 => getD_in (by simpa using h2) (getD_replicate_false _ _)⟩ (hcn _)
    ((hmod.drew.same (fun t => ?_) (fun q => ?_)).mono fun i hi => .inl hi) ha
  · simpa using this
  · rw [ap_get]
    exact (gL_congr (L' := fun _ => false) fun k _ _ _ _ => getD_replicate_false _ _).trans (gL_none _ _ _)
  · rw [ap_obj]
    exact (oL_congr (L' := fun _ => false) fun k _ _ _ _ => getD_replicate_false _ _).trans (oL_none _ _ _)
theorem swp_tail {P : Program} {id : Nat} {l : List Oper} {Q : Exit → Nat → AS → Prop} {n : Nat} {S : AS} (k : Nat) (hmx : P.follows .mixedOrders = true) (hk : (l.take k).length = k) (hT : tailB k l = true)
    (h : AOps P (W ((l.take k).map (·.dst))) (W (l.take k)) (drawK (W (l.take k)) (fun n' S' => AOps P (W (l.map (·.dst))) (W (l.drop k)) (Q .normal) n' S')) n ⟨S.t, S.s, some []⟩) : SWP P (.region id l.toArray true) Q n S := by
  refine .mk ?_
  intro rd m0 c p ρ a w hrg hd hm hn ha
  have hd' : ∀ o ∈ l, ∀ d, o.dst = some d → d < c.N := fun o ho d e => by
    have := List.all_eq_true.1 hd o (by simpa using ho)
    rw [e] at this
    simpa using this
  have e : l.take k ++ l.drop k = l := List.take_append_drop k l
  have h2 := draw_tail (ops := l.take k) (T := l.drop k) (K := Q .normal) hmx (by rw [hk, e]; exact hT) (by rw [e]; exact h) rd m0 c id p ρ a w (Lift c Q) (by rw [e]; exact hd') hm hn ha (fun n' S' p' ρ' a' w' h1 h2 h3 h4 => ⟨h4, n', S', p', ρ', h1, h2, h3⟩)
  rw [e] at h2
  exact h2
theorem arangeS {P : Program} {Q : Exit → Nat → AS → Prop} {n : Nat} {S : AS} {g : Operand} {ps : Array Tmp} {asg body : Code} {f : FuncId} {caps : List AV} (hg : S.val g = .clo (.func f) caps) {fn : Func} {code : Code}
    (hf : P.funcs[f]? = some fn) (hb : fn.body = some code) (hfn : fnB P f = true) (hd : dstB fn.ntmps code = true) (hl : (1 + caps.length) ≤ fn.ntmps) (hrs : fn.results = #[])
    (h : ∀ tm lc, LoopFit tm lc → lc.params.toList = ps.toList → lc.assign = asg → lc.body = body → SWP P code (rangeQ n tm lc Q) (n + 1) ⟨slots (.hdr (8 * n) :: caps), (8 * n, some (.loop tm lc .ready)) :: (8 * n + 1, some (.frm tm S.t)) :: S.s, none⟩) :
    ARange P g ps asg body Q n S := by
  intro m0 c p ρ a w hda hdb hps hra hrb hm hn ha
  refine wpIn_rangeFunc (F := FW none) fun fn0 _ => ?_
  obtain ⟨Ds, f1, f2, f3⟩ := ha
  -- the function that is ranged over
  have hv := hm.val g
  rw [hg] at hv
  simp only [Rep] at hv
  obtain ⟨cs, hev, hcs⟩ := hv
  let l := w.heap.size + 1
  let lc : LoopCode := ⟨l, fn0, ps, asg, body⟩
  let wD := w.alloc (.deferred (some []))
  let w1 := wD.alloc (.loop (recOf a.tmps lc .ready none w.heap.size))
  have hsD : wD.heap.size = l := by simp [wD, l]
  obtain ⟨fn1, e1, e2, e3⟩ : ∃ fn, P.funcs[f]? = some fn ∧ fn.name ≠ "runtime.NumGoroutine" ∧ fn.body.isSome = true := by
    unfold fnB at hfn
    cases h1 : P.funcs[f]? with
    | none => rw [h1] at hfn; simp at hfn
    | some fn => rw [h1] at hfn; simp at hfn; exact ⟨fn, rfl, hfn.1, by simpa using hfn.2⟩
  obtain rfl : fn1 = fn := by rw [hf] at e1; exact (Option.some.inj e1).symm
  have hres : (resolve a.eval (rangeCall g l) 0).run P w1 = .ok { target := .fn (.func f) cs.toArray, args := #[.func (.yield l) #[] #[]] } w1 := by
    have hk : a.eval (.const (.func (.yield l) #[] #[])) = .func (.yield l) #[] #[] := rfl
    simp [resolve, rangeCall, hev, Deferred.ofValue, hk]
  have hinv : (invoke (.fn (.func f) cs.toArray) #[.func (.yield l) #[] #[]]).run P w1 = .ok (.enter f (.func (.yield l) #[] #[] :: cs).toArray) w1 := by
    have h4 : ¬ fn1.body = none := fun e => by rw [e] at e3; simp at e3
    simp [invoke, callFunc, e1, e2, h4]
  refine ⟨l, _, _, _, _, f, _, _, run_enterLoop_outer fn0 a.tmps ps asg body, hres, fun _ _ => trivial, hinv, fun q => absurd q (by simp [FW, Fence.wide]), ?_⟩
  -- the iterator's first state
  have hfr0 : ρ.f (8 * n) = none := hm.fresh (n := n) (fun i hi => by have := hn i hi; omega) (by omega)
  have hfr1 : ρ.f (8 * n + 1) = none := hm.fresh (n := n) (fun i hi => by have := hn i hi; omega) (by omega)
  have hn0 := hm.n0 (n := n) (fun i hi => by have := hn i hi; omega)
  have hmA := (hm.allocs (.deferred (some []))).add (p' := fun i => p i ∨ i / 8 = n) (w' := wD) hfr1 (by omega) (fun i h => .inl h) (.inr (by omega)) (x := .bool true) (o := .frm a.tmps S.t) rfl (.inl rfl) (fun ρ' he d v hv => by
    rw [find'_eq] at hv
    have := hm.tmps d
    unfold AS.get at this
    rw [hv] at this
    exact Rep.ext he _ _ this) (fun g hg => by cases hg)
  have hfr2 : (ρ.with (8 * n + 1) (.bool true)).f (8 * n) = none := by
    show (if _ then _ else _) = none
    rw [if_neg (by omega)]; exact hfr0
  have hmB := hmA.add (p' := fun i => p i ∨ i / 8 = n) (w' := w1) hfr2 (by omega) (fun i h => h) (.inr (by omega)) (x := .func (.yield l) #[] #[]) (o := .loop a.tmps lc .ready) rfl (.inr ⟨_, rfl⟩)
    (fun ρ' he => ⟨l, w.heap.size, .ready, none, rfl, by have := World.alloc_heap_new wD (.loop (recOf a.tmps lc .ready none w.heap.size)); rw [hsD] at this; exact this, rfl, rfl, rfl⟩) (fun g hg => by simp [oblk] at hg; omega)
  have hext : ExtE ρ ((ρ.with (8 * n + 1) (.bool true)).with (8 * n) (.func (.yield l) #[] #[])) := (ext_with hfr1).trans (ext_with hfr2)
  have hself : ((ρ.with (8 * n + 1) (.bool true)).with (8 * n) (.func (.yield l) #[] #[])).f (8 * n) = some (.func (.yield l) #[] #[]) := with_self ..
  generalize ((ρ.with (8 * n + 1) (.bool true)).with (8 * n) (.func (.yield l) #[] #[])) = ρ1 at hmB hext hself
  have hkeepD : ∀ D ob, w.heap[D]? = some ob → w1.heap[D]? = some ob := fun D ob hD => by
    have hlt := (Array.getElem?_eq_some_iff.1 hD).1
    rw [Below.heap_alloc wD _ D (by omega), Below.heap_alloc w _ D hlt]
    exact hD
  have hnewD : w1.heap[w.heap.size]? = some (.deferred (some [])) := by
    rw [Below.heap_alloc wD _ w.heap.size (by omega)]
    exact World.alloc_heap_new w _
  have hsz := hm.frame.size
  let cI : Ctx := ⟨fn1.ntmps, c.M, c.w0, c.ρ0, fun g => c.D g ∨ g ∈ Ds ∨ g = w.heap.size⟩
  have hra1 : RepL ρ1 (.hdr (8 * n) :: caps) (.func (.yield l) #[] #[] :: cs) := by
    simp only [RepL, Rep]
    exact ⟨hself, RepL.ext hext _ _ hcs⟩
  have hlen := hra1.length
  have hmI : Mod cI (fun i => p i ∨ i / 8 = n) ρ1 ⟨slots (.hdr (8 * n) :: caps), (8 * n, some (.loop a.tmps lc .ready)) :: (8 * n + 1, some (.frm a.tmps S.t)) :: S.s, none⟩ ((Value.func (.yield l) #[] #[] :: cs).toArray ++ Array.replicate (fn1.ntmps - (Value.func (.yield l) #[] #[] :: cs).toArray.size) undef) w1 := by
    refine hmB.refit fn1.ntmps (fun g => c.D g ∨ g ∈ Ds ∨ g = w.heap.size) (slots (.hdr (8 * n) :: caps)) none _ ?_ (fun d => ?_) (fun g hg => ?_)
    · simp at hlen
      simp
      omega
    · rw [find_slots]
      cases ha : (AV.hdr (8 * n) :: caps)[d]? with
      | none => simp [Rep]
      | some v =>
        obtain ⟨u, h1, h2⟩ := RepL.get d hra1 ha
        simp only [Option.getD_some]
        have hdl : d < (Value.func (.yield l) #[] #[] :: cs).length := (List.getElem?_eq_some_iff.1 h1).1
        have e1 : ((Value.func (.yield l) #[] #[] :: cs).toArray ++ Array.replicate (fn1.ntmps - (Value.func (.yield l) #[] #[] :: cs).toArray.size) undef).getD d undef = u := by
          rw [Array.getD_eq_getD_getElem?, Array.getElem?_append_left (by simpa using hdl)]
          have : (Value.func (.yield l) #[] #[] :: cs).toArray[d]? = some u := by rw [List.getElem?_toArray]; exact h1
          rw [this]
          rfl
        rw [e1]
        exact h2
    · rcases hg with hg | hg | hg
      · exact ⟨(hm.dfr g hg).1, hkeepD _ _ (hm.dfr g hg).2⟩
      · exact ⟨(f3 g hg).1, hkeepD _ _ (f3 g hg).2.2⟩
      · subst hg; exact ⟨hsz, hnewD⟩
  have hfit : LoopFit a.tmps lc := ⟨by rw [hm.size]; exact hda, by rw [hm.size]; exact hdb, fun t ht => by rw [hm.size]; exact hps t (by simpa using ht), hra, hrb⟩
  refine callsIn_of_wp_marks hf hb trivial (wpIn_mono ((h a.tmps lc hfit rfl rfl rfl).h none (m0 - 1) cI _ ρ1 _ w1 (.inl rfl) hd hmI (fun i hi => by rcases hi with hi | hi <;> first | (have := hn i hi; omega) | omega) (.nil rfl)) ?_)
  -- its end
  have fin0 : ∀ (n' : Nat) (S' : AS) (p' : Nat → Prop) (ρ' : Env) (w' : World) (tm' : Array Value), rangeEnd n a.tmps lc Q n' S' → Mod cI p' ρ' S' tm' w' → (∀ i, p' i → i / 8 < n') →
      ∃ v, (results fn1 tm').run P w' = .ok v w' ∧ rangePost (FW none) m0 P l (Lift c Q) { a with defers := [markD w.heap.size] ++ a.defers } (.returned v) w' := by
    intro n' S' p' ρ' w' tm' hr hm' hn'
    refine ⟨.tuple #[], by unfold results; rw [hrs]; simp, ?_⟩
    unfold rangeEnd at hr
    split at hr
    case h_2 => exact hr.elim
    next tm1 lc1 m tm2 t e5 e6 =>
    obtain ⟨⟨rfl, rfl, rfl⟩, hr⟩ := hr
    obtain ⟨-, D1, st1, pe1, hh1, hmode, hturn⟩ := hm'.turnL e5
    obtain ⟨xF, -, hF⟩ := hm'.objs _ _ e6
    have hm2 := (hturn .exhausted pe1 none (fun o ho => by cases ho)).drop1 (8 * n + 1)
    have hm3 := hm2.refit c.N c.D t none a.tmps hm.size (frm_rep hF) (fun g hg => hm2.dfr g (.inl hg))
    have hdef : DefOk c { a with defers := [markD w.heap.size] ++ a.defers } (w'.putObj lc.blk (.loop (recOf a.tmps lc .exhausted pe1 D1))) := by
      refine ⟨w.heap.size :: Ds, by simp [f1], List.nodup_cons.2 ⟨fun hc => ?_, f2⟩, fun D' hD' => ?_⟩
      · have := (Array.getElem?_eq_some_iff.1 (f3 _ hc).2.2).1
        omega
      · have h1 := hm2.dfr D'
        rcases List.mem_cons.1 hD' with rfl | hD'
        · refine ⟨hsz, fun hc => ?_, (h1 (.inr (.inr rfl))).2⟩
          have := (Array.getElem?_eq_some_iff.1 (hm.dfr _ hc).2).1
          omega
        · exact ⟨(f3 D' hD').1, (f3 D' hD').2.1, (h1 (.inr (.inl hD'))).2⟩
    have hnb : st1 ≠ .busy := by
      unfold kEnd at hr
      split at hr
      · rw [hmode.1]; decide
      · rw [hmode.1]; decide
      · rw [hmode.1]; decide
      · exact hr.elim
    refine ⟨pe1, _, run_endLoop hh1 hnb, ?_⟩
    have lift : ∀ e, Q e n' ⟨t, (8 * n + 1, none) :: (8 * n, none) :: S'.s, none⟩ → Lift c Q e { a with defers := [markD w.heap.size] ++ a.defers } (w'.putObj lc.blk (.loop (recOf a.tmps lc .exhausted pe1 D1))) := fun e he => ⟨hdef, n', _, p', ρ', he, hm3, hn'⟩
    unfold kEnd at hr
    split at hr
    · obtain ⟨-, rfl⟩ := hmode; exact lift _ hr
    · obtain ⟨-, rfl⟩ := hmode; exact wpIn_ret (lift _ hr)
    · obtain ⟨-, rfl⟩ := hmode; exact wpIn_exit (lift _ hr)
    · exact hr.elim
  have fin : ∀ (Dj : List Nat) (n' : Nat) (S' : AS) (p' : Nat → Prop) (ρ' : Env) (a' : Act) (w' : World), rangeEnd n a.tmps lc Q n' S' → Mod cI p' ρ' S' a'.tmps w' → (∀ i, p' i → i / 8 < n') → Dj.Nodup → (∀ D ∈ Dj, cI.w0.heap.size ≤ D ∧ ¬ cI.D D ∧ w'.heap[D]? = some (.deferred (some []))) →
      LeavesInM (FW none) (m0 - 1) P fn1 a'.tmps (rangePost (FW none) m0 P l (Lift c Q) { a with defers := [markD w.heap.size] ++ a.defers }) (Dj.map markD) .returning w' := by
    intro Dj
    induction Dj with
    | nil => intro n' S' p' ρ' a' w' hr' hm' hn' _ _; exact fin0 n' S' p' ρ' w' a'.tmps hr' hm' hn'
    | cons D Dj ih =>
      intro n' S' p' ρ' a' w' hr' hm' hn' hnd hD
      obtain ⟨hb1, hb2, hD1⟩ := hD D (List.mem_cons_self ..)
      rw [List.nodup_cons] at hnd
      refine ⟨by simp, .inl ⟨D, _, rfl, run_takeDeferred hD1, ih n' S' p' ρ' a' _ hr' (hm'.putObj _ hD1 rfl hb1 hb2) hn' hnd.2 fun D2 h2 => ?_⟩⟩
      obtain ⟨k1, k3, k2⟩ := hD D2 (List.mem_cons_of_mem _ h2)
      have hne : D2 ≠ D := fun e => by subst e; exact hnd.1 h2
      exact ⟨k1, k3, (World.putObj_heap_other hne).trans k2⟩
  rintro e a' w' ⟨⟨Dj, e1, e2, e3⟩, n', S', p', ρ', h2, h3, h4⟩
  cases e with
  | normal => show LeavesInM _ _ _ _ _ _ a'.defers _ _; rw [e1]; exact fin Dj n' S' p' ρ' a' w' h2 h3 h4 e2 e3
  | ret => show LeavesInM _ _ _ _ _ _ a'.defers _ _; rw [e1]; exact fin Dj n' S' p' ρ' a' w' h2 h3 h4 e2 e3
  | _ => exact h2.elim

/-! a scope through which the run goes without a goto -/
theorem stepR_scope {P : Program} {b : Frame} {a : Act} {k : List Item} {cs : List Frame} {w : World} {c : Code} : step P (lone (b.atR a (.code (.scope c) :: k)) cs w) = .next (lone (b.atR a (.code c :: .inScope c :: k)) cs w) := step_lone_go (by simp [stepG, stepG.exec, Frame.atR])
theorem stepR_inScope {P : Program} {b : Frame} {a : Act} {k : List Item} {cs : List Frame} {w : World} {c : Code} : step P (lone (b.atR a (.inScope c :: k)) cs w) = .next (lone (b.atR a k) cs w) := step_lone_go (by simp [stepG, stepG.exec, Frame.atR])
def noGotoX (Q : Exit → Act → World → Prop) : Exit → Act → World → Prop
  | .goto _, _, _ => False
  | e, a, w => Q e a w
theorem wpIn_scope {F : Fence} {n : Nat} {P : Program} {Q : Exit → Act → World → Prop} {a : Act} {w : World} {c : Code} (h : c.wpIn F n P (noGotoX Q) a w) : (Code.scope c).wpIn F n P Q a w := by
  intro b k cs hro hb hr
  have h0 : (lone (b.atR a (.code (.scope c) :: k)) cs w).fenced P F := fenced_calm hb hr rfl
  obtain ⟨e, a₁, w₁, hq, harr⟩ := h b (.inScope c :: k) cs hro hb hr
  cases e with
  | normal => exact ⟨.normal, a₁, w₁, hq, .head h0 stepR_scope (StepsIn.trans harr (.one (fenced_calm hb hr rfl) stepR_inScope))⟩
  | exit id' =>
    have hx : exitTo id' (.inScope c :: k) = exitTo id' k := by simp [exitTo]
    exact ⟨.exit id', a₁, w₁, hq, fun k' hk => .head h0 stepR_scope (harr.1 k' (by rw [hx]; exact hk)),
      fun hr' hk => let ⟨k₁, h1, h2⟩ := harr.2 hr' (by rw [hx]; exact hk); ⟨k₁, h1, .head h0 stepR_scope h2⟩⟩
  | goto l => exact hq.elim
  | ret => exact ⟨_, a₁, w₁, hq, .of_steps (.one h0 stepR_scope) harr⟩
  | panic ch => exact ⟨_, a₁, w₁, hq, .of_steps (.one h0 stepR_scope) harr⟩
  | outgrown => exact ⟨_, a₁, w₁, hq, .of_steps (.one h0 stepR_scope) harr⟩
def scopeK (Q : Exit → Nat → AS → Prop) : Exit → Nat → AS → Prop
  | .goto _ => fun _ _ => False
  | e => Q e
@[go_sem] theorem scopeK_normal (Q : Exit → Nat → AS → Prop) : scopeK Q .normal = Q .normal := rfl
@[go_sem] theorem scopeK_ret (Q : Exit → Nat → AS → Prop) : scopeK Q .ret = Q .ret := rfl
@[go_sem] theorem scopeK_exit (Q : Exit → Nat → AS → Prop) (i : Nat) : scopeK Q (.exit i) = Q (.exit i) := rfl
theorem swp_scope {P : Program} {c : Code} {Q : Exit → Nat → AS → Prop} {n : Nat} {S : AS} (h : SWP P c (scopeK Q) n S) : SWP P (.scope c) Q n S := by
  refine .mk ?_
  intro rd m0 cx p ρ a w hrg hd hm hn ha
  refine wpIn_scope (wpIn_mono (h.h rd m0 cx p ρ a w hrg hd hm hn ha) ?_)
  rintro e a' w' ⟨h1, n', S', p', ρ', h2, h3, h4⟩
  cases e with
  | goto l => exact h2.elim
  | _ => exact ⟨h1, n', S', p', ρ', h2, h3, h4⟩
theorem swp_label {P : Program} {l : Nat} {Q : Exit → Nat → AS → Prop} {n : Nat} {S : AS} (h : Q .normal n S) : SWP P (.label l) Q n S := by
  refine .mk ?_
  intro rd m0 cx p ρ a w hrg hd hm hn ha
  exact wpIn_label ⟨ha, n, S, p, ρ, h, hm, hn⟩
end Go.Proofs.Ytblmebjhhanoaaa
/- CHAPTER 9 (second engine): Wide, Take; the document's and the program's. -/
/- G -/
/- BOOLS -/
set_option linter.unusedSimpArgs false
set_option linter.unusedVariables false
namespace Go.Proofs.Ytblmebjhhanoaaa
open Go.RowKit

def cRun (r : WRun) : List PV := [.raw (.int .i64 r.f), .raw (.int .i64 r.t), .raw (.int .i64 r.w)]
def aRun (r : WRun) : AV := .agg [.raw (.int .i64 r.f), .raw (.int .i64 r.t), .raw (.int .i64 r.w)]
attribute [go_sem] cRun aRun
theorem sum_bd {xs : List Int} (h : xs.all nr9 = true) (f : Nat) : ∀ t, f ≤ t → t ≤ xs.length → 0 ≤ (seg xs f t).sum ∧ (seg xs f t).sum ≤ 35184372088832 * ((t : Int) - f) := by
  intro t
  induction t with
  | zero => intro h1 _; obtain rfl : f = 0 := by omega
            rw [seg_same]; simp
  | succ t ih =>
    intro h1 h2
    by_cases e : f = t + 1
    · subst e; rw [seg_same]; simp
    · have := ih (by omega) (by omega)
      rw [seg_succ xs f t (by omega) (by omega), List.sum_append]
      have := near9_at h t (by omega)
      simp
      omega
theorem mul_bd {a sp : Int} (h : 0 ≤ a ∧ a ≤ 2000) (hsp : 0 ≤ sp ∧ sp ≤ 35184372088832) : 0 ≤ a * sp ∧ a * sp ≤ 70368744177664000 := by
  have h1 := Int.mul_nonneg h.1 hsp.1
  have h2 : a * sp ≤ 2000 * sp := Int.mul_le_mul_of_nonneg_right h.2 hsp.1
  omega
structure WorOk (xs : List Int) (sp : Int) : Prop where
  len : xs.length ≤ 2000
  near : xs.all nr9 = true
  sp : 0 ≤ sp ∧ sp ≤ 35184372088832
theorem wide_bd2 {xs : List Int} {sp : Int} (h : WorOk xs sp) {f t : Nat} (h1 : f ≤ t) (h2 : t ≤ xs.length) : -35184372088832 ≤ wideN sp (seg xs f t) ∧ wideN sp (seg xs f t) ≤ 140737488355328000 := by
  have h3 := wide_bd h.near h.sp f t h1 h2
  have := h.len
  have := h.sp
  omega
theorem wideF_nat {xs : List Int} {sp : Int} {f t : Nat} (h : f < t) (ht : t ≤ xs.length) : wideF xs sp f t = wideN sp (seg xs f t) := by
  unfold wideF
  rw [if_neg (by omega)]
  simp
theorem wideF_no {xs : List Int} {sp f t : Int} (h : f < 0 ∨ (xs.length : Int) ≤ f ∨ t ≤ f ∨ (xs.length : Int) < t) : wideF xs sp f t = 0 := by
  unfold wideF
  rw [if_pos h]
theorem takeF_no {xs : List Int} {sp width f : Int} (h : f < 0 ∨ (xs.length : Int) ≤ f) : takeF xs sp width f = ⟨0, 0, 0⟩ := by
  unfold takeF
  rw [if_pos h]
theorem takeF_nat {xs : List Int} {sp width : Int} {f : Nat} (h : f < xs.length) : takeF xs sp width f = ⟨f, (takeT xs sp width f : Nat), wideN sp (seg xs f (takeT xs sp width f))⟩ := by
  unfold takeF
  rw [if_neg (by omega)]
  simp
set_option maxRecDepth 100000 in
set_option maxHeartbeats 4000000 in
theorem rwide_ok (xs : List Int) (sp f t : Int) (h : WorOk xs sp) : FnOk Try.prog 147 [.sl 1 (xs.map cInt), .raw (.int .i64 sp), .raw (.int .i64 f), .raw (.int .i64 t)] [] (.raw (.int .i64 (wideF xs sp f t))) [] := by
  have hno := @wideF_no xs sp f t
  have hlen := h.len
  have hsp := h.sp
  refine fn_of_swp Try.func147 rfl (by kernel_rfl) (by kernel_rfl) (Nat.le_of_ble_eq_true rfl) Try.results147 ?_
  (refine swp_seqW ?_; simp only [go_sem, Bool.not_eq_true', Bool.not_eq_false'])
  refine swp_cutS (fun _ : Unit => ⟨[(0, .sl 1 (xs.map cInt)), (1, .raw (.int .i64 sp)), (2, .raw (.int .i64 f)), (3, .raw (.int .i64 t))], [], none⟩) (fun _ => 0 ≤ f ∧ f < t ∧ t ≤ xs.length) 60 ?_ ?_
  · (refine swp_lastW ?_; simp only [go_sem, Bool.not_eq_true', Bool.not_eq_false', List.length_map])
    repeat' first | contradiction | intro _ | refine And.intro ?_ ?_ | refine ex_get (by omega) ?_ | (show drawB _ _ = true; kernel_rfl) | (refine ret2 [] (by simp only [go_sem, Bool.not_eq_true', Bool.not_eq_false', List.length_map]; rfl) ?_; simp only [go_sem, Bool.not_eq_true', Bool.not_eq_false', List.length_map])
    all_goals first
      | (exact (hno (by omega)).symm)
      | (exact hno (by omega))
      | ((refine cut_end [] (()) (by simp only [go_sem, Bool.not_eq_true', Bool.not_eq_false']; rfl) ?_ ?_; (focus (simp only [go_sem, Bool.not_eq_true', Bool.not_eq_false']; done)))
         omega)
      | skip
  rintro - ⟨h1, h2, h3⟩
  clear hno
  obtain ⟨f, rfl⟩ := Int.eq_ofNat_of_zero_le h1
  obtain ⟨t, rfl⟩ := Int.eq_ofNat_of_zero_le (show 0 ≤ t by omega)
  have hft : f < t := by omega
  have htl : t ≤ xs.length := by omega
  rw [wideF_nat hft htl]
  have hm := mul_bd (a := (t : Int) - f - 1) (by omega) hsp
  (refine swp_seqW ?_; simp only [go_sem, Bool.not_eq_true', Bool.not_eq_false'])
  refine ⟨by omega, by omega, by omega, ?_⟩
  refine swp_cutS (fun _ : Unit => ⟨[(9, .raw (.int .i64 (wideN sp (seg xs f t))))], [], none⟩) (fun _ => True) 80 ?_ ?_
  · (refine swp_lastW ?_; simp only [go_sem, Bool.not_eq_true', Bool.not_eq_false'])
    refine aloop2 [] (fun k : Nat => ⟨[(0, .sl 1 (xs.map cInt)), (3, .raw (.int .i64 t)), (9, .raw (.int .i64 ((t - f - 1) * sp + (seg xs f k).sum))), (10, .raw (.int .i64 k))], [], none⟩) (fun k => f ≤ k ∧ k ≤ t) (fun k => t - k) 80 f (by simp only [go_sem, Bool.not_eq_true', Bool.not_eq_false']; rfl) (by simp only [go_sem, Bool.not_eq_true', Bool.not_eq_false', seg_same, List.sum_nil, Int.add_zero]) ?_ ?_
    · omega
    · rintro k ⟨k1, k2⟩
      have hs := sum_bd h.near f k k1 (by omega)
      simp only [go_sem, Bool.not_eq_true', Bool.not_eq_false', List.length_map]
      refine ⟨fun h5 => ?_, fun h5 => ?_⟩
      · have hk : k < xs.length := by omega
        have hn := near9_at h.near k hk
        have e := seg_succ xs f k (by omega) hk
        repeat' first | contradiction | intro _ | refine And.intro ?_ ?_ | refine ex_get (by omega) ?_ | (show drawB _ _ = true; kernel_rfl) | (refine ret2 [] (by simp only [go_sem, Bool.not_eq_true', Bool.not_eq_false', List.length_map]; rfl) ?_; simp only [go_sem, Bool.not_eq_true', Bool.not_eq_false', List.length_map])
        all_goals first
          | omega
          | ((refine loop_end [] (k + 1) (by simp only [go_sem, Bool.not_eq_true', Bool.not_eq_false']; rfl) ?_ ?_ ?_; (focus first | omega | (simp only; omega)); (focus (simp only [go_sem, Bool.not_eq_true', Bool.not_eq_false', e, List.sum_append, List.sum_cons, List.sum_nil, Int.add_zero, Int.add_assoc]; done)))
             omega)
          | skip
      · obtain rfl : k = t := by omega
        have e : ((k : Int) - f - 1) * sp + (seg xs f k).sum = wideN sp (seg xs f k) := by
          unfold wideN
          rw [seg_len xs f k htl, show (((k - f : Nat) : Int) - 1) = (k : Int) - f - 1 by omega, Int.add_comm]
        rw [e]
        (refine cut_end [] (()) (by simp only [go_sem, Bool.not_eq_true', Bool.not_eq_false']; rfl) ?_ ?_; (focus (simp only [go_sem, Bool.not_eq_true', Bool.not_eq_false']; done)))
        trivial
  rintro - -
  (refine swp_lastW ?_; simp only [go_sem, Bool.not_eq_true', Bool.not_eq_false'])
set_option maxRecDepth 100000 in
set_option maxHeartbeats 4000000 in
theorem far9_ok (xs : List Int) (sp f : Int) : FnOk Try.prog 31 [.agg [.sl 1 (xs.map cInt), .raw (.int .i64 sp)], .raw (.int .i64 f)] [] (.raw (.bool (decide (f < 0 ∨ (xs.length : Int) ≤ f)))) [] := by
  refine fn_of_awp Try.func31 rfl (by kernel_rfl) (by kernel_rfl) (Nat.le_of_ble_eq_true rfl) Try.results31 ?_
  simp only [go_sem, Bool.not_eq_true', Bool.not_eq_false', List.length_map]
  repeat' first | contradiction | intro _ | refine And.intro ?_ ?_ | refine ex_get (by omega) ?_ | (show drawB _ _ = true; kernel_rfl) | (refine ret2 [] (by simp only [go_sem, Bool.not_eq_true', Bool.not_eq_false', List.length_map]; rfl) ?_; simp only [go_sem, Bool.not_eq_true', Bool.not_eq_false', List.length_map])
  all_goals first | (simp_all; done) | (simp_all; omega)
set_option maxRecDepth 100000 in
theorem ends9_ok (xs : List Int) (sp f : Int) : FnOk Try.prog 32 [.agg [.sl 1 (xs.map cInt), .raw (.int .i64 sp)], .raw (.int .i64 f)] [] (.clo (.func 60) [.hdr 8, .hdr 9]) [(8, .cells 75 [.sl 1 (xs.map cInt), .raw (.int .i64 sp)]), (9, .cells 3 [.raw (.int .i64 f)])] := by
  refine fn_of_awp Try.func32 rfl (by kernel_rfl) (by kernel_rfl) (Nat.le_of_ble_eq_true rfl) Try.results32 ?_
  simp only [go_sem, Bool.not_eq_true', Bool.not_eq_false']
  (refine ret2 [] (by simp only [go_sem, Bool.not_eq_true', Bool.not_eq_false']; rfl) ?_; simp only [go_sem, Bool.not_eq_true', Bool.not_eq_false'])
end Go.Proofs.Ytblmebjhhanoaaa
/- CHAPTER 9 (second engine): the program's Wide; the document's Take and the program's. -/
/- G -/
/- BOOLS -/
set_option linter.unusedSimpArgs false
set_option linter.unusedVariables false
namespace Go.Proofs.Ytblmebjhhanoaaa
open Go.RowKit

set_option maxRecDepth 100000 in
set_option maxHeartbeats 4000000 in
theorem rtake_ok (xs : List Int) (sp width f : Int) (h : WorOk xs sp) : FnOk Try.prog 137 [.sl 1 (xs.map cInt), .raw (.int .i64 sp), .raw (.int .i64 width), .raw (.int .i64 f)] [] (aRun (takeF xs sp width f)) [] := by
  have hno := @takeF_no xs sp width f
  have hlen := h.len
  refine fn_of_swp Try.func137 rfl (by kernel_rfl) (by kernel_rfl) (Nat.le_of_ble_eq_true rfl) Try.results137 ?_
  (refine swp_seqW ?_; simp only [go_sem, Bool.not_eq_true', Bool.not_eq_false'])
  refine swp_cutS (fun _ : Unit => ⟨[(0, .sl 1 (xs.map cInt)), (1, .raw (.int .i64 sp)), (2, .raw (.int .i64 width)), (3, .raw (.int .i64 f)), (8, .hdr 8)], [(8, some (.cells 170 [.raw (.int .i64 0), .raw (.int .i64 0), .raw (.int .i64 0)]))], none⟩) (fun _ => 0 ≤ f ∧ f < xs.length) 60 ?_ ?_
  · (refine swp_lastW ?_; simp only [go_sem, Bool.not_eq_true', Bool.not_eq_false', List.length_map])
    repeat' first | contradiction | intro _ | refine And.intro ?_ ?_ | refine ex_get (by omega) ?_ | (show drawB _ _ = true; kernel_rfl) | (refine ret2 [] (by simp only [go_sem, Bool.not_eq_true', Bool.not_eq_false', List.length_map]; rfl) ?_; simp only [go_sem, Bool.not_eq_true', Bool.not_eq_false', List.length_map])
    all_goals first
      | (rw [hno (by omega)])
      | ((refine cut_end [] (()) (by simp only [go_sem, Bool.not_eq_true', Bool.not_eq_false']; rfl) ?_ ?_; (focus (simp only [go_sem, Bool.not_eq_true', Bool.not_eq_false']; done)))
         omega)
      | skip
  rintro - ⟨h1, h2⟩
  clear hno
  obtain ⟨f, rfl⟩ := Int.eq_ofNat_of_zero_le h1
  have hf : f < xs.length := by omega
  rw [takeF_nat hf]
  (refine swp_seqW ?_; simp only [go_sem, Bool.not_eq_true', Bool.not_eq_false'])
  refine ⟨by omega, ?_⟩
  refine swp_cutS (fun _ : Unit => ⟨[(0, .sl 1 (xs.map cInt)), (1, .raw (.int .i64 sp)), (3, .raw (.int .i64 f)), (8, .hdr 8), (9, .raw (.int .i64 (takeT xs sp width f : Nat)))], [(8, some (.cells 170 [.raw (.int .i64 0), .raw (.int .i64 0), .raw (.int .i64 0)]))], none⟩) (fun _ => True) 80 ?_ ?_
  · (refine swp_lastW ?_; simp only [go_sem, Bool.not_eq_true', Bool.not_eq_false'])
    refine aloop2 [] (fun t : Nat => ⟨[(0, .sl 1 (xs.map cInt)), (1, .raw (.int .i64 sp)), (2, .raw (.int .i64 width)), (3, .raw (.int .i64 f)), (8, .hdr 8), (9, .raw (.int .i64 t))], [(8, some (.cells 170 [.raw (.int .i64 0), .raw (.int .i64 0), .raw (.int .i64 0)]))], none⟩) (fun t => (f + 1 ≤ t ∧ t ≤ xs.length) ∧ growT xs sp width f (xs.length - t) t = takeT xs sp width f) (fun t => xs.length - t) 80 (f + 1) (by simp only [go_sem, Bool.not_eq_true', Bool.not_eq_false']; rfl) (by simp only [go_sem, Bool.not_eq_true', Bool.not_eq_false']) ?_ ?_
    · exact ⟨⟨Nat.le_refl _, hf⟩, rfl⟩
    · rintro t ⟨⟨t1, t2⟩, t3⟩
      have hy := @growT_yes xs sp width f t
      have hn := @growT_no xs sp width f t
      have hwd : t < xs.length → wideF xs sp f ((t : Int) + 1) = wideN sp (seg xs f (t + 1)) := fun q => by
        have := wideF_nat (xs := xs) (sp := sp) (f := f) (t := t + 1) (by omega) (by omega)
        simpa using this
      simp only [go_sem, Bool.not_eq_true', Bool.not_eq_false', List.length_map]
      repeat' first | contradiction | intro _ | refine And.intro ?_ ?_ | refine ex_get (by omega) ?_ | (show drawB _ _ = true; kernel_rfl) | (refine ret2 [] (by simp only [go_sem, Bool.not_eq_true', Bool.not_eq_false', List.length_map]; rfl) ?_; simp only [go_sem, Bool.not_eq_true', Bool.not_eq_false', List.length_map]) | (refine acall2 [] (rwide_ok xs sp f ((t : Int) + 1) h) (by simp only [go_sem, Bool.not_eq_true', Bool.not_eq_false']; rfl) (fit_of (by simp only [go_sem, Bool.not_eq_true', Bool.not_eq_false']) (by simp only [go_sem, Bool.not_eq_true', Bool.not_eq_false']) (by simp only [go_sem, Bool.not_eq_true', Bool.not_eq_false']) (by simp only [go_sem, Bool.not_eq_true', Bool.not_eq_false']) (by simp only [go_sem, Bool.not_eq_true', Bool.not_eq_false']) (by simp only [go_sem, Bool.not_eq_true', Bool.not_eq_false']) (by simp only [go_sem, Bool.not_eq_true', Bool.not_eq_false'])) ?_; simp only [go_sem, Bool.not_eq_true', Bool.not_eq_false', List.length_map])
      all_goals first
        | omega
        | (have q1 : t < xs.length := by omega
           have q2 := hwd q1
           have q3 : wideN sp (seg xs f (t + 1)) ≤ width := by omega
           (refine loop_end [] (t + 1) (by simp only [go_sem, Bool.not_eq_true', Bool.not_eq_false']; rfl) ?_ ?_ ?_; (focus first | omega | (simp only; omega)); (focus (simp only [go_sem, Bool.not_eq_true', Bool.not_eq_false']; done)))
           exact ⟨by omega, by rw [← hy q1 q3]; exact t3⟩)
        | (have e : takeT xs sp width f = t := by
             rw [← t3]
             refine hn fun q => ?_
             have := hwd q.1
             omega
           rw [e]
           (refine cut_end [] (()) (by simp only [go_sem, Bool.not_eq_true', Bool.not_eq_false']; rfl) ?_ ?_; (focus (simp only [go_sem, Bool.not_eq_true', Bool.not_eq_false']; done)))
           trivial)
        | skip
  rintro - -
  have hb := takeT_bd xs sp width f hf
  have hwt := wideF_nat (xs := xs) (sp := sp) hb.1 hb.2
  (refine swp_lastW ?_; simp only [go_sem, Bool.not_eq_true', Bool.not_eq_false'])
  (refine acall2 [] (rwide_ok xs sp f (takeT xs sp width f : Nat) h) (by simp only [go_sem, Bool.not_eq_true', Bool.not_eq_false']; rfl) (fit_of (by simp only [go_sem, Bool.not_eq_true', Bool.not_eq_false']) (by simp only [go_sem, Bool.not_eq_true', Bool.not_eq_false']) (by simp only [go_sem, Bool.not_eq_true', Bool.not_eq_false']) (by simp only [go_sem, Bool.not_eq_true', Bool.not_eq_false']) (by simp only [go_sem, Bool.not_eq_true', Bool.not_eq_false']) (by simp only [go_sem, Bool.not_eq_true', Bool.not_eq_false']) (by simp only [go_sem, Bool.not_eq_true', Bool.not_eq_false'])) ?_; simp only [go_sem, Bool.not_eq_true', Bool.not_eq_false'])
  rw [hwt]
set_option maxRecDepth 100000 in
set_option maxHeartbeats 8000000 in
theorem wide_ok (xs : List Int) (sp f t : Int) (h : WorOk xs sp) : FnOk Try.prog 11 [.sl 1 (xs.map cInt), .raw (.int .i64 sp), .raw (.int .i64 f), .raw (.int .i64 t)] [] (.raw (.int .i64 (wideF xs sp f t))) [] := by
  have hno := @wideF_no xs sp f t
  have hlen := h.len
  have hsp := h.sp
  refine fn_of_swp Try.func11 rfl (by kernel_rfl) (by kernel_rfl) (Nat.le_of_ble_eq_true rfl) Try.results11 ?_
  (refine swp_seqW ?_; simp only [go_sem, Bool.not_eq_true', Bool.not_eq_false'])
  (refine swp_seqW ?_; simp only [go_sem, Bool.not_eq_true', Bool.not_eq_false'])
  refine swp_cutS (fun _ : Unit => ⟨[(2, .raw (.int .i64 f)), (7, .hdr 8), (8, .hdr 16), (9, .hdr 48)], [(8, some (.cells 3 [.raw (.int .i64 t)])), (16, some (.cells 3 [.raw (.int .i64 0)])), (48, some (.cells 75 [.sl 1 (xs.map cInt), .raw (.int .i64 sp)]))], none⟩) (fun _ => 0 ≤ f ∧ f < t ∧ t ≤ xs.length) 60 ?_ ?_
  · (refine swp_lastW ?_; simp only [go_sem, Bool.not_eq_true', Bool.not_eq_false', List.length_map])
    repeat' first | contradiction | intro _ | refine And.intro ?_ ?_ | refine ex_get (by omega) ?_ | (show drawB _ _ = true; kernel_rfl) | (refine ret2 [] (by simp only [go_sem, Bool.not_eq_true', Bool.not_eq_false', List.length_map]; rfl) ?_; simp only [go_sem, Bool.not_eq_true', Bool.not_eq_false', List.length_map]) | (refine acall2 [] (far9_ok xs sp f) (by simp only [go_sem, Bool.not_eq_true', Bool.not_eq_false']; rfl) (fit_of (by simp only [go_sem, Bool.not_eq_true', Bool.not_eq_false']) (by simp only [go_sem, Bool.not_eq_true', Bool.not_eq_false']) (by simp only [go_sem, Bool.not_eq_true', Bool.not_eq_false']) (by simp only [go_sem, Bool.not_eq_true', Bool.not_eq_false']) (by simp only [go_sem, Bool.not_eq_true', Bool.not_eq_false']) (by simp only [go_sem, Bool.not_eq_true', Bool.not_eq_false']) (by simp only [go_sem, Bool.not_eq_true', Bool.not_eq_false'])) ?_; simp only [go_sem, Bool.not_eq_true', Bool.not_eq_false', List.length_map])
    all_goals first
      | (rw [hno (by omega)])
      | ((refine cut_end [] (()) (by simp only [go_sem, Bool.not_eq_true', Bool.not_eq_false']; rfl) ?_ ?_; (focus (simp only [go_sem, Bool.not_eq_true', Bool.not_eq_false']; done)))
         omega)
      | skip
  rintro - ⟨h1, h2, h3⟩
  clear hno
  obtain ⟨f, rfl⟩ := Int.eq_ofNat_of_zero_le h1
  obtain ⟨t, rfl⟩ := Int.eq_ofNat_of_zero_le (show 0 ≤ t by omega)
  have hft : f < t := by omega
  have htl : t ≤ xs.length := by omega
  rw [wideF_nat hft htl]
  refine swp_cutS (fun _ : Unit => ⟨[], [], none⟩) (fun _ => False) 80 ?_ ?_
  · (refine swp_lastW ?_; simp only [go_sem, Bool.not_eq_true', Bool.not_eq_false'])
    (refine acall2 [] (ends9_ok xs sp f) (by simp only [go_sem, Bool.not_eq_true', Bool.not_eq_false']; rfl) (fit_of (by simp only [go_sem, Bool.not_eq_true', Bool.not_eq_false']) (by simp only [go_sem, Bool.not_eq_true', Bool.not_eq_false']) (by simp only [go_sem, Bool.not_eq_true', Bool.not_eq_false']) (by simp only [go_sem, Bool.not_eq_true', Bool.not_eq_false']) (by simp only [go_sem, Bool.not_eq_true', Bool.not_eq_false']) (by simp only [go_sem, Bool.not_eq_true', Bool.not_eq_false']) (by simp only [go_sem, Bool.not_eq_true', Bool.not_eq_false'])) ?_; simp only [go_sem, Bool.not_eq_true', Bool.not_eq_false'])
    (refine arangeS (by simp only [go_sem, Bool.not_eq_true', Bool.not_eq_false']; rfl) Try.func60 rfl (by kernel_rfl) (by kernel_rfl) (Nat.le_of_ble_eq_true rfl) Try.results60 ?_; intro tm1 lc1 hfit1 hps1 hasg1 hbody1; simp only [List.toList_toArray] at hps1)
    (refine swp_seqW ?_; simp only [go_sem, Bool.not_eq_true', Bool.not_eq_false'])
    refine ⟨⟨by omega, by omega⟩, ?_⟩
    (refine swp_seqW ?_; simp only [go_sem, Bool.not_eq_true', Bool.not_eq_false'])
    refine swp_block ?_
    refine swp_loop2 [] (fun k : Nat => ⟨[(0, .hdr 504), (1, .hdr 496), (2, .hdr 497), (4, .raw (.int .i64 (wideN sp (seg xs f k)))), (5, .raw (.int .i64 k))], [(504, some (.loop tm1 lc1 .ready)), (505, some (.frm tm1 [(7, .hdr 8), (8, .hdr 16)])), (496, some (.cells 75 [.sl 1 (xs.map cInt), .raw (.int .i64 sp)])), (497, some (.cells 3 [.raw (.int .i64 f)])), (8, some (.cells 3 [.raw (.int .i64 t)])), (16, some (.cells 3 [.raw (.int .i64 0)]))], none⟩) (fun k => f ≤ k ∧ k < t) (fun k => t - k) 80 f (by simp only [go_sem, Bool.not_eq_true', Bool.not_eq_false']; rfl) (by simp only [go_sem, Bool.not_eq_true', Bool.not_eq_false', wide_none]) ?_ ?_
    · exact ⟨Nat.le_refl _, hft⟩
    rintro k ⟨k1, k2⟩
    have hkl : k < xs.length := by omega
    have hb1 := wide_bd2 h k1 (by omega)
    have hb2 := wide_bd2 h (show f ≤ k + 1 by omega) hkl
    have hn := near9_at h.near k hkl
    have e := wide_seg sp xs f k k1 hkl
    (refine swp_seqW ?_; simp only [go_sem, Bool.not_eq_true', Bool.not_eq_false', List.length_map])
    refine ⟨fun _ => ?_, fun q => (by omega)⟩
    refine swp_seqS ?_
    refine swp_block ?_
    (refine swp_seqW ?_; simp only [go_sem, Bool.not_eq_true', Bool.not_eq_false'])
    refine ⟨by omega, ex_get hkl ⟨by omega, by omega, ?_⟩⟩
    rw [← e]
    refine ⟨(show drawB _ _ = true by kernel_rfl), ?_⟩
    (refine swp_seqW ?_; simp only [go_sem, Bool.not_eq_true', Bool.not_eq_false'])
    refine ⟨by omega, ?_⟩
    (refine ayield rfl ?_; simp only [go_sem, Bool.not_eq_true', Bool.not_eq_false', hfit1, hps1, hasg1, hbody1]; intro tmI1)
    refine ⟨fun q => ?_, fun q => ?_⟩
    · obtain rfl : t = k + 1 := by omega
      (refine swp_lastW ?_; simp only [go_sem, Bool.not_eq_true', Bool.not_eq_false'])
    · (refine swp_lastW ?_; simp only [go_sem, Bool.not_eq_true', Bool.not_eq_false'])
      (refine swp_lastW ?_; simp only [go_sem, Bool.not_eq_true', Bool.not_eq_false'])
      refine ⟨by omega, ?_⟩
      (refine loop_end [] (k + 1) (by simp only [go_sem, Bool.not_eq_true', Bool.not_eq_false']; rfl) ?_ ?_ ?_; (focus first | omega | (simp only; omega)); (focus (simp only [go_sem, Bool.not_eq_true', Bool.not_eq_false']; done)))
      omega
  rintro - hF
  exact hF.elim
set_option maxRecDepth 100000 in
set_option maxHeartbeats 8000000 in
theorem take_ok (xs : List Int) (sp width f : Int) (h : WorOk xs sp) : FnOk Try.prog 122 [.sl 1 (xs.map cInt), .raw (.int .i64 sp), .raw (.int .i64 width), .raw (.int .i64 f)] [] (aRun (takeF xs sp width f)) [] := by
  have hno := @takeF_no xs sp width f
  have hlen := h.len
  have hsp := h.sp
  refine fn_of_swp Try.func122 rfl (by kernel_rfl) (by kernel_rfl) (Nat.le_of_ble_eq_true rfl) Try.results122 ?_
  (refine swp_seqW ?_; simp only [go_sem, Bool.not_eq_true', Bool.not_eq_false'])
  (refine swp_seqW ?_; simp only [go_sem, Bool.not_eq_true', Bool.not_eq_false'])
  refine swp_cutS (fun _ : Unit => ⟨[(3, .raw (.int .i64 f)), (6, .hdr 8), (7, .hdr 16), (8, .hdr 24), (9, .hdr 56)], [(8, some (.cells 3 [.raw (.int .i64 width)])), (16, some (.cells 3 [.raw (.int .i64 f)])), (24, some (.cells 170 [.raw (.int .i64 0), .raw (.int .i64 0), .raw (.int .i64 0)])), (56, some (.cells 75 [.sl 1 (xs.map cInt), .raw (.int .i64 sp)]))], none⟩) (fun _ => 0 ≤ f ∧ f < xs.length) 60 ?_ ?_
  · (refine swp_lastW ?_; simp only [go_sem, Bool.not_eq_true', Bool.not_eq_false', List.length_map])
    repeat' first | contradiction | intro _ | refine And.intro ?_ ?_ | refine ex_get (by omega) ?_ | (show drawB _ _ = true; kernel_rfl) | (refine ret2 [] (by simp only [go_sem, Bool.not_eq_true', Bool.not_eq_false', List.length_map]; rfl) ?_; simp only [go_sem, Bool.not_eq_true', Bool.not_eq_false', List.length_map]) | (refine acall2 [] (far9_ok xs sp f) (by simp only [go_sem, Bool.not_eq_true', Bool.not_eq_false']; rfl) (fit_of (by simp only [go_sem, Bool.not_eq_true', Bool.not_eq_false']) (by simp only [go_sem, Bool.not_eq_true', Bool.not_eq_false']) (by simp only [go_sem, Bool.not_eq_true', Bool.not_eq_false']) (by simp only [go_sem, Bool.not_eq_true', Bool.not_eq_false']) (by simp only [go_sem, Bool.not_eq_true', Bool.not_eq_false']) (by simp only [go_sem, Bool.not_eq_true', Bool.not_eq_false']) (by simp only [go_sem, Bool.not_eq_true', Bool.not_eq_false'])) ?_; simp only [go_sem, Bool.not_eq_true', Bool.not_eq_false', List.length_map])
    all_goals first
      | (rw [hno (by omega)])
      | ((refine cut_end [] (()) (by simp only [go_sem, Bool.not_eq_true', Bool.not_eq_false']; rfl) ?_ ?_; (focus (simp only [go_sem, Bool.not_eq_true', Bool.not_eq_false']; done)))
         omega)
      | skip
  rintro - ⟨h1, h2⟩
  clear hno
  obtain ⟨f, rfl⟩ := Int.eq_ofNat_of_zero_le h1
  have hf : f < xs.length := by omega
  have htb := takeT_bd xs sp width f hf
  rw [takeF_nat hf]
  (refine swp_seqW ?_; simp only [go_sem, Bool.not_eq_true', Bool.not_eq_false'])
  refine swp_cutS (fun _ : Unit => ⟨[(8, .hdr 24), (10, .hdr 480)], [(24, some (.cells 170 [.raw (.int .i64 0), .raw (.int .i64 0), .raw (.int .i64 0)])), (480, some (.cells 170 [.raw (.int .i64 f), .raw (.int .i64 (takeT xs sp width f : Nat)), .raw (.int .i64 (wideN sp (seg xs f (takeT xs sp width f))))]))], none⟩) (fun _ => True) 80 ?_ ?_
  · (refine swp_lastW ?_; simp only [go_sem, Bool.not_eq_true', Bool.not_eq_false'])
    (refine acall2 [] (ends9_ok xs sp f) (by simp only [go_sem, Bool.not_eq_true', Bool.not_eq_false']; rfl) (fit_of (by simp only [go_sem, Bool.not_eq_true', Bool.not_eq_false']) (by simp only [go_sem, Bool.not_eq_true', Bool.not_eq_false']) (by simp only [go_sem, Bool.not_eq_true', Bool.not_eq_false']) (by simp only [go_sem, Bool.not_eq_true', Bool.not_eq_false']) (by simp only [go_sem, Bool.not_eq_true', Bool.not_eq_false']) (by simp only [go_sem, Bool.not_eq_true', Bool.not_eq_false']) (by simp only [go_sem, Bool.not_eq_true', Bool.not_eq_false'])) ?_; simp only [go_sem, Bool.not_eq_true', Bool.not_eq_false'])
    (refine arangeS (by simp only [go_sem, Bool.not_eq_true', Bool.not_eq_false']; rfl) Try.func60 rfl (by kernel_rfl) (by kernel_rfl) (Nat.le_of_ble_eq_true rfl) Try.results60 ?_; intro tm1 lc1 hfit1 hps1 hasg1 hbody1; simp only [List.toList_toArray] at hps1)
    (refine swp_seqW ?_; simp only [go_sem, Bool.not_eq_true', Bool.not_eq_false'])
    refine ⟨⟨by omega, by omega⟩, ?_⟩
    (refine swp_seqW ?_; simp only [go_sem, Bool.not_eq_true', Bool.not_eq_false'])
    refine swp_block ?_
    refine swp_loop2 [] (fun z : KY WRun => ⟨[(0, .hdr 512), (1, .hdr 504), (2, .hdr 505), (4, .raw (.int .i64 (wideN sp (seg xs f z.k)))), (5, .raw (.int .i64 z.k))], [(512, some (.loop tm1 lc1 .ready)), (513, some (.frm tm1 [(6, .hdr 8), (7, .hdr 16), (8, .hdr 24), (10, .hdr 480)])), (504, some (.cells 75 [.sl 1 (xs.map cInt), .raw (.int .i64 sp)])), (505, some (.cells 3 [.raw (.int .i64 f)])), (8, some (.cells 3 [.raw (.int .i64 width)])), (16, some (.cells 3 [.raw (.int .i64 f)])), (24, some (.cells 170 [.raw (.int .i64 0), .raw (.int .i64 0), .raw (.int .i64 0)])), (480, some (.cells 170 [.raw (.int .i64 z.o.f), .raw (.int .i64 z.o.t), .raw (.int .i64 z.o.w)]))], none⟩) (fun z => (f ≤ z.k ∧ z.k ≤ xs.length) ∧ (f < z.k → z.o = ⟨f, z.k, wideN sp (seg xs f z.k)⟩ ∧ growT xs sp width f (xs.length - z.k) z.k = takeT xs sp width f)) (fun z => xs.length - z.k) 80 ⟨f, ⟨0, 0, 0⟩⟩ (by simp only [go_sem, Bool.not_eq_true', Bool.not_eq_false']; rfl) (by simp only [go_sem, Bool.not_eq_true', Bool.not_eq_false', wide_none]) ?_ ?_
    · exact ⟨⟨Nat.le_refl _, Nat.le_of_lt hf⟩, fun q => absurd q (Nat.lt_irrefl _)⟩
    rintro ⟨k, o⟩ ⟨⟨k1, k2⟩, k3⟩
    simp only at k1 k2 k3
    have hy := @growT_yes xs sp width f k
    have hn := @growT_no xs sp width f k
    (refine swp_seqW ?_; simp only [go_sem, Bool.not_eq_true', Bool.not_eq_false', List.length_map])
    refine ⟨fun h5 => ?_, fun h5 => ?_⟩
    rotate_left
    · obtain rfl : k = xs.length := by omega
      obtain ⟨rfl, e2⟩ := k3 hf
      have e3 : takeT xs sp width f = xs.length := by rw [← e2, Nat.sub_self]; rfl
      rw [e3]
      (refine cut_end [] (()) (by simp only [go_sem, Bool.not_eq_true', Bool.not_eq_false']; rfl) ?_ ?_; (focus (simp only [go_sem, Bool.not_eq_true', Bool.not_eq_false']; done)))
      trivial
    have hkl : k < xs.length := by omega
    have hb1 := wide_bd2 h k1 (by omega)
    have hb2 := wide_bd2 h (show f ≤ k + 1 by omega) hkl
    have hx := near9_at h.near k hkl
    have e := wide_seg sp xs f k k1 hkl
    refine swp_seqS ?_
    refine swp_block ?_
    (refine swp_seqW ?_; simp only [go_sem, Bool.not_eq_true', Bool.not_eq_false'])
    refine ⟨by omega, ex_get hkl ⟨by omega, by omega, ?_⟩⟩
    rw [← e]
    refine ⟨(show drawB _ _ = true by kernel_rfl), ?_⟩
    (refine swp_seqW ?_; simp only [go_sem, Bool.not_eq_true', Bool.not_eq_false'])
    refine ⟨by omega, ?_⟩
    (refine ayield rfl ?_; simp only [go_sem, Bool.not_eq_true', Bool.not_eq_false', hfit1, hps1, hasg1, hbody1]; intro tmI1)
    have hnew : ¬ ((f : Int) + 1 < k + 1 ∧ width < wideN sp (seg xs f (k + 1))) → (f < k + 1 → (⟨f, (k + 1 : Nat), wideN sp (seg xs f (k + 1))⟩ : WRun) = ⟨f, (k + 1 : Nat), wideN sp (seg xs f (k + 1))⟩ ∧ growT xs sp width f (xs.length - (k + 1)) (k + 1) = takeT xs sp width f) := fun q _ => by
      refine ⟨rfl, ?_⟩
      by_cases w : f < k
      · rw [← hy hkl (by omega)]
        exact (k3 w).2
      · obtain rfl : f = k := by omega
        rfl
    have hbrk : (f : Int) + 1 < k + 1 → width < wideN sp (seg xs f (k + 1)) → o = ⟨f, k, wideN sp (seg xs f k)⟩ ∧ takeT xs sp width f = k := fun q1 q2 => by
      obtain ⟨e1, e2⟩ := k3 (by omega)
      exact ⟨e1, by rw [← e2]; exact hn fun w => by omega⟩
    clear k3
    repeat' first | contradiction | intro _ | refine And.intro ?_ ?_ | refine ex_get (by omega) ?_ | (show drawB _ _ = true; kernel_rfl) | (refine ret2 [] (by simp only [go_sem, Bool.not_eq_true', Bool.not_eq_false']; rfl) ?_; simp only [go_sem, Bool.not_eq_true', Bool.not_eq_false'])
    all_goals first
      | omega
      | (obtain ⟨e1, e2⟩ := hbrk (by assumption) (by assumption)
         rw [e1, e2]
         (refine swp_lastW ?_; simp only [go_sem, Bool.not_eq_true', Bool.not_eq_false'])
         (refine cut_end [] (()) (by simp only [go_sem, Bool.not_eq_true', Bool.not_eq_false']; rfl) ?_ ?_; (focus (simp only [go_sem, Bool.not_eq_true', Bool.not_eq_false']; done)))
         trivial)
      | ((refine swp_lastW ?_; simp only [go_sem, Bool.not_eq_true', Bool.not_eq_false'])
         (refine swp_lastW ?_; simp only [go_sem, Bool.not_eq_true', Bool.not_eq_false'])
         refine ⟨by omega, ?_⟩
         (refine loop_end [] (⟨k + 1, ⟨f, (k + 1 : Nat), wideN sp (seg xs f (k + 1))⟩⟩) (by simp only [go_sem, Bool.not_eq_true', Bool.not_eq_false']; rfl) ?_ ?_ ?_; (focus first | omega | (simp only; omega)); (focus (simp only [go_sem, Bool.not_eq_true', Bool.not_eq_false']; done)))
         exact ⟨⟨by simp only; omega, hkl⟩, hnew (by omega)⟩)
      | skip
  rintro - -
  (refine swp_lastW ?_; simp only [go_sem, Bool.not_eq_true', Bool.not_eq_false'])
end Go.Proofs.Ytblmebjhhanoaaa
/- CHAPTER 12: lines: the room for a width. -/
/- G -/
/- BOOLS -/
set_option linter.unusedSimpArgs false
set_option linter.unusedVariables false
namespace Go.Proofs.Ytblmebjhhanoaaa
open Go.RowKit

theorem fold_mono {y H : Int} : ∀ (l : List LFl) (o : LSpan), o.a ≤ (l.foldl (ofT y H) o).a ∧ (l.foldl (ofT y H) o).b ≤ o.b
  | [], o => ⟨Int.le_refl _, Int.le_refl _⟩
  | f :: l, o => by
    have ih := fold_mono (y := y) (H := H) l (ofT y H o f)
    rw [List.foldl_cons]
    have h1 : o.a ≤ (ofT y H o f).a ∧ (ofT y H o f).b ≤ o.b := by
      unfold ofT cutF
      split
      · split <;> (simp only; omega)
      · omega
    omega
theorem band_same {y H : Int} : ∀ (l : List LFl) (s : LSpan), ((l.foldl (ofT y H) s).a = s.a ∧ (l.foldl (ofT y H) s).b = s.b) ↔ ∀ f ∈ l, meetF f y H = true → (cutF f s).a = s.a ∧ (cutF f s).b = s.b
  | [], s => by simp
  | f :: l, s => by
    have hm := fold_mono (y := y) (H := H) l (ofT y H s f)
    rw [List.foldl_cons]
    have h1 : s.a ≤ (ofT y H s f).a ∧ (ofT y H s f).b ≤ s.b := by
      unfold ofT cutF
      split
      · split <;> (simp only; omega)
      · omega
    have key : (ofT y H s f).a = s.a → (ofT y H s f).b = s.b → ofT y H s f = s := fun q1 q2 => by
      rcases h : ofT y H s f with ⟨a, b⟩
      rw [h] at q1 q2
      simp only at q1 q2
      rw [q1, q2]
    constructor
    · rintro ⟨e1, e2⟩
      have e := key (by omega) (by omega)
      rw [e] at e1 e2
      have ih := (band_same l s).1 ⟨e1, e2⟩
      intro g hg hmg
      rcases List.mem_cons.1 hg with rfl | hg
      · have : ofT y H s g = cutF g s := by unfold ofT; rw [if_pos hmg]
        rw [this] at e
        rw [e]
        exact ⟨rfl, rfl⟩
      · exact ih g hg hmg
    · intro h
      have e : ofT y H s f = s := by
        by_cases q : meetF f y H = true
        · have := h f List.mem_cons_self q
          exact key (by unfold ofT; rw [if_pos q]; exact this.1) (by unfold ofT; rw [if_pos q]; exact this.2)
        · unfold ofT; rw [if_neg q]
      rw [e]
      exact (band_same l s).2 fun g hg => h g (List.mem_cons_of_mem _ hg)
theorem next_fold {y H : Int} {s : LSpan} : ∀ (l : List LFl) (o : LIs), (l.foldl (nextT y H s) o).is = false ↔ o.is = false ∧ ∀ f ∈ l, meetF f y H = true → (cutF f s).a = s.a ∧ (cutF f s).b = s.b
  | [], o => by simp
  | f :: l, o => by
    rw [List.foldl_cons, next_fold l]
    unfold nextT
    constructor
    · rintro ⟨h1, h2⟩
      split at h1
      · cases h1
      · next hc =>
        refine ⟨h1, fun g hg hm => ?_⟩
        rcases List.mem_cons.1 hg with rfl | hg
        · refine Decidable.byContradiction fun w => hc ⟨hm, w, fun q => by rw [h1] at q; cases q⟩
        · exact h2 g hg hm
    · rintro ⟨h1, h2⟩
      rw [if_neg fun w => w.2.1 (h2 f List.mem_cons_self w.1)]
      exact ⟨h1, fun g hg => h2 g (List.mem_cons_of_mem _ hg)⟩
theorem same_next (l : List LFl) (y H : Int) (s : LSpan) : ((bandF l y H s).a = s.a ∧ (bandF l y H s).b = s.b) ↔ (nextF l y H s).is = false := by
  unfold bandF nextF
  rw [band_same, next_fold]
  simp
structure LinOk (l : List LFl) (H : Int) (s : LSpan) : Prop where
  len : l.length ≤ 60
  near : l.all nearF = true
  h : -1125899906842624 ≤ H ∧ H ≤ 1125899906842624
  s : (-1125899906842624 ≤ s.a ∧ s.a ≤ 1125899906842624) ∧ (-1125899906842624 ≤ s.b ∧ s.b ≤ 1125899906842624)
theorem band_nearL {l : List LFl} {H : Int} {s : LSpan} (h : LinOk l H s) (y' H' : Int) : nearS (bandF l y' H' s) := by
  have := band_bd h.near (y := y') (H := H') h.s
  unfold nearS
  omega
def aStr (l : List LFl) (H y : Int) (s : LSpan) : AV := .agg [.raw (.int .i64 s.a), .raw (.int .i64 s.b), .sl 7 (l.map cFl), .raw (.int .i64 H), .raw (.int .i64 y)]
attribute [go_sem] aStr
set_option maxRecDepth 100000 in
theorem sband_ok (l : List LFl) (H y : Int) (s : LSpan) (h : LinOk l H s) (hy : in10 y) : FnOk Try.prog 104 [aStr l H y s] [] (aSpan (bandF l y H s)) [] := by
  have := h.len
  have hh := h.h
  refine fn_of_awp Try.func104 rfl (by kernel_rfl) (by kernel_rfl) (Nat.le_of_ble_eq_true rfl) Try.results104 ?_
  simp only [go_sem, Bool.not_eq_true', Bool.not_eq_false']
  (refine acall2 [] (bof10_ok l y H s (by omega) h.near hy (by unfold in10; omega)) (by simp only [go_sem, Bool.not_eq_true', Bool.not_eq_false']; rfl) (fit_of (by simp only [go_sem, Bool.not_eq_true', Bool.not_eq_false']) (by simp only [go_sem, Bool.not_eq_true', Bool.not_eq_false']) (by simp only [go_sem, Bool.not_eq_true', Bool.not_eq_false']) (by simp only [go_sem, Bool.not_eq_true', Bool.not_eq_false']) (by simp only [go_sem, Bool.not_eq_true', Bool.not_eq_false']) (by simp only [go_sem, Bool.not_eq_true', Bool.not_eq_false']) (by simp only [go_sem, Bool.not_eq_true', Bool.not_eq_false'])) ?_; simp only [go_sem, Bool.not_eq_true', Bool.not_eq_false'])
def fitL (l : List LFl) (H y w : Int) (s : LSpan) : Prop := w ≤ lenS (bandF l y H s) ∨ (nextF l y H s).is = false
instance (l : List LFl) (H y w : Int) (s : LSpan) : Decidable (fitL l H y w s) := by unfold fitL; infer_instance
set_option maxRecDepth 100000 in
theorem fits_ok (l : List LFl) (H y w : Int) (s : LSpan) (h : LinOk l H s) (hy : in10 y) : FnOk Try.prog 102 [aStr l H y s, .raw (.int .i64 w)] [] (.raw (.bool (decide (fitL l H y w s)))) [] := by
  have hs := same_next l y H s
  refine fn_of_awp Try.func102 rfl (by kernel_rfl) (by kernel_rfl) (Nat.le_of_ble_eq_true rfl) Try.results102 ?_
  simp only [go_sem, Bool.not_eq_true', Bool.not_eq_false']
  (refine acall2 [] (sband_ok l H y s h hy) (by simp only [go_sem, Bool.not_eq_true', Bool.not_eq_false']; rfl) (fit_of (by simp only [go_sem, Bool.not_eq_true', Bool.not_eq_false']) (by simp only [go_sem, Bool.not_eq_true', Bool.not_eq_false']) (by simp only [go_sem, Bool.not_eq_true', Bool.not_eq_false']) (by simp only [go_sem, Bool.not_eq_true', Bool.not_eq_false']) (by simp only [go_sem, Bool.not_eq_true', Bool.not_eq_false']) (by simp only [go_sem, Bool.not_eq_true', Bool.not_eq_false']) (by simp only [go_sem, Bool.not_eq_true', Bool.not_eq_false'])) ?_; simp only [go_sem, Bool.not_eq_true', Bool.not_eq_false'])
  (refine acall2 [] (slen_ok (bandF l y H s) (band_nearL h y H)) (by simp only [go_sem, Bool.not_eq_true', Bool.not_eq_false']; rfl) (fit_of (by simp only [go_sem, Bool.not_eq_true', Bool.not_eq_false']) (by simp only [go_sem, Bool.not_eq_true', Bool.not_eq_false']) (by simp only [go_sem, Bool.not_eq_true', Bool.not_eq_false']) (by simp only [go_sem, Bool.not_eq_true', Bool.not_eq_false']) (by simp only [go_sem, Bool.not_eq_true', Bool.not_eq_false']) (by simp only [go_sem, Bool.not_eq_true', Bool.not_eq_false']) (by simp only [go_sem, Bool.not_eq_true', Bool.not_eq_false'])) ?_; simp only [go_sem, Bool.not_eq_true', Bool.not_eq_false'])
  repeat' first | contradiction | intro _ | refine And.intro ?_ ?_ | refine ex_get (by omega) ?_ | (show drawB _ _ = true; kernel_rfl) | (refine ret2 [] (by simp only [go_sem, Bool.not_eq_true', Bool.not_eq_false']; rfl) ?_; simp only [go_sem, Bool.not_eq_true', Bool.not_eq_false']) | (refine acall2 [] (sband_ok l H y s h hy) (by simp only [go_sem, Bool.not_eq_true', Bool.not_eq_false']; rfl) (fit_of (by simp only [go_sem, Bool.not_eq_true', Bool.not_eq_false']) (by simp only [go_sem, Bool.not_eq_true', Bool.not_eq_false']) (by simp only [go_sem, Bool.not_eq_true', Bool.not_eq_false']) (by simp only [go_sem, Bool.not_eq_true', Bool.not_eq_false']) (by simp only [go_sem, Bool.not_eq_true', Bool.not_eq_false']) (by simp only [go_sem, Bool.not_eq_true', Bool.not_eq_false']) (by simp only [go_sem, Bool.not_eq_true', Bool.not_eq_false'])) ?_; simp only [go_sem, Bool.not_eq_true', Bool.not_eq_false'])
  all_goals first
    | (refine ⟨(show drawB _ _ = true by kernel_rfl), ?_⟩)
    | skip
  all_goals first
    | (rw [Bool.eq_iff_iff, decide_eq_true_iff, Bool.and_eq_true, decide_eq_true_iff, decide_eq_true_iff]
       unfold fitL
       rw [← hs]
       exact ⟨fun q => q.resolve_left (by assumption), .inr⟩)
    | (simp only [fitL]; simp_all; done)
    | skip
structure RomX (l : List LFl) (W H : Int) (s : LSpan) (y z : Int) : Prop where
  e : dnP l W H s (cntP l z) z = dnP l W H s (cntP l y) y
  lo : -2251799813685248 ≤ z
  hi : z ≤ 4503599627370496
def romY (l : List LFl) (w H y : Int) (s : LSpan) : Int := dnP l w H s (cntP l y) y
def aRoo (l : List LFl) (w H y : Int) (s : LSpan) : AV := .tup [aSpan (bandF l (romY l w H y s) H s), .raw (.int .i64 (romY l w H y s))]
attribute [go_sem] aRoo
set_option maxRecDepth 100000 in
set_option maxHeartbeats 4000000 in
theorem room12_ok (l : List LFl) (w H y : Int) (s : LSpan) (h : LinOk l H s) (hy : -2251799813685248 ≤ y ∧ y ≤ 4503599627370496) : FnOk Try.prog 75 [.sl 7 (l.map cFl), .raw (.int .i64 w), .raw (.int .i64 H), .raw (.int .i64 y), aSpan s] [] (aRoo l w H y s) [] := by
  have hlen := h.len
  have hh := h.h
  have hin : ∀ z : Int, -2251799813685248 ≤ z ∧ z ≤ 4503599627370496 → in10 z := fun z hz => by unfold in10; omega
  obtain ⟨Y, hY⟩ : ∃ Y, romY l w H y s = Y := ⟨_, rfl⟩
  rw [show aRoo l w H y s = .tup [aSpan (bandF l Y H s), .raw (.int .i64 Y)] by unfold aRoo; rw [hY]]
  refine fn_of_swp Try.func75 rfl (by kernel_rfl) (by kernel_rfl) (Nat.le_of_ble_eq_true rfl) Try.results75 ?_
  (refine swp_seqW ?_; simp only [go_sem, Bool.not_eq_true', Bool.not_eq_false'])
  (refine swp_seqW ?_; simp only [go_sem, Bool.not_eq_true', Bool.not_eq_false'])
  refine swp_cutS (fun _ : Unit => ⟨[(10, .hdr 16), (12, .hdr 72)], [(16, some (.cells 87 [.raw (.int .i64 0), .raw (.int .i64 0)])), (72, some (.cells 153 [.raw (.int .i64 s.a), .raw (.int .i64 s.b), .sl 7 (l.map cFl), .raw (.int .i64 H), .raw (.int .i64 Y)]))], none⟩) (fun _ => -2251799813685248 ≤ Y ∧ Y ≤ 4503599627370496) 40 ?_ ?_
  · (refine swp_lastW ?_; simp only [go_sem, Bool.not_eq_true', Bool.not_eq_false'])
    refine aloop2 [] (fun z : Int => ⟨[(1, .raw (.int .i64 w)), (10, .hdr 16), (12, .hdr 72)], [(16, some (.cells 87 [.raw (.int .i64 0), .raw (.int .i64 0)])), (72, some (.cells 153 [.raw (.int .i64 s.a), .raw (.int .i64 s.b), .sl 7 (l.map cFl), .raw (.int .i64 H), .raw (.int .i64 z)]))], none⟩) (RomX l w H s y) (fun z => cntP l z) 40 y (by simp only [go_sem, Bool.not_eq_true', Bool.not_eq_false']; rfl) (by simp only [go_sem, Bool.not_eq_true', Bool.not_eq_false']) ?_ ?_
    · exact ⟨rfl, hy.1, hy.2⟩
    rintro z ⟨z1, z2, z3⟩
    have hiz := hin z ⟨z2, z3⟩
    have hst := @dn_stop l w H s z
    have hdl := @dn_lt l w H s z
    simp only [go_sem, Bool.not_eq_true', Bool.not_eq_false']
    (refine acall2 [] (fits_ok l H z w s h hiz) (by simp only [go_sem, Bool.not_eq_true', Bool.not_eq_false']; rfl) (fit_of (by simp only [go_sem, Bool.not_eq_true', Bool.not_eq_false']) (by simp only [go_sem, Bool.not_eq_true', Bool.not_eq_false']) (by simp only [go_sem, Bool.not_eq_true', Bool.not_eq_false']) (by simp only [go_sem, Bool.not_eq_true', Bool.not_eq_false']) (by simp only [go_sem, Bool.not_eq_true', Bool.not_eq_false']) (by simp only [go_sem, Bool.not_eq_true', Bool.not_eq_false']) (by simp only [go_sem, Bool.not_eq_true', Bool.not_eq_false'])) ?_; simp only [go_sem, Bool.not_eq_true', Bool.not_eq_false'])
    refine ⟨fun q => ?_, fun q => ?_⟩
    · have hlt := hdl q
      have hnb := next_bd h.near (y := z) (H := H) (s := s) (Decidable.byContradiction fun w => q (.inr (by cases hq : (nextF l z H s).is with | false => rfl | true => exact absurd hq w)))
      (refine acall2 [] (bnext_ok l z H s (by omega) h.near hiz (by unfold in10; omega)) (by simp only [go_sem, Bool.not_eq_true', Bool.not_eq_false']; rfl) (fit_of (by simp only [go_sem, Bool.not_eq_true', Bool.not_eq_false']) (by simp only [go_sem, Bool.not_eq_true', Bool.not_eq_false']) (by simp only [go_sem, Bool.not_eq_true', Bool.not_eq_false']) (by simp only [go_sem, Bool.not_eq_true', Bool.not_eq_false']) (by simp only [go_sem, Bool.not_eq_true', Bool.not_eq_false']) (by simp only [go_sem, Bool.not_eq_true', Bool.not_eq_false']) (by simp only [go_sem, Bool.not_eq_true', Bool.not_eq_false'])) ?_; simp only [go_sem, Bool.not_eq_true', Bool.not_eq_false'])
      (refine loop_end [] ((nextF l z H s).n) (by simp only [go_sem, Bool.not_eq_true', Bool.not_eq_false']; rfl) ?_ ?_ ?_; (focus first | omega | (simp only; omega)); (focus (simp only [go_sem, Bool.not_eq_true', Bool.not_eq_false']; done)))
      refine ⟨?_, hnb.1, by omega⟩
      rw [← z1]
      obtain ⟨k, hk⟩ : ∃ k, cntP l z = k + 1 := ⟨cntP l z - 1, by omega⟩
      rw [hk, dn_step q, dn_enough k _ (by omega)]
    · obtain rfl : Y = z := by
        rw [← hY, romY, ← z1]
        exact hst q _
      (refine cut_end [] (()) (by simp only [go_sem, Bool.not_eq_true', Bool.not_eq_false']; rfl) ?_ ?_; (focus (simp only [go_sem, Bool.not_eq_true', Bool.not_eq_false']; done)))
      exact ⟨z2, z3⟩
  rintro - ⟨y1, y2⟩
  (refine swp_lastW ?_; simp only [go_sem, Bool.not_eq_true', Bool.not_eq_false'])
  repeat' first | contradiction | intro _ | refine And.intro ?_ ?_ | refine ex_get (by omega) ?_ | (show drawB _ _ = true; kernel_rfl) | (refine ret2 [] (by simp only [go_sem, Bool.not_eq_true', Bool.not_eq_false']; rfl) ?_; simp only [go_sem, Bool.not_eq_true', Bool.not_eq_false']) | (refine acall2 [] (sband_ok l H Y s h (hin Y ⟨y1, y2⟩)) (by simp only [go_sem, Bool.not_eq_true', Bool.not_eq_false']; rfl) (fit_of (by simp only [go_sem, Bool.not_eq_true', Bool.not_eq_false']) (by simp only [go_sem, Bool.not_eq_true', Bool.not_eq_false']) (by simp only [go_sem, Bool.not_eq_true', Bool.not_eq_false']) (by simp only [go_sem, Bool.not_eq_true', Bool.not_eq_false']) (by simp only [go_sem, Bool.not_eq_true', Bool.not_eq_false']) (by simp only [go_sem, Bool.not_eq_true', Bool.not_eq_false']) (by simp only [go_sem, Bool.not_eq_true', Bool.not_eq_false'])) ?_; simp only [go_sem, Bool.not_eq_true', Bool.not_eq_false'])
  all_goals first
    | (refine ⟨(show drawB _ _ = true by kernel_rfl), ?_⟩)
    | skip
theorem rom_step {l : List LFl} {w H y : Int} {s : LSpan} (q : ¬ fitL l H y w s) : romY l w H y s = romY l w H (nextF l y H s).n s := by
  have hlt := dn_lt q
  unfold romY
  obtain ⟨k, hk⟩ : ∃ k, cntP l y = k + 1 := ⟨cntP l y - 1, by omega⟩
  rw [hk, dn_step q, dn_enough k _ (by omega)]
theorem rom_stop {l : List LFl} {w H y : Int} {s : LSpan} (q : fitL l H y w s) : romY l w H y s = y := dn_stop q _
set_option maxRecDepth 100000 in
set_option maxHeartbeats 4000000 in
theorem rroom12_ok (l : List LFl) (w H : Int) (s : LSpan) (h : LinOk l H s) : ∀ (m : Nat) (y : Int), cntP l y < m → (-2251799813685248 ≤ y ∧ y ≤ 4503599627370496) → FnOk Try.prog 96 [.sl 7 (l.map cFl), .raw (.int .i64 w), .raw (.int .i64 H), .raw (.int .i64 y), aSpan s] [] (aRoo l w H y s) []
  | 0, y, hm, _ => absurd hm (Nat.not_lt_zero _)
  | m + 1, y, hm, hy => by
    have hlen := h.len
    have hh := h.h
    have hin : in10 y := by unfold in10; omega
    have hhi : in10 H := by unfold in10; omega
    have hs := band_nearL h y H
    by_cases q : fitL l H y w s
    · have e := rom_stop q
      have ea : aRoo l w H y s = .tup [aSpan (bandF l y H s), .raw (.int .i64 y)] := by unfold aRoo; rw [e]
      rw [ea]
      refine fn_of_awp Try.func96 rfl (by kernel_rfl) (by kernel_rfl) (Nat.le_of_ble_eq_true rfl) Try.results96 ?_
      simp only [go_sem, Bool.not_eq_true', Bool.not_eq_false']
      repeat' first | contradiction | intro _ | refine And.intro ?_ ?_ | refine ex_get (by omega) ?_ | (show drawB _ _ = true; kernel_rfl) | (refine ret2 [] (by simp only [go_sem, Bool.not_eq_true', Bool.not_eq_false']; rfl) ?_; simp only [go_sem, Bool.not_eq_true', Bool.not_eq_false']) | (refine acall2 [] (rof10_ok l y H s (by omega) h.near hin hhi) (by simp only [go_sem, Bool.not_eq_true', Bool.not_eq_false']; rfl) (fit_of (by simp only [go_sem, Bool.not_eq_true', Bool.not_eq_false']) (by simp only [go_sem, Bool.not_eq_true', Bool.not_eq_false']) (by simp only [go_sem, Bool.not_eq_true', Bool.not_eq_false']) (by simp only [go_sem, Bool.not_eq_true', Bool.not_eq_false']) (by simp only [go_sem, Bool.not_eq_true', Bool.not_eq_false']) (by simp only [go_sem, Bool.not_eq_true', Bool.not_eq_false']) (by simp only [go_sem, Bool.not_eq_true', Bool.not_eq_false'])) ?_; simp only [go_sem, Bool.not_eq_true', Bool.not_eq_false']) | (refine acall2 [] (rnext_ok l y H s (by omega) h.near hin hhi) (by simp only [go_sem, Bool.not_eq_true', Bool.not_eq_false']; rfl) (fit_of (by simp only [go_sem, Bool.not_eq_true', Bool.not_eq_false']) (by simp only [go_sem, Bool.not_eq_true', Bool.not_eq_false']) (by simp only [go_sem, Bool.not_eq_true', Bool.not_eq_false']) (by simp only [go_sem, Bool.not_eq_true', Bool.not_eq_false']) (by simp only [go_sem, Bool.not_eq_true', Bool.not_eq_false']) (by simp only [go_sem, Bool.not_eq_true', Bool.not_eq_false']) (by simp only [go_sem, Bool.not_eq_true', Bool.not_eq_false'])) ?_; simp only [go_sem, Bool.not_eq_true', Bool.not_eq_false']) | (refine acall2 [] (rlen2_ok (bandF l y H s) hs) (by simp only [go_sem, Bool.not_eq_true', Bool.not_eq_false']; rfl) (fit_of (by simp only [go_sem, Bool.not_eq_true', Bool.not_eq_false']) (by simp only [go_sem, Bool.not_eq_true', Bool.not_eq_false']) (by simp only [go_sem, Bool.not_eq_true', Bool.not_eq_false']) (by simp only [go_sem, Bool.not_eq_true', Bool.not_eq_false']) (by simp only [go_sem, Bool.not_eq_true', Bool.not_eq_false']) (by simp only [go_sem, Bool.not_eq_true', Bool.not_eq_false']) (by simp only [go_sem, Bool.not_eq_true', Bool.not_eq_false'])) ?_; simp only [go_sem, Bool.not_eq_true', Bool.not_eq_false'])
      all_goals first
        | (refine ⟨(show drawB _ _ = true by kernel_rfl), ?_⟩)
        | omega
        | (exfalso; unfold fitL at q; simp_all; done)
        | skip
    · have e := rom_step q
      have hlt := dn_lt q
      have hnx : (nextF l y H s).is = true := Decidable.byContradiction fun w => q (.inr (by cases hq : (nextF l y H s).is with | false => rfl | true => exact absurd hq w))
      have hnb := next_bd h.near (y := y) (H := H) (s := s) hnx
      have ih := rroom12_ok l w H s h m (nextF l y H s).n (by omega) ⟨hnb.1, by omega⟩
      have ea : aRoo l w H y s = aRoo l w H (nextF l y H s).n s := by unfold aRoo; rw [e]
      rw [ea]
      refine fn_of_awp Try.func96 rfl (by kernel_rfl) (by kernel_rfl) (Nat.le_of_ble_eq_true rfl) Try.results96 ?_
      simp only [go_sem, Bool.not_eq_true', Bool.not_eq_false']
      repeat' first | contradiction | intro _ | refine And.intro ?_ ?_ | refine ex_get (by omega) ?_ | (show drawB _ _ = true; kernel_rfl) | (refine ret2 [] (by simp only [go_sem, Bool.not_eq_true', Bool.not_eq_false']; rfl) ?_; simp only [go_sem, Bool.not_eq_true', Bool.not_eq_false']) | (refine acall2 [] (rof10_ok l y H s (by omega) h.near hin hhi) (by simp only [go_sem, Bool.not_eq_true', Bool.not_eq_false']; rfl) (fit_of (by simp only [go_sem, Bool.not_eq_true', Bool.not_eq_false']) (by simp only [go_sem, Bool.not_eq_true', Bool.not_eq_false']) (by simp only [go_sem, Bool.not_eq_true', Bool.not_eq_false']) (by simp only [go_sem, Bool.not_eq_true', Bool.not_eq_false']) (by simp only [go_sem, Bool.not_eq_true', Bool.not_eq_false']) (by simp only [go_sem, Bool.not_eq_true', Bool.not_eq_false']) (by simp only [go_sem, Bool.not_eq_true', Bool.not_eq_false'])) ?_; simp only [go_sem, Bool.not_eq_true', Bool.not_eq_false']) | (refine acall2 [] (rnext_ok l y H s (by omega) h.near hin hhi) (by simp only [go_sem, Bool.not_eq_true', Bool.not_eq_false']; rfl) (fit_of (by simp only [go_sem, Bool.not_eq_true', Bool.not_eq_false']) (by simp only [go_sem, Bool.not_eq_true', Bool.not_eq_false']) (by simp only [go_sem, Bool.not_eq_true', Bool.not_eq_false']) (by simp only [go_sem, Bool.not_eq_true', Bool.not_eq_false']) (by simp only [go_sem, Bool.not_eq_true', Bool.not_eq_false']) (by simp only [go_sem, Bool.not_eq_true', Bool.not_eq_false']) (by simp only [go_sem, Bool.not_eq_true', Bool.not_eq_false'])) ?_; simp only [go_sem, Bool.not_eq_true', Bool.not_eq_false']) | (refine acall2 [] (rlen2_ok (bandF l y H s) hs) (by simp only [go_sem, Bool.not_eq_true', Bool.not_eq_false']; rfl) (fit_of (by simp only [go_sem, Bool.not_eq_true', Bool.not_eq_false']) (by simp only [go_sem, Bool.not_eq_true', Bool.not_eq_false']) (by simp only [go_sem, Bool.not_eq_true', Bool.not_eq_false']) (by simp only [go_sem, Bool.not_eq_true', Bool.not_eq_false']) (by simp only [go_sem, Bool.not_eq_true', Bool.not_eq_false']) (by simp only [go_sem, Bool.not_eq_true', Bool.not_eq_false']) (by simp only [go_sem, Bool.not_eq_true', Bool.not_eq_false'])) ?_; simp only [go_sem, Bool.not_eq_true', Bool.not_eq_false']) | (refine acall2 [] (ih) (by simp only [go_sem, Bool.not_eq_true', Bool.not_eq_false']; rfl) (fit_of (by simp only [go_sem, Bool.not_eq_true', Bool.not_eq_false']) (by simp only [go_sem, Bool.not_eq_true', Bool.not_eq_false']) (by simp only [go_sem, Bool.not_eq_true', Bool.not_eq_false']) (by simp only [go_sem, Bool.not_eq_true', Bool.not_eq_false']) (by simp only [go_sem, Bool.not_eq_true', Bool.not_eq_false']) (by simp only [go_sem, Bool.not_eq_true', Bool.not_eq_false']) (by simp only [go_sem, Bool.not_eq_true', Bool.not_eq_false'])) ?_; simp only [go_sem, Bool.not_eq_true', Bool.not_eq_false'])
      all_goals first
        | (refine ⟨(show drawB _ _ = true by kernel_rfl), ?_⟩)
        | omega
        | (exfalso; unfold fitL at q; simp_all; done)
        | skip
end Go.Proofs.Ytblmebjhhanoaaa
/- CHAPTER 12: lines: one line, all lines of a text. -/
/- G -/
/- BOOLS -/
set_option linter.unusedSimpArgs false
set_option linter.unusedVariables false
namespace Go.Proofs.Ytblmebjhhanoaaa
open Go.RowKit

structure LSet where
  f : Int
  t : Int
  x : Int
  y : Int
  w : Int
deriving DecidableEq
def cSet (x : LSet) : List PV := [.raw (.int .i64 x.f), .raw (.int .i64 x.t), .raw (.int .i64 x.x), .raw (.int .i64 x.y), .raw (.int .i64 x.w)]
def aSet (x : LSet) : AV := .agg [.raw (.int .i64 x.f), .raw (.int .i64 x.t), .raw (.int .i64 x.x), .raw (.int .i64 x.y), .raw (.int .i64 x.w)]
attribute [go_sem] cSet aSet
theorem dn_bd {l : List LFl} {w H : Int} {s : LSpan} (hn : l.all nearF = true) : ∀ (n : Nat) (y : Int), dnP l w H s n y = y ∨ (-2251799813685248 ≤ dnP l w H s n y ∧ dnP l w H s n y ≤ 2251799813685248)
  | 0, y => .inl rfl
  | n + 1, y => by
    by_cases q : w ≤ lenS (bandF l y H s) ∨ (nextF l y H s).is = false
    · rw [dn_stop q]; exact .inl rfl
    · rw [dn_step q]
      have hnx : (nextF l y H s).is = true := Decidable.byContradiction fun w => q (.inr (by cases hq : (nextF l y H s).is with | false => rfl | true => exact absurd hq w))
      have hnb := next_bd hn (y := y) (H := H) (s := s) hnx
      rcases dn_bd hn n (nextF l y H s).n with e | e
      · rw [e]; exact .inr hnb
      · exact .inr e
theorem rom_bd {l : List LFl} {w H y : Int} {s : LSpan} (hn : l.all nearF = true) : romY l w H y s = y ∨ (-2251799813685248 ≤ romY l w H y s ∧ romY l w H y s ≤ 2251799813685248) := dn_bd hn _ _
def linN (l : List LFl) (ws : List Int) (sp H : Int) (f : Nat) (y : Int) (s : LSpan) : LSet :=
  ⟨f, (takeT ws sp (lenS (bandF l (romY l (ws.getD f 0) H y s) H s)) f : Nat), (bandF l (romY l (ws.getD f 0) H y s) H s).a, romY l (ws.getD f 0) H y s, wideN sp (seg ws f (takeT ws sp (lenS (bandF l (romY l (ws.getD f 0) H y s) H s)) f))⟩
/-- all lines from a word on. -/
def texG (l : List LFl) (ws : List Int) (sp H : Int) (s : LSpan) : Nat → Nat → Int → List LSet
  | 0, _, _ => []
  | n + 1, f, y => if f < ws.length then linN l ws sp H f y s :: texG l ws sp H s n (linN l ws sp H f y s).t.toNat ((linN l ws sp H f y s).y + H) else []
def texF (l : List LFl) (ws : List Int) (sp H y : Int) (s : LSpan) : List LSet := texG l ws sp H s ws.length 0 y
theorem lin_t {l : List LFl} {ws : List Int} {sp H y : Int} {f : Nat} {s : LSpan} (hf : f < ws.length) : ∃ t : Nat, (linN l ws sp H f y s).t = t ∧ f < t ∧ t ≤ ws.length := ⟨_, rfl, takeT_bd ws sp _ f hf⟩
set_option maxRecDepth 100000 in
set_option maxHeartbeats 4000000 in
theorem line12_ok (l : List LFl) (ws : List Int) (sp H : Int) (f : Nat) (y : Int) (s : LSpan) (h : LinOk l H s) (hw : WorOk ws sp) (hf : f < ws.length) (hy : -2251799813685248 ≤ y ∧ y ≤ 4503599627370496) :
    FnOk Try.prog 100 [.sl 7 (l.map cFl), .sl 1 (ws.map cInt), .raw (.int .i64 sp), .raw (.int .i64 H), .raw (.int .i64 f), .raw (.int .i64 y), aSpan s] [] (aSet (linN l ws sp H f y s)) [] := by
  have hlen := hw.len
  have hgd : ws.getD f 0 = ws[f] := by simp [List.getD_eq_getElem?_getD, hf]
  have eL : aSet (linN l ws sp H f y s) = .agg [.raw (.int .i64 f), .raw (.int .i64 (takeT ws sp (lenS (bandF l (romY l (ws.getD f 0) H y s) H s)) f : Nat)), .raw (.int .i64 (bandF l (romY l (ws.getD f 0) H y s) H s).a), .raw (.int .i64 (romY l (ws.getD f 0) H y s)), .raw (.int .i64 (wideN sp (seg ws f (takeT ws sp (lenS (bandF l (romY l (ws.getD f 0) H y s) H s)) f))))] := rfl
  rw [eL, hgd]
  have hs := band_nearL h (romY l ws[f] H y s) H
  have htk := take_ok ws sp (lenS (bandF l (romY l ws[f] H y s) H s)) f hw
  rw [takeF_nat hf] at htk
  refine fn_of_awp Try.func100 rfl (by kernel_rfl) (by kernel_rfl) (Nat.le_of_ble_eq_true rfl) Try.results100 ?_
  simp only [go_sem, Bool.not_eq_true', Bool.not_eq_false']
  repeat' first | contradiction | intro _ | refine And.intro ?_ ?_ | refine ex_get (by omega) ?_ | (show drawB _ _ = true; kernel_rfl) | (refine ret2 [] (by simp only [go_sem, Bool.not_eq_true', Bool.not_eq_false', List.length_map]; rfl) ?_; simp only [go_sem, Bool.not_eq_true', Bool.not_eq_false', List.length_map]) | (refine acall2 [] (room12_ok l ws[f] H y s h hy) (by simp only [go_sem, Bool.not_eq_true', Bool.not_eq_false']; rfl) (fit_of (by simp only [go_sem, Bool.not_eq_true', Bool.not_eq_false']) (by simp only [go_sem, Bool.not_eq_true', Bool.not_eq_false']) (by simp only [go_sem, Bool.not_eq_true', Bool.not_eq_false']) (by simp only [go_sem, Bool.not_eq_true', Bool.not_eq_false']) (by simp only [go_sem, Bool.not_eq_true', Bool.not_eq_false']) (by simp only [go_sem, Bool.not_eq_true', Bool.not_eq_false']) (by simp only [go_sem, Bool.not_eq_true', Bool.not_eq_false'])) ?_; simp only [go_sem, Bool.not_eq_true', Bool.not_eq_false', List.length_map]) | (refine acall2 [] (slen_ok (bandF l (romY l ws[f] H y s) H s) hs) (by simp only [go_sem, Bool.not_eq_true', Bool.not_eq_false']; rfl) (fit_of (by simp only [go_sem, Bool.not_eq_true', Bool.not_eq_false']) (by simp only [go_sem, Bool.not_eq_true', Bool.not_eq_false']) (by simp only [go_sem, Bool.not_eq_true', Bool.not_eq_false']) (by simp only [go_sem, Bool.not_eq_true', Bool.not_eq_false']) (by simp only [go_sem, Bool.not_eq_true', Bool.not_eq_false']) (by simp only [go_sem, Bool.not_eq_true', Bool.not_eq_false']) (by simp only [go_sem, Bool.not_eq_true', Bool.not_eq_false'])) ?_; simp only [go_sem, Bool.not_eq_true', Bool.not_eq_false', List.length_map]) | (refine acall2 [] (htk) (by simp only [go_sem, Bool.not_eq_true', Bool.not_eq_false']; rfl) (fit_of (by simp only [go_sem, Bool.not_eq_true', Bool.not_eq_false']) (by simp only [go_sem, Bool.not_eq_true', Bool.not_eq_false']) (by simp only [go_sem, Bool.not_eq_true', Bool.not_eq_false']) (by simp only [go_sem, Bool.not_eq_true', Bool.not_eq_false']) (by simp only [go_sem, Bool.not_eq_true', Bool.not_eq_false']) (by simp only [go_sem, Bool.not_eq_true', Bool.not_eq_false']) (by simp only [go_sem, Bool.not_eq_true', Bool.not_eq_false'])) ?_; simp only [go_sem, Bool.not_eq_true', Bool.not_eq_false', List.length_map])
  all_goals first
    | omega
    | (refine ⟨(show drawB _ _ = true by kernel_rfl), ?_⟩)
    | skip
set_option maxRecDepth 100000 in
set_option maxHeartbeats 4000000 in
theorem rline12_ok (l : List LFl) (ws : List Int) (sp H : Int) (f : Nat) (y : Int) (s : LSpan) (h : LinOk l H s) (hw : WorOk ws sp) (hf : f < ws.length) (hy : -2251799813685248 ≤ y ∧ y ≤ 4503599627370496) :
    FnOk Try.prog 117 [.sl 7 (l.map cFl), .sl 1 (ws.map cInt), .raw (.int .i64 sp), .raw (.int .i64 H), .raw (.int .i64 f), .raw (.int .i64 y), aSpan s] [] (aSet (linN l ws sp H f y s)) [] := by
  have hlen := hw.len
  have hgd : ws.getD f 0 = ws[f] := by simp [List.getD_eq_getElem?_getD, hf]
  have eL : aSet (linN l ws sp H f y s) = .agg [.raw (.int .i64 f), .raw (.int .i64 (takeT ws sp (lenS (bandF l (romY l (ws.getD f 0) H y s) H s)) f : Nat)), .raw (.int .i64 (bandF l (romY l (ws.getD f 0) H y s) H s).a), .raw (.int .i64 (romY l (ws.getD f 0) H y s)), .raw (.int .i64 (wideN sp (seg ws f (takeT ws sp (lenS (bandF l (romY l (ws.getD f 0) H y s) H s)) f))))] := rfl
  rw [eL, hgd]
  have hs := band_nearL h (romY l ws[f] H y s) H
  have htk := rtake_ok ws sp (lenS (bandF l (romY l ws[f] H y s) H s)) f hw
  rw [takeF_nat hf] at htk
  refine fn_of_awp Try.func117 rfl (by kernel_rfl) (by kernel_rfl) (Nat.le_of_ble_eq_true rfl) Try.results117 ?_
  simp only [go_sem, Bool.not_eq_true', Bool.not_eq_false']
  repeat' first | contradiction | intro _ | refine And.intro ?_ ?_ | refine ex_get (by omega) ?_ | (show drawB _ _ = true; kernel_rfl) | (refine ret2 [] (by simp only [go_sem, Bool.not_eq_true', Bool.not_eq_false', List.length_map]; rfl) ?_; simp only [go_sem, Bool.not_eq_true', Bool.not_eq_false', List.length_map]) | (refine acall2 [] (rroom12_ok l ws[f] H s h (cntP l y + 1) y (Nat.lt_succ_self _) hy) (by simp only [go_sem, Bool.not_eq_true', Bool.not_eq_false']; rfl) (fit_of (by simp only [go_sem, Bool.not_eq_true', Bool.not_eq_false']) (by simp only [go_sem, Bool.not_eq_true', Bool.not_eq_false']) (by simp only [go_sem, Bool.not_eq_true', Bool.not_eq_false']) (by simp only [go_sem, Bool.not_eq_true', Bool.not_eq_false']) (by simp only [go_sem, Bool.not_eq_true', Bool.not_eq_false']) (by simp only [go_sem, Bool.not_eq_true', Bool.not_eq_false']) (by simp only [go_sem, Bool.not_eq_true', Bool.not_eq_false'])) ?_; simp only [go_sem, Bool.not_eq_true', Bool.not_eq_false', List.length_map]) | (refine acall2 [] (rlen2_ok (bandF l (romY l ws[f] H y s) H s) hs) (by simp only [go_sem, Bool.not_eq_true', Bool.not_eq_false']; rfl) (fit_of (by simp only [go_sem, Bool.not_eq_true', Bool.not_eq_false']) (by simp only [go_sem, Bool.not_eq_true', Bool.not_eq_false']) (by simp only [go_sem, Bool.not_eq_true', Bool.not_eq_false']) (by simp only [go_sem, Bool.not_eq_true', Bool.not_eq_false']) (by simp only [go_sem, Bool.not_eq_true', Bool.not_eq_false']) (by simp only [go_sem, Bool.not_eq_true', Bool.not_eq_false']) (by simp only [go_sem, Bool.not_eq_true', Bool.not_eq_false'])) ?_; simp only [go_sem, Bool.not_eq_true', Bool.not_eq_false', List.length_map]) | (refine acall2 [] (htk) (by simp only [go_sem, Bool.not_eq_true', Bool.not_eq_false']; rfl) (fit_of (by simp only [go_sem, Bool.not_eq_true', Bool.not_eq_false']) (by simp only [go_sem, Bool.not_eq_true', Bool.not_eq_false']) (by simp only [go_sem, Bool.not_eq_true', Bool.not_eq_false']) (by simp only [go_sem, Bool.not_eq_true', Bool.not_eq_false']) (by simp only [go_sem, Bool.not_eq_true', Bool.not_eq_false']) (by simp only [go_sem, Bool.not_eq_true', Bool.not_eq_false']) (by simp only [go_sem, Bool.not_eq_true', Bool.not_eq_false'])) ?_; simp only [go_sem, Bool.not_eq_true', Bool.not_eq_false', List.length_map])
  all_goals first
    | omega
    | (refine ⟨(show drawB _ _ = true by kernel_rfl), ?_⟩)
    | skip
theorem tex_len {l : List LFl} {ws : List Int} {sp H : Int} {s : LSpan} : ∀ (n f : Nat) (y : Int), (texG l ws sp H s n f y).length ≤ n
  | 0, _, _ => Nat.le_refl _
  | n + 1, f, y => by
    rw [texG]
    split
    · have := tex_len (l := l) (ws := ws) (sp := sp) (H := H) (s := s) n (linN l ws sp H f y s).t.toNat ((linN l ws sp H f y s).y + H)
      simp only [List.length_cons]
      omega
    · exact Nat.zero_le _
structure TxX where
  n : Nat
  f : Nat
  y : Int
  o : List LSet
structure TxI (l : List LFl) (ws : List Int) (sp H : Int) (s : LSpan) (R : List LSet) (z : TxX) : Prop where
  e : z.o ++ texG l ws sp H s z.n z.f z.y = R
  fn : ws.length ≤ z.f + z.n
  ol : z.o.length ≤ z.f
  fl : z.f ≤ ws.length
  lo : -2251799813685248 ≤ z.y
  hi : z.y ≤ 2251799813685248 + z.f * 1099511627776
theorem tx_next {l : List LFl} {ws : List Int} {sp H : Int} {s : LSpan} {R : List LSet} {z : TxX} (hn : l.all nearF = true) (hH : 0 ≤ H ∧ H ≤ 1099511627776) (h : TxI l ws sp H s R z) (hf : z.f < ws.length) :
    ∃ m t, z.n = m + 1 ∧ (linN l ws sp H z.f z.y s).t = (t : Nat) ∧ z.f < t ∧ TxI l ws sp H s R ⟨m, t, (linN l ws sp H z.f z.y s).y + H, z.o ++ [linN l ws sp H z.f z.y s]⟩ := by
  obtain ⟨n, f, y, o⟩ := z
  obtain ⟨h1, h2, h3, h4, h5, h6⟩ := h
  simp only at h1 h2 h3 h4 h5 h6 hf ⊢
  obtain ⟨m, rfl⟩ : ∃ m, n = m + 1 := ⟨n - 1, by omega⟩
  obtain ⟨t, e1, e2, e3⟩ := lin_t (l := l) (sp := sp) (H := H) (y := y) (s := s) hf
  have hr : (linN l ws sp H f y s).y = y ∨ (-2251799813685248 ≤ (linN l ws sp H f y s).y ∧ (linN l ws sp H f y s).y ≤ 2251799813685248) := rom_bd hn
  refine ⟨m, t, rfl, e1, e2, ⟨?_, ?_, ?_, e3, ?_, ?_⟩⟩
  · rw [← h1, texG, if_pos hf, e1, Int.toNat_natCast, List.append_assoc]
    rfl
  · simp only; omega
  · simp only [List.length_append, List.length_cons, List.length_nil]; omega
  · simp only; omega
  · simp only; omega
set_option maxRecDepth 100000 in
set_option maxHeartbeats 4000000 in
theorem text12_ok (l : List LFl) (ws : List Int) (sp H y : Int) (s : LSpan) (h : LinOk l H s) (hw : WorOk ws sp) (hH : 0 ≤ H ∧ H ≤ 1099511627776) (hy : -2251799813685248 ≤ y ∧ y ≤ 2251799813685248) :
    FnOk Try.prog 72 [.sl 7 (l.map cFl), .sl 1 (ws.map cInt), .raw (.int .i64 sp), .raw (.int .i64 H), .raw (.int .i64 y), aSpan s] [] (.hdr 8) [(8, .row 131 5 ((texF l ws sp H y s).map cSet))] := by
  have hlen := hw.len
  refine fn_of_swp Try.func72 rfl (by kernel_rfl) (by kernel_rfl) (Nat.le_of_ble_eq_true rfl) Try.results72 ?_
  (refine swp_seqW ?_; simp only [go_sem, Bool.not_eq_true', Bool.not_eq_false'])
  (refine swp_seqW ?_; simp only [go_sem, Bool.not_eq_true', Bool.not_eq_false'])
  refine swp_cutS (fun _ : Unit => ⟨[(13, .hdr 800)], [(800, some (.row 131 5 ((texF l ws sp H y s).map cSet)))], none⟩) (fun _ => True) 120 ?_ ?_
  · (refine swp_lastW ?_; simp only [go_sem, Bool.not_eq_true', Bool.not_eq_false'])
    refine aloop2 [] (fun z : TxX => ⟨[(0, .sl 7 (l.map cFl)), (1, .sl 1 (ws.map cInt)), (2, .raw (.int .i64 sp)), (3, .raw (.int .i64 H)), (4, .raw (.int .i64 z.y)), (11, .hdr 8), (13, .hdr 800), (14, .raw (.int .i64 z.f))], [(8, some (.cells 87 [.raw (.int .i64 s.a), .raw (.int .i64 s.b)])), (800, some (.row 131 5 (z.o.map cSet)))], none⟩) (TxI l ws sp H s (texF l ws sp H y s)) (fun z => ws.length - z.f) 120 ⟨ws.length, 0, y, []⟩ (by simp only [go_sem, Bool.not_eq_true', Bool.not_eq_false']; rfl) (by simp only [go_sem, Bool.not_eq_true', Bool.not_eq_false', List.map_nil]) ?_ ?_
    · exact ⟨rfl, by simp, Nat.le_refl _, Nat.zero_le _, hy.1, by simp only; omega⟩
    rintro z hz
    have hnx := @tx_next l ws sp H s _ z h.near hH hz
    have hdn : ¬ z.f < ws.length → z.o = texF l ws sp H y s := fun q => by
      rw [← hz.e]
      cases hn : z.n with
      | zero => rw [texG, List.append_nil]
      | succ n => rw [texG, if_neg q, List.append_nil]
    obtain ⟨-, -, h3, h4, h5, h6⟩ := hz
    obtain ⟨n, f, y', o⟩ := z
    simp only at h3 h4 h5 h6 hnx hdn
    simp only [go_sem, Bool.not_eq_true', Bool.not_eq_false', List.length_map]
    refine ⟨fun q => ?_, fun q => ?_⟩
    · have hf : f < ws.length := by omega
      obtain ⟨m, t, e1, e2, e3, hI⟩ := hnx hf
      have hI2 := hI.lo
      have hI3 := hI.hi
      have hI4 := hI.fl
      simp only at hI2 hI3 hI4
      have hL := line12_ok l ws sp H f y' s h hw hf ⟨h5, by omega⟩
      have hro := rom_bd (l := l) (w := ws.getD f 0) (H := H) (y := y') (s := s) h.near
      (refine acall2 [] (hL) (by simp only [go_sem, Bool.not_eq_true', Bool.not_eq_false']; rfl) (fit_of (by simp only [go_sem, Bool.not_eq_true', Bool.not_eq_false']) (by simp only [go_sem, Bool.not_eq_true', Bool.not_eq_false']) (by simp only [go_sem, Bool.not_eq_true', Bool.not_eq_false']) (by simp only [go_sem, Bool.not_eq_true', Bool.not_eq_false']) (by simp only [go_sem, Bool.not_eq_true', Bool.not_eq_false']) (by simp only [go_sem, Bool.not_eq_true', Bool.not_eq_false']) (by simp only [go_sem, Bool.not_eq_true', Bool.not_eq_false'])) ?_; simp only [go_sem, Bool.not_eq_true', Bool.not_eq_false'])
      rw [e2]
      generalize hx : linN l ws sp H f y' s = x at *
      have hxy : x.y = y' ∨ (-2251799813685248 ≤ x.y ∧ x.y ≤ 2251799813685248) := by rw [← hx]; exact hro
      repeat' first | contradiction | intro _ | refine And.intro ?_ ?_ | refine ex_get (by omega) ?_ | (show drawB _ _ = true; kernel_rfl) | (refine ret2 [] (by simp only [go_sem, Bool.not_eq_true', Bool.not_eq_false', List.length_map]; rfl) ?_; simp only [go_sem, Bool.not_eq_true', Bool.not_eq_false', List.length_map])
      all_goals first
        | omega
        | (refine ⟨(show drawB _ _ = true by kernel_rfl), ?_⟩)
        | skip
      (refine loop_end [] (⟨m, t, x.y + H, o ++ [x]⟩) (by simp only [go_sem, Bool.not_eq_true', Bool.not_eq_false']; rfl) ?_ ?_ ?_; (focus first | omega | (simp only; omega)); (focus (simp only [go_sem, Bool.not_eq_true', Bool.not_eq_false', List.map_append, List.map_cons, List.map_nil, e2]; done)))
      exact hI
    · rw [hdn (by omega)]
      (refine cut_end [] (()) (by simp only [go_sem, Bool.not_eq_true', Bool.not_eq_false']; rfl) ?_ ?_; (focus (simp only [go_sem, Bool.not_eq_true', Bool.not_eq_false']; done)))
      trivial
  rintro - -
  (refine swp_lastW ?_; simp only [go_sem, Bool.not_eq_true', Bool.not_eq_false'])
  (refine ret2 [] (by simp only [go_sem, Bool.not_eq_true', Bool.not_eq_false']; rfl) ?_; simp only [go_sem, Bool.not_eq_true', Bool.not_eq_false'])
set_option maxRecDepth 100000 in
set_option maxHeartbeats 4000000 in
theorem rtext12_ok (l : List LFl) (ws : List Int) (sp H y : Int) (s : LSpan) (h : LinOk l H s) (hw : WorOk ws sp) (hH : 0 ≤ H ∧ H ≤ 1099511627776) (hy : -2251799813685248 ≤ y ∧ y ≤ 2251799813685248) :
    FnOk Try.prog 95 [.sl 7 (l.map cFl), .sl 1 (ws.map cInt), .raw (.int .i64 sp), .raw (.int .i64 H), .raw (.int .i64 y), aSpan s] [] (.hdr 8) [(8, .row 131 5 ((texF l ws sp H y s).map cSet))] := by
  have hlen := hw.len
  refine fn_of_swp Try.func95 rfl (by kernel_rfl) (by kernel_rfl) (Nat.le_of_ble_eq_true rfl) Try.results95 ?_
  (refine swp_seqW ?_; simp only [go_sem, Bool.not_eq_true', Bool.not_eq_false'])
  (refine swp_seqW ?_; simp only [go_sem, Bool.not_eq_true', Bool.not_eq_false'])
  (refine swp_seqW ?_; simp only [go_sem, Bool.not_eq_true', Bool.not_eq_false'])
  refine swp_cutS (fun _ : Unit => ⟨[(13, .hdr 800)], [(800, some (.row 131 5 ((texF l ws sp H y s).map cSet)))], none⟩) (fun _ => True) 120 ?_ ?_
  · (refine swp_lastW ?_; simp only [go_sem, Bool.not_eq_true', Bool.not_eq_false'])
    refine aloop2 [] (fun z : TxX => ⟨[(0, .sl 7 (l.map cFl)), (1, .sl 1 (ws.map cInt)), (2, .raw (.int .i64 sp)), (3, .raw (.int .i64 H)), (4, .raw (.int .i64 z.y)), (11, .hdr 8), (13, .hdr 800), (14, .raw (.int .i64 z.f))], [(8, some (.cells 87 [.raw (.int .i64 s.a), .raw (.int .i64 s.b)])), (800, some (.row 131 5 (z.o.map cSet)))], none⟩) (TxI l ws sp H s (texF l ws sp H y s)) (fun z => ws.length - z.f) 120 ⟨ws.length, 0, y, []⟩ (by simp only [go_sem, Bool.not_eq_true', Bool.not_eq_false']; rfl) (by simp only [go_sem, Bool.not_eq_true', Bool.not_eq_false', List.map_nil]) ?_ ?_
    · exact ⟨rfl, by simp, Nat.le_refl _, Nat.zero_le _, hy.1, by simp only; omega⟩
    rintro z hz
    have hnx := @tx_next l ws sp H s _ z h.near hH hz
    have hdn : ¬ z.f < ws.length → z.o = texF l ws sp H y s := fun q => by
      rw [← hz.e]
      cases hn : z.n with
      | zero => rw [texG, List.append_nil]
      | succ n => rw [texG, if_neg q, List.append_nil]
    obtain ⟨-, -, h3, h4, h5, h6⟩ := hz
    obtain ⟨n, f, y', o⟩ := z
    simp only at h3 h4 h5 h6 hnx hdn
    simp only [go_sem, Bool.not_eq_true', Bool.not_eq_false', List.length_map]
    refine ⟨fun q => ?_, fun q => ?_⟩
    · have hf : f < ws.length := by omega
      obtain ⟨m, t, e1, e2, e3, hI⟩ := hnx hf
      have hI2 := hI.lo
      have hI3 := hI.hi
      have hI4 := hI.fl
      simp only at hI2 hI3 hI4
      have hL := rline12_ok l ws sp H f y' s h hw hf ⟨h5, by omega⟩
      have hro := rom_bd (l := l) (w := ws.getD f 0) (H := H) (y := y') (s := s) h.near
      (refine acall2 [] (hL) (by simp only [go_sem, Bool.not_eq_true', Bool.not_eq_false']; rfl) (fit_of (by simp only [go_sem, Bool.not_eq_true', Bool.not_eq_false']) (by simp only [go_sem, Bool.not_eq_true', Bool.not_eq_false']) (by simp only [go_sem, Bool.not_eq_true', Bool.not_eq_false']) (by simp only [go_sem, Bool.not_eq_true', Bool.not_eq_false']) (by simp only [go_sem, Bool.not_eq_true', Bool.not_eq_false']) (by simp only [go_sem, Bool.not_eq_true', Bool.not_eq_false']) (by simp only [go_sem, Bool.not_eq_true', Bool.not_eq_false'])) ?_; simp only [go_sem, Bool.not_eq_true', Bool.not_eq_false'])
      rw [e2]
      generalize hx : linN l ws sp H f y' s = x at *
      have hxy : x.y = y' ∨ (-2251799813685248 ≤ x.y ∧ x.y ≤ 2251799813685248) := by rw [← hx]; exact hro
      repeat' first | contradiction | intro _ | refine And.intro ?_ ?_ | refine ex_get (by omega) ?_ | (show drawB _ _ = true; kernel_rfl) | (refine ret2 [] (by simp only [go_sem, Bool.not_eq_true', Bool.not_eq_false', List.length_map]; rfl) ?_; simp only [go_sem, Bool.not_eq_true', Bool.not_eq_false', List.length_map])
      all_goals first
        | omega
        | (refine ⟨(show drawB _ _ = true by kernel_rfl), ?_⟩)
        | skip
      (refine loop_end [] (⟨m, t, x.y + H, o ++ [x]⟩) (by simp only [go_sem, Bool.not_eq_true', Bool.not_eq_false']; rfl) ?_ ?_ ?_; (focus first | omega | (simp only; omega)); (focus (simp only [go_sem, Bool.not_eq_true', Bool.not_eq_false', List.map_append, List.map_cons, List.map_nil, e2]; done)))
      exact hI
    · rw [hdn (by omega)]
      (refine cut_end [] (()) (by simp only [go_sem, Bool.not_eq_true', Bool.not_eq_false']; rfl) ?_ ?_; (focus (simp only [go_sem, Bool.not_eq_true', Bool.not_eq_false']; done)))
      trivial
  rintro - -
  (refine swp_lastW ?_; simp only [go_sem, Bool.not_eq_true', Bool.not_eq_false'])
  (refine ret2 [] (by simp only [go_sem, Bool.not_eq_true', Bool.not_eq_false']; rfl) ?_; simp only [go_sem, Bool.not_eq_true', Bool.not_eq_false'])
end Go.Proofs.Ytblmebjhhanoaaa
