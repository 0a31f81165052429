/- CONTRACTS of the functions, and plain laws, joined out of: GScrA GScrB GScrC NodO RecP GRecA GRecB GRecC GBanA GBanB GBanC GBanD GAtmA AtmO GValA GValB GValC GTreA GTreB GTreC GTreD GTreE GTreF GTreG GTreH GTreI GTreJ GChkA GAtoA GAtoB. -/
import Derived.Test.YtblmebjhhanoaaaChecked
import Derived.Test.YtblmebjhhanoaaaKE3
/- THE SCRIPT'S READER: tokens (of plain letters, without remarks). -/
/- G -/
/- BOOLS -/
set_option linter.unusedSimpArgs false
set_option linter.unusedVariables false
namespace Go.Proofs.Ytblmebjhhanoaaa
open Go.RowKit

def ascii (s : ByteArray) : Prop := ∀ q : Nat, q < s.size → byteAt s q ≤ 127
theorem byteAt_ge (s : ByteArray) (q : Nat) : 0 ≤ byteAt s q := by unfold byteAt; omega
def inB (s : ByteArray) (k : Nat) (a b : Int) : Bool := decide (k < s.size ∧ a ≤ byteAt s k ∧ byteAt s k ≤ b)
set_option maxRecDepth 100000 in
theorem in4_ok (s : ByteArray) (k : Nat) (a b : Int) : FnOk Try.prog 85 [.raw (.string s), .raw (.int .i64 k), .raw (.int .u8 a), .raw (.int .u8 b)] [] (.raw (.bool (inB s k a b))) [] := by
  refine fn_of_awp Try.func85 rfl (by kernel_rfl) (by kernel_rfl) (Nat.le_of_ble_eq_true rfl) Try.results85 ?_
  simp only [go_sem, Bool.not_eq_true', Bool.not_eq_false']
  repeat' first | contradiction | intro _ | refine And.intro ?_ ?_ | refine ex_get (by omega) ?_ | (show drawB _ _ = true; kernel_rfl) | (refine ret2 [] (by simp only [go_sem, Bool.not_eq_true', Bool.not_eq_false']; rfl) ?_; simp only [go_sem, Bool.not_eq_true', Bool.not_eq_false'])
  all_goals first
    | omega
    | (unfold inB; refine decide_eq_decide.2 ?_; omega)
    | (unfold inB; refine (decide_eq_false ?_); omega)
    | (unfold inB; refine (decide_eq_false ?_).symm; omega)
    | skip
set_option maxRecDepth 100000 in
theorem size4_ok (s : ByteArray) (k : Nat) (ha : ascii s) (hk : k < s.size) : FnOk Try.prog 84 [.raw (.string s), .raw (.int .i64 k)] [] (.raw (.int .i64 1)) [] := by
  refine fn_of_swp Try.func84 rfl (by kernel_rfl) (by kernel_rfl) (Nat.le_of_ble_eq_true rfl) Try.results84 ?_
  have e : inB s k 0 127 = true := by
    unfold inB
    have := byteAt_ge s k
    have := ha k hk
    exact decide_eq_true ⟨hk, by omega, by omega⟩
  (refine swp_seqW ?_; simp only [go_sem, Bool.not_eq_true', Bool.not_eq_false'])
  (refine swp_seqW ?_; simp only [go_sem, Bool.not_eq_true', Bool.not_eq_false'])
  (refine acall2 [] (in4_ok s k 0 127) (by simp only [go_sem, Bool.not_eq_true', Bool.not_eq_false']; rfl) (fit_of (by simp only [go_sem, Bool.not_eq_true', Bool.not_eq_false']) (by simp only [go_sem, Bool.not_eq_true', Bool.not_eq_false']) (by simp only [go_sem, Bool.not_eq_true', Bool.not_eq_false']) (by simp only [go_sem, Bool.not_eq_true', Bool.not_eq_false']) (by simp only [go_sem, Bool.not_eq_true', Bool.not_eq_false']) (by simp only [go_sem, Bool.not_eq_true', Bool.not_eq_false']) (by simp only [go_sem, Bool.not_eq_true', Bool.not_eq_false'])) ?_; simp only [go_sem, Bool.not_eq_true', Bool.not_eq_false', e])
set_option maxRecDepth 100000 in
theorem rune4_ok (s : ByteArray) (k : Nat) (ha : ascii s) (hk : k < s.size) : FnOk Try.prog 86 [.raw (.string s), .raw (.int .i64 k), .raw (.int .i64 1)] [] (.raw (.int .i32 (byteAt s k))) [] := by
  refine fn_of_swp Try.func86 rfl (by kernel_rfl) (by kernel_rfl) (Nat.le_of_ble_eq_true rfl) Try.results86 ?_
  have h1 := byteAt_ge s k
  have h2 := ha k hk
  have e : IntKind.i32.wrap (byteAt s k) = byteAt s k := IntWalk.i32_in _ ⟨by omega, by omega⟩
  (refine swp_seqW ?_; simp only [go_sem, Bool.not_eq_true', Bool.not_eq_false'])
  (refine swp_seqW ?_; simp only [go_sem, Bool.not_eq_true', Bool.not_eq_false', Int.reduceToNat, Int.reduceLT, Int.reduceLE, Int.reduceEq, Int.reduceAdd, Int.reduceSub, Int.reduceMul, Int.reduceNeg, Int.reduceNe, decide_false, Int.cast_ofNat_Int, kSet, List.getElem?_cons_succ, List.getElem?_cons_zero, List.set_cons_succ, List.set_cons_zero, exists_eq_left', forall_const, true_implies])
  exact ⟨by omega, e.symm⟩
structure LTk where
  kind : Int
  sign : Int
  n : Int
  at_ : Int
deriving DecidableEq
def cTk (x : LTk) : List PV := [.raw (.int .i64 x.kind), .raw (.int .i32 x.sign), .raw (.int .i64 x.n), .raw (.int .i64 x.at_)]
attribute [go_sem] cTk
/-- digits from a place on. -/
def numS (s : ByteArray) : Nat → Nat → Int → Nat × Int
  | 0, e, n => (e, n)
  | f + 1, e, n => if inB s e 48 57 = true then numS s f (e + 1) (min (10 * n + (byteAt s e - 48)) 2199023255552) else (e, n)
def tokS (s : ByteArray) : Nat → Nat → Option (List LTk)
  | 0, _ => none
  | f + 1, k => if k < s.size then
      (if byteAt s k = 35 then none
       else if byteAt s k = 32 ∨ byteAt s k = 9 ∨ byteAt s k = 10 then tokS s f (k + 1)
       else if inB s k 48 57 = true then
         (let q := numS s (s.size - k) k 0
          if 1099511627776 < q.2 ∨ byteAt s k = 48 ∧ k + 1 < q.1 then none
          else match tokS s f q.1 with
            | some r => some (⟨2, 0, q.2, k⟩ :: r)
            | none => none)
       else match tokS s f (k + 1) with
         | some r => some (⟨1, byteAt s k, 0, k⟩ :: r)
         | none => none)
    else some []
theorem numS_end (s : ByteArray) : ∀ (f e : Nat) (n : Int), e + f = s.size → (numS s f e n).1 ≤ s.size ∧ e ≤ (numS s f e n).1
  | 0, e, n, h => ⟨by simp only [numS]; omega, by simp only [numS]; omega⟩
  | f + 1, e, n, h => by
    simp only [numS]
    split
    · have := numS_end s f (e + 1) (min (10 * n + (byteAt s e - 48)) 2199023255552) (by omega)
      omega
    · simp only; omega
structure LTz where
  k : Nat
  acc : List LTk
structure TokInv (s : ByteArray) (toks : List LTk) (z : LTz) : Prop where
  le : z.k ≤ s.size
  len : z.acc.length ≤ z.k
  ex : ∃ f rest, tokS s f z.k = some rest ∧ z.acc ++ rest = toks
inductive TokWay (s : ByteArray) (toks acc : List LTk) (k : Nat) : Prop
  | space (h : byteAt s k = 32 ∨ byteAt s k = 9 ∨ byteAt s k = 10) (hi : TokInv s toks ⟨k + 1, acc⟩)
  | sign (h : ¬ (byteAt s k = 32 ∨ byteAt s k = 9 ∨ byteAt s k = 10)) (hd : inB s k 48 57 = false) (hi : TokInv s toks ⟨k + 1, acc ++ [⟨1, byteAt s k, 0, k⟩]⟩)
  | num (h : ¬ (byteAt s k = 32 ∨ byteAt s k = 9 ∨ byteAt s k = 10)) (hd : inB s k 48 57 = true) (hn : ¬ (1099511627776 < (numS s (s.size - k) k 0).2 ∨ byteAt s k = 48 ∧ k + 1 < (numS s (s.size - k) k 0).1)) (hg : k < (numS s (s.size - k) k 0).1) (hi : TokInv s toks ⟨(numS s (s.size - k) k 0).1, acc ++ [⟨2, 0, (numS s (s.size - k) k 0).2, k⟩]⟩)
theorem numS_fwd (s : ByteArray) {f e : Nat} {n : Int} (h : e + f = s.size) (hd : inB s e 48 57 = true) : e < (numS s f e n).1 := by
  cases f with
  | zero =>
    have : e < s.size := (of_decide_eq_true hd).1
    omega
  | succ f =>
    simp only [numS]
    rw [if_pos hd]
    have := numS_end s f (e + 1) (min (10 * n + (byteAt s e - 48)) 2199023255552) (by omega)
    omega
theorem tok_way {s : ByteArray} {toks acc : List LTk} {k : Nat} (hk : k < s.size) (h : TokInv s toks ⟨k, acc⟩) : byteAt s k ≠ 35 ∧ TokWay s toks acc k := by
  obtain ⟨h1, h2, f, rest, h3, h4⟩ := h
  simp only at h1 h2 h3 h4
  cases f with
  | zero => simp [tokS] at h3
  | succ f =>
    simp only [tokS] at h3
    rw [if_pos hk] at h3
    split at h3
    · cases h3
    · next h35 =>
      refine ⟨h35, ?_⟩
      split at h3
      · next hs => exact .space hs ⟨hk, by simp only; omega, f, rest, h3, h4⟩
      · next hs =>
        split at h3
        · next hd =>
          split at h3
          · cases h3
          · next hn =>
            have hfw := numS_fwd s (f := s.size - k) (n := 0) (by omega) hd
            have hen := numS_end s (s.size - k) k 0 (by omega)
            split at h3
            · next r hr =>
              injection h3 with h3
              subst h3
              exact .num hs hd hn hfw ⟨hen.1, by simp; omega, f, r, hr, by rw [← h4]; simp⟩
            · cases h3
        · next hd =>
          split at h3
          · next r hr =>
            injection h3 with h3
            subst h3
            exact .sign hs (by simpa using hd) ⟨hk, by simp; omega, f, r, hr, by rw [← h4]; simp⟩
          · cases h3
theorem tok_end {s : ByteArray} {toks acc : List LTk} {k : Nat} (hk : ¬ k < s.size) (h : TokInv s toks ⟨k, acc⟩) : acc = toks := by
  obtain ⟨h1, h2, f, rest, h3, h4⟩ := h
  simp only at h3 h4
  cases f with
  | zero => simp [tokS] at h3
  | succ f =>
    simp only [tokS] at h3
    rw [if_neg hk] at h3
    injection h3 with h3
    subst h3
    simpa using h4
set_option maxRecDepth 100000 in
set_option maxHeartbeats 4000000 in
theorem tok4_ok (s : ByteArray) (toks : List LTk) (ha : ascii s) (hs : s.size ≤ 1000) (h : tokS s (s.size + 1) 0 = some toks) : FnOk Try.prog 65 [.raw (.string s)] [] (.tup [.hdr 8, .raw (.int .i64 0), .raw (.int .i64 0)]) [(8, .row 120 4 (toks.map cTk))] := by
  refine fn_of_swp Try.func65 rfl (by kernel_rfl) (by kernel_rfl) (Nat.le_of_ble_eq_true rfl) Try.results65 ?_
  (refine swp_seqW ?_; simp only [go_sem, Bool.not_eq_true', Bool.not_eq_false'])
  (refine swp_seqW ?_; simp only [go_sem, Bool.not_eq_true', Bool.not_eq_false'])
  (refine swp_seqW ?_; simp only [go_sem, Bool.not_eq_true', Bool.not_eq_false'])
  refine swp_seqS ?_
  (refine swp_seqW ?_; simp only [go_sem, Bool.not_eq_true', Bool.not_eq_false'])
  refine swp_block ?_
  refine swp_loop2 [] (fun z : LTz => ⟨[(0, .raw (.string s)), (5, .hdr 8), (6, .raw (.int .i64 0)), (7, .raw (.int .i64 z.k))], [(8, some (.row 120 4 (z.acc.map cTk)))], none⟩) (TokInv s toks) (fun z => s.size - z.k) 4 ⟨0, []⟩ (by simp only [go_sem, Bool.not_eq_true', Bool.not_eq_false']; rfl) (by simp only [go_sem, Bool.not_eq_true', Bool.not_eq_false']) ?_ ?_
  · exact ⟨Nat.zero_le _, Nat.le_refl _, _, _, h, rfl⟩
  · rintro ⟨k, acc⟩ hi
    have hi1 := hi.le
    have hi2 := hi.len
    simp only at hi1 hi2
    (refine swp_seqW ?_; simp only [go_sem, Bool.not_eq_true', Bool.not_eq_false', List.length_map])
    refine ⟨fun h5 => ?_, fun h5 => ?_⟩
    · have hk : k < s.size := by omega
      obtain ⟨h35, hw⟩ := tok_way hk hi
      clear hi h
      refine swp_block ?_
      (refine swp_seqW ?_; simp only [go_sem, Bool.not_eq_true', Bool.not_eq_false'])
      (refine acall2 [] (size4_ok s k ha hk) (by simp only [go_sem, Bool.not_eq_true', Bool.not_eq_false']; rfl) (fit_of (by simp only [go_sem, Bool.not_eq_true', Bool.not_eq_false']) (by simp only [go_sem, Bool.not_eq_true', Bool.not_eq_false']) (by simp only [go_sem, Bool.not_eq_true', Bool.not_eq_false']) (by simp only [go_sem, Bool.not_eq_true', Bool.not_eq_false']) (by simp only [go_sem, Bool.not_eq_true', Bool.not_eq_false']) (by simp only [go_sem, Bool.not_eq_true', Bool.not_eq_false']) (by simp only [go_sem, Bool.not_eq_true', Bool.not_eq_false'])) ?_; simp only [go_sem, Bool.not_eq_true', Bool.not_eq_false'])
      (refine swp_seqW ?_; simp only [go_sem, Bool.not_eq_true', Bool.not_eq_false', Int.reduceToNat, Int.reduceLT, Int.reduceLE, Int.reduceEq, Int.reduceAdd, Int.reduceSub, Int.reduceMul, Int.reduceNeg, Int.reduceNe, decide_false, Int.cast_ofNat_Int, kSet, List.getElem?_cons_succ, List.getElem?_cons_zero, List.set_cons_succ, List.set_cons_zero, exists_eq_left', forall_const, true_implies])
      (refine swp_seqW ?_; simp only [go_sem, Bool.not_eq_true', Bool.not_eq_false'])
      refine ⟨by omega, ?_⟩
      (refine swp_seqW ?_; simp only [go_sem, Bool.not_eq_true', Bool.not_eq_false', Int.reduceToNat, Int.reduceLT, Int.reduceLE, Int.reduceEq, Int.reduceAdd, Int.reduceSub, Int.reduceMul, Int.reduceNeg, Int.reduceNe, decide_false, Int.cast_ofNat_Int, kSet, List.getElem?_cons_succ, List.getElem?_cons_zero, List.set_cons_succ, List.set_cons_zero, exists_eq_left', forall_const, true_implies])
      (refine swp_seqW ?_; simp only [go_sem, Bool.not_eq_true', Bool.not_eq_false', h35])
      have hc0 := byteAt_ge s k
      have hc1 := ha k hk
      rcases hw with ⟨hsp, hi⟩ | ⟨hsp, hd, hi⟩ | ⟨hsp, hd, hn, hg, hi⟩
      · (refine swp_lastW ?_; simp only [go_sem, Bool.not_eq_true', Bool.not_eq_false', h35])
        repeat' first | contradiction | intro _ | refine And.intro ?_ ?_ | refine ex_get (by omega) ?_ | (show drawB _ _ = true; kernel_rfl) | (refine ret2 [] (by simp only [go_sem, Bool.not_eq_true', Bool.not_eq_false']; rfl) ?_; simp only [go_sem, Bool.not_eq_true', Bool.not_eq_false'])
        all_goals first
          | omega
          | ((refine loop_end [] (⟨k + 1, acc⟩) (by simp only [go_sem, Bool.not_eq_true', Bool.not_eq_false']; rfl) ?_ ?_ ?_; (focus first | omega | (simp only; omega)); (focus (simp only [go_sem, Bool.not_eq_true', Bool.not_eq_false']; done)))
             exact hi)
          | (exfalso; omega)
          | skip
      · refine swp_cutW (fun _ : Unit => ⟨[(0, .raw (.string s)), (5, .hdr 8), (6, .raw (.int .i64 0)), (7, .raw (.int .i64 k)), (8, .raw (.int .i64 1))], [(8, some (.row 120 4 (acc.map cTk)))], none⟩) (fun _ => True) 4 ?_ ?_
        · simp only [go_sem, Bool.not_eq_true', Bool.not_eq_false', h35]
          repeat' first | contradiction | intro _ | refine And.intro ?_ ?_ | refine ex_get (by omega) ?_ | (show drawB _ _ = true; kernel_rfl) | (refine ret2 [] (by simp only [go_sem, Bool.not_eq_true', Bool.not_eq_false']; rfl) ?_; simp only [go_sem, Bool.not_eq_true', Bool.not_eq_false'])
          all_goals first
            | omega
            | ((refine cut_end [] (()) (by simp only [go_sem, Bool.not_eq_true', Bool.not_eq_false']; rfl) ?_ ?_; (focus (simp only [go_sem, Bool.not_eq_true', Bool.not_eq_false']; done)))
               trivial)
            | skip
        rintro - -
        (refine swp_lastW ?_; simp only [go_sem, Bool.not_eq_true', Bool.not_eq_false'])
        (refine acall2 [] (in4_ok s k 48 57) (by simp only [go_sem, Bool.not_eq_true', Bool.not_eq_false']; rfl) (fit_of (by simp only [go_sem, Bool.not_eq_true', Bool.not_eq_false']) (by simp only [go_sem, Bool.not_eq_true', Bool.not_eq_false']) (by simp only [go_sem, Bool.not_eq_true', Bool.not_eq_false']) (by simp only [go_sem, Bool.not_eq_true', Bool.not_eq_false']) (by simp only [go_sem, Bool.not_eq_true', Bool.not_eq_false']) (by simp only [go_sem, Bool.not_eq_true', Bool.not_eq_false']) (by simp only [go_sem, Bool.not_eq_true', Bool.not_eq_false'])) ?_; simp only [go_sem, Bool.not_eq_true', Bool.not_eq_false', hd])
        (refine acall2 [] (rune4_ok s k ha hk) (by simp only [go_sem, Bool.not_eq_true', Bool.not_eq_false']; rfl) (fit_of (by simp only [go_sem, Bool.not_eq_true', Bool.not_eq_false']) (by simp only [go_sem, Bool.not_eq_true', Bool.not_eq_false']) (by simp only [go_sem, Bool.not_eq_true', Bool.not_eq_false']) (by simp only [go_sem, Bool.not_eq_true', Bool.not_eq_false']) (by simp only [go_sem, Bool.not_eq_true', Bool.not_eq_false']) (by simp only [go_sem, Bool.not_eq_true', Bool.not_eq_false']) (by simp only [go_sem, Bool.not_eq_true', Bool.not_eq_false'])) ?_; simp only [go_sem, Bool.not_eq_true', Bool.not_eq_false'])
        refine ⟨⟨by omega, by omega⟩, ⟨by omega, by omega⟩, ?_⟩
        (refine loop_end [] (⟨k + 1, acc ++ [⟨1, byteAt s k, 0, k⟩]⟩) (by simp only [go_sem, Bool.not_eq_true', Bool.not_eq_false']; rfl) ?_ ?_ ?_; (focus first | omega | (simp only; omega)); (focus (simp only [go_sem, Bool.not_eq_true', Bool.not_eq_false', List.map_append]; done)))
        exact hi
      · refine swp_cutW (fun _ : Unit => ⟨[(0, .raw (.string s)), (5, .hdr 8), (6, .raw (.int .i64 0)), (7, .raw (.int .i64 k)), (8, .raw (.int .i64 1)), (9, .raw (.int .u8 (byteAt s k)))], [(8, some (.row 120 4 (acc.map cTk)))], none⟩) (fun _ => True) 4 ?_ ?_
        · simp only [go_sem, Bool.not_eq_true', Bool.not_eq_false', h35]
          repeat' first | contradiction | intro _ | refine And.intro ?_ ?_ | refine ex_get (by omega) ?_ | (show drawB _ _ = true; kernel_rfl) | (refine ret2 [] (by simp only [go_sem, Bool.not_eq_true', Bool.not_eq_false']; rfl) ?_; simp only [go_sem, Bool.not_eq_true', Bool.not_eq_false'])
          all_goals first
            | omega
            | ((refine cut_end [] (()) (by simp only [go_sem, Bool.not_eq_true', Bool.not_eq_false']; rfl) ?_ ?_; (focus (simp only [go_sem, Bool.not_eq_true', Bool.not_eq_false']; done)))
               trivial)
        rintro - -
        (refine swp_seqW ?_; simp only [go_sem, Bool.not_eq_true', Bool.not_eq_false'])
        (refine acall2 [] (in4_ok s k 48 57) (by simp only [go_sem, Bool.not_eq_true', Bool.not_eq_false']; rfl) (fit_of (by simp only [go_sem, Bool.not_eq_true', Bool.not_eq_false']) (by simp only [go_sem, Bool.not_eq_true', Bool.not_eq_false']) (by simp only [go_sem, Bool.not_eq_true', Bool.not_eq_false']) (by simp only [go_sem, Bool.not_eq_true', Bool.not_eq_false']) (by simp only [go_sem, Bool.not_eq_true', Bool.not_eq_false']) (by simp only [go_sem, Bool.not_eq_true', Bool.not_eq_false']) (by simp only [go_sem, Bool.not_eq_true', Bool.not_eq_false'])) ?_; simp only [go_sem, Bool.not_eq_true', Bool.not_eq_false', hd])
        (refine swp_seqW ?_; simp only [go_sem, Bool.not_eq_true', Bool.not_eq_false'])
        refine swp_cutS (fun _ : Unit => ⟨[(0, .raw (.string s)), (5, .hdr 8), (6, .raw (.int .i64 0)), (7, .raw (.int .i64 k)), (9, .raw (.int .u8 (byteAt s k))), (10, .raw (.int .i64 (numS s (s.size - k) k 0).2)), (11, .raw (.int .i64 (numS s (s.size - k) k 0).1))], [(8, some (.row 120 4 (acc.map cTk)))], none⟩) (fun _ => True) 4 ?_ ?_
        · refine swp_block ?_
          refine swp_loop2 [] (fun z : KY Int => ⟨[(0, .raw (.string s)), (5, .hdr 8), (6, .raw (.int .i64 0)), (7, .raw (.int .i64 k)), (9, .raw (.int .u8 (byteAt s k))), (10, .raw (.int .i64 z.o)), (11, .raw (.int .i64 z.k))], [(8, some (.row 120 4 (acc.map cTk)))], none⟩) (fun z => z.k ≤ s.size ∧ 0 ≤ z.o ∧ z.o ≤ 2199023255552 ∧ numS s (s.size - z.k) z.k z.o = numS s (s.size - k) k 0) (fun z => s.size - z.k) 4 ⟨k, 0⟩ (by simp only [go_sem, Bool.not_eq_true', Bool.not_eq_false']; rfl) (by simp only [go_sem, Bool.not_eq_true', Bool.not_eq_false']) ?_ ?_
          · exact ⟨by show k ≤ s.size; omega, by simp, by simp, rfl⟩
          · rintro ⟨e, n⟩ ⟨q1, q2, q3, q4⟩
            simp only at q1 q2 q3 q4
            (refine swp_lastW ?_; simp only [go_sem, Bool.not_eq_true', Bool.not_eq_false'])
            (refine acall2 [] (in4_ok s e 48 57) (by simp only [go_sem, Bool.not_eq_true', Bool.not_eq_false']; rfl) (fit_of (by simp only [go_sem, Bool.not_eq_true', Bool.not_eq_false']) (by simp only [go_sem, Bool.not_eq_true', Bool.not_eq_false']) (by simp only [go_sem, Bool.not_eq_true', Bool.not_eq_false']) (by simp only [go_sem, Bool.not_eq_true', Bool.not_eq_false']) (by simp only [go_sem, Bool.not_eq_true', Bool.not_eq_false']) (by simp only [go_sem, Bool.not_eq_true', Bool.not_eq_false']) (by simp only [go_sem, Bool.not_eq_true', Bool.not_eq_false'])) ?_; simp only [go_sem, Bool.not_eq_true', Bool.not_eq_false'])
            refine ⟨fun h7 => ?_, fun h7 => ?_⟩
            · obtain ⟨h8, h9, h10⟩ : e < s.size ∧ 48 ≤ byteAt s e ∧ byteAt s e ≤ 57 := of_decide_eq_true h7
              have ew : IntKind.i64.wrap (byteAt s e - 48) = byteAt s e - 48 := IntWalk.i64_in _ ⟨by omega, by omega⟩
              have en : numS s (s.size - e) e n = numS s (s.size - (e + 1)) (e + 1) (min (10 * n + (byteAt s e - 48)) 2199023255552) := by
                rw [show s.size - e = (s.size - (e + 1)) + 1 by omega, numS, if_pos h7]
              simp only [ew]
              repeat' first | contradiction | intro _ | refine And.intro ?_ ?_ | refine ex_get (by omega) ?_ | (show drawB _ _ = true; kernel_rfl) | (refine ret2 [] (by simp only [go_sem, Bool.not_eq_true', Bool.not_eq_false']; rfl) ?_; simp only [go_sem, Bool.not_eq_true', Bool.not_eq_false'])
              all_goals first
                | omega
                | ((refine loop_end [] (⟨e + 1, min (10 * n + (byteAt s e - 48)) 2199023255552⟩) (by simp only [go_sem, Bool.not_eq_true', Bool.not_eq_false']; rfl) ?_ ?_ ?_; (focus first | omega | (simp only; omega)); (focus (simp only [go_sem, Bool.not_eq_true', Bool.not_eq_false']; done)))
                   exact ⟨by show e + 1 ≤ s.size; omega, by simp only; omega, by simp only; omega, by rw [← q4, en]⟩)
                | skip
            · have en : numS s (s.size - k) k 0 = (e, n) := by
                rw [← q4]
                cases hf : s.size - e with
                | zero => rfl
                | succ f => rw [numS, if_neg (by rw [h7]; decide)]
              rw [en]
              (refine cut_end [] (()) (by simp only [go_sem, Bool.not_eq_true', Bool.not_eq_false']; rfl) ?_ ?_; (focus (simp only [go_sem, Bool.not_eq_true', Bool.not_eq_false']; done)))
              trivial
        rintro - -
        have hen := numS_end s (s.size - k) k 0 (by omega)
        generalize numS s (s.size - k) k 0 = q at hn hg hi hen
        (refine swp_lastW ?_; simp only [go_sem, Bool.not_eq_true', Bool.not_eq_false'])
        repeat' first | contradiction | intro _ | refine And.intro ?_ ?_ | refine ex_get (by omega) ?_ | (show drawB _ _ = true; kernel_rfl) | (refine ret2 [] (by simp only [go_sem, Bool.not_eq_true', Bool.not_eq_false']; rfl) ?_; simp only [go_sem, Bool.not_eq_true', Bool.not_eq_false'])
        all_goals first
          | omega
          | ((refine loop_end [] (⟨q.1, acc ++ [⟨2, 0, q.2, k⟩]⟩) (by simp only [go_sem, Bool.not_eq_true', Bool.not_eq_false']; rfl) ?_ ?_ ?_; (focus first | omega | (simp only; omega)); (focus (simp only [go_sem, Bool.not_eq_true', Bool.not_eq_false', List.map_append]; done)))
             exact hi)
          | skip
    · rw [← tok_end (by omega) hi]
      (refine swp_lastW ?_; simp only [go_sem, Bool.not_eq_true', Bool.not_eq_false'])
      (refine ret2 [] (by simp only [go_sem, Bool.not_eq_true', Bool.not_eq_false']; rfl) ?_; simp only [go_sem, Bool.not_eq_true', Bool.not_eq_false'])
end Go.Proofs.Ytblmebjhhanoaaa
/- THE SCRIPT'S READER: what stands at a place; attributes. -/
/- G -/
/- BOOLS -/
/- GET get_tk -/
set_option linter.unusedSimpArgs false
set_option linter.unusedVariables false
namespace Go.Proofs.Ytblmebjhhanoaaa
open Go.RowKit

def tkAt (l : List LTk) (k : Nat) : LTk := l.getD k ⟨0, 0, 0, 0⟩
theorem get_tk {l : List LTk} {k : Nat} {C : LTk → Prop} (h : k < l.length) (hC : C (tkAt l k)) : ∃ x, l[k]? = some x ∧ C x :=
  ⟨tkAt l k, by simp [tkAt, List.getD_eq_getElem?_getD, h], hC⟩
def signB (l : List LTk) (k : Nat) (c : Int) : Bool := decide (k < l.length ∧ (tkAt l k).kind = 1 ∧ (tkAt l k).sign = c)
def numB (l : List LTk) (k : Nat) (a b : Int) : Bool := decide (k < l.length ∧ (tkAt l k).kind = 2 ∧ a ≤ (tkAt l k).n ∧ (tkAt l k).n ≤ b)
set_option maxRecDepth 100000 in
theorem sign5_ok (l : List LTk) (k : Nat) (c : Int) (hl : l.length ≤ 1000) : FnOk Try.prog 87 [.sl 4 (l.map cTk), .raw (.int .i64 k), .raw (.int .i32 c)] [] (.raw (.bool (signB l k c))) [] := by
  refine fn_of_awp Try.func87 rfl (by kernel_rfl) (by kernel_rfl) (Nat.le_of_ble_eq_true rfl) Try.results87 ?_
  simp only [go_sem, Bool.not_eq_true', Bool.not_eq_false', List.length_map]
  repeat' first | contradiction | intro _ | refine And.intro ?_ ?_ | refine get_tk (by omega) ?_ | refine ex_get (by omega) ?_ | (show drawB _ _ = true; kernel_rfl) | (refine ret2 [] (by simp only [go_sem, Bool.not_eq_true', Bool.not_eq_false']; rfl) ?_; simp only [go_sem, Bool.not_eq_true', Bool.not_eq_false'])
  all_goals first
    | omega
    | (unfold signB; refine decide_eq_decide.2 ?_; omega)
    | (unfold signB; refine (decide_eq_false ?_); omega)
    | (unfold signB; refine (decide_eq_false ?_).symm; omega)
    | skip
set_option maxRecDepth 100000 in
theorem num5_ok (l : List LTk) (k : Nat) (a b : Int) (hl : l.length ≤ 1000) : FnOk Try.prog 133 [.sl 4 (l.map cTk), .raw (.int .i64 k), .raw (.int .i64 a), .raw (.int .i64 b)] [] (.raw (.bool (numB l k a b))) [] := by
  refine fn_of_awp Try.func133 rfl (by kernel_rfl) (by kernel_rfl) (Nat.le_of_ble_eq_true rfl) Try.results133 ?_
  simp only [go_sem, Bool.not_eq_true', Bool.not_eq_false', List.length_map]
  repeat' first | contradiction | intro _ | refine And.intro ?_ ?_ | refine get_tk (by omega) ?_ | refine ex_get (by omega) ?_ | (show drawB _ _ = true; kernel_rfl) | (refine ret2 [] (by simp only [go_sem, Bool.not_eq_true', Bool.not_eq_false']; rfl) ?_; simp only [go_sem, Bool.not_eq_true', Bool.not_eq_false'])
  all_goals first
    | omega
    | (unfold numB; refine decide_eq_decide.2 ?_; omega)
    | (unfold numB; refine (decide_eq_false ?_); omega)
    | (unfold numB; refine (decide_eq_false ?_).symm; omega)
    | skip
set_option maxRecDepth 100000 in
theorem most5_ok : FnOk Try.prog 135 [] [] (.raw (.int .i64 1099511627776)) [] := by
  refine fn_of_awp Try.func135 rfl (by kernel_rfl) (by kernel_rfl) (Nat.le_of_ble_eq_true rfl) Try.results135 ?_
  simp only [go_sem, Bool.not_eq_true', Bool.not_eq_false']
def lettersS : ByteArray := ⟨#[109, 110, 112, 113, 105, 111, 119, 104, 66, 65, 73, 99]⟩
set_option maxRecDepth 100000 in
theorem letters5_ok : FnOk Try.prog 144 [] [] (.raw (.string lettersS)) [] := by
  refine fn_of_awp Try.func144 rfl (by kernel_rfl) (by kernel_rfl) (Nat.le_of_ble_eq_true rfl) Try.results144 ?_
  simp only [go_sem, Bool.not_eq_true', Bool.not_eq_false']
  rfl
def limA (c : Int) : Int := if c = 111 ∨ c = 119 ∨ c = 104 then 1 else 0
def limB (c : Int) : Int := if c = 66 ∨ c = 65 then 4 else if c = 73 then 1 else if c = 99 then 3 else 1099511627776
set_option maxRecDepth 100000 in
theorem limits5_ok (c : Int) : FnOk Try.prog 132 [.raw (.int .u8 c)] [] (.tup [.raw (.int .i64 (limA c)), .raw (.int .i64 (limB c))]) [] := by
  refine fn_of_awp Try.func132 rfl (by kernel_rfl) (by kernel_rfl) (Nat.le_of_ble_eq_true rfl) Try.results132 ?_
  simp only [go_sem, Bool.not_eq_true', Bool.not_eq_false']
  repeat' first | contradiction | intro _ | refine And.intro ?_ ?_ | refine get_tk (by omega) ?_ | refine ex_get (by omega) ?_ | (show drawB _ _ = true; kernel_rfl) | (refine ret2 [] (by simp only [go_sem, Bool.not_eq_true', Bool.not_eq_false']; rfl) ?_; simp only [go_sem, Bool.not_eq_true', Bool.not_eq_false']) | (refine acall2 [] (most5_ok) (by simp only [go_sem, Bool.not_eq_true', Bool.not_eq_false']; rfl) (fit_of (by simp only [go_sem, Bool.not_eq_true', Bool.not_eq_false']) (by simp only [go_sem, Bool.not_eq_true', Bool.not_eq_false']) (by simp only [go_sem, Bool.not_eq_true', Bool.not_eq_false']) (by simp only [go_sem, Bool.not_eq_true', Bool.not_eq_false']) (by simp only [go_sem, Bool.not_eq_true', Bool.not_eq_false']) (by simp only [go_sem, Bool.not_eq_true', Bool.not_eq_false']) (by simp only [go_sem, Bool.not_eq_true', Bool.not_eq_false'])) ?_; simp only [go_sem, Bool.not_eq_true', Bool.not_eq_false'])
  all_goals first
    | (unfold limA; split <;> omega)
    | (unfold limB; repeat' split; all_goals omega)
    | skip
structure LSty where
  top : Int
  bottom : Int
  padTop : Int
  padBottom : Int
  inset : Int
  orphans : Int
  widows : Int
  head : Int
  before : Int
  after : Int
  inside : Int
  clear : Int
deriving DecidableEq
def lSty (s : LSty) : List AV := [.raw (.int .i64 s.top), .raw (.int .i64 s.bottom), .raw (.int .i64 s.padTop), .raw (.int .i64 s.padBottom), .raw (.int .i64 s.inset), .raw (.int .i64 s.orphans), .raw (.int .i64 s.widows), .raw (.int .i64 s.head), .raw (.int .i64 s.before), .raw (.int .i64 s.after), .raw (.int .i64 s.inside), .raw (.int .i64 s.clear)]
def aSty (s : LSty) : AV := .agg (lSty s)
attribute [go_sem] lSty aSty
def withS (s : LSty) (c n : Int) : LSty :=
  ⟨if c = 109 then n else s.top, if c = 110 then n else s.bottom, if c = 112 then n else s.padTop, if c = 113 then n else s.padBottom, if c = 105 then n else s.inset, if c = 111 then n else s.orphans, if c = 119 then n else s.widows, if c = 104 then n else s.head, if c = 66 then n else s.before, if c = 65 then n else s.after, if c = 73 then n else s.inside, if c = 99 then n else s.clear⟩
set_option maxRecDepth 100000 in
set_option maxHeartbeats 4000000 in
theorem with5_ok (s : LSty) (c n : Int) : FnOk Try.prog 134 [aSty s, .raw (.int .u8 c), .raw (.int .i64 n)] [] (aSty (withS s c n)) [] := by
  refine fn_of_awp Try.func134 rfl (by kernel_rfl) (by kernel_rfl) (Nat.le_of_ble_eq_true rfl) Try.results134 ?_
  simp only [go_sem, Bool.not_eq_true', Bool.not_eq_false']
  repeat' first | contradiction | intro _ | refine And.intro ?_ ?_ | refine get_tk (by omega) ?_ | refine ex_get (by omega) ?_ | (show drawB _ _ = true; kernel_rfl) | (refine ret2 [] (by simp only [go_sem, Bool.not_eq_true', Bool.not_eq_false']; rfl) ?_; simp only [go_sem, Bool.not_eq_true', Bool.not_eq_false'])
  all_goals (simp only [withS]; first | (rw [if_pos (by omega)]; done) | (rw [if_neg (by omega)]; done))
def hasB (s : ByteArray) (c : Int) : Bool := (List.range s.size).any fun j => decide (byteAt s j = c)
theorem hasB_iff {s : ByteArray} {c : Int} : hasB s c = true ↔ ∃ j : Nat, j < s.size ∧ byteAt s j = c := by
  simp [hasB]
def letterS (l : List LTk) (k : Nat) (told : ByteArray) : Int := if k < l.length ∧ (tkAt l k).kind = 1 ∧ hasB lettersS (tkAt l k).sign = true ∧ hasB told (tkAt l k).sign = false then (tkAt l k).sign else 0
theorem letterS_yes {l : List LTk} {k : Nat} {told : ByteArray} {c : Int} (hs : signB l k c = true) (hc : hasB lettersS c = true) : letterS l k told = if hasB told c = true then 0 else c := by
  obtain ⟨h1, h2, h3⟩ : k < l.length ∧ (tkAt l k).kind = 1 ∧ (tkAt l k).sign = c := of_decide_eq_true hs
  unfold letterS
  rw [h3]
  cases hasB told c with
  | true => rw [if_neg (by simp)]; rfl
  | false => rw [if_pos ⟨h1, h2, hc, rfl⟩]; rfl
theorem letterS_no {l : List LTk} {k : Nat} {told : ByteArray} (h : ∀ j : Nat, j < 12 → signB l k (byteAt lettersS j) = false) : letterS l k told = 0 := by
  unfold letterS
  rw [if_neg]
  rintro ⟨h1, h2, h3, h4⟩
  obtain ⟨j, h5, h6⟩ := hasB_iff.1 h3
  have := h j h5
  rw [h6] at this
  exact absurd ⟨h1, h2, rfl⟩ (of_decide_eq_false this)
theorem lettersS_size : lettersS.size = 12 := rfl
set_option maxRecDepth 100000 in
set_option maxHeartbeats 4000000 in
theorem letter5_ok (l : List LTk) (k : Nat) (told : ByteArray) (hl : l.length ≤ 1000) (ht : told.size ≤ 1000) : FnOk Try.prog 131 [.sl 4 (l.map cTk), .raw (.int .i64 k), .raw (.string told)] [] (.raw (.int .u8 (letterS l k told))) [] := by
  refine fn_of_awp Try.func131 rfl (by kernel_rfl) (by kernel_rfl) (Nat.le_of_ble_eq_true rfl) Try.results131 ?_
  simp only [go_sem, Bool.not_eq_true', Bool.not_eq_false']
  (refine acall2 [] (letters5_ok) (by simp only [go_sem, Bool.not_eq_true', Bool.not_eq_false']; rfl) (fit_of (by simp only [go_sem, Bool.not_eq_true', Bool.not_eq_false']) (by simp only [go_sem, Bool.not_eq_true', Bool.not_eq_false']) (by simp only [go_sem, Bool.not_eq_true', Bool.not_eq_false']) (by simp only [go_sem, Bool.not_eq_true', Bool.not_eq_false']) (by simp only [go_sem, Bool.not_eq_true', Bool.not_eq_false']) (by simp only [go_sem, Bool.not_eq_true', Bool.not_eq_false']) (by simp only [go_sem, Bool.not_eq_true', Bool.not_eq_false'])) ?_; simp only [go_sem, Bool.not_eq_true', Bool.not_eq_false'])
  refine aloop2 [] (fun i : Nat => ⟨[(0, .sl 4 (l.map cTk)), (1, .raw (.int .i64 k)), (2, .raw (.string told)), (7, .raw (.string lettersS)), (8, .raw (.int .i64 i))], [], none⟩) (fun i => i ≤ 12 ∧ ∀ j : Nat, j < i → signB l k (byteAt lettersS j) = false) (fun i => 12 - i) 4 0 (by simp only [go_sem, Bool.not_eq_true', Bool.not_eq_false']; rfl) (by simp only [go_sem, Bool.not_eq_true', Bool.not_eq_false']) ?_ ?_
  · exact ⟨Nat.zero_le _, fun j h => absurd h (Nat.not_lt_zero j)⟩
  · rintro i ⟨h1, h2⟩
    have hz := lettersS_size
    simp only [go_sem, Bool.not_eq_true', Bool.not_eq_false']
    refine ⟨fun h5 => ?_, fun h5 => ?_⟩
    · have hi : i < lettersS.size := by omega
      have hb1 := byteAt_ge lettersS i
      have hb2 : byteAt lettersS i ≤ 127 := by
        have : ∀ j : Fin 12, byteAt lettersS j ≤ 127 := by decide
        exact this ⟨i, by omega⟩
      have ew : IntKind.i32.wrap (byteAt lettersS i) = byteAt lettersS i := IntWalk.i32_in _ ⟨by omega, by omega⟩
      refine ⟨by omega, ?_⟩
      simp only [ew]
      (refine acall2 [] (sign5_ok l k (byteAt lettersS i) hl) (by simp only [go_sem, Bool.not_eq_true', Bool.not_eq_false']; rfl) (fit_of (by simp only [go_sem, Bool.not_eq_true', Bool.not_eq_false']) (by simp only [go_sem, Bool.not_eq_true', Bool.not_eq_false']) (by simp only [go_sem, Bool.not_eq_true', Bool.not_eq_false']) (by simp only [go_sem, Bool.not_eq_true', Bool.not_eq_false']) (by simp only [go_sem, Bool.not_eq_true', Bool.not_eq_false']) (by simp only [go_sem, Bool.not_eq_true', Bool.not_eq_false']) (by simp only [go_sem, Bool.not_eq_true', Bool.not_eq_false'])) ?_; simp only [go_sem, Bool.not_eq_true', Bool.not_eq_false'])
      refine ⟨fun h6 => ⟨by omega, ?_⟩, fun h6 => ?_⟩
      · (refine loop_end [] (i + 1) (by simp only [go_sem, Bool.not_eq_true', Bool.not_eq_false']; rfl) ?_ ?_ ?_; (focus first | omega | (simp only; omega)); (focus (simp only [go_sem, Bool.not_eq_true', Bool.not_eq_false']; done)))
        refine ⟨by omega, fun j hj => ?_⟩
        rcases Nat.lt_succ_iff_lt_or_eq.1 hj with h8 | h8
        · exact h2 j h8
        · subst h8; exact h6
      · have hy := letterS_yes (told := told) h6 (hasB_iff.2 ⟨i, hi, rfl⟩)
        rw [hy]
        refine aloop2 [] (fun j : Nat => ⟨[(2, .raw (.string told)), (7, .raw (.string lettersS)), (8, .raw (.int .i64 i)), (9, .raw (.int .i64 j))], [], none⟩) (fun j => j ≤ told.size ∧ ∀ q : Nat, q < j → byteAt told q ≠ byteAt lettersS i) (fun j => told.size - j) 4 0 (by simp only [go_sem, Bool.not_eq_true', Bool.not_eq_false']; rfl) (by simp only [go_sem, Bool.not_eq_true', Bool.not_eq_false']) ?_ ?_
        · exact ⟨Nat.zero_le _, fun j h => absurd h (Nat.not_lt_zero j)⟩
        · rintro j ⟨q1, q2⟩
          simp only [go_sem, Bool.not_eq_true', Bool.not_eq_false']
          refine ⟨fun h7 => ?_, fun h7 => ?_⟩
          · have hj : j < told.size := by omega
            repeat' first | contradiction | intro _ | refine And.intro ?_ ?_ | refine get_tk (by omega) ?_ | refine ex_get (by omega) ?_ | (show drawB _ _ = true; kernel_rfl) | (refine ret2 [] (by simp only [go_sem, Bool.not_eq_true', Bool.not_eq_false']; rfl) ?_; simp only [go_sem, Bool.not_eq_true', Bool.not_eq_false'])
            all_goals first
              | omega
              | ((refine loop_end [] (j + 1) (by simp only [go_sem, Bool.not_eq_true', Bool.not_eq_false']; rfl) ?_ ?_ ?_; (focus first | omega | (simp only; omega)); (focus (simp only [go_sem, Bool.not_eq_true', Bool.not_eq_false']; done)))
                 refine ⟨by omega, fun q hq => ?_⟩
                 rcases Nat.lt_succ_iff_lt_or_eq.1 hq with h8 | h8
                 · exact q2 q h8
                 · subst h8; assumption)
              | (rw [if_pos (hasB_iff.2 ⟨j, hj, by assumption⟩)]; done)
              | skip
          · have hn : ¬ hasB told (byteAt lettersS i) = true := fun q => by
              obtain ⟨j', a, b⟩ := hasB_iff.1 q
              exact q2 j' (by omega) b
            rw [if_neg hn]
            repeat' first | contradiction | intro _ | refine And.intro ?_ ?_ | refine get_tk (by omega) ?_ | refine ex_get (by omega) ?_ | (show drawB _ _ = true; kernel_rfl) | (refine ret2 [] (by simp only [go_sem, Bool.not_eq_true', Bool.not_eq_false']; rfl) ?_; simp only [go_sem, Bool.not_eq_true', Bool.not_eq_false'])
            all_goals first
              | omega
              | skip
    · have e : i = 12 := by omega
      subst e
      rw [letterS_no h2]
end Go.Proofs.Ytblmebjhhanoaaa
/- THE SCRIPT'S READER: nodes; texts and boxes. -/
/- G -/
/- BOOLS -/
/- GET get_tk -/
set_option linter.unusedSimpArgs false
set_option linter.unusedVariables false
namespace Go.Proofs.Ytblmebjhhanoaaa
open Go.RowKit

structure LNo where
  kind : Int
  size : Int
  st : LSty
  line : Int
  space : Int
  words : List Int
  side : Int
  w : Int
  h : Int
deriving DecidableEq
def cNo (x : LNo) : List PV := [.raw (.int .i64 x.kind), .raw (.int .i64 x.size), .raw (.int .i64 x.st.top), .raw (.int .i64 x.st.bottom), .raw (.int .i64 x.st.padTop), .raw (.int .i64 x.st.padBottom), .raw (.int .i64 x.st.inset), .raw (.int .i64 x.st.orphans), .raw (.int .i64 x.st.widows), .raw (.int .i64 x.st.head), .raw (.int .i64 x.st.before), .raw (.int .i64 x.st.after), .raw (.int .i64 x.st.inside), .raw (.int .i64 x.st.clear), .raw (.int .i64 x.line), .raw (.int .i64 x.space), .sl 1 (x.words.map cInt), .raw (.int .i64 x.side), .raw (.int .i64 x.w), .raw (.int .i64 x.h)]
def lNo (x : LNo) : List AV := [.raw (.int .i64 x.kind), .raw (.int .i64 x.size), .raw (.int .i64 x.st.top), .raw (.int .i64 x.st.bottom), .raw (.int .i64 x.st.padTop), .raw (.int .i64 x.st.padBottom), .raw (.int .i64 x.st.inset), .raw (.int .i64 x.st.orphans), .raw (.int .i64 x.st.widows), .raw (.int .i64 x.st.head), .raw (.int .i64 x.st.before), .raw (.int .i64 x.st.after), .raw (.int .i64 x.st.inside), .raw (.int .i64 x.st.clear), .raw (.int .i64 x.line), .raw (.int .i64 x.space), .sl 1 (x.words.map cInt), .raw (.int .i64 x.side), .raw (.int .i64 x.w), .raw (.int .i64 x.h)]
def aNo (x : LNo) : AV := .agg (lNo x)
attribute [go_sem] cNo lNo aNo
def sty0 : LSty := ⟨0, 0, 0, 0, 0, 0, 0, 0, 0, 0, 0, 0⟩
def aGot (r : List LNo × Nat) : AV := .agg [.sl 20 (r.1.map cNo), .raw (.int .i64 r.2), .raw (.int .i64 0)]
attribute [go_sem] sty0 aGot
def boxS (l : List LTk) (k : Nat) (x : LNo) (c : Int) : Option (List LNo × Nat) :=
  if k ≤ l.length ∧ numB l k 1 1099511627776 = true ∧ numB l (k + 1) 1 1099511627776 = true ∧ signB l (k + 2) c = true then some ([⟨x.kind, x.size, x.st, x.line, x.space, x.words, x.side, (tkAt l k).n, (tkAt l (k + 1)).n⟩], k + 3) else none
set_option maxRecDepth 100000 in
set_option maxHeartbeats 4000000 in
theorem box5_ok (l : List LTk) (k : Nat) (x : LNo) (c : Int) (r : List LNo × Nat) (hl : l.length ≤ 1000) (h : boxS l k x c = some r) : FnOk Try.prog 114 [.sl 4 (l.map cTk), .raw (.int .i64 k), aNo x, .raw (.int .i32 c)] [] (aGot r) [] := by
  refine fn_of_swp Try.func114 rfl (by kernel_rfl) (by kernel_rfl) (Nat.le_of_ble_eq_true rfl) Try.results114 ?_
  unfold boxS at h
  split at h
  case isFalse => cases h
  next hh =>
  obtain ⟨h0, h1, h2, h3⟩ := hh
  injection h with h
  subst h
  have k1 : k < l.length := (of_decide_eq_true h1).1
  have k2 : k + 1 < l.length := (of_decide_eq_true h2).1
  (refine swp_seqW ?_; simp only [go_sem, Bool.not_eq_true', Bool.not_eq_false'])
  refine swp_cutS (fun _ : Unit => ⟨[(0, .sl 4 (l.map cTk)), (1, .raw (.int .i64 k)), (3, .raw (.int .i32 c)), (6, .hdr 8), (8, .hdr 16)], [(8, some (.cells 37 (lNo x))), (16, some (.cells 117 [.hdr 17, .raw (.int .i64 0), .raw (.int .i64 0)])), (17, some (.row 37 20 []))], none⟩) (fun _ => True) 4 ?_ ?_
  · (refine swp_seqW ?_; simp only [go_sem, Bool.not_eq_true', Bool.not_eq_false'])
    refine swp_block ?_
    refine swp_loop2 [] (fun i : Nat => ⟨[(0, .sl 4 (l.map cTk)), (1, .raw (.int .i64 k)), (3, .raw (.int .i32 c)), (6, .hdr 8), (8, .hdr 16), (9, .raw (.int .i64 i))], [(8, some (.cells 37 (lNo x))), (16, some (.cells 117 [.hdr 17, .raw (.int .i64 0), .raw (.int .i64 0)])), (17, some (.row 37 20 []))], none⟩) (fun i => i ≤ 2) (fun i => 2 - i) 5 0 (by simp only [go_sem, Bool.not_eq_true', Bool.not_eq_false']; rfl) (by simp only [go_sem, Bool.not_eq_true', Bool.not_eq_false']) ?_ ?_
    · exact Nat.zero_le _
    · intro i hi
      (refine swp_lastW ?_; simp only [go_sem, Bool.not_eq_true', Bool.not_eq_false'])
      refine ⟨fun h5 => ?_, fun h5 => ?_⟩
      · refine ⟨by omega, ?_⟩
        (refine acall2 [] (most5_ok) (by simp only [go_sem, Bool.not_eq_true', Bool.not_eq_false']; rfl) (fit_of (by simp only [go_sem, Bool.not_eq_true', Bool.not_eq_false']) (by simp only [go_sem, Bool.not_eq_true', Bool.not_eq_false']) (by simp only [go_sem, Bool.not_eq_true', Bool.not_eq_false']) (by simp only [go_sem, Bool.not_eq_true', Bool.not_eq_false']) (by simp only [go_sem, Bool.not_eq_true', Bool.not_eq_false']) (by simp only [go_sem, Bool.not_eq_true', Bool.not_eq_false']) (by simp only [go_sem, Bool.not_eq_true', Bool.not_eq_false'])) ?_; simp only [go_sem, Bool.not_eq_true', Bool.not_eq_false'])
        have hn : numB l (k + i) 1 1099511627776 = true := by
          rcases (by omega : i = 0 ∨ i = 1) with q | q <;> subst q <;> assumption
        (refine acall2 [] (num5_ok l (k + i) 1 1099511627776 hl) (by simp only [go_sem, Bool.not_eq_true', Bool.not_eq_false']; rfl) (fit_of (by simp only [go_sem, Bool.not_eq_true', Bool.not_eq_false']) (by simp only [go_sem, Bool.not_eq_true', Bool.not_eq_false']) (by simp only [go_sem, Bool.not_eq_true', Bool.not_eq_false']) (by simp only [go_sem, Bool.not_eq_true', Bool.not_eq_false']) (by simp only [go_sem, Bool.not_eq_true', Bool.not_eq_false']) (by simp only [go_sem, Bool.not_eq_true', Bool.not_eq_false']) (by simp only [go_sem, Bool.not_eq_true', Bool.not_eq_false'])) ?_; simp only [go_sem, Bool.not_eq_true', Bool.not_eq_false', hn])
        refine ⟨by omega, ?_⟩
        (refine loop_end [] (i + 1) (by simp only [go_sem, Bool.not_eq_true', Bool.not_eq_false']; rfl) ?_ ?_ ?_; (focus first | omega | (simp only; omega)); (focus (simp only [go_sem, Bool.not_eq_true', Bool.not_eq_false']; done)))
        omega
      · (refine cut_end [] (()) (by simp only [go_sem, Bool.not_eq_true', Bool.not_eq_false']; rfl) ?_ ?_; (focus (simp only [go_sem, Bool.not_eq_true', Bool.not_eq_false']; done)))
        trivial
  rintro - -
  (refine swp_lastW ?_; simp only [go_sem, Bool.not_eq_true', Bool.not_eq_false', List.length_map])
  refine ⟨by omega, ?_⟩
  (refine acall2 [] (sign5_ok l (k + 2) c hl) (by simp only [go_sem, Bool.not_eq_true', Bool.not_eq_false']; rfl) (fit_of (by simp only [go_sem, Bool.not_eq_true', Bool.not_eq_false']) (by simp only [go_sem, Bool.not_eq_true', Bool.not_eq_false']) (by simp only [go_sem, Bool.not_eq_true', Bool.not_eq_false']) (by simp only [go_sem, Bool.not_eq_true', Bool.not_eq_false']) (by simp only [go_sem, Bool.not_eq_true', Bool.not_eq_false']) (by simp only [go_sem, Bool.not_eq_true', Bool.not_eq_false']) (by simp only [go_sem, Bool.not_eq_true', Bool.not_eq_false'])) ?_; simp only [go_sem, Bool.not_eq_true', Bool.not_eq_false', h3])
  repeat' first | refine And.intro ?_ ?_ | refine get_tk (by omega) ?_
  all_goals first
    | omega
    | (refine ret2 [208] (by simp only [go_sem, Bool.not_eq_true', Bool.not_eq_false']; rfl) ?_; simp only [go_sem, Bool.not_eq_true', Bool.not_eq_false'])
    | skip
def wordsS (l : List LTk) : Nat → Nat → List Int × Nat
  | 0, k => ([], k)
  | f + 1, k => if numB l k 1 1099511627776 = true then ((tkAt l k).n :: (wordsS l f (k + 1)).1, (wordsS l f (k + 1)).2) else ([], k)
theorem wordsS_le (l : List LTk) : ∀ f k : Nat, k ≤ (wordsS l f k).2 ∧ (k ≤ l.length → (wordsS l f k).2 ≤ l.length) ∧ (wordsS l f k).1.length ≤ f
  | 0, k => ⟨Nat.le_refl _, fun h => h, Nat.le_refl _⟩
  | f + 1, k => by
    simp only [wordsS]
    split
    · next h =>
      have hk : k < l.length := (of_decide_eq_true h).1
      obtain ⟨h1, h2, h3⟩ := wordsS_le l f (k + 1)
      exact ⟨by simp only; omega, fun _ => h2 hk, by simp only [List.length_cons]; omega⟩
    · exact ⟨Nat.le_refl _, fun h => h, Nat.zero_le _⟩
def textS (l : List LTk) (k : Nat) : Option (List LNo × Nat) :=
  if k ≤ l.length ∧ numB l (k + 1) 1 1099511627776 = true ∧ numB l (k + 2) 0 1099511627776 = true ∧ (wordsS l l.length (k + 3)).1 ≠ [] ∧ signB l (wordsS l l.length (k + 3)).2 41 = true then
    some ([⟨2, 1, sty0, (tkAt l (k + 1)).n, (tkAt l (k + 2)).n, (wordsS l l.length (k + 3)).1, 0, 0, 0⟩], (wordsS l l.length (k + 3)).2 + 1) else none
structure LWd where
  k : Nat
  acc : List Int
theorem tn2 (k : Nat) : ((k : Int) + 2).toNat = k + 2 := by omega
set_option maxRecDepth 100000 in
set_option maxHeartbeats 4000000 in
theorem text5_ok (l : List LTk) (k : Nat) (r : List LNo × Nat) (hl : l.length ≤ 1000) (h : textS l k = some r) : FnOk Try.prog 113 [.sl 4 (l.map cTk), .raw (.int .i64 k)] [] (aGot r) [] := by
  refine fn_of_swp Try.func113 rfl (by kernel_rfl) (by kernel_rfl) (Nat.le_of_ble_eq_true rfl) Try.results113 ?_
  unfold textS at h
  split at h
  case isFalse => cases h
  next hh =>
  obtain ⟨h0, h1, h2, h3, h4⟩ := hh
  injection h with h
  subst h
  have k1 : k + 1 < l.length := (of_decide_eq_true h1).1
  have k2 : k + 2 < l.length := (of_decide_eq_true h2).1
  (refine swp_seqW ?_; simp only [go_sem, Bool.not_eq_true', Bool.not_eq_false'])
  (refine swp_seqW ?_; simp only [go_sem, Bool.not_eq_true', Bool.not_eq_false'])
  refine ⟨by omega, ?_⟩
  (refine acall2 [] (most5_ok) (by simp only [go_sem, Bool.not_eq_true', Bool.not_eq_false']; rfl) (fit_of (by simp only [go_sem, Bool.not_eq_true', Bool.not_eq_false']) (by simp only [go_sem, Bool.not_eq_true', Bool.not_eq_false']) (by simp only [go_sem, Bool.not_eq_true', Bool.not_eq_false']) (by simp only [go_sem, Bool.not_eq_true', Bool.not_eq_false']) (by simp only [go_sem, Bool.not_eq_true', Bool.not_eq_false']) (by simp only [go_sem, Bool.not_eq_true', Bool.not_eq_false']) (by simp only [go_sem, Bool.not_eq_true', Bool.not_eq_false'])) ?_; simp only [go_sem, Bool.not_eq_true', Bool.not_eq_false'])
  (refine acall2 [] (num5_ok l (k + 1) 1 1099511627776 hl) (by simp only [go_sem, Bool.not_eq_true', Bool.not_eq_false']; rfl) (fit_of (by simp only [go_sem, Bool.not_eq_true', Bool.not_eq_false']) (by simp only [go_sem, Bool.not_eq_true', Bool.not_eq_false']) (by simp only [go_sem, Bool.not_eq_true', Bool.not_eq_false']) (by simp only [go_sem, Bool.not_eq_true', Bool.not_eq_false']) (by simp only [go_sem, Bool.not_eq_true', Bool.not_eq_false']) (by simp only [go_sem, Bool.not_eq_true', Bool.not_eq_false']) (by simp only [go_sem, Bool.not_eq_true', Bool.not_eq_false'])) ?_; simp only [go_sem, Bool.not_eq_true', Bool.not_eq_false', h1])
  (refine swp_seqW ?_; simp only [go_sem, Bool.not_eq_true', Bool.not_eq_false'])
  refine ⟨by omega, ?_⟩
  (refine acall2 [] (most5_ok) (by simp only [go_sem, Bool.not_eq_true', Bool.not_eq_false']; rfl) (fit_of (by simp only [go_sem, Bool.not_eq_true', Bool.not_eq_false']) (by simp only [go_sem, Bool.not_eq_true', Bool.not_eq_false']) (by simp only [go_sem, Bool.not_eq_true', Bool.not_eq_false']) (by simp only [go_sem, Bool.not_eq_true', Bool.not_eq_false']) (by simp only [go_sem, Bool.not_eq_true', Bool.not_eq_false']) (by simp only [go_sem, Bool.not_eq_true', Bool.not_eq_false']) (by simp only [go_sem, Bool.not_eq_true', Bool.not_eq_false'])) ?_; simp only [go_sem, Bool.not_eq_true', Bool.not_eq_false'])
  (refine acall2 [] (num5_ok l (k + 2) 0 1099511627776 hl) (by simp only [go_sem, Bool.not_eq_true', Bool.not_eq_false']; rfl) (fit_of (by simp only [go_sem, Bool.not_eq_true', Bool.not_eq_false']) (by simp only [go_sem, Bool.not_eq_true', Bool.not_eq_false']) (by simp only [go_sem, Bool.not_eq_true', Bool.not_eq_false']) (by simp only [go_sem, Bool.not_eq_true', Bool.not_eq_false']) (by simp only [go_sem, Bool.not_eq_true', Bool.not_eq_false']) (by simp only [go_sem, Bool.not_eq_true', Bool.not_eq_false']) (by simp only [go_sem, Bool.not_eq_true', Bool.not_eq_false'])) ?_; simp only [go_sem, Bool.not_eq_true', Bool.not_eq_false', h2])
  (refine swp_seqW ?_; simp only [go_sem, Bool.not_eq_true', Bool.not_eq_false', List.length_map, tn2])
  refine ⟨by omega, by omega, get_tk (by omega) ⟨by omega, by omega, get_tk (by omega) ⟨by kernel_rfl, ?_⟩⟩⟩
  (refine swp_seqW ?_; simp only [go_sem, Bool.not_eq_true', Bool.not_eq_false'])
  refine ⟨by omega, ?_⟩
  generalize (tkAt l (k + 1)).n = m1
  generalize (tkAt l (k + 2)).n = m2
  refine swp_cutS (fun w : LWd => ⟨[(0, .sl 4 (l.map cTk)), (4, .hdr 8), (5, .hdr 16), (6, .raw (.int .i64 w.k))], [(8, some (.cells 117 [.hdr 9, .raw (.int .i64 0), .raw (.int .i64 0)])), (9, some (.row 37 20 [])), (16, some (.cells 37 [.raw (.int .i64 2), .raw (.int .i64 1), .raw (.int .i64 0), .raw (.int .i64 0), .raw (.int .i64 0), .raw (.int .i64 0), .raw (.int .i64 0), .raw (.int .i64 0), .raw (.int .i64 0), .raw (.int .i64 0), .raw (.int .i64 0), .raw (.int .i64 0), .raw (.int .i64 0), .raw (.int .i64 0), .raw (.int .i64 m1), .raw (.int .i64 m2), .hdr 17, .raw (.int .i64 0), .raw (.int .i64 0), .raw (.int .i64 0)])), (17, some (.row 3 1 (w.acc.map cInt)))], none⟩) (fun w => (w.acc, w.k) = wordsS l l.length (k + 3)) 4 ?_ ?_
  · refine swp_block ?_
    refine swp_loop2 [] (fun w : LWd => ⟨[(0, .sl 4 (l.map cTk)), (4, .hdr 8), (5, .hdr 16), (6, .raw (.int .i64 w.k))], [(8, some (.cells 117 [.hdr 9, .raw (.int .i64 0), .raw (.int .i64 0)])), (9, some (.row 37 20 [])), (16, some (.cells 37 [.raw (.int .i64 2), .raw (.int .i64 1), .raw (.int .i64 0), .raw (.int .i64 0), .raw (.int .i64 0), .raw (.int .i64 0), .raw (.int .i64 0), .raw (.int .i64 0), .raw (.int .i64 0), .raw (.int .i64 0), .raw (.int .i64 0), .raw (.int .i64 0), .raw (.int .i64 0), .raw (.int .i64 0), .raw (.int .i64 m1), .raw (.int .i64 m2), .hdr 17, .raw (.int .i64 0), .raw (.int .i64 0), .raw (.int .i64 0)])), (17, some (.row 3 1 (w.acc.map cInt)))], none⟩) (fun w => w.k ≤ l.length ∧ w.acc.length ≤ w.k ∧ ∃ f, l.length ≤ f + w.k ∧ (w.acc ++ (wordsS l f w.k).1, (wordsS l f w.k).2) = wordsS l l.length (k + 3)) (fun w => l.length - w.k) 40 ⟨k + 3, []⟩ (by simp only [go_sem, Bool.not_eq_true', Bool.not_eq_false']; rfl) (by simp only [go_sem, Bool.not_eq_true', Bool.not_eq_false']) ?_ ?_
    · exact ⟨by show k + 3 ≤ l.length; omega, Nat.zero_le _, l.length, by omega, rfl⟩
    · rintro ⟨kk, acc⟩ ⟨q1, q2, f, q3, q4⟩
      simp only at q1 q2 q3 q4
      (refine swp_lastW ?_; simp only [go_sem, Bool.not_eq_true', Bool.not_eq_false', List.length_map])
      (refine acall2 [] (most5_ok) (by simp only [go_sem, Bool.not_eq_true', Bool.not_eq_false']; rfl) (fit_of (by simp only [go_sem, Bool.not_eq_true', Bool.not_eq_false']) (by simp only [go_sem, Bool.not_eq_true', Bool.not_eq_false']) (by simp only [go_sem, Bool.not_eq_true', Bool.not_eq_false']) (by simp only [go_sem, Bool.not_eq_true', Bool.not_eq_false']) (by simp only [go_sem, Bool.not_eq_true', Bool.not_eq_false']) (by simp only [go_sem, Bool.not_eq_true', Bool.not_eq_false']) (by simp only [go_sem, Bool.not_eq_true', Bool.not_eq_false'])) ?_; simp only [go_sem, Bool.not_eq_true', Bool.not_eq_false'])
      (refine acall2 [] (num5_ok l kk 1 1099511627776 hl) (by simp only [go_sem, Bool.not_eq_true', Bool.not_eq_false']; rfl) (fit_of (by simp only [go_sem, Bool.not_eq_true', Bool.not_eq_false']) (by simp only [go_sem, Bool.not_eq_true', Bool.not_eq_false']) (by simp only [go_sem, Bool.not_eq_true', Bool.not_eq_false']) (by simp only [go_sem, Bool.not_eq_true', Bool.not_eq_false']) (by simp only [go_sem, Bool.not_eq_true', Bool.not_eq_false']) (by simp only [go_sem, Bool.not_eq_true', Bool.not_eq_false']) (by simp only [go_sem, Bool.not_eq_true', Bool.not_eq_false'])) ?_; simp only [go_sem, Bool.not_eq_true', Bool.not_eq_false'])
      refine ⟨fun h7 => ?_, fun h7 => ?_⟩
      · have hk : kk < l.length := (of_decide_eq_true h7).1
        obtain ⟨g, rfl⟩ : ∃ g, f = g + 1 := ⟨f - 1, by omega⟩
        rw [wordsS, if_pos h7] at q4
        repeat' first | refine And.intro ?_ ?_ | refine get_tk (by omega) ?_
        all_goals first
          | omega
          | (show drawB _ _ = true; kernel_rfl)
          | ((refine loop_end [] (⟨kk + 1, acc ++ [(tkAt l kk).n]⟩) (by simp only [go_sem, Bool.not_eq_true', Bool.not_eq_false']; rfl) ?_ ?_ ?_; (focus first | omega | (simp only; omega)); (focus (simp only [go_sem, Bool.not_eq_true', Bool.not_eq_false', List.map_append]; done)))
             exact ⟨by show kk + 1 ≤ l.length; omega, by simp; omega, g, by simp only; omega, by rw [← q4]; simp⟩)
          | skip
      · have e : (acc, kk) = wordsS l l.length (k + 3) := by
          rw [← q4]
          cases f with
          | zero => simp [wordsS]
          | succ g => rw [wordsS, if_neg (by rw [h7]; decide)]; simp
        (refine cut_end [] (⟨kk, acc⟩) (by simp only [go_sem, Bool.not_eq_true', Bool.not_eq_false']; rfl) ?_ ?_; (focus (simp only [go_sem, Bool.not_eq_true', Bool.not_eq_false']; done)))
        exact e
  rintro ⟨kk, acc⟩ hw
  simp only at hw
  have hwl := wordsS_le l l.length (k + 3)
  rw [← hw] at h3 h4 hwl ⊢
  simp only at h3 h4 hwl ⊢
  have hacc : acc.length ≠ 0 := fun q => h3 (List.eq_nil_of_length_eq_zero q)
  have kk1 : kk < l.length := (of_decide_eq_true h4).1
  (refine swp_lastW ?_; simp only [go_sem, Bool.not_eq_true', Bool.not_eq_false', List.length_map])
  refine ⟨fun _ => ?_, fun q => by omega⟩
  (refine acall2 [] (sign5_ok l kk 41 hl) (by simp only [go_sem, Bool.not_eq_true', Bool.not_eq_false']; rfl) (fit_of (by simp only [go_sem, Bool.not_eq_true', Bool.not_eq_false']) (by simp only [go_sem, Bool.not_eq_true', Bool.not_eq_false']) (by simp only [go_sem, Bool.not_eq_true', Bool.not_eq_false']) (by simp only [go_sem, Bool.not_eq_true', Bool.not_eq_false']) (by simp only [go_sem, Bool.not_eq_true', Bool.not_eq_false']) (by simp only [go_sem, Bool.not_eq_true', Bool.not_eq_false']) (by simp only [go_sem, Bool.not_eq_true', Bool.not_eq_false'])) ?_; simp only [go_sem, Bool.not_eq_true', Bool.not_eq_false', h4])
  refine ⟨by omega, ?_⟩
  (refine ret2 [120] (by simp only [go_sem, Bool.not_eq_true', Bool.not_eq_false']; rfl) ?_; simp only [go_sem, Bool.not_eq_true', Bool.not_eq_false'])
end Go.Proofs.Ytblmebjhhanoaaa
/- NODES as arguments. -/
/- G -/
set_option linter.unusedSimpArgs false
set_option linter.unusedVariables false
namespace Go.Proofs.Ytblmebjhhanoaaa
set_option maxRecDepth 100000
open Go.ChangeShapes Go.WideShapes Go.ChangeAt Go.RowKit Go.Deep

theorem open_st : OpenT Try.prog 34 (fun s : LSty => [.raw (.int .i64 s.top), .raw (.int .i64 s.bottom), .raw (.int .i64 s.padTop), .raw (.int .i64 s.padBottom), .raw (.int .i64 s.inset), .raw (.int .i64 s.orphans), .raw (.int .i64 s.widows), .raw (.int .i64 s.head), .raw (.int .i64 s.before), .raw (.int .i64 s.after), .raw (.int .i64 s.inside), .raw (.int .i64 s.clear)]) (fun _ => True) := ⟨fun {H enc w fuel cs y} h => by
  obtain ⟨ys, n, -, -, hlen, hyl, hg⟩ := DataW.trod_struct Try.underlying34 h
  have hcs : cs.length = 12 := hlen.trans (by kernel_rfl)
  obtain ⟨z0, c0, i0⟩ := fld hg hyl 0 1 (open_i Try.underlying3) 0 rfl rfl rfl (by kernel_rfl)
  obtain ⟨z1, c1, i1⟩ := fld hg hyl 1 1 (open_i Try.underlying3) 1 rfl rfl rfl (by kernel_rfl)
  obtain ⟨z2, c2, i2⟩ := fld hg hyl 2 1 (open_i Try.underlying3) 2 rfl rfl rfl (by kernel_rfl)
  obtain ⟨z3, c3, i3⟩ := fld hg hyl 3 1 (open_i Try.underlying3) 3 rfl rfl rfl (by kernel_rfl)
  obtain ⟨z4, c4, i4⟩ := fld hg hyl 4 1 (open_i Try.underlying3) 4 rfl rfl rfl (by kernel_rfl)
  obtain ⟨z5, c5, i5⟩ := fld hg hyl 5 1 (open_i Try.underlying3) 5 rfl rfl rfl (by kernel_rfl)
  obtain ⟨z6, c6, i6⟩ := fld hg hyl 6 1 (open_i Try.underlying3) 6 rfl rfl rfl (by kernel_rfl)
  obtain ⟨z7, c7, i7⟩ := fld hg hyl 7 1 (open_i Try.underlying3) 7 rfl rfl rfl (by kernel_rfl)
  obtain ⟨z8, c8, i8⟩ := fld hg hyl 8 1 (open_i Try.underlying3) 8 rfl rfl rfl (by kernel_rfl)
  obtain ⟨z9, c9, i9⟩ := fld hg hyl 9 1 (open_i Try.underlying3) 9 rfl rfl rfl (by kernel_rfl)
  obtain ⟨z10, c10, i10⟩ := fld hg hyl 10 1 (open_i Try.underlying3) 10 rfl rfl rfl (by kernel_rfl)
  obtain ⟨z11, c11, i11⟩ := fld hg hyl 11 1 (open_i Try.underlying3) 11 rfl rfl rfl (by kernel_rfl)
  exact ⟨⟨z0, z1, z2, z3, z4, z5, z6, z7, z8, z9, z10, z11⟩, cr_all hcs (cr_app c0 (cr_app c1 (cr_app c2 (cr_app c3 (cr_app c4 (cr_app c5 (cr_app c6 (cr_app c7 (cr_app c8 (cr_app c9 (cr_app c10 c11))))))))))), trivial⟩⟩
theorem open_no : OpenT Try.prog 37 cNo (fun x : LNo => x.words.length ≤ 9223372036854775807) := ⟨fun {H enc w fuel cs y} h => by
  obtain ⟨ys, n, -, -, hlen, hyl, hg⟩ := DataW.trod_struct Try.underlying37 h
  have hcs : cs.length = 20 := hlen.trans (by kernel_rfl)
  obtain ⟨z0, c0, i0⟩ := fld hg hyl 0 1 (open_i Try.underlying3) 0 rfl rfl rfl (by kernel_rfl)
  obtain ⟨z1, c1, i1⟩ := fld hg hyl 1 1 (open_i Try.underlying3) 1 rfl rfl rfl (by kernel_rfl)
  obtain ⟨z2, c2, i2⟩ := fld hg hyl 2 12 open_st 2 rfl rfl rfl (by kernel_rfl)
  obtain ⟨z3, c3, i3⟩ := fld hg hyl 14 1 (open_i Try.underlying3) 3 rfl rfl rfl (by kernel_rfl)
  obtain ⟨z4, c4, i4⟩ := fld hg hyl 15 1 (open_i Try.underlying3) 4 rfl rfl rfl (by kernel_rfl)
  obtain ⟨z5, c5, i5⟩ := fld hg hyl 16 1 (open_sl Try.underlying35 (by kernel_rfl) (Nat.zero_lt_succ _) (fun _ => rfl) (open_i Try.underlying3)) 5 rfl rfl rfl (by kernel_rfl)
  obtain ⟨z6, c6, i6⟩ := fld hg hyl 17 1 (open_i Try.underlying3) 6 rfl rfl rfl (by kernel_rfl)
  obtain ⟨z7, c7, i7⟩ := fld hg hyl 18 1 (open_i Try.underlying3) 7 rfl rfl rfl (by kernel_rfl)
  obtain ⟨z8, c8, i8⟩ := fld hg hyl 19 1 (open_i Try.underlying3) 8 rfl rfl rfl (by kernel_rfl)
  exact ⟨⟨z0, z1, z2, z3, z4, z5, z6, z7, z8⟩, cr_all hcs (cr_app c0 (cr_app c1 (cr_app c2 (cr_app c3 (cr_app c4 (cr_app c5 (cr_app c6 (cr_app c7 c8)))))))), i5.1⟩⟩
theorem open_nos : OpenT Try.prog 22 (fun xs : List LNo => [.sl 20 (xs.map cNo)]) (fun xs => xs.length ≤ 9223372036854775807 ∧ ∀ x ∈ xs, (fun x : LNo => x.words.length ≤ 9223372036854775807) x) := open_sl Try.underlying22 (by kernel_rfl) (Nat.zero_lt_succ _) (fun _ => rfl) open_no
end Go.Proofs.Ytblmebjhhanoaaa
/- PLAIN: spans and rectangles, as chapters 2 and 3 have them; no program in sight. -/
set_option linter.unusedSimpArgs false
set_option linter.unusedVariables false
namespace Go.Proofs.Ytblmebjhhanoaaa

structure LSpan where
  a : Int
  b : Int
deriving DecidableEq
structure LRect where
  x : Int
  y : Int
  w : Int
  h : Int
deriving DecidableEq
def emS (s : LSpan) : Bool := decide (s.b ≤ s.a)
def lenS (s : LSpan) : Int := if s.b ≤ s.a then 0 else s.b - s.a
def noneR (r : LRect) : Bool := decide (r.w < 1 ∨ r.h < 1)
def acr (r : LRect) : LSpan := ⟨r.x, r.x + r.w⟩
def dwn (r : LRect) : LSpan := ⟨r.y, r.y + r.h⟩
def ofS (c d : LSpan) : LRect := if lenS c < 1 ∨ lenS d < 1 then ⟨0, 0, 0, 0⟩ else ⟨c.a, d.a, lenS c, lenS d⟩
def ofE (l r t b : Int) : LRect := if r ≤ l ∨ b ≤ t then ⟨0, 0, 0, 0⟩ else ⟨l, t, r - l, b - t⟩
def meetS (a b : LSpan) : LSpan := if a.b ≤ a.a ∨ b.b ≤ b.a ∨ min a.b b.b ≤ max a.a b.a then ⟨0, 0⟩ else ⟨max a.a b.a, min a.b b.b⟩
def hullT (o s : LSpan) : LSpan := if s.b ≤ s.a then o else if o.a = 0 ∧ o.b = 0 then s else ⟨min o.a s.a, max o.b s.b⟩
def hullS (l : List LSpan) : LSpan := l.foldl hullT ⟨0, 0⟩
def somes3 (l : List LRect) : List LRect := l.filter fun r => !noneR r
def hullR (l : List LRect) : LRect := ofS (hullS ((somes3 l).map acr)) (hullS ((somes3 l).map dwn))
def rhullT (o r : LRect) : LRect := if noneR r then o else
  let o := if noneR o then r else o
  ofE (min o.x r.x) (max (o.x + o.w) (r.x + r.w)) (min o.y r.y) (max (o.y + o.h) (r.y + r.h))
def rhullR (l : List LRect) : LRect := l.foldl rhullT ⟨0, 0, 0, 0⟩

theorem snoc_ind {α : Type} {p : List α → Prop} (h0 : p []) (h1 : ∀ l a, p l → p (l ++ [a])) (l : List α) : p l := by
  rw [← List.reverse_reverse l]
  induction l.reverse with
  | nil => exact h0
  | cons a l ih => rw [List.reverse_cons]; exact h1 _ _ ih
theorem ofE_ofS (l r t b : Int) : ofE l r t b = ofS ⟨l, r⟩ ⟨t, b⟩ := by
  unfold ofE ofS lenS
  simp only
  by_cases h1 : r ≤ l <;> by_cases h2 : b ≤ t
  · simp [h1, h2]
  · simp [h1, h2]
  · simp [h1, h2]
  · rw [if_neg (by omega), if_neg h1, if_neg h2, if_neg (by omega)]
theorem hullT_ne {o s : LSpan} (h : s.a < s.b) (h1 : o.a < o.b) : hullT o s = ⟨min o.a s.a, max o.b s.b⟩ := by
  unfold hullT
  rw [if_neg (by omega), if_neg (by omega)]
theorem hullT_first {s : LSpan} (h : s.a < s.b) : hullT ⟨0, 0⟩ s = s := by
  unfold hullT
  rw [if_neg (by omega), if_pos ⟨rfl, rfl⟩]
theorem hullS_snoc (l : List LSpan) (s : LSpan) : hullS (l ++ [s]) = hullT (hullS l) s := by simp [hullS]
theorem rhullR_snoc (l : List LRect) (r : LRect) : rhullR (l ++ [r]) = rhullT (rhullR l) r := by simp [rhullR]
theorem somes3_snoc (l : List LRect) (r : LRect) : somes3 (l ++ [r]) = if noneR r then somes3 l else somes3 l ++ [r] := by
  unfold somes3
  rw [List.filter_append]
  cases h : noneR r <;> simp [h]
/-- nothing, or both ways something. -/
def Both (a d : LSpan) : Prop := (a = ⟨0, 0⟩ ∧ d = ⟨0, 0⟩) ∨ (a.a < a.b ∧ d.a < d.b)
theorem both_snoc {a d : LSpan} (h : Both a d) {r : LRect} (hr : noneR r = false) : Both (hullT a (acr r)) (hullT d (dwn r)) := by
  simp only [noneR, decide_eq_false_iff_not, not_or, Int.not_lt] at hr
  have ha : (acr r).a < (acr r).b := by simp only [acr]; omega
  have hd : (dwn r).a < (dwn r).b := by simp only [dwn]; omega
  right
  rcases h with ⟨rfl, rfl⟩ | ⟨h1, h2⟩
  · rw [hullT_first ha, hullT_first hd]; exact ⟨ha, hd⟩
  · rw [hullT_ne ha h1, hullT_ne hd h2]
    simp only
    omega
theorem both_hull (l : List LRect) : Both (hullS ((somes3 l).map acr)) (hullS ((somes3 l).map dwn)) := by
  refine snoc_ind (p := fun l => Both (hullS ((somes3 l).map acr)) (hullS ((somes3 l).map dwn))) (Or.inl ⟨rfl, rfl⟩) (fun l r ih => ?_) l
  rw [somes3_snoc]
  cases h : noneR r
  · simp only [Bool.false_eq_true, if_false, List.map_append, List.map_cons, List.map_nil, hullS_snoc]
    exact both_snoc ih h
  · exact ih
theorem rhull_step {a d : LSpan} (h : Both a d) (r : LRect) (hr : noneR r = false) : rhullT (ofS a d) r = ofS (hullT a (acr r)) (hullT d (dwn r)) := by
  have hr' := hr
  simp only [noneR, decide_eq_false_iff_not, not_or, Int.not_lt] at hr'
  have ha : (acr r).a < (acr r).b := by simp only [acr]; omega
  have hd : (dwn r).a < (dwn r).b := by simp only [dwn]; omega
  unfold rhullT
  rw [hr]
  simp only [Bool.false_eq_true, if_false, ofE_ofS]
  rcases h with ⟨rfl, rfl⟩ | ⟨h1, h2⟩
  · have e : ofS ⟨0, 0⟩ ⟨0, 0⟩ = ⟨0, 0, 0, 0⟩ := by decide
    have e3 : noneR ⟨0, 0, 0, 0⟩ = true := by decide
    rw [e, hullT_first ha, hullT_first hd, e3]
    simp only [if_true, Int.min_self, Int.max_self]
    rfl
  · have e : ofS a d = ⟨a.a, d.a, a.b - a.a, d.b - d.a⟩ := by
      unfold ofS lenS
      rw [if_neg (show ¬ a.b ≤ a.a by omega), if_neg (show ¬ d.b ≤ d.a by omega), if_neg (by omega)]
    have e3 : noneR ⟨a.a, d.a, a.b - a.a, d.b - d.a⟩ = false := by simp only [noneR, decide_eq_false_iff_not]; omega
    rw [e, hullT_ne ha h1, hullT_ne hd h2, e3]
    simp only [Bool.false_eq_true, if_false]
    rw [show a.a + (a.b - a.a) = a.b by omega, show d.a + (d.b - d.a) = d.b by omega]
    rfl
/-- the hull one by one is that of the spans. -/
theorem rhull_eq (l : List LRect) : rhullR l = hullR l := by
  refine snoc_ind (p := fun l => rhullR l = hullR l) (by decide) (fun l r ih => ?_) l
  rw [rhullR_snoc, ih]
  unfold hullR
  rw [somes3_snoc]
  cases h : noneR r
  · simp only [Bool.false_eq_true, if_false, List.map_append, List.map_cons, List.map_nil, hullS_snoc]
    exact rhull_step (both_hull _) r h
  · unfold rhullT; rw [h]; rfl
def nearS (s : LSpan) : Prop := -2305843009213693952 ≤ s.a ∧ s.b ≤ 2305843009213693952
theorem hullS_bd (l : List LSpan) (h : ∀ s ∈ l, nearS s) : nearS (hullS l) := by
  revert h
  refine snoc_ind (p := fun l => (∀ s ∈ l, nearS s) → nearS (hullS l)) (fun _ => by simp [hullS, nearS]) (fun l s ih h => ?_) l
  rw [hullS_snoc]
  have h1 := ih (fun s hs => h s (List.mem_append_left _ hs))
  have h2 := h s (by simp)
  unfold hullT
  split
  · exact h1
  · split
    · exact h2
    · unfold nearS at *; simp only; omega

/-! slices -/
def nr3 (n : Int) : Bool := decide (-1152921504606846976 ≤ n ∧ n ≤ 1152921504606846976)
def nearR (r : LRect) : Bool := nr3 r.x && nr3 r.y && nr3 r.w && nr3 r.h
theorem nearR_iff {r : LRect} : nearR r = true ↔ (-1152921504606846976 ≤ r.x ∧ r.x ≤ 1152921504606846976) ∧ (-1152921504606846976 ≤ r.y ∧ r.y ≤ 1152921504606846976) ∧ (-1152921504606846976 ≤ r.w ∧ r.w ≤ 1152921504606846976) ∧ (-1152921504606846976 ≤ r.h ∧ r.h ≤ 1152921504606846976) := by
  simp [nearR, nr3, and_assoc]
def sliceN (r : LRect) (high : Int) : Nat := if noneR r ∨ high < 1 ∨ 32768 ≤ (r.h - 1) / high then 0 else ((r.h - 1) / high + 1).toNat
def sliceR (r : LRect) (high : Int) (i : Nat) : LRect := ⟨r.x, r.y + i * high, r.w, min high (r.h - i * high)⟩
def slicesR (r : LRect) (high : Int) : List LRect := (List.range (sliceN r high)).map (sliceR r high)
theorem sliceN_lt {r : LRect} {high : Int} (h1 : noneR r = false) (h2 : 1 ≤ high) (h3 : (r.h - 1) / high < 32768) (i : Nat) : i < sliceN r high ↔ (i : Int) * high < r.h := by
  have h1' := h1
  simp only [noneR, decide_eq_false_iff_not, not_or, Int.not_lt] at h1'
  unfold sliceN
  rw [h1, if_neg (by simp; omega)]
  have := Int.ediv_nonneg (show 0 ≤ r.h - 1 by omega) (show 0 ≤ high by omega)
  have h4 := Int.le_ediv_iff_mul_le (a := i) (b := r.h - 1) (c := high) (by omega)
  omega
theorem sliceN_le {r : LRect} {high : Int} : sliceN r high ≤ 32768 := by
  unfold sliceN
  split
  · omega
  · omega
end Go.Proofs.Ytblmebjhhanoaaa
/- CHAPTERS 2 and 3: what spans and rectangles are asked, as contracts. -/
/- G -/
set_option linter.unusedSimpArgs false
set_option linter.unusedVariables false
namespace Go.Proofs.Ytblmebjhhanoaaa
open Go.RowKit

def cSpan (s : LSpan) : List PV := [.raw (.int .i64 s.a), .raw (.int .i64 s.b)]
def aSpan (s : LSpan) : AV := .agg [.raw (.int .i64 s.a), .raw (.int .i64 s.b)]
def cRect (r : LRect) : List PV := [.raw (.int .i64 r.x), .raw (.int .i64 r.y), .raw (.int .i64 r.w), .raw (.int .i64 r.h)]
def aRect (r : LRect) : AV := .agg [.raw (.int .i64 r.x), .raw (.int .i64 r.y), .raw (.int .i64 r.w), .raw (.int .i64 r.h)]
attribute [go_sem] cSpan aSpan cRect aRect

set_option maxRecDepth 100000 in
theorem snone_ok (s : LSpan) : FnOk Try.prog 62 [aSpan s] [] (.raw (.bool (emS s))) [] := by
  refine fn_of_awp Try.func62 rfl (by kernel_rfl) (by kernel_rfl) (Nat.le_of_ble_eq_true rfl) Try.results62 ?_
  simp only [go_sem]
  simp [emS]
set_option maxRecDepth 100000 in
theorem slen_ok (s : LSpan) (hs : nearS s) : FnOk Try.prog 61 [aSpan s] [] (.raw (.int .i64 (lenS s))) [] := by
  refine fn_of_awp Try.func61 rfl (by kernel_rfl) (by kernel_rfl) (Nat.le_of_ble_eq_true rfl) Try.results61 ?_
  simp only [go_sem]
  (refine acall2 [] (snone_ok s) (by simp only [go_sem]; rfl) (fit_of (by simp only [go_sem]) (by simp only [go_sem]) (by simp only [go_sem]) (by simp only [go_sem]) (by simp only [go_sem]) (by simp only [go_sem]) (by simp only [go_sem])) ?_; simp only [go_sem])
  simp only [emS, decide_eq_true_eq, decide_eq_false_iff_not, lenS]
  unfold nearS at hs
  refine ⟨fun h => by rw [if_pos h], fun h => ⟨by omega, by rw [if_neg h]⟩⟩
set_option maxRecDepth 100000 in
theorem rnone_ok (r : LRect) : FnOk Try.prog 35 [aRect r] [] (.raw (.bool (noneR r))) [] := by
  refine fn_of_awp Try.func35 rfl (by kernel_rfl) (by kernel_rfl) (Nat.le_of_ble_eq_true rfl) Try.results35 ?_
  simp only [go_sem]
  refine ⟨fun h => by simp [noneR, h], fun h => by simp [noneR, h]⟩
theorem ofS_none (c d : LSpan) : noneR ⟨c.a, d.a, lenS c, lenS d⟩ = decide (lenS c < 1 ∨ lenS d < 1) := rfl
set_option maxRecDepth 100000 in
theorem rof_ok (c d : LSpan) (hc : nearS c) (hd : nearS d) : FnOk Try.prog 36 [aSpan c, aSpan d] [] (aRect (ofS c d)) [] := by
  refine fn_of_awp Try.func36 rfl (by kernel_rfl) (by kernel_rfl) (Nat.le_of_ble_eq_true rfl) Try.results36 ?_
  simp only [go_sem]
  (refine acall2 [] (slen_ok c hc) (by simp only [go_sem]; rfl) (fit_of (by simp only [go_sem]) (by simp only [go_sem]) (by simp only [go_sem]) (by simp only [go_sem]) (by simp only [go_sem]) (by simp only [go_sem]) (by simp only [go_sem])) ?_; simp only [go_sem])
  (refine acall2 [] (slen_ok d hd) (by simp only [go_sem]; rfl) (fit_of (by simp only [go_sem]) (by simp only [go_sem]) (by simp only [go_sem]) (by simp only [go_sem]) (by simp only [go_sem]) (by simp only [go_sem]) (by simp only [go_sem])) ?_; simp only [go_sem])
  refine ⟨by kernel_rfl, ?_⟩
  (refine acall2 [] (rnone_ok ⟨c.a, d.a, lenS c, lenS d⟩) (by simp only [go_sem]; rfl) (fit_of (by simp only [go_sem]) (by simp only [go_sem]) (by simp only [go_sem]) (by simp only [go_sem]) (by simp only [go_sem]) (by simp only [go_sem]) (by simp only [go_sem])) ?_; simp only [go_sem, ofS_none])
  refine ⟨fun h => ?_, fun h => ?_⟩
  · simp [ofS, if_pos h]
  · simp [ofS, if_neg h]
set_option maxRecDepth 100000 in
theorem across_ok (r : LRect) (h : nearR r = true) : FnOk Try.prog 38 [aRect r] [] (aSpan (acr r)) [] := by
  refine fn_of_awp Try.func38 rfl (by kernel_rfl) (by kernel_rfl) (Nat.le_of_ble_eq_true rfl) Try.results38 ?_
  simp only [go_sem]
  rw [nearR_iff] at h
  exact ⟨by omega, rfl, rfl⟩
set_option maxRecDepth 100000 in
theorem down_ok (r : LRect) (h : nearR r = true) : FnOk Try.prog 39 [aRect r] [] (aSpan (dwn r)) [] := by
  refine fn_of_awp Try.func39 rfl (by kernel_rfl) (by kernel_rfl) (Nat.le_of_ble_eq_true rfl) Try.results39 ?_
  simp only [go_sem]
  rw [nearR_iff] at h
  exact ⟨by omega, rfl, rfl⟩
set_option maxRecDepth 100000 in
theorem smeet_ok (a b : LSpan) : FnOk Try.prog 37 [aSpan a, aSpan b] [] (aSpan (meetS a b)) [] := by
  refine fn_of_awp Try.func37 rfl (by kernel_rfl) (by kernel_rfl) (Nat.le_of_ble_eq_true rfl) Try.results37 ?_
  simp only [go_sem]
  (refine acall2 [] (snone_ok a) (by simp only [go_sem]; rfl) (fit_of (by simp only [go_sem]) (by simp only [go_sem]) (by simp only [go_sem]) (by simp only [go_sem]) (by simp only [go_sem]) (by simp only [go_sem]) (by simp only [go_sem])) ?_; simp only [go_sem])
  have hz : emS a = true ∨ emS b = true ∨ emS ⟨max a.a b.a, min a.b b.b⟩ = true → meetS a b = ⟨0, 0⟩ := fun h => by
    simp only [emS, decide_eq_true_eq] at h
    exact if_pos h
  have hn : emS a = false → emS b = false → emS ⟨max a.a b.a, min a.b b.b⟩ = false → meetS a b = ⟨max a.a b.a, min a.b b.b⟩ := fun h1 h2 h3 => by
    simp only [emS, decide_eq_false_iff_not] at h1 h2 h3
    exact if_neg (by omega)
  refine ⟨fun h => ?_, fun h => ?_⟩
  · (refine acall2 [] (snone_ok b) (by simp only [go_sem]; rfl) (fit_of (by simp only [go_sem]) (by simp only [go_sem]) (by simp only [go_sem]) (by simp only [go_sem]) (by simp only [go_sem]) (by simp only [go_sem]) (by simp only [go_sem])) ?_; simp only [go_sem])
    refine ⟨fun h1 => ?_, fun h1 => ?_⟩
    · (refine acall2 [] (snone_ok ⟨max a.a b.a, min a.b b.b⟩) (by simp only [go_sem]; rfl) (fit_of (by simp only [go_sem]) (by simp only [go_sem]) (by simp only [go_sem]) (by simp only [go_sem]) (by simp only [go_sem]) (by simp only [go_sem]) (by simp only [go_sem])) ?_; simp only [go_sem])
      refine ⟨fun h2 => ?_, fun h2 => ?_⟩
      · rw [hz (.inr (.inr h2))]; exact ⟨rfl, rfl⟩
      · rw [hn h h1 h2]; exact ⟨rfl, rfl⟩
    · rw [hz (.inr (.inl h1))]; exact ⟨rfl, rfl⟩
  · rw [hz (.inl h)]; exact ⟨rfl, rfl⟩
theorem hullS_nil : hullS [] = ⟨0, 0⟩ := rfl
theorem take_succ' {α : Type} (l : List α) (k : Nat) (h : k < l.length) : l.take (k + 1) = l.take k ++ [l[k]] := List.take_succ_eq_append_getElem h
end Go.Proofs.Ytblmebjhhanoaaa
/- CHAPTER 3: hulls and slices, the program's and the reference's. -/
/- G -/
set_option linter.unusedSimpArgs false
set_option linter.unusedVariables false
namespace Go.Proofs.Ytblmebjhhanoaaa
open Go.RowKit

theorem somes3_take {l : List LRect} {k : Nat} (h : k < l.length) : somes3 (l.take (k + 1)) = if noneR l[k] then somes3 (l.take k) else somes3 (l.take k) ++ [l[k]] := by
  rw [List.take_succ_eq_append_getElem h, somes3_snoc]
theorem somes3_len (l : List LRect) : (somes3 l).length ≤ l.length := List.length_filter_le ..
theorem nearR_at {l : List LRect} (h : l.all nearR = true) {k : Nat} (hk : k < l.length) : nearR l[k] = true := by
  rw [List.all_eq_true] at h
  exact h _ (List.getElem_mem hk)
theorem acr_near {r : LRect} (h : nearR r = true) : nearS (acr r) := by
  rw [nearR_iff] at h; unfold nearS acr; simp only; omega
theorem dwn_near {r : LRect} (h : nearR r = true) : nearS (dwn r) := by
  rw [nearR_iff] at h; unfold nearS dwn; simp only; omega
theorem hullA_near {l : List LRect} (h : l.all nearR = true) : nearS (hullS ((somes3 l).map acr)) := hullS_bd _ fun s hs => by
  rw [List.mem_map] at hs
  obtain ⟨r, hr, rfl⟩ := hs
  rw [List.all_eq_true] at h
  exact acr_near (h r (List.mem_filter.1 hr).1)
theorem hullD_near {l : List LRect} (h : l.all nearR = true) : nearS (hullS ((somes3 l).map dwn)) := hullS_bd _ fun s hs => by
  rw [List.mem_map] at hs
  obtain ⟨r, hr, rfl⟩ := hs
  rw [List.all_eq_true] at h
  exact dwn_near (h r (List.mem_filter.1 hr).1)
theorem all_take {α : Type} {p : α → Bool} {l : List α} (h : l.all p = true) (k : Nat) : (l.take k).all p = true := by
  rw [List.all_eq_true] at h ⊢
  exact fun x hx => h x (List.mem_of_mem_take hx)

theorem rhull_bd {l : List LRect} (h : l.all nearR = true) : (-2305843009213693952 ≤ (rhullR l).x ∧ 0 ≤ (rhullR l).w ∧ (rhullR l).x + (rhullR l).w ≤ 2305843009213693952) ∧ (-2305843009213693952 ≤ (rhullR l).y ∧ 0 ≤ (rhullR l).h ∧ (rhullR l).y + (rhullR l).h ≤ 2305843009213693952) := by
  rw [rhull_eq]
  have h1 := hullA_near h
  have h2 := hullD_near h
  unfold hullR ofS lenS
  unfold nearS at h1 h2
  repeat' split
  all_goals (simp only at *; omega)
end Go.Proofs.Ytblmebjhhanoaaa
/- CHAPTER 3: slices, the program's and the reference's; rows compared; the chapter's examples. -/
/- G -/
set_option linter.unusedSimpArgs false
set_option linter.unusedVariables false
namespace Go.Proofs.Ytblmebjhhanoaaa
open Go.RowKit

theorem div_facts {h high : Int} (h1 : 1 ≤ h) (h2 : 1 ≤ high) (h3 : h ≤ 1152921504606846976) : (h - 1).tdiv high = (h - 1) / high ∧ 0 ≤ (h - 1) / high ∧ (h - 1) / high ≤ 1152921504606846976 := by
  refine ⟨Int.tdiv_eq_ediv_of_nonneg (by omega), Int.ediv_nonneg (by omega) (by omega), ?_⟩
  have := Int.ediv_le_self high (show 0 ≤ h - 1 by omega)
  omega
theorem sliceN_none {r : LRect} {high : Int} (h : noneR r = true ∨ high < 1 ∨ 32768 ≤ (r.h - 1) / high) : slicesR r high = [] := by
  unfold slicesR sliceN
  rw [if_pos h]
  rfl
theorem range_succ' (n : Nat) : List.range (n + 1) = List.range n ++ [n] := List.range_succ
theorem div_up {h high : Int} (h1 : 1 ≤ h) (h2 : 1 ≤ high) : h.tdiv high = h / high ∧ 0 ≤ h / high ∧ h / high * high ≤ h ∧ (h / high * high < h → (h - 1) / high = h / high) ∧ (¬ h / high * high < h → (h - 1) / high = h / high - 1) := by
  have a1 : h / high * high ≤ h := (Int.le_ediv_iff_mul_le (by omega)).1 (Int.le_refl _)
  have a2 : h < (h / high + 1) * high := (Int.ediv_lt_iff_lt_mul (by omega)).1 (by omega)
  have key : ∀ q : Int, q * high ≤ h - 1 → h - 1 < (q + 1) * high → (h - 1) / high = q := fun q b1 b2 => by
    have c1 := (Int.le_ediv_iff_mul_le (a := q) (b := h - 1) (c := high) (by omega)).2 b1
    have c2 := (Int.ediv_lt_iff_lt_mul (a := h - 1) (b := q + 1) (c := high) (by omega)).2 b2
    omega
  refine ⟨Int.tdiv_eq_ediv_of_nonneg (by omega), Int.ediv_nonneg (by omega) (by omega), a1, fun h3 => key _ (by omega) (by omega), fun h3 => key _ ?_ ?_⟩
  · rw [Int.sub_mul]; omega
  · rw [Int.sub_add_cancel]; omega
structure SlX where
  i : Nat
  y : Int
  h : Int
def SlInv (r : LRect) (high : Int) (x : SlX) : Prop := x.i ≤ sliceN r high ∧ (x.i < sliceN r high → x.y = r.y + x.i * high) ∧ (-1152921504606846976 ≤ x.y ∧ x.y ≤ 2305843009213693952)
end Go.Proofs.Ytblmebjhhanoaaa
/- CHAPTER 10: bands; floats, what they leave free. -/
/- G -/
set_option linter.unusedSimpArgs false
set_option linter.unusedVariables false
namespace Go.Proofs.Ytblmebjhhanoaaa
open Go.RowKit

structure LFl where
  node : Int
  side : Int
  anchor : Int
  x : Int
  y : Int
  w : Int
  h : Int
deriving DecidableEq
def cFl (f : LFl) : List PV := [.raw (.int .i64 f.node), .raw (.int .i64 f.side), .raw (.int .i64 f.anchor), .raw (.int .i64 f.x), .raw (.int .i64 f.y), .raw (.int .i64 f.w), .raw (.int .i64 f.h)]
def aFl (f : LFl) : AV := .agg [.raw (.int .i64 f.node), .raw (.int .i64 f.side), .raw (.int .i64 f.anchor), .raw (.int .i64 f.x), .raw (.int .i64 f.y), .raw (.int .i64 f.w), .raw (.int .i64 f.h)]
def aPl (f : LFl) : AV := .agg [.raw (.int .i64 f.node), .raw (.int .i64 f.side), .raw (.int .i64 f.anchor), .raw (.int .i64 f.x), .raw (.int .i64 f.y), .raw (.int .i64 f.w), .raw (.int .i64 f.h), .raw (.int .i64 f.x), .raw (.int .i64 f.y), .raw (.int .i64 f.w), .raw (.int .i64 f.h)]
def rcF (f : LFl) : LRect := ⟨f.x, f.y, f.w, f.h⟩
attribute [go_sem] cFl aFl aPl rcF acr dwn
def nr10 (n : Int) : Bool := decide (-1125899906842624 ≤ n ∧ n ≤ 1125899906842624)
def nearF (f : LFl) : Bool := nr10 f.x && nr10 f.y && nr10 f.w && nr10 f.h
theorem nearF_iff {f : LFl} : nearF f = true ↔ (-1125899906842624 ≤ f.x ∧ f.x ≤ 1125899906842624) ∧ (-1125899906842624 ≤ f.y ∧ f.y ≤ 1125899906842624) ∧ (-1125899906842624 ≤ f.w ∧ f.w ≤ 1125899906842624) ∧ (-1125899906842624 ≤ f.h ∧ f.h ≤ 1125899906842624) := by
  simp only [nearF, nr10, Bool.and_eq_true, decide_eq_true_eq, and_assoc]
theorem nearRF {f : LFl} (h : nearF f = true) : nearR (rcF f) = true := by
  rw [nearF_iff] at h
  exact nearR_iff.2 (by simp only [rcF]; omega)
def meetF (f : LFl) (y high : Int) : Bool := decide (0 < f.h ∧ f.y < y + max high 1 ∧ y < f.y + f.h)
def cutF (f : LFl) (s : LSpan) : LSpan := if f.side = 1 then ⟨max s.a (f.x + f.w), s.b⟩ else ⟨s.a, min s.b f.x⟩
def ofT (y high : Int) (s : LSpan) (f : LFl) : LSpan := if meetF f y high then cutF f s else s
def bandF (l : List LFl) (y high : Int) (s : LSpan) : LSpan := l.foldl (ofT y high) s
structure LIs where
  n : Int
  is : Bool
deriving DecidableEq
def nextT (y high : Int) (s : LSpan) (o : LIs) (f : LFl) : LIs := if meetF f y high = true ∧ ¬ ((cutF f s).a = s.a ∧ (cutF f s).b = s.b) ∧ (o.is = true → f.y + f.h < o.n) then ⟨f.y + f.h, true⟩ else o
def nextF (l : List LFl) (y high : Int) (s : LSpan) : LIs := l.foldl (nextT y high s) ⟨0, false⟩
def mostT (t : LFl → LIs) (o : LIs) (f : LFl) : LIs := if (t f).is = true ∧ (o.is = true → o.n < (t f).n) then ⟨(t f).n, true⟩ else o
def lowF (sides : Int) (f : LFl) : LIs := ⟨f.y + f.h, decide (andI f.side sides ≠ 0)⟩
def topF (f : LFl) : LIs := ⟨f.y, true⟩
def mostF (t : LFl → LIs) (l : List LFl) : LIs := l.foldl (mostT t) ⟨0, false⟩
def aIs (o : LIs) : AV := .tup [.raw (.int .i64 o.n), .raw (.bool o.is)]
attribute [go_sem] aIs
set_option maxRecDepth 100000 in
theorem bof_ok (f : LFl) : FnOk Try.prog 107 [aFl f] [] (aPl f) [] := by
  refine fn_of_awp Try.func107 rfl (by kernel_rfl) (by kernel_rfl) (Nat.le_of_ble_eq_true rfl) Try.results107 ?_
  simp only [go_sem]
set_option maxRecDepth 100000 in
theorem bbot_ok (f : LFl) (h : nearF f = true) : FnOk Try.prog 79 [aPl f] [] (.raw (.int .i64 (f.y + f.h))) [] := by
  refine fn_of_awp Try.func79 rfl (by kernel_rfl) (by kernel_rfl) (Nat.le_of_ble_eq_true rfl) Try.results79 ?_
  simp only [go_sem]
  (refine acall2 [] (down_ok (rcF f) (nearRF h)) (by simp only [go_sem]; rfl) (fit_of (by simp only [go_sem]) (by simp only [go_sem]) (by simp only [go_sem]) (by simp only [go_sem]) (by simp only [go_sem]) (by simp only [go_sem]) (by simp only [go_sem])) ?_; simp only [go_sem])
theorem meetS_zero (a b : LSpan) : ((meetS a b).a = 0 ∧ (meetS a b).b = 0) ↔ (a.b ≤ a.a ∨ b.b ≤ b.a ∨ min a.b b.b ≤ max a.a b.a) := by
  unfold meetS
  split
  · next h => exact ⟨fun _ => h, fun _ => ⟨rfl, rfl⟩⟩
  · next h => exact ⟨fun h1 => by simp only at h1; omega, fun h1 => absurd h1 h⟩
set_option maxRecDepth 100000 in
theorem apart_ok (a b : LSpan) : FnOk Try.prog 148 [aSpan a, aSpan b] [] (.raw (.bool (decide ((meetS a b).a = 0 ∧ (meetS a b).b = 0)))) [] := by
  refine fn_of_awp Try.func148 rfl (by kernel_rfl) (by kernel_rfl) (Nat.le_of_ble_eq_true rfl) Try.results148 ?_
  simp only [go_sem]
  (refine acall2 [] (smeet_ok a b) (by simp only [go_sem]; rfl) (fit_of (by simp only [go_sem]) (by simp only [go_sem]) (by simp only [go_sem]) (by simp only [go_sem]) (by simp only [go_sem]) (by simp only [go_sem]) (by simp only [go_sem])) ?_; simp only [go_sem])
  simp
theorem meetF_eq (f : LFl) (y high : Int) (hh : 1 ≤ max high 1) : meetF f y high = !decide ((meetS ⟨f.y, f.y + f.h⟩ ⟨y, y + max high 1⟩).a = 0 ∧ (meetS ⟨f.y, f.y + f.h⟩ ⟨y, y + max high 1⟩).b = 0) := by
  have e := meetS_zero ⟨f.y, f.y + f.h⟩ ⟨y, y + max high 1⟩
  rw [Bool.eq_iff_iff]
  simp only [Bool.not_eq_true', decide_eq_false_iff_not, e, meetF, decide_eq_true_eq]
  omega
set_option maxRecDepth 100000 in
theorem meets_ok (f : LFl) (y high : Int) (h : nearF f = true) (hy : -4503599627370496 ≤ y ∧ y ≤ 4503599627370496) (hh : -4503599627370496 ≤ high ∧ high ≤ 4503599627370496) : FnOk Try.prog 141 [aPl f, .raw (.int .i64 y), .raw (.int .i64 high)] [] (.raw (.bool (meetF f y high))) [] := by
  refine fn_of_awp Try.func141 rfl (by kernel_rfl) (by kernel_rfl) (Nat.le_of_ble_eq_true rfl) Try.results141 ?_
  simp only [go_sem]
  (refine acall2 [] (down_ok (rcF f) (nearRF h)) (by simp only [go_sem]; rfl) (fit_of (by simp only [go_sem]) (by simp only [go_sem]) (by simp only [go_sem]) (by simp only [go_sem]) (by simp only [go_sem]) (by simp only [go_sem]) (by simp only [go_sem])) ?_; simp only [go_sem])
  refine ⟨by omega, ?_⟩
  (refine acall2 [] (apart_ok (dwn (rcF f)) ⟨y, y + max high 1⟩) (by simp only [go_sem]; rfl) (fit_of (by simp only [go_sem]) (by simp only [go_sem]) (by simp only [go_sem]) (by simp only [go_sem]) (by simp only [go_sem]) (by simp only [go_sem]) (by simp only [go_sem])) ?_; simp only [go_sem])
  exact meetF_eq f y high (by omega)
set_option maxRecDepth 100000 in
theorem cut_ok (f : LFl) (s : LSpan) (h : nearF f = true) : FnOk Try.prog 125 [aPl f, aSpan s] [] (aSpan (cutF f s)) [] := by
  refine fn_of_awp Try.func125 rfl (by kernel_rfl) (by kernel_rfl) (Nat.le_of_ble_eq_true rfl) Try.results125 ?_
  simp only [go_sem]
  (refine acall2 [] (across_ok (rcF f) (nearRF h)) (by simp only [go_sem]; rfl) (fit_of (by simp only [go_sem]) (by simp only [go_sem]) (by simp only [go_sem]) (by simp only [go_sem]) (by simp only [go_sem]) (by simp only [go_sem]) (by simp only [go_sem])) ?_; simp only [go_sem])
  exact ⟨fun h1 => by rw [cutF, if_pos h1]; exact ⟨rfl, rfl⟩, fun h1 => by rw [cutF, if_neg h1]; exact ⟨rfl, rfl⟩⟩
/-! folds, step by step -/
structure KX (α : Type) where
  k : Nat
  o : α
def FInv {α β : Type} (f : α → β → α) (a : α) (l : List β) (z : KX α) : Prop := z.k ≤ l.length ∧ z.o = (l.take z.k).foldl f a
theorem fInv_first {α β : Type} (f : α → β → α) (a : α) (l : List β) : FInv f a l ⟨0, a⟩ := ⟨Nat.zero_le _, rfl⟩
theorem fInv_next {α β : Type} {f : α → β → α} {a : α} {l : List β} {k : Nat} {o o' : α} (h : FInv f a l ⟨k, o⟩) (hk : k < l.length) (e : o' = f o l[k]) : FInv f a l ⟨k + 1, o'⟩ := by
  obtain ⟨h1, h2⟩ := h
  refine ⟨hk, ?_⟩
  simp only at h2 ⊢
  rw [List.take_succ_eq_append_getElem hk, List.foldl_append, ← h2, e]
  rfl
theorem fInv_last {α β : Type} {f : α → β → α} {a : α} {l : List β} {k : Nat} {o : α} (h : FInv f a l ⟨k, o⟩) (hk : ¬ (k : Int) < l.length) : o = l.foldl f a := by
  obtain ⟨h1, h2⟩ := h
  simp only at h1 h2
  rw [h2, List.take_of_length_le (by omega)]
theorem all_at {α : Type} {p : α → Bool} {l : List α} (h : l.all p = true) {k : Nat} (hk : k < l.length) : p l[k] = true := List.all_eq_true.1 h _ (List.getElem_mem hk)
set_option maxRecDepth 100000 in
theorem ofc_ok (f : LFl) (s : LSpan) (h : nearF f = true) : FnOk Try.prog 142 [aPl f, .hdr 0] [(0, .cells 87 [.raw (.int .i64 s.a), .raw (.int .i64 s.b)])] (.tup []) [(0, .cells 87 [.raw (.int .i64 (cutF f s).a), .raw (.int .i64 (cutF f s).b)])] := by
  refine fn_of_awp Try.func142 rfl (by kernel_rfl) (by kernel_rfl) (Nat.le_of_ble_eq_true rfl) Try.results142 ?_
  simp only [go_sem]
  (refine acall2 [] (cut_ok f s h) (by simp only [go_sem]; rfl) (fit_of (by simp only [go_sem]) (by simp only [go_sem]) (by simp only [go_sem]) (by simp only [go_sem]) (by simp only [go_sem]) (by simp only [go_sem]) (by simp only [go_sem])) ?_; simp only [go_sem])
  (refine ret2 [] (by simp only [go_sem]; rfl) ?_; simp only [go_sem])
def nextC (s : LSpan) (o : LIs) (f : LFl) : LIs := if ¬ ((cutF f s).a = s.a ∧ (cutF f s).b = s.b) ∧ (o.is = true → f.y + f.h < o.n) then ⟨f.y + f.h, true⟩ else o
theorem nextT_eq (y high : Int) (s : LSpan) (o : LIs) (f : LFl) : nextT y high s o f = if meetF f y high = true then nextC s o f else o := by
  unfold nextT nextC
  by_cases h : meetF f y high = true
  · simp only [h, true_and, if_true]
  · rw [if_neg (fun q => h q.1), if_neg h]
set_option maxRecDepth 100000 in
theorem nextc_ok (f : LFl) (s : LSpan) (o : LIs) (h : nearF f = true) : FnOk Try.prog 124 [aPl f, .hdr 0, .hdr 1, .hdr 2] [(0, .cells 87 [.raw (.int .i64 s.a), .raw (.int .i64 s.b)]), (1, .cells 4 [.raw (.bool o.is)]), (2, .cells 3 [.raw (.int .i64 o.n)])] (.tup []) [(0, .cells 87 [.raw (.int .i64 s.a), .raw (.int .i64 s.b)]), (1, .cells 4 [.raw (.bool (nextC s o f).is)]), (2, .cells 3 [.raw (.int .i64 (nextC s o f).n)])] := by
  refine fn_of_awp Try.func124 rfl (by kernel_rfl) (by kernel_rfl) (Nat.le_of_ble_eq_true rfl) Try.results124 ?_
  simp only [go_sem]
  repeat' first | intro _ | refine And.intro ?_ ?_ | refine ex_get (by omega) ?_ | (show drawB _ _ = true; kernel_rfl) | (refine ret2 [] (by simp only [go_sem]; rfl) ?_; simp only [go_sem]) | (refine acall2 [] (cut_ok f s h) (by simp only [go_sem]; rfl) (fit_of (by simp only [go_sem]) (by simp only [go_sem]) (by simp only [go_sem]) (by simp only [go_sem]) (by simp only [go_sem]) (by simp only [go_sem]) (by simp only [go_sem])) ?_; simp only [go_sem]) | (refine acall2 [] (bbot_ok f h) (by simp only [go_sem]; rfl) (fit_of (by simp only [go_sem]) (by simp only [go_sem]) (by simp only [go_sem]) (by simp only [go_sem]) (by simp only [go_sem]) (by simp only [go_sem]) (by simp only [go_sem])) ?_; simp only [go_sem])
  all_goals (unfold nextC; split <;> first | rfl | omega | (simp_all; done) | (simp_all; omega))
set_option maxRecDepth 100000 in
theorem lowc_ok (f : LFl) (sides : Int) (h : nearF f = true) : FnOk Try.prog 78 [aPl f, .hdr 0] [(0, .cells 3 [.raw (.int .i64 sides)])] (aIs (lowF sides f)) [(0, .cells 3 [.raw (.int .i64 sides)])] := by
  refine fn_of_awp Try.func78 rfl (by kernel_rfl) (by kernel_rfl) (Nat.le_of_ble_eq_true rfl) Try.results78 ?_
  simp only [go_sem]
  repeat' first | intro _ | refine And.intro ?_ ?_ | refine ex_get (by omega) ?_ | (show drawB _ _ = true; kernel_rfl) | (refine ret2 [] (by simp only [go_sem]; rfl) ?_; simp only [go_sem]) | (refine acall2 [] (bbot_ok f h) (by simp only [go_sem]; rfl) (fit_of (by simp only [go_sem]) (by simp only [go_sem]) (by simp only [go_sem]) (by simp only [go_sem]) (by simp only [go_sem]) (by simp only [go_sem]) (by simp only [go_sem])) ?_; simp only [go_sem])
  all_goals simp [lowF]
set_option maxRecDepth 100000 in
theorem topc_ok (f : LFl) (h : nearF f = true) : FnOk Try.prog 143 [aPl f] [] (aIs (topF f)) [] := by
  refine fn_of_awp Try.func143 rfl (by kernel_rfl) (by kernel_rfl) (Nat.le_of_ble_eq_true rfl) Try.results143 ?_
  simp only [go_sem]
  repeat' first | intro _ | refine And.intro ?_ ?_ | refine ex_get (by omega) ?_ | (show drawB _ _ = true; kernel_rfl) | (refine ret2 [] (by simp only [go_sem]; rfl) ?_; simp only [go_sem]) | (refine acall2 [] (down_ok (rcF f) (nearRF h)) (by simp only [go_sem]; rfl) (fit_of (by simp only [go_sem]) (by simp only [go_sem]) (by simp only [go_sem]) (by simp only [go_sem]) (by simp only [go_sem]) (by simp only [go_sem]) (by simp only [go_sem])) ?_; simp only [go_sem])
  all_goals rfl
end Go.Proofs.Ytblmebjhhanoaaa
/- CHAPTER 10: the program's bands: all, most, and what they tell. -/
/- G -/
set_option linter.unusedSimpArgs false
set_option linter.unusedVariables false
namespace Go.Proofs.Ytblmebjhhanoaaa
open Go.RowKit

theorem most_pos {t : LFl → LIs} {o : LIs} {f : LFl} (h : (t f).is = true ∧ (o.is = true → o.n < (t f).n)) : (⟨(t f).n, true⟩ : LIs) = mostT t o f := by rw [mostT, if_pos h]
theorem most_neg {t : LFl → LIs} {o : LIs} {f : LFl} (h : (t f).is = true → o.is = true ∧ ¬ o.n < (t f).n) : o = mostT t o f := by
  rw [mostT, if_neg]
  rintro ⟨h1, h2⟩
  exact (h h1).2 (h2 (h h1).1)
def in10 (n : Int) : Prop := -4503599627370496 ≤ n ∧ n ≤ 4503599627370496
set_option maxRecDepth 100000 in
theorem allOf_ok (l : List LFl) (y high : Int) (s : LSpan) (hl : l.length ≤ 100) (hn : l.all nearF = true) (hy : in10 y) (hh : in10 high) : FnOk Try.prog 123 [.sl 7 (l.map cFl), .raw (.int .i64 y), .raw (.int .i64 high), .clo (.func 142) [.hdr 1]] [(1, .cells 87 [.raw (.int .i64 s.a), .raw (.int .i64 s.b)])] (.tup []) [(1, .cells 87 [.raw (.int .i64 (bandF l y high s).a), .raw (.int .i64 (bandF l y high s).b)])] := by
  refine fn_of_awp Try.func123 rfl (by kernel_rfl) (by kernel_rfl) (Nat.le_of_ble_eq_true rfl) Try.results123 ?_
  simp only [go_sem, List.length_map]
  refine aloop2 [] (fun z : KX LSpan => ⟨[(1, .raw (.int .i64 y)), (2, .raw (.int .i64 high)), (3, .clo (.func 142) [.hdr 1]), (11, .sl 7 (l.map cFl)), (12, .raw (.int .i64 l.length)), (13, .raw (.int .i64 z.k))], [(1, some (.cells 87 [.raw (.int .i64 z.o.a), .raw (.int .i64 z.o.b)]))], none⟩) (FInv (ofT y high) s l) (fun z => l.length - z.k) 2 ⟨0, s⟩ (by simp only [go_sem]; rfl) (by simp only [go_sem]) ?_ ?_
  · exact fInv_first _ _ _
  · rintro ⟨k, o⟩ hi
    simp only [go_sem, List.length_map]
    refine ⟨fun h5 => ?_, fun h5 => ?_⟩
    · have hk : k < l.length := by omega
      have hf := all_at hn hk
      refine ⟨by omega, l[k], by simp, ?_⟩
      repeat' first | intro _ | refine And.intro ?_ ?_ | refine ex_get (by omega) ?_ | (show drawB _ _ = true; kernel_rfl) | (refine ret2 [] (by simp only [go_sem]; rfl) ?_; simp only [go_sem]) | (refine acall2 [] (bof_ok l[k]) (by simp only [go_sem]; rfl) (fit_of (by simp only [go_sem]) (by simp only [go_sem]) (by simp only [go_sem]) (by simp only [go_sem]) (by simp only [go_sem]) (by simp only [go_sem]) (by simp only [go_sem])) ?_; simp only [go_sem]) | (refine acall2 [] (meets_ok l[k] y high hf hy hh) (by simp only [go_sem]; rfl) (fit_of (by simp only [go_sem]) (by simp only [go_sem]) (by simp only [go_sem]) (by simp only [go_sem]) (by simp only [go_sem]) (by simp only [go_sem]) (by simp only [go_sem])) ?_; simp only [go_sem]) | (refine acall2 [] (ofc_ok l[k] o hf) (by simp only [go_sem]; rfl) (fit_of (by simp only [go_sem]) (by simp only [go_sem]) (by simp only [go_sem]) (by simp only [go_sem]) (by simp only [go_sem]) (by simp only [go_sem]) (by simp only [go_sem])) ?_; simp only [go_sem])
      all_goals first | omega | ((refine loop_end [] (⟨k + 1, cutF l[k] o⟩) (by simp only [go_sem]; rfl) ?_ ?_ ?_; (focus first | omega | (simp only; omega)); (focus (simp only [go_sem]; done))); exact fInv_next hi hk (by rw [ofT, if_pos (by assumption)])) | ((refine loop_end [] (⟨k + 1, o⟩) (by simp only [go_sem]; rfl) ?_ ?_ ?_; (focus first | omega | (simp only; omega)); (focus (simp only [go_sem]; done))); exact fInv_next hi hk (by rw [ofT, if_neg (by simp [*])]))
    · have e := fInv_last hi h5
      repeat' first | intro _ | refine And.intro ?_ ?_ | refine ex_get (by omega) ?_ | (show drawB _ _ = true; kernel_rfl) | (refine ret2 [] (by simp only [go_sem]; rfl) ?_; simp only [go_sem])
      all_goals (rw [e]; rfl)
set_option maxRecDepth 100000 in
theorem allNext_ok (l : List LFl) (y high : Int) (s : LSpan) (hl : l.length ≤ 100) (hn : l.all nearF = true) (hy : in10 y) (hh : in10 high) : FnOk Try.prog 123 [.sl 7 (l.map cFl), .raw (.int .i64 y), .raw (.int .i64 high), .clo (.func 124) [.hdr 1, .hdr 2, .hdr 3]] [(1, .cells 87 [.raw (.int .i64 s.a), .raw (.int .i64 s.b)]), (2, .cells 4 [.raw (.bool false)]), (3, .cells 3 [.raw (.int .i64 0)])] (.tup []) [(1, .cells 87 [.raw (.int .i64 s.a), .raw (.int .i64 s.b)]), (2, .cells 4 [.raw (.bool (nextF l y high s).is)]), (3, .cells 3 [.raw (.int .i64 (nextF l y high s).n)])] := by
  refine fn_of_awp Try.func123 rfl (by kernel_rfl) (by kernel_rfl) (Nat.le_of_ble_eq_true rfl) Try.results123 ?_
  simp only [go_sem, List.length_map]
  refine aloop2 [] (fun z : KX LIs => ⟨[(1, .raw (.int .i64 y)), (2, .raw (.int .i64 high)), (3, .clo (.func 124) [.hdr 1, .hdr 2, .hdr 3]), (11, .sl 7 (l.map cFl)), (12, .raw (.int .i64 l.length)), (13, .raw (.int .i64 z.k))], [(1, some (.cells 87 [.raw (.int .i64 s.a), .raw (.int .i64 s.b)])), (2, some (.cells 4 [.raw (.bool z.o.is)])), (3, some (.cells 3 [.raw (.int .i64 z.o.n)]))], none⟩) (FInv (nextT y high s) ⟨0, false⟩ l) (fun z => l.length - z.k) 2 ⟨0, ⟨0, false⟩⟩ (by simp only [go_sem]; rfl) (by simp only [go_sem]) ?_ ?_
  · exact fInv_first _ _ _
  · rintro ⟨k, o⟩ hi
    simp only [go_sem, List.length_map]
    refine ⟨fun h5 => ?_, fun h5 => ?_⟩
    · have hk : k < l.length := by omega
      have hf := all_at hn hk
      refine ⟨by omega, l[k], by simp, ?_⟩
      repeat' first | intro _ | refine And.intro ?_ ?_ | refine ex_get (by omega) ?_ | (show drawB _ _ = true; kernel_rfl) | (refine ret2 [] (by simp only [go_sem]; rfl) ?_; simp only [go_sem]) | (refine acall2 [] (bof_ok l[k]) (by simp only [go_sem]; rfl) (fit_of (by simp only [go_sem]) (by simp only [go_sem]) (by simp only [go_sem]) (by simp only [go_sem]) (by simp only [go_sem]) (by simp only [go_sem]) (by simp only [go_sem])) ?_; simp only [go_sem]) | (refine acall2 [] (meets_ok l[k] y high hf hy hh) (by simp only [go_sem]; rfl) (fit_of (by simp only [go_sem]) (by simp only [go_sem]) (by simp only [go_sem]) (by simp only [go_sem]) (by simp only [go_sem]) (by simp only [go_sem]) (by simp only [go_sem])) ?_; simp only [go_sem]) | (refine acall2 [] (nextc_ok l[k] s o hf) (by simp only [go_sem]; rfl) (fit_of (by simp only [go_sem]) (by simp only [go_sem]) (by simp only [go_sem]) (by simp only [go_sem]) (by simp only [go_sem]) (by simp only [go_sem]) (by simp only [go_sem])) ?_; simp only [go_sem])
      all_goals first | omega | ((refine loop_end [] (⟨k + 1, nextC s o l[k]⟩) (by simp only [go_sem]; rfl) ?_ ?_ ?_; (focus first | omega | (simp only; omega)); (focus (simp only [go_sem]; done))); exact fInv_next hi hk (by rw [nextT_eq, if_pos (by assumption)])) | ((refine loop_end [] (⟨k + 1, o⟩) (by simp only [go_sem]; rfl) ?_ ?_ ?_; (focus first | omega | (simp only; omega)); (focus (simp only [go_sem]; done))); exact fInv_next hi hk (by rw [nextT_eq, if_neg (by simp [*])]))
    · have e := fInv_last hi h5
      repeat' first | intro _ | refine And.intro ?_ ?_ | refine ex_get (by omega) ?_ | (show drawB _ _ = true; kernel_rfl) | (refine ret2 [] (by simp only [go_sem]; rfl) ?_; simp only [go_sem])
      all_goals (rw [e]; rfl)
set_option maxRecDepth 100000 in
theorem mostLow_ok (l : List LFl) (sides : Int) (hl : l.length ≤ 100) (hn : l.all nearF = true) : FnOk Try.prog 77 [.sl 7 (l.map cFl), .clo (.func 78) [.hdr 1]] [(1, .cells 3 [.raw (.int .i64 sides)])] (aIs (mostF (lowF sides) l)) [] := by
  refine fn_of_awp Try.func77 rfl (by kernel_rfl) (by kernel_rfl) (Nat.le_of_ble_eq_true rfl) Try.results77 ?_
  simp only [go_sem, List.length_map]
  refine aloop2 [] (fun z : KX LIs => ⟨[(1, .clo (.func 78) [.hdr 1]), (4, .raw (.int .i64 0)), (5, .raw (.bool false)), (6, .raw (.int .i64 z.o.n)), (7, .raw (.bool z.o.is)), (12, .sl 7 (l.map cFl)), (13, .raw (.int .i64 l.length)), (14, .raw (.int .i64 z.k))], [(1, some (.cells 3 [.raw (.int .i64 sides)]))], none⟩) (FInv (mostT (lowF sides)) ⟨0, false⟩ l) (fun z => l.length - z.k) 2 ⟨0, ⟨0, false⟩⟩ (by simp only [go_sem]; rfl) (by simp only [go_sem]) ?_ ?_
  · exact fInv_first _ _ _
  · rintro ⟨k, o⟩ hi
    simp only [go_sem, List.length_map]
    refine ⟨fun h5 => ?_, fun h5 => ?_⟩
    · have hk : k < l.length := by omega
      have hf := all_at hn hk
      refine ⟨by omega, l[k], by simp, ?_⟩
      repeat' first | intro _ | refine And.intro ?_ ?_ | refine ex_get (by omega) ?_ | (show drawB _ _ = true; kernel_rfl) | (refine ret2 [] (by simp only [go_sem]; rfl) ?_; simp only [go_sem]) | (refine acall2 [] (bof_ok l[k]) (by simp only [go_sem]; rfl) (fit_of (by simp only [go_sem]) (by simp only [go_sem]) (by simp only [go_sem]) (by simp only [go_sem]) (by simp only [go_sem]) (by simp only [go_sem]) (by simp only [go_sem])) ?_; simp only [go_sem]) | (refine acall2 [] (lowc_ok l[k] sides hf) (by simp only [go_sem]; rfl) (fit_of (by simp only [go_sem]) (by simp only [go_sem]) (by simp only [go_sem]) (by simp only [go_sem]) (by simp only [go_sem]) (by simp only [go_sem]) (by simp only [go_sem])) ?_; simp only [go_sem])
      all_goals first | omega | ((refine loop_end [] (⟨k + 1, ⟨(lowF sides l[k]).n, true⟩⟩) (by simp only [go_sem]; rfl) ?_ ?_ ?_; (focus first | omega | (simp only; omega)); (focus (simp only [go_sem]; done))); refine fInv_next hi hk (most_pos ?_); simp_all; done) | ((refine loop_end [] (⟨k + 1, o⟩) (by simp only [go_sem]; rfl) ?_ ?_ ?_; (focus first | omega | (simp only; omega)); (focus (simp only [go_sem]; done))); refine fInv_next hi hk (most_neg ?_); simp_all; try omega)
    · have e := fInv_last hi h5
      repeat' first | intro _ | refine And.intro ?_ ?_ | refine ex_get (by omega) ?_ | (show drawB _ _ = true; kernel_rfl) | (refine ret2 [] (by simp only [go_sem]; rfl) ?_; simp only [go_sem])
      all_goals (rw [e]; rfl)
set_option maxRecDepth 100000 in
theorem mostTop_ok (l : List LFl) (hl : l.length ≤ 100) (hn : l.all nearF = true) : FnOk Try.prog 77 [.sl 7 (l.map cFl), .clo (.func 143) []] [] (aIs (mostF topF l)) [] := by
  refine fn_of_awp Try.func77 rfl (by kernel_rfl) (by kernel_rfl) (Nat.le_of_ble_eq_true rfl) Try.results77 ?_
  simp only [go_sem, List.length_map]
  refine aloop2 [] (fun z : KX LIs => ⟨[(1, .clo (.func 143) []), (4, .raw (.int .i64 0)), (5, .raw (.bool false)), (6, .raw (.int .i64 z.o.n)), (7, .raw (.bool z.o.is)), (12, .sl 7 (l.map cFl)), (13, .raw (.int .i64 l.length)), (14, .raw (.int .i64 z.k))], [], none⟩) (FInv (mostT topF) ⟨0, false⟩ l) (fun z => l.length - z.k) 2 ⟨0, ⟨0, false⟩⟩ (by simp only [go_sem]; rfl) (by simp only [go_sem]) ?_ ?_
  · exact fInv_first _ _ _
  · rintro ⟨k, o⟩ hi
    simp only [go_sem, List.length_map]
    refine ⟨fun h5 => ?_, fun h5 => ?_⟩
    · have hk : k < l.length := by omega
      have hf := all_at hn hk
      refine ⟨by omega, l[k], by simp, ?_⟩
      repeat' first | intro _ | refine And.intro ?_ ?_ | refine ex_get (by omega) ?_ | (show drawB _ _ = true; kernel_rfl) | (refine ret2 [] (by simp only [go_sem]; rfl) ?_; simp only [go_sem]) | (refine acall2 [] (bof_ok l[k]) (by simp only [go_sem]; rfl) (fit_of (by simp only [go_sem]) (by simp only [go_sem]) (by simp only [go_sem]) (by simp only [go_sem]) (by simp only [go_sem]) (by simp only [go_sem]) (by simp only [go_sem])) ?_; simp only [go_sem]) | (refine acall2 [] (topc_ok l[k] hf) (by simp only [go_sem]; rfl) (fit_of (by simp only [go_sem]) (by simp only [go_sem]) (by simp only [go_sem]) (by simp only [go_sem]) (by simp only [go_sem]) (by simp only [go_sem]) (by simp only [go_sem])) ?_; simp only [go_sem])
      all_goals first | omega | ((refine loop_end [] (⟨k + 1, ⟨(topF l[k]).n, true⟩⟩) (by simp only [go_sem]; rfl) ?_ ?_ ?_; (focus first | omega | (simp only; omega)); (focus (simp only [go_sem]; done))); refine fInv_next hi hk (most_pos ?_); simp_all; done) | ((refine loop_end [] (⟨k + 1, o⟩) (by simp only [go_sem]; rfl) ?_ ?_ ?_; (focus first | omega | (simp only; omega)); (focus (simp only [go_sem]; done))); refine fInv_next hi hk (most_neg ?_); simp_all; try omega)
    · have e := fInv_last hi h5
      repeat' first | intro _ | refine And.intro ?_ ?_ | refine ex_get (by omega) ?_ | (show drawB _ _ = true; kernel_rfl) | (refine ret2 [] (by simp only [go_sem]; rfl) ?_; simp only [go_sem])
      all_goals (rw [e]; rfl)

set_option maxRecDepth 100000 in
theorem bof10_ok (l : List LFl) (y high : Int) (s : LSpan) (hl : l.length ≤ 100) (hn : l.all nearF = true) (hy : in10 y) (hh : in10 high) : FnOk Try.prog 126 [.sl 7 (l.map cFl), .raw (.int .i64 y), .raw (.int .i64 high), aSpan s] [] (aSpan (bandF l y high s)) [] := by
  refine fn_of_awp Try.func126 rfl (by kernel_rfl) (by kernel_rfl) (Nat.le_of_ble_eq_true rfl) Try.results126 ?_
  simp only [go_sem]
  repeat' first | intro _ | refine And.intro ?_ ?_ | refine ex_get (by omega) ?_ | (show drawB _ _ = true; kernel_rfl) | (refine ret2 [] (by simp only [go_sem]; rfl) ?_; simp only [go_sem]) | (refine acall2 [] (allOf_ok l y high s hl hn hy hh) (by simp only [go_sem]; rfl) (fit_of (by simp only [go_sem]) (by simp only [go_sem]) (by simp only [go_sem]) (by simp only [go_sem]) (by simp only [go_sem]) (by simp only [go_sem]) (by simp only [go_sem])) ?_; simp only [go_sem])
set_option maxRecDepth 100000 in
theorem bnext_ok (l : List LFl) (y high : Int) (s : LSpan) (hl : l.length ≤ 100) (hn : l.all nearF = true) (hy : in10 y) (hh : in10 high) : FnOk Try.prog 103 [.sl 7 (l.map cFl), .raw (.int .i64 y), .raw (.int .i64 high), aSpan s] [] (aIs (nextF l y high s)) [] := by
  refine fn_of_awp Try.func103 rfl (by kernel_rfl) (by kernel_rfl) (Nat.le_of_ble_eq_true rfl) Try.results103 ?_
  simp only [go_sem]
  repeat' first | intro _ | refine And.intro ?_ ?_ | refine ex_get (by omega) ?_ | (show drawB _ _ = true; kernel_rfl) | (refine ret2 [] (by simp only [go_sem]; rfl) ?_; simp only [go_sem]) | (refine acall2 [] (allNext_ok l y high s hl hn hy hh) (by simp only [go_sem]; rfl) (fit_of (by simp only [go_sem]) (by simp only [go_sem]) (by simp only [go_sem]) (by simp only [go_sem]) (by simp only [go_sem]) (by simp only [go_sem]) (by simp only [go_sem])) ?_; simp only [go_sem])
set_option maxRecDepth 100000 in
theorem blow_ok (l : List LFl) (sides : Int) (hl : l.length ≤ 100) (hn : l.all nearF = true) : FnOk Try.prog 57 [.sl 7 (l.map cFl), .raw (.int .i64 sides)] [] (aIs (mostF (lowF sides) l)) [] := by
  refine fn_of_awp Try.func57 rfl (by kernel_rfl) (by kernel_rfl) (Nat.le_of_ble_eq_true rfl) Try.results57 ?_
  simp only [go_sem]
  repeat' first | intro _ | refine And.intro ?_ ?_ | refine ex_get (by omega) ?_ | (show drawB _ _ = true; kernel_rfl) | (refine ret2 [] (by simp only [go_sem]; rfl) ?_; simp only [go_sem]) | (refine acall2 [] (mostLow_ok l sides hl hn) (by simp only [go_sem]; rfl) (fit_of (by simp only [go_sem]) (by simp only [go_sem]) (by simp only [go_sem]) (by simp only [go_sem]) (by simp only [go_sem]) (by simp only [go_sem]) (by simp only [go_sem])) ?_; simp only [go_sem])
set_option maxRecDepth 100000 in
theorem btop_ok (l : List LFl) (hl : l.length ≤ 100) (hn : l.all nearF = true) : FnOk Try.prog 127 [.sl 7 (l.map cFl)] [] (aIs (mostF topF l)) [] := by
  refine fn_of_awp Try.func127 rfl (by kernel_rfl) (by kernel_rfl) (Nat.le_of_ble_eq_true rfl) Try.results127 ?_
  simp only [go_sem]
  repeat' first | intro _ | refine And.intro ?_ ?_ | refine ex_get (by omega) ?_ | (show drawB _ _ = true; kernel_rfl) | (refine ret2 [] (by simp only [go_sem]; rfl) ?_; simp only [go_sem]) | (refine acall2 [] (mostTop_ok l hl hn) (by simp only [go_sem]; rfl) (fit_of (by simp only [go_sem]) (by simp only [go_sem]) (by simp only [go_sem]) (by simp only [go_sem]) (by simp only [go_sem]) (by simp only [go_sem]) (by simp only [go_sem])) ?_; simp only [go_sem])
end Go.Proofs.Ytblmebjhhanoaaa
/- CHAPTER 10: the reference's bands. -/
/- G -/
/- BOOLS -/
set_option linter.unusedSimpArgs false
set_option linter.unusedVariables false
namespace Go.Proofs.Ytblmebjhhanoaaa
open Go.RowKit

set_option maxRecDepth 100000 in
theorem rmeets_ok (f : LFl) (y high : Int) (h : nearF f = true) (hy : in10 y) (hh : in10 high) : FnOk Try.prog 138 [aFl f, .raw (.int .i64 y), .raw (.int .i64 high)] [] (.raw (.bool (meetF f y high))) [] := by
  refine fn_of_awp Try.func138 rfl (by kernel_rfl) (by kernel_rfl) (Nat.le_of_ble_eq_true rfl) Try.results138 ?_
  simp only [go_sem, Bool.not_eq_true', Bool.not_eq_false']
  rw [nearF_iff] at h
  unfold in10 at hy hh
  repeat' first | contradiction | intro _ | refine And.intro ?_ ?_ | refine ex_get (by omega) ?_ | (show drawB _ _ = true; kernel_rfl) | (refine ret2 [] (by simp only [go_sem, Bool.not_eq_true', Bool.not_eq_false']; rfl) ?_; simp only [go_sem, Bool.not_eq_true', Bool.not_eq_false'])
  all_goals first | omega | (simp only [meetF]; first | (rw [decide_eq_true (by omega)]; done) | (rw [decide_eq_false (by omega)]; done) | (simp only [eq_comm, decide_eq_decide]; omega))
theorem cutF_l {f : LFl} {s : LSpan} (h : f.side = 1) : cutF f s = ⟨max s.a (f.x + f.w), s.b⟩ := if_pos h
theorem cutF_r {f : LFl} {s : LSpan} (h : ¬ f.side = 1) : cutF f s = ⟨s.a, min s.b f.x⟩ := if_neg h
set_option maxRecDepth 100000 in
theorem rof10_ok (l : List LFl) (y high : Int) (s : LSpan) (hl : l.length ≤ 100) (hn : l.all nearF = true) (hy : in10 y) (hh : in10 high) : FnOk Try.prog 118 [.sl 7 (l.map cFl), .raw (.int .i64 y), .raw (.int .i64 high), aSpan s] [] (aSpan (bandF l y high s)) [] := by
  refine fn_of_awp Try.func118 rfl (by kernel_rfl) (by kernel_rfl) (Nat.le_of_ble_eq_true rfl) Try.results118 ?_
  simp only [go_sem, Bool.not_eq_true', Bool.not_eq_false', List.length_map]
  refine aloop2 [] (fun z : KX LSpan => ⟨[(0, .sl 7 (l.map cFl)), (1, .raw (.int .i64 y)), (2, .raw (.int .i64 high)), (7, .hdr 8), (8, .hdr 16), (9, .raw (.int .i64 z.k))], [(8, some (.cells 87 [.raw (.int .i64 z.o.a), .raw (.int .i64 z.o.b)])), (16, some (.cells 87 [.raw (.int .i64 0), .raw (.int .i64 0)]))], none⟩) (FInv (ofT y high) s l) (fun z => l.length - z.k) 3 ⟨0, s⟩ (by simp only [go_sem, Bool.not_eq_true', Bool.not_eq_false']; rfl) (by simp only [go_sem, Bool.not_eq_true', Bool.not_eq_false']) ?_ ?_
  · exact fInv_first _ _ _
  · rintro ⟨k, o⟩ hi
    simp only [go_sem, Bool.not_eq_true', Bool.not_eq_false', List.length_map]
    refine ⟨fun h5 => ?_, fun h5 => ?_⟩
    · have hk : k < l.length := by omega
      have hf := all_at hn hk
      have hf' := nearF_iff.1 hf
      refine ⟨by omega, l[k], by simp, ?_⟩
      repeat' first | contradiction | intro _ | refine And.intro ?_ ?_ | refine ex_get (by omega) ?_ | (show drawB _ _ = true; kernel_rfl) | (refine ret2 [] (by simp only [go_sem, Bool.not_eq_true', Bool.not_eq_false']; rfl) ?_; simp only [go_sem, Bool.not_eq_true', Bool.not_eq_false']) | (refine acall2 [] (rmeets_ok l[k] y high hf hy hh) (by simp only [go_sem, Bool.not_eq_true', Bool.not_eq_false']; rfl) (fit_of (by simp only [go_sem, Bool.not_eq_true', Bool.not_eq_false']) (by simp only [go_sem, Bool.not_eq_true', Bool.not_eq_false']) (by simp only [go_sem, Bool.not_eq_true', Bool.not_eq_false']) (by simp only [go_sem, Bool.not_eq_true', Bool.not_eq_false']) (by simp only [go_sem, Bool.not_eq_true', Bool.not_eq_false']) (by simp only [go_sem, Bool.not_eq_true', Bool.not_eq_false']) (by simp only [go_sem, Bool.not_eq_true', Bool.not_eq_false'])) ?_; simp only [go_sem, Bool.not_eq_true', Bool.not_eq_false'])
      all_goals first | omega | ((refine loop_end [] (⟨k + 1, ⟨max o.a (l[k].x + l[k].w), o.b⟩⟩) (by simp only [go_sem, Bool.not_eq_true', Bool.not_eq_false']; rfl) ?_ ?_ ?_; (focus first | omega | (simp only; omega)); (focus (simp only [go_sem, Bool.not_eq_true', Bool.not_eq_false']; done))); exact fInv_next hi hk (by rw [ofT, if_pos (by simp_all), cutF_l (by assumption)])) | ((refine loop_end [] (⟨k + 1, ⟨o.a, min o.b l[k].x⟩⟩) (by simp only [go_sem, Bool.not_eq_true', Bool.not_eq_false']; rfl) ?_ ?_ ?_; (focus first | omega | (simp only; omega)); (focus (simp only [go_sem, Bool.not_eq_true', Bool.not_eq_false']; done))); exact fInv_next hi hk (by rw [ofT, if_pos (by simp_all), cutF_r (by assumption)])) | ((refine loop_end [] (⟨k + 1, o⟩) (by simp only [go_sem, Bool.not_eq_true', Bool.not_eq_false']; rfl) ?_ ?_ ?_; (focus first | omega | (simp only; omega)); (focus (simp only [go_sem, Bool.not_eq_true', Bool.not_eq_false']; done))); exact fInv_next hi hk (by rw [ofT, if_neg (by simp_all)]))
    · have e := fInv_last hi h5
      repeat' first | contradiction | intro _ | refine And.intro ?_ ?_ | refine ex_get (by omega) ?_ | (show drawB _ _ = true; kernel_rfl) | (refine ret2 [] (by simp only [go_sem, Bool.not_eq_true', Bool.not_eq_false']; rfl) ?_; simp only [go_sem, Bool.not_eq_true', Bool.not_eq_false'])
      all_goals (rw [e]; rfl)
theorem nextC_l {f : LFl} {s : LSpan} {o : LIs} {y high : Int} (hm : meetF f y high = true) (h1 : f.side = 1 → ¬ f.x + f.w ≤ s.a) (h2 : ¬ f.side = 1 → ¬ s.b ≤ f.x) (h3 : o.is = true → f.y + f.h < o.n) : (⟨f.y + f.h, true⟩ : LIs) = nextT y high s o f := by
  rw [nextT, if_pos]
  refine ⟨hm, ?_, h3⟩
  by_cases h : f.side = 1
  · rw [cutF_l h]; have := h1 h; simp only; omega
  · rw [cutF_r h]; have := h2 h; simp only; omega
theorem nextC_n {f : LFl} {s : LSpan} {o : LIs} {y high : Int} (h : meetF f y high = false ∨ (f.side = 1 ∧ f.x + f.w ≤ s.a) ∨ (¬ f.side = 1 ∧ s.b ≤ f.x) ∨ (o.is = true ∧ ¬ f.y + f.h < o.n)) : o = nextT y high s o f := by
  rw [nextT, if_neg]
  rintro ⟨h1, h2, h3⟩
  rcases h with h | ⟨h, q⟩ | ⟨h, q⟩ | ⟨h, q⟩
  · rw [h1] at h; cases h
  · rw [cutF_l h] at h2; exact h2 ⟨by simp only; omega, rfl⟩
  · rw [cutF_r h] at h2; exact h2 ⟨rfl, by simp only; omega⟩
  · exact q (h3 h)
set_option maxRecDepth 100000 in
set_option maxHeartbeats 2000000 in
theorem rnext_ok (l : List LFl) (y high : Int) (s : LSpan) (hl : l.length ≤ 100) (hn : l.all nearF = true) (hy : in10 y) (hh : in10 high) : FnOk Try.prog 119 [.sl 7 (l.map cFl), .raw (.int .i64 y), .raw (.int .i64 high), aSpan s] [] (aIs (nextF l y high s)) [] := by
  refine fn_of_awp Try.func119 rfl (by kernel_rfl) (by kernel_rfl) (Nat.le_of_ble_eq_true rfl) Try.results119 ?_
  simp only [go_sem, Bool.not_eq_true', Bool.not_eq_false', List.length_map]
  refine aloop2 [] (fun z : KX LIs => ⟨[(0, .sl 7 (l.map cFl)), (1, .raw (.int .i64 y)), (2, .raw (.int .i64 high)), (7, .hdr 8), (8, .raw (.int .i64 0)), (9, .raw (.bool false)), (10, .raw (.int .i64 z.o.n)), (11, .raw (.bool z.o.is)), (12, .raw (.int .i64 z.k))], [(8, some (.cells 87 [.raw (.int .i64 s.a), .raw (.int .i64 s.b)]))], none⟩) (FInv (nextT y high s) ⟨0, false⟩ l) (fun z => l.length - z.k) 2 ⟨0, ⟨0, false⟩⟩ (by simp only [go_sem, Bool.not_eq_true', Bool.not_eq_false']; rfl) (by simp only [go_sem, Bool.not_eq_true', Bool.not_eq_false']) ?_ ?_
  · exact fInv_first _ _ _
  · rintro ⟨k, o⟩ hi
    simp only [go_sem, Bool.not_eq_true', Bool.not_eq_false', List.length_map]
    refine ⟨fun h5 => ?_, fun h5 => ?_⟩
    · have hk : k < l.length := by omega
      have hf := all_at hn hk
      have hf' := nearF_iff.1 hf
      refine ⟨by omega, l[k], by simp, ?_⟩
      repeat' first | contradiction | intro _ | refine And.intro ?_ ?_ | refine ex_get (by omega) ?_ | (show drawB _ _ = true; kernel_rfl) | (refine ret2 [] (by simp only [go_sem, Bool.not_eq_true', Bool.not_eq_false']; rfl) ?_; simp only [go_sem, Bool.not_eq_true', Bool.not_eq_false']) | (refine acall2 [] (rmeets_ok l[k] y high hf hy hh) (by simp only [go_sem, Bool.not_eq_true', Bool.not_eq_false']; rfl) (fit_of (by simp only [go_sem, Bool.not_eq_true', Bool.not_eq_false']) (by simp only [go_sem, Bool.not_eq_true', Bool.not_eq_false']) (by simp only [go_sem, Bool.not_eq_true', Bool.not_eq_false']) (by simp only [go_sem, Bool.not_eq_true', Bool.not_eq_false']) (by simp only [go_sem, Bool.not_eq_true', Bool.not_eq_false']) (by simp only [go_sem, Bool.not_eq_true', Bool.not_eq_false']) (by simp only [go_sem, Bool.not_eq_true', Bool.not_eq_false'])) ?_; simp only [go_sem, Bool.not_eq_true', Bool.not_eq_false'])
      all_goals try omega
      all_goals first | ((refine loop_end [] (⟨k + 1, ⟨l[k].y + l[k].h, true⟩⟩) (by simp only [go_sem, Bool.not_eq_true', Bool.not_eq_false']; rfl) ?_ ?_ ?_; (focus first | omega | (simp only; omega)); (focus (simp only [go_sem, Bool.not_eq_true', Bool.not_eq_false']; done))); refine fInv_next hi hk (nextC_l ?_ ?_ ?_ ?_) <;> first | assumption | (intro q; first | assumption | contradiction | (exact absurd q (ne_true_of_eq_false (by assumption))))) | ((refine loop_end [] (⟨k + 1, o⟩) (by simp only [go_sem, Bool.not_eq_true', Bool.not_eq_false']; rfl) ?_ ?_ ?_; (focus first | omega | (simp only; omega)); (focus (simp only [go_sem, Bool.not_eq_true', Bool.not_eq_false']; done))); refine fInv_next hi hk (nextC_n ?_); first | exact .inl (by assumption) | exact .inr (.inl ⟨by assumption, by assumption⟩) | exact .inr (.inr (.inl ⟨by assumption, by assumption⟩)) | exact .inr (.inr (.inr ⟨by assumption, by assumption⟩)))
    · have e := fInv_last hi h5
      repeat' first | contradiction | intro _ | refine And.intro ?_ ?_ | refine ex_get (by omega) ?_ | (show drawB _ _ = true; kernel_rfl) | (refine ret2 [] (by simp only [go_sem, Bool.not_eq_true', Bool.not_eq_false']; rfl) ?_; simp only [go_sem, Bool.not_eq_true', Bool.not_eq_false'])
      all_goals (rw [e]; rfl)
theorem low_pos {f : LFl} {sides : Int} {o : LIs} (h : ¬ andI f.side sides = 0) (h2 : o.is = true → o.n < f.y + f.h) : (⟨f.y + f.h, true⟩ : LIs) = mostT (lowF sides) o f := most_pos (t := lowF sides) ⟨decide_eq_true h, h2⟩
theorem low_neg {f : LFl} {sides : Int} {o : LIs} (h : andI f.side sides = 0 ∨ (o.is = true ∧ ¬ o.n < f.y + f.h)) : o = mostT (lowF sides) o f := most_neg fun q => by
  rcases h with h | h
  · exact absurd h (of_decide_eq_true q)
  · exact h
theorem top_pos {f : LFl} {o : LIs} (h2 : o.is = true → o.n < f.y) : (⟨f.y, true⟩ : LIs) = mostT topF o f := most_pos (t := topF) ⟨rfl, h2⟩
theorem top_neg {f : LFl} {o : LIs} (h : o.is = true ∧ ¬ o.n < f.y) : o = mostT topF o f := most_neg fun _ => h
set_option maxRecDepth 100000 in
theorem rlow_ok (l : List LFl) (sides : Int) (hl : l.length ≤ 100) (hn : l.all nearF = true) : FnOk Try.prog 91 [.sl 7 (l.map cFl), .raw (.int .i64 sides)] [] (aIs (mostF (lowF sides) l)) [] := by
  refine fn_of_awp Try.func91 rfl (by kernel_rfl) (by kernel_rfl) (Nat.le_of_ble_eq_true rfl) Try.results91 ?_
  simp only [go_sem, Bool.not_eq_true', Bool.not_eq_false', List.length_map]
  refine aloop2 [] (fun z : KX LIs => ⟨[(0, .sl 7 (l.map cFl)), (1, .raw (.int .i64 sides)), (4, .raw (.int .i64 0)), (5, .raw (.bool false)), (6, .raw (.int .i64 z.o.n)), (7, .raw (.bool z.o.is)), (8, .raw (.int .i64 z.k))], [], none⟩) (FInv (mostT (lowF sides)) ⟨0, false⟩ l) (fun z => l.length - z.k) 2 ⟨0, ⟨0, false⟩⟩ (by simp only [go_sem, Bool.not_eq_true', Bool.not_eq_false']; rfl) (by simp only [go_sem, Bool.not_eq_true', Bool.not_eq_false']) ?_ ?_
  · exact fInv_first _ _ _
  · rintro ⟨k, o⟩ hi
    simp only [go_sem, Bool.not_eq_true', Bool.not_eq_false', List.length_map]
    refine ⟨fun h5 => ?_, fun h5 => ?_⟩
    · have hk : k < l.length := by omega
      have hf := all_at hn hk
      have hf' := nearF_iff.1 hf
      refine ⟨by omega, l[k], by simp, ?_⟩
      repeat' first | contradiction | intro _ | refine And.intro ?_ ?_ | refine ex_get (by omega) ?_ | (show drawB _ _ = true; kernel_rfl) | (refine ret2 [] (by simp only [go_sem, Bool.not_eq_true', Bool.not_eq_false']; rfl) ?_; simp only [go_sem, Bool.not_eq_true', Bool.not_eq_false'])
      all_goals try omega
      all_goals first | ((refine loop_end [] (⟨k + 1, ⟨l[k].y + l[k].h, true⟩⟩) (by simp only [go_sem, Bool.not_eq_true', Bool.not_eq_false']; rfl) ?_ ?_ ?_; (focus first | omega | (simp only; omega)); (focus (simp only [go_sem, Bool.not_eq_true', Bool.not_eq_false']; done))); refine fInv_next hi hk (low_pos ?_ ?_) <;> first | assumption | (intro q; first | assumption | contradiction | (exact absurd q (ne_true_of_eq_false (by assumption))))) | ((refine loop_end [] (⟨k + 1, o⟩) (by simp only [go_sem, Bool.not_eq_true', Bool.not_eq_false']; rfl) ?_ ?_ ?_; (focus first | omega | (simp only; omega)); (focus (simp only [go_sem, Bool.not_eq_true', Bool.not_eq_false']; done))); refine fInv_next hi hk (low_neg ?_); first | exact .inl (by assumption) | exact .inr ⟨by assumption, by assumption⟩)
    · have e := fInv_last hi h5
      repeat' first | contradiction | intro _ | refine And.intro ?_ ?_ | refine ex_get (by omega) ?_ | (show drawB _ _ = true; kernel_rfl) | (refine ret2 [] (by simp only [go_sem, Bool.not_eq_true', Bool.not_eq_false']; rfl) ?_; simp only [go_sem, Bool.not_eq_true', Bool.not_eq_false'])
      all_goals (rw [e]; rfl)
theorem top_is (l : List LFl) : (mostF topF l).is = decide (0 < l.length) := by
  have h : ∀ (l : List LFl) (o : LIs), (l.foldl (mostT topF) o).is = (o.is || decide (0 < l.length)) := by
    intro l
    induction l with
    | nil => intro o; simp
    | cons f l ih =>
      intro o
      rw [List.foldl_cons, ih]
      by_cases h : o.is = true
      · rw [h, mostT]; split <;> simp [h]
      · rw [mostT, if_pos ⟨rfl, fun q => absurd q h⟩]; simp
  simpa [mostF] using h l ⟨0, false⟩
set_option maxRecDepth 100000 in
theorem rtop_ok (l : List LFl) (hl : l.length ≤ 100) : FnOk Try.prog 140 [.sl 7 (l.map cFl)] [] (aIs (mostF topF l)) [] := by
  refine fn_of_awp Try.func140 rfl (by kernel_rfl) (by kernel_rfl) (Nat.le_of_ble_eq_true rfl) Try.results140 ?_
  simp only [go_sem, Bool.not_eq_true', Bool.not_eq_false', List.length_map]
  refine aloop2 [] (fun z : KX LIs => ⟨[(0, .sl 7 (l.map cFl)), (2, .raw (.int .i64 0)), (3, .raw (.bool false)), (4, .raw (.int .i64 z.o.n)), (5, .raw (.int .i64 z.k))], [], none⟩) (FInv (mostT topF) ⟨0, false⟩ l) (fun z => l.length - z.k) 2 ⟨0, ⟨0, false⟩⟩ (by simp only [go_sem, Bool.not_eq_true', Bool.not_eq_false']; rfl) (by simp only [go_sem, Bool.not_eq_true', Bool.not_eq_false']) ?_ ?_
  · exact fInv_first _ _ _
  · rintro ⟨k, o⟩ hi
    have hs : o.is = decide (0 < k) := by
      have h1 := top_is (l.take k)
      have h2 := hi.2
      have h3 := hi.1
      simp only at h2 h3
      rw [h2]
      have h4 := top_is (l.take k)
      rw [List.length_take, Nat.min_eq_left h3] at h4
      exact h4
    simp only [go_sem, Bool.not_eq_true', Bool.not_eq_false', List.length_map]
    refine ⟨fun h5 => ?_, fun h5 => ?_⟩
    · have hk : k < l.length := by omega
      repeat' first | contradiction | intro _ | refine And.intro ?_ ?_ | refine ex_get (by omega) ?_ | (show drawB _ _ = true; kernel_rfl) | (refine ret2 [] (by simp only [go_sem, Bool.not_eq_true', Bool.not_eq_false']; rfl) ?_; simp only [go_sem, Bool.not_eq_true', Bool.not_eq_false'])
      all_goals try omega
      all_goals first | ((refine loop_end [] (⟨k + 1, ⟨l[k].y, true⟩⟩) (by simp only [go_sem, Bool.not_eq_true', Bool.not_eq_false']; rfl) ?_ ?_ ?_; (focus first | omega | (simp only; omega)); (focus (simp only [go_sem, Bool.not_eq_true', Bool.not_eq_false']; done))); refine fInv_next hi hk (top_pos ?_); intro q; rw [hs, decide_eq_true_eq] at q; omega) | ((refine loop_end [] (⟨k + 1, o⟩) (by simp only [go_sem, Bool.not_eq_true', Bool.not_eq_false']; rfl) ?_ ?_ ?_; (focus first | omega | (simp only; omega)); (focus (simp only [go_sem, Bool.not_eq_true', Bool.not_eq_false']; done))); refine fInv_next hi hk (top_neg ?_); rw [hs, decide_eq_true_eq]; omega)
    · have e := fInv_last hi h5
      have hti := top_is l
      repeat' first | contradiction | intro _ | refine And.intro ?_ ?_ | refine ex_get (by omega) ?_ | (show drawB _ _ = true; kernel_rfl) | (refine ret2 [] (by simp only [go_sem, Bool.not_eq_true', Bool.not_eq_false']; rfl) ?_; simp only [go_sem, Bool.not_eq_true', Bool.not_eq_false'])
      all_goals first | (rw [e]; rfl) | (rw [hti, decide_eq_decide]; omega)
end Go.Proofs.Ytblmebjhhanoaaa
/- CHAPTER 10: the law BandsTell. -/
/- G -/
/- BOOLS -/
set_option linter.unusedSimpArgs false
set_option linter.unusedVariables false
namespace Go.Proofs.Ytblmebjhhanoaaa
open Go.RowKit

theorem take_all' {α : Type} (p : α → Bool) (xs : List α) (k : Nat) (h : k < xs.length) : (xs.take (k + 1)).all p = ((xs.take k).all p && p xs[k]) := by
  rw [List.take_succ_eq_append_getElem h, List.all_append]
  simp
theorem all_of_pre {α : Type} {p : α → Bool} {l : List α} {k : Nat} (h : (l.take k).all p = true) (hk : l.length ≤ k) : l.all p = true := by
  rwa [List.take_of_length_le hk] at h
theorem all_not {α : Type} {p : α → Bool} {l : List α} {k : Nat} (hk : k < l.length) (hq : p l[k] = false) : l.all p = false := List.all_eq_false.2 ⟨l[k], List.getElem_mem hk, by rw [hq]; decide⟩
set_option maxRecDepth 100000 in
theorem same10_ok (l : List LFl) (hl : l.length ≤ 100) : FnOk Try.prog 51 [.sl 7 (l.map cFl), .sl 7 (l.map cFl)] [] (.raw (.bool true)) [] := by
  refine fn_of_awp Try.func51 rfl (by kernel_rfl) (by kernel_rfl) (Nat.le_of_ble_eq_true rfl) Try.results51 ?_
  simp only [go_sem, Bool.not_eq_true', Bool.not_eq_false', List.length_map]
  refine aloop2 [] (fun k : Nat => ⟨[(0, .sl 7 (l.map cFl)), (1, .sl 7 (l.map cFl)), (4, .raw (.bool false)), (5, .raw (.int .i64 k))], [], none⟩) (fun k => k ≤ l.length) (fun k => l.length - k) 3 0 (by simp only [go_sem, Bool.not_eq_true', Bool.not_eq_false']; rfl) (by simp only [go_sem, Bool.not_eq_true', Bool.not_eq_false']) ?_ ?_
  · exact Nat.zero_le _
  · intro k hk
    simp only [go_sem, Bool.not_eq_true', Bool.not_eq_false', List.length_map]
    repeat' first | contradiction | intro _ | refine And.intro ?_ ?_ | refine ex_get (by omega) ?_ | (show drawB _ _ = true; kernel_rfl) | (refine ret2 [] (by simp only [go_sem, Bool.not_eq_true', Bool.not_eq_false']; rfl) ?_; simp only [go_sem, Bool.not_eq_true', Bool.not_eq_false'])
    all_goals first | omega | ((refine loop_end [] (k + 1) (by simp only [go_sem, Bool.not_eq_true', Bool.not_eq_false']; rfl) ?_ ?_ ?_; (focus first | omega | (simp only; omega)); (focus (simp only [go_sem, Bool.not_eq_true', Bool.not_eq_false']; done))); omega) | (simp_all; done)
end Go.Proofs.Ytblmebjhhanoaaa
/- CHAPTERS 14, 15: atoms; rows of atoms, of floats that are alike; what is near. -/
/- G -/
/- BOOLS -/
/- GET ex_atA ex_atA' -/
set_option linter.unusedSimpArgs false
set_option linter.unusedVariables false
namespace Go.Proofs.Ytblmebjhhanoaaa
open Go.RowKit

structure LAt where
  kind : Int
  node : Int
  fr : Int
  to : Int
  x : Int
  y : Int
  w : Int
  h : Int
deriving DecidableEq
def cAt (a : LAt) : List PV := [.raw (.int .i64 a.kind), .raw (.int .i64 a.node), .raw (.int .i64 a.fr), .raw (.int .i64 a.to), .raw (.int .i64 a.x), .raw (.int .i64 a.y), .raw (.int .i64 a.w), .raw (.int .i64 a.h)]
def aAt (a : LAt) : AV := .agg [.raw (.int .i64 a.kind), .raw (.int .i64 a.node), .raw (.int .i64 a.fr), .raw (.int .i64 a.to), .raw (.int .i64 a.x), .raw (.int .i64 a.y), .raw (.int .i64 a.w), .raw (.int .i64 a.h)]
attribute [go_sem] cAt aAt
def atA (l : List LAt) (q : Int) : LAt := l[q.toNat]?.getD ⟨0, 0, 0, 0, 0, 0, 0, 0⟩
theorem atA_get {l : List LAt} {q : Int} (h : q.toNat < l.length) : l[q.toNat]? = some (atA l q) := by simp [atA, h]
theorem ex_atA {l : List LAt} {q : Int} {C : LAt → Prop} (h : q.toNat < l.length) (hC : C (atA l q)) : ∃ x, l[q.toNat]? = some x ∧ C x := ⟨_, atA_get h, hC⟩
theorem ex_atA' {l : List LAt} {k : Nat} {C : LAt → Prop} (h : k < l.length) (hC : C (atA l k)) : ∃ x, l[k]? = some x ∧ C x := ex_atA (q := k) (by omega) hC
theorem fl_ext {x y : LFl} (h : (decide (x.node = y.node) && (decide (x.side = y.side) && (decide (x.anchor = y.anchor) && (decide (x.x = y.x) && (decide (x.y = y.y) && (decide (x.w = y.w) && decide (x.h = y.h))))))) = true) : x = y := by
  simp at h
  cases x; cases y; simp_all
theorem at_ext {x y : LAt} (h : (decide (x.kind = y.kind) && (decide (x.node = y.node) && (decide (x.fr = y.fr) && (decide (x.to = y.to) && (decide (x.x = y.x) && (decide (x.y = y.y) && (decide (x.w = y.w) && decide (x.h = y.h)))))))) = true) : x = y := by
  simp at h
  cases x; cases y; simp_all
set_option maxRecDepth 100000 in
theorem fsame_ok (a b : List LFl) (hl : a.length ≤ 1000) (hb : b.length ≤ 1000) : FnOk Try.prog 51 [.sl 7 (a.map cFl), .sl 7 (b.map cFl)] [] (.raw (.bool (decide (a = b)))) [] := by
  refine fn_of_awp Try.func51 rfl (by kernel_rfl) (by kernel_rfl) (Nat.le_of_ble_eq_true rfl) Try.results51 ?_
  simp only [go_sem, Bool.not_eq_true', Bool.not_eq_false', List.length_map]
  refine ⟨fun h => ?_, fun h => ?_⟩
  · exact fun e => h (by rw [e])
  refine aloop2 [] (fun k : Nat => ⟨[(0, .sl 7 (a.map cFl)), (1, .sl 7 (b.map cFl)), (5, .raw (.int .i64 k))], [], none⟩) (fun k => k ≤ a.length ∧ a.take k = b.take k) (fun k => a.length - k) 4 0 (by simp only [go_sem, Bool.not_eq_true', Bool.not_eq_false']; rfl) (by simp only [go_sem, Bool.not_eq_true', Bool.not_eq_false']) ?_ ?_
  · exact ⟨Nat.zero_le _, rfl⟩
  · rintro k ⟨hk, ht⟩
    simp only [go_sem, Bool.not_eq_true', Bool.not_eq_false', List.length_map]
    have hlen : a.length = b.length := by omega
    refine ⟨fun h5 => ?_, fun h5 => ?_⟩
    · have ka : k < a.length := by omega
      have kb : k < b.length := by omega
      refine ⟨by omega, ex_get ka ⟨by omega, ex_get kb ?_⟩⟩
      repeat' first | contradiction | intro _ | refine And.intro ?_ ?_ | refine ex_atA (by omega) ?_ | refine ex_atA' (by omega) ?_ | refine ex_get (by omega) ?_ | (show drawB _ _ = true; kernel_rfl) | (refine ret2 [] (by simp only [go_sem, Bool.not_eq_true', Bool.not_eq_false']; rfl) ?_; simp only [go_sem, Bool.not_eq_true', Bool.not_eq_false'])
      all_goals first
        | omega
        | (have e : a = b := by assumption
           subst e
           simp_all; done)
        | ((refine loop_end [] (k + 1) (by simp only [go_sem, Bool.not_eq_true', Bool.not_eq_false']; rfl) ?_ ?_ ?_; (focus first | omega | (simp only; omega)); (focus (simp only [go_sem, Bool.not_eq_true', Bool.not_eq_false']; done)))
           refine ⟨by omega, ?_⟩
           rw [List.take_succ_eq_append_getElem ka, List.take_succ_eq_append_getElem kb, ht, fl_ext (x := a[k]) (y := b[k]) (by assumption)])
    · have e : a = b := by
        have h1 : a.take k = a := List.take_of_length_le (by omega)
        have h2 : b.take k = b := List.take_of_length_le (by omega)
        rw [← h1, ← h2, ht]
      first | exact e | (rw [decide_eq_true e])
set_option maxRecDepth 100000 in
theorem same14_ok (a b : List LAt) (hl : a.length ≤ 1000) (hb : b.length ≤ 1000) : FnOk Try.prog 50 [.sl 8 (a.map cAt), .sl 8 (b.map cAt)] [] (.raw (.bool (decide (a = b)))) [] := by
  refine fn_of_awp Try.func50 rfl (by kernel_rfl) (by kernel_rfl) (Nat.le_of_ble_eq_true rfl) Try.results50 ?_
  simp only [go_sem, Bool.not_eq_true', Bool.not_eq_false', List.length_map]
  refine ⟨fun h => ?_, fun h => ?_⟩
  · exact fun e => h (by rw [e])
  refine aloop2 [] (fun k : Nat => ⟨[(0, .sl 8 (a.map cAt)), (1, .sl 8 (b.map cAt)), (5, .raw (.int .i64 k))], [], none⟩) (fun k => k ≤ a.length ∧ a.take k = b.take k) (fun k => a.length - k) 4 0 (by simp only [go_sem, Bool.not_eq_true', Bool.not_eq_false']; rfl) (by simp only [go_sem, Bool.not_eq_true', Bool.not_eq_false']) ?_ ?_
  · exact ⟨Nat.zero_le _, rfl⟩
  · rintro k ⟨hk, ht⟩
    simp only [go_sem, Bool.not_eq_true', Bool.not_eq_false', List.length_map]
    have hlen : a.length = b.length := by omega
    refine ⟨fun h5 => ?_, fun h5 => ?_⟩
    · have ka : k < a.length := by omega
      have kb : k < b.length := by omega
      refine ⟨by omega, ex_get ka ⟨by omega, ex_get kb ?_⟩⟩
      repeat' first | contradiction | intro _ | refine And.intro ?_ ?_ | refine ex_atA (by omega) ?_ | refine ex_atA' (by omega) ?_ | refine ex_get (by omega) ?_ | (show drawB _ _ = true; kernel_rfl) | (refine ret2 [] (by simp only [go_sem, Bool.not_eq_true', Bool.not_eq_false']; rfl) ?_; simp only [go_sem, Bool.not_eq_true', Bool.not_eq_false'])
      all_goals first
        | omega
        | (have e : a = b := by assumption
           subst e
           simp_all; done)
        | ((refine loop_end [] (k + 1) (by simp only [go_sem, Bool.not_eq_true', Bool.not_eq_false']; rfl) ?_ ?_ ?_; (focus first | omega | (simp only; omega)); (focus (simp only [go_sem, Bool.not_eq_true', Bool.not_eq_false']; done)))
           refine ⟨by omega, ?_⟩
           rw [List.take_succ_eq_append_getElem ka, List.take_succ_eq_append_getElem kb, ht, at_ext (x := a[k]) (y := b[k]) (by assumption)])
    · have e : a = b := by
        have h1 : a.take k = a := List.take_of_length_le (by omega)
        have h2 : b.take k = b := List.take_of_length_le (by omega)
        rw [← h1, ← h2, ht]
      first | exact e | (rw [decide_eq_true e])
/-- what chapter 15 speaks of. -/
def good15 (l : List LAt) (k : Nat) : Bool := decide (((-1125899906842624 ≤ (atA l k).x ∧ (atA l k).x ≤ 1125899906842624) ∧ (-1125899906842624 ≤ (atA l k).y ∧ (atA l k).y ≤ 1125899906842624) ∧ (-1125899906842624 ≤ (atA l k).w ∧ (atA l k).w ≤ 1125899906842624) ∧ (-1125899906842624 ≤ (atA l k).h ∧ (atA l k).h ≤ 1125899906842624)) ∧ (0 < (k : Int) → (atA l ((k : Int) - 1)).node ≤ (atA l k).node))
def near15 (l : List LAt) : Bool := (List.range l.length).all (good15 l)
def Near15 (l : List LAt) : Prop := ∀ q : Int, 0 ≤ q → q < l.length → ((-1125899906842624 ≤ (atA l q).x ∧ (atA l q).x ≤ 1125899906842624) ∧ (-1125899906842624 ≤ (atA l q).y ∧ (atA l q).y ≤ 1125899906842624) ∧ (-1125899906842624 ≤ (atA l q).w ∧ (atA l q).w ≤ 1125899906842624) ∧ (-1125899906842624 ≤ (atA l q).h ∧ (atA l q).h ≤ 1125899906842624)) ∧ (0 < q → (atA l (q - 1)).node ≤ (atA l q).node)
theorem near15_iff (l : List LAt) : near15 l = true ↔ Near15 l := by
  simp only [near15, List.all_eq_true, List.mem_range, good15, decide_eq_true_eq, Near15]
  constructor
  · intro h q h1 h2
    obtain ⟨k, rfl⟩ := Int.eq_ofNat_of_zero_le h1
    exact h k (by omega)
  · intro h k hk
    exact h k (by omega) (by omega)
set_option maxRecDepth 100000 in
set_option maxHeartbeats 4000000 in
theorem near15_ok (l : List LAt) (hl : l.length ≤ 1000) : FnOk Try.prog 14 [.sl 8 (l.map cAt)] [] (.raw (.bool (near15 l))) [] := by
  refine fn_of_awp Try.func14 rfl (by kernel_rfl) (by kernel_rfl) (Nat.le_of_ble_eq_true rfl) Try.results14 ?_
  simp only [go_sem, Bool.not_eq_true', Bool.not_eq_false', List.length_map]
  refine aloop2 [] (fun k : Nat => ⟨[(0, .sl 8 (l.map cAt)), (3, .raw (.int .i64 k))], [], none⟩) (fun k => k ≤ l.length ∧ ∀ j, j < k → good15 l j = true) (fun k => l.length - k) 4 0 (by simp only [go_sem, Bool.not_eq_true', Bool.not_eq_false']; rfl) (by simp only [go_sem, Bool.not_eq_true', Bool.not_eq_false']) ?_ ?_
  · exact ⟨Nat.zero_le _, fun k h => absurd h (Nat.not_lt_zero k)⟩
  · rintro k ⟨h1, h2⟩
    have hg : good15 l k = true ↔ _ := decide_eq_true_iff
    have hf : k < l.length → good15 l k = false → near15 l = false := fun h q => by
      rw [near15, List.all_eq_false]
      exact ⟨k, List.mem_range.2 h, by rw [q]; decide⟩
    simp only [go_sem, Bool.not_eq_true', Bool.not_eq_false', List.length_map]
    repeat' first | contradiction | intro _ | refine And.intro ?_ ?_ | refine ex_atA (by omega) ?_ | refine ex_atA' (by omega) ?_ | refine ex_get (by omega) ?_ | (show drawB _ _ = true; kernel_rfl) | (refine ret2 [] (by simp only [go_sem, Bool.not_eq_true', Bool.not_eq_false', List.length_map]; rfl) ?_; simp only [go_sem, Bool.not_eq_true', Bool.not_eq_false', List.length_map])
    all_goals first
      | omega
      | (rw [hf (by omega) (by rw [← Bool.not_eq_true, hg]; omega)]; done)
      | ((refine loop_end [] (k + 1) (by simp only [go_sem, Bool.not_eq_true', Bool.not_eq_false']; rfl) ?_ ?_ ?_; (focus first | omega | (simp only; omega)); (focus (simp only [go_sem, Bool.not_eq_true', Bool.not_eq_false']; done)))
         refine ⟨by omega, fun j hj => ?_⟩
         rcases Nat.lt_succ_iff_lt_or_eq.1 hj with h8 | h8
         · exact h2 j h8
         · subst h8; exact hg.2 (by omega))
      | (refine (?_ : near15 l = true)
         rw [near15, List.all_eq_true]
         intro j hj
         rw [List.mem_range] at hj
         exact h2 j (by omega))
      | skip
end Go.Proofs.Ytblmebjhhanoaaa
/- ATOMS as arguments. -/
/- G -/
set_option linter.unusedSimpArgs false
set_option linter.unusedVariables false
namespace Go.Proofs.Ytblmebjhhanoaaa
set_option maxRecDepth 100000
open Go.ChangeShapes Go.WideShapes Go.ChangeAt Go.RowKit Go.Deep

theorem open_at : OpenT Try.prog 41 cAt (fun _ => True) := ⟨fun {H enc w fuel cs y} h => by
  obtain ⟨ys, n, -, -, hlen, hyl, hg⟩ := DataW.trod_struct Try.underlying41 h
  have hcs : cs.length = 8 := hlen.trans (by kernel_rfl)
  obtain ⟨z0, c0, i0⟩ := fld hg hyl 0 1 (open_i Try.underlying3) 0 rfl rfl rfl (by kernel_rfl)
  obtain ⟨z1, c1, i1⟩ := fld hg hyl 1 1 (open_i Try.underlying3) 1 rfl rfl rfl (by kernel_rfl)
  obtain ⟨z2, c2, i2⟩ := fld hg hyl 2 1 (open_i Try.underlying3) 2 rfl rfl rfl (by kernel_rfl)
  obtain ⟨z3, c3, i3⟩ := fld hg hyl 3 1 (open_i Try.underlying3) 3 rfl rfl rfl (by kernel_rfl)
  obtain ⟨z4, c4, i4⟩ := fld hg hyl 4 1 (open_i Try.underlying3) 4 rfl rfl rfl (by kernel_rfl)
  obtain ⟨z5, c5, i5⟩ := fld hg hyl 5 1 (open_i Try.underlying3) 5 rfl rfl rfl (by kernel_rfl)
  obtain ⟨z6, c6, i6⟩ := fld hg hyl 6 1 (open_i Try.underlying3) 6 rfl rfl rfl (by kernel_rfl)
  obtain ⟨z7, c7, i7⟩ := fld hg hyl 7 1 (open_i Try.underlying3) 7 rfl rfl rfl (by kernel_rfl)
  exact ⟨⟨z0, z1, z2, z3, z4, z5, z6, z7⟩, cr_all hcs (cr_app c0 (cr_app c1 (cr_app c2 (cr_app c3 (cr_app c4 (cr_app c5 (cr_app c6 c7))))))), trivial⟩⟩
theorem open_ats : OpenT Try.prog 25 (fun xs : List LAt => [.sl 8 (xs.map cAt)]) (fun xs => xs.length ≤ 9223372036854775807 ∧ ∀ x ∈ xs, (fun _ => True) x) := open_sl Try.underlying25 (by kernel_rfl) (Nat.zero_lt_succ _) (fun _ => rfl) open_at
end Go.Proofs.Ytblmebjhhanoaaa
/- CHAPTER 06: valid: spans of numbers. -/
/- G -/
/- BOOLS -/
set_option linter.unusedSimpArgs false
set_option linter.unusedVariables false
namespace Go.Proofs.Ytblmebjhhanoaaa
open Go.RowKit

def offN (a b n : Int) : Bool := decide (n < a) || decide (b < n)
set_option maxRecDepth 100000 in
theorem has1_ok (n a b : Int) : FnOk Try.prog 130 [.raw (.int .i64 n), .hdr 0] [(0, .cells 160 [.raw (.int .i64 a), .raw (.int .i64 b)])] (.raw (.bool (offN a b n))) [(0, .cells 160 [.raw (.int .i64 a), .raw (.int .i64 b)])] := by
  refine fn_of_awp Try.func130 rfl (by kernel_rfl) (by kernel_rfl) (Nat.le_of_ble_eq_true rfl) Try.results130 ?_
  simp only [go_sem, Bool.not_eq_true', Bool.not_eq_false']
  repeat' first | contradiction | intro _ | refine And.intro ?_ ?_ | refine ex_get (by omega) ?_ | (show drawB _ _ = true; kernel_rfl) | (refine ret2 [] (by simp only [go_sem, Bool.not_eq_true', Bool.not_eq_false']; rfl) ?_; simp only [go_sem, Bool.not_eq_true', Bool.not_eq_false'])
  all_goals (simp [offN] <;> omega)
/-- the place of the first that is so; below 0: none is. -/
def idxI (p : Int → Bool) (l : List Int) : Int := if l.findIdx p < l.length then l.findIdx p else -1
theorem idxI_at {p : Int → Bool} {l : List Int} {k : Nat} (hk : k < l.length) (h : ∀ j (hj : j < l.length), j < k → p l[j] = false) (hp : p l[k] = true) : idxI p l = k := by
  have e : l.findIdx p = k := by
    rw [List.findIdx_eq hk]
    exact ⟨hp, fun j hj => by have := h j (by omega) hj; simpa using this⟩
  unfold idxI
  rw [if_pos (by omega), e]
theorem idxI_no {p : Int → Bool} {l : List Int} (h : ∀ j (hj : j < l.length), p l[j] = false) : idxI p l = -1 := by
  unfold idxI
  rw [if_neg]
  intro hlt
  have := List.findIdx_getElem (w := hlt)
  rw [h _ hlt] at this
  cases this
theorem idxI_any (p : Int → Bool) (l : List Int) : decide (0 ≤ idxI p l) = l.any p := by
  unfold idxI
  by_cases h : l.findIdx p < l.length
  · rw [if_pos h]
    have h2 : l.any p = true := List.any_eq_true.2 ⟨_, List.getElem_mem h, List.findIdx_getElem (w := h)⟩
    rw [h2]; simp
  · rw [if_neg h]
    have h2 : l.any p = false := by
      cases e : l.any p with
      | false => rfl
      | true => exact absurd (List.findIdx_lt_length.2 (by simpa using e)) h
    rw [h2]; rfl
set_option maxRecDepth 100000 in
theorem idx6_ok (l : List Int) (a b : Int) (hl : l.length ≤ 9223372036854775807) : FnOk Try.prog 110 [.sl 1 (l.map cInt), .clo (.func 130) [.hdr 0]] [(0, .cells 160 [.raw (.int .i64 a), .raw (.int .i64 b)])] (.raw (.int .i64 (idxI (offN a b) l))) [(0, .cells 160 [.raw (.int .i64 a), .raw (.int .i64 b)])] := by
  refine fn_of_awp Try.func110 rfl (by kernel_rfl) (by kernel_rfl) (Nat.le_of_ble_eq_true rfl) Try.results110 ?_
  simp only [go_sem, Bool.not_eq_true', Bool.not_eq_false', List.length_map]
  refine aloop2 [] (fun k : Nat => ⟨[(0, .sl 1 (l.map cInt)), (1, .clo (.func 130) [.hdr 0]), (7, .raw (.int .i64 l.length)), (8, .raw (.int .i64 k))], [(0, some (.cells 160 [.raw (.int .i64 a), .raw (.int .i64 b)]))], none⟩) (fun k => k ≤ l.length ∧ ∀ j (hj : j < l.length), j < k → offN a b l[j] = false) (fun k => l.length - k) 4 0 (by simp only [go_sem, Bool.not_eq_true', Bool.not_eq_false']; rfl) (by simp only [go_sem, Bool.not_eq_true', Bool.not_eq_false']) ?_ ?_
  · exact ⟨Nat.zero_le _, fun j _ h => absurd h (Nat.not_lt_zero j)⟩
  · rintro k ⟨h1, h2⟩
    simp only [go_sem, Bool.not_eq_true', Bool.not_eq_false', List.length_map]
    refine ⟨fun h5 => ?_, fun h5 => ?_⟩
    · have hk : k < l.length := by omega
      refine ⟨by omega, ex_get hk ?_⟩
      (refine acall2 [] (has1_ok l[k] a b) (by simp only [go_sem, Bool.not_eq_true', Bool.not_eq_false']; rfl) (fit_of (by simp only [go_sem, Bool.not_eq_true', Bool.not_eq_false']) (by simp only [go_sem, Bool.not_eq_true', Bool.not_eq_false']) (by simp only [go_sem, Bool.not_eq_true', Bool.not_eq_false']) (by simp only [go_sem, Bool.not_eq_true', Bool.not_eq_false']) (by simp only [go_sem, Bool.not_eq_true', Bool.not_eq_false']) (by simp only [go_sem, Bool.not_eq_true', Bool.not_eq_false']) (by simp only [go_sem, Bool.not_eq_true', Bool.not_eq_false'])) ?_; simp only [go_sem, Bool.not_eq_true', Bool.not_eq_false'])
      refine ⟨fun h6 => ?_, fun h6 => ⟨by omega, ?_⟩⟩
      · rw [idxI_at hk h2 h6]
        (refine ret2 [] (by simp only [go_sem, Bool.not_eq_true', Bool.not_eq_false']; rfl) ?_; simp only [go_sem, Bool.not_eq_true', Bool.not_eq_false'])
      · (refine loop_end [] (k + 1) (by simp only [go_sem, Bool.not_eq_true', Bool.not_eq_false']; rfl) ?_ ?_ ?_; (focus first | omega | (simp only; omega)); (focus (simp only [go_sem, Bool.not_eq_true', Bool.not_eq_false']; done)))
        refine ⟨by omega, fun j hj h7 => ?_⟩
        rcases Nat.lt_succ_iff_lt_or_eq.1 h7 with h8 | h8
        · exact h2 j hj h8
        · subst h8; exact h6
    · rw [idxI_no (fun j hj => h2 j hj (by omega))]
      (refine ret2 [] (by simp only [go_sem, Bool.not_eq_true', Bool.not_eq_false']; rfl) ?_; simp only [go_sem, Bool.not_eq_true', Bool.not_eq_false'])
set_option maxRecDepth 100000 in
theorem any6_ok (l : List Int) (a b : Int) (hl : l.length ≤ 9223372036854775807) : FnOk Try.prog 129 [.sl 1 (l.map cInt), .clo (.func 130) [.hdr 0]] [(0, .cells 160 [.raw (.int .i64 a), .raw (.int .i64 b)])] (.raw (.bool (l.any (offN a b)))) [(0, .cells 160 [.raw (.int .i64 a), .raw (.int .i64 b)])] := by
  refine fn_of_awp Try.func129 rfl (by kernel_rfl) (by kernel_rfl) (Nat.le_of_ble_eq_true rfl) Try.results129 ?_
  simp only [go_sem, Bool.not_eq_true', Bool.not_eq_false']
  (refine acall2 [] (idx6_ok l a b hl) (by simp only [go_sem, Bool.not_eq_true', Bool.not_eq_false']; rfl) (fit_of (by simp only [go_sem, Bool.not_eq_true', Bool.not_eq_false']) (by simp only [go_sem, Bool.not_eq_true', Bool.not_eq_false']) (by simp only [go_sem, Bool.not_eq_true', Bool.not_eq_false']) (by simp only [go_sem, Bool.not_eq_true', Bool.not_eq_false']) (by simp only [go_sem, Bool.not_eq_true', Bool.not_eq_false']) (by simp only [go_sem, Bool.not_eq_true', Bool.not_eq_false']) (by simp only [go_sem, Bool.not_eq_true', Bool.not_eq_false'])) ?_; simp only [go_sem, Bool.not_eq_true', Bool.not_eq_false'])
  rw [← idxI_any]
  (refine ret2 [] (by simp only [go_sem, Bool.not_eq_true', Bool.not_eq_false']; rfl) ?_; simp only [go_sem, Bool.not_eq_true', Bool.not_eq_false'])
set_option maxRecDepth 100000 in
theorem has6_ok (l : List Int) (a b : Int) (hl : l.length ≤ 9223372036854775807) : FnOk Try.prog 109 [.agg [.raw (.int .i64 a), .raw (.int .i64 b)], .sl 1 (l.map cInt)] [] (.raw (.bool (!l.any (offN a b)))) [] := by
  refine fn_of_awp Try.func109 rfl (by kernel_rfl) (by kernel_rfl) (Nat.le_of_ble_eq_true rfl) Try.results109 ?_
  simp only [go_sem, Bool.not_eq_true', Bool.not_eq_false']
  (refine acall2 [] (any6_ok l a b hl) (by simp only [go_sem, Bool.not_eq_true', Bool.not_eq_false']; rfl) (fit_of (by simp only [go_sem, Bool.not_eq_true', Bool.not_eq_false']) (by simp only [go_sem, Bool.not_eq_true', Bool.not_eq_false']) (by simp only [go_sem, Bool.not_eq_true', Bool.not_eq_false']) (by simp only [go_sem, Bool.not_eq_true', Bool.not_eq_false']) (by simp only [go_sem, Bool.not_eq_true', Bool.not_eq_false']) (by simp only [go_sem, Bool.not_eq_true', Bool.not_eq_false']) (by simp only [go_sem, Bool.not_eq_true', Bool.not_eq_false'])) ?_; simp only [go_sem, Bool.not_eq_true', Bool.not_eq_false'])
end Go.Proofs.Ytblmebjhhanoaaa
/- CHAPTER 06: valid: styles, nodes. -/
/- G -/
/- BOOLS -/
set_option linter.unusedSimpArgs false
set_option linter.unusedVariables false
namespace Go.Proofs.Ytblmebjhhanoaaa
open Go.RowKit

def hasL (a b : Int) (l : List Int) : Bool := !l.any (offN a b)
def styB (s : LSty) : Bool := hasL 0 1099511627776 [s.top, s.bottom, s.padTop, s.padBottom, s.inset, s.head] && hasL 1 1099511627776 [s.orphans, s.widows] && hasL 0 4 [s.before, s.after] && hasL 0 1 [s.inside] && hasL 0 3 [s.clear]
theorem hasL_ok (l : List Int) (a b : Int) (hl : l.length ≤ 9223372036854775807) : FnOk Try.prog 109 [.agg [.raw (.int .i64 a), .raw (.int .i64 b)], .sl 1 (l.map cInt)] [] (.raw (.bool (hasL a b l))) [] := has6_ok l a b hl
set_option maxRecDepth 100000 in
set_option maxHeartbeats 4000000 in
theorem sty6_ok (s : LSty) : FnOk Try.prog 108 [aSty s] [] (.raw (.bool (styB s))) [] := by
  refine fn_of_swp Try.func108 rfl (by kernel_rfl) (by kernel_rfl) (Nat.le_of_ble_eq_true rfl) Try.results108 ?_
  (refine swp_seqW ?_; simp only [go_sem, Bool.not_eq_true', Bool.not_eq_false'])
  (refine swp_seqW ?_; simp only [go_sem, Bool.not_eq_true', Bool.not_eq_false'])
  (refine swp_seqW ?_; simp only [go_sem, Bool.not_eq_true', Bool.not_eq_false'])
  (refine acallF2 [176 ] [] ( hasL_ok [s.top, s.bottom, s.padTop, s.padBottom, s.inset, s.head] 0 1099511627776 (Nat.le_of_ble_eq_true rfl)) (by simp only [go_sem, Bool.not_eq_true', Bool.not_eq_false']; rfl) (fit_of (by simp only [go_sem, Bool.not_eq_true', Bool.not_eq_false']) (by simp only [go_sem, Bool.not_eq_true', Bool.not_eq_false']) (by simp only [go_sem, Bool.not_eq_true', Bool.not_eq_false']) (by simp only [go_sem, Bool.not_eq_true', Bool.not_eq_false']) (by simp only [go_sem, Bool.not_eq_true', Bool.not_eq_false']) (by simp only [go_sem, Bool.not_eq_true', Bool.not_eq_false']) (by simp only [go_sem, Bool.not_eq_true', Bool.not_eq_false'])) ?_; simp only [go_sem, Bool.not_eq_true', Bool.not_eq_false', Int.reduceToNat, Int.reduceLT, Int.reduceLE, Int.reduceEq, Int.reduceAdd, Int.reduceSub, Int.reduceMul, Int.reduceNeg, Int.reduceNe, decide_false, Int.cast_ofNat_Int, kSet, List.getElem?_cons_succ, List.getElem?_cons_zero, List.set_cons_succ, List.set_cons_zero, exists_eq_left', forall_const, true_implies, List.map])
  refine ⟨fun h1 => ?_, fun h1 => ?_⟩
  · (refine acallF2 [240 ] [] ( hasL_ok [s.orphans, s.widows] 1 1099511627776 (Nat.le_of_ble_eq_true rfl)) (by simp only [go_sem, Bool.not_eq_true', Bool.not_eq_false']; rfl) (fit_of (by simp only [go_sem, Bool.not_eq_true', Bool.not_eq_false']) (by simp only [go_sem, Bool.not_eq_true', Bool.not_eq_false']) (by simp only [go_sem, Bool.not_eq_true', Bool.not_eq_false']) (by simp only [go_sem, Bool.not_eq_true', Bool.not_eq_false']) (by simp only [go_sem, Bool.not_eq_true', Bool.not_eq_false']) (by simp only [go_sem, Bool.not_eq_true', Bool.not_eq_false']) (by simp only [go_sem, Bool.not_eq_true', Bool.not_eq_false'])) ?_; simp only [go_sem, Bool.not_eq_true', Bool.not_eq_false', Int.reduceToNat, Int.reduceLT, Int.reduceLE, Int.reduceEq, Int.reduceAdd, Int.reduceSub, Int.reduceMul, Int.reduceNeg, Int.reduceNe, decide_false, Int.cast_ofNat_Int, kSet, List.getElem?_cons_succ, List.getElem?_cons_zero, List.set_cons_succ, List.set_cons_zero, exists_eq_left', forall_const, true_implies, List.map])
    (refine swp_lastW ?_; simp only [go_sem, Bool.not_eq_true', Bool.not_eq_false', Int.reduceToNat, Int.reduceLT, Int.reduceLE, Int.reduceEq, Int.reduceAdd, Int.reduceSub, Int.reduceMul, Int.reduceNeg, Int.reduceNe, decide_false, Int.cast_ofNat_Int, kSet, List.getElem?_cons_succ, List.getElem?_cons_zero, List.set_cons_succ, List.set_cons_zero, exists_eq_left', forall_const, true_implies])
    refine ⟨fun h2 => ?_, fun h2 => ?_⟩
    · (refine acallF2 [328 ] [] ( hasL_ok [s.before, s.after] 0 4 (Nat.le_of_ble_eq_true rfl)) (by simp only [go_sem, Bool.not_eq_true', Bool.not_eq_false']; rfl) (fit_of (by simp only [go_sem, Bool.not_eq_true', Bool.not_eq_false']) (by simp only [go_sem, Bool.not_eq_true', Bool.not_eq_false']) (by simp only [go_sem, Bool.not_eq_true', Bool.not_eq_false']) (by simp only [go_sem, Bool.not_eq_true', Bool.not_eq_false']) (by simp only [go_sem, Bool.not_eq_true', Bool.not_eq_false']) (by simp only [go_sem, Bool.not_eq_true', Bool.not_eq_false']) (by simp only [go_sem, Bool.not_eq_true', Bool.not_eq_false'])) ?_; simp only [go_sem, Bool.not_eq_true', Bool.not_eq_false', Int.reduceToNat, Int.reduceLT, Int.reduceLE, Int.reduceEq, Int.reduceAdd, Int.reduceSub, Int.reduceMul, Int.reduceNeg, Int.reduceNe, decide_false, Int.cast_ofNat_Int, kSet, List.getElem?_cons_succ, List.getElem?_cons_zero, List.set_cons_succ, List.set_cons_zero, exists_eq_left', forall_const, true_implies, List.map])
      refine ⟨fun h3 => ?_, fun h3 => ?_⟩
      · (refine acallF2 [384 ] [] ( hasL_ok [s.inside] 0 1 (Nat.le_of_ble_eq_true rfl)) (by simp only [go_sem, Bool.not_eq_true', Bool.not_eq_false']; rfl) (fit_of (by simp only [go_sem, Bool.not_eq_true', Bool.not_eq_false']) (by simp only [go_sem, Bool.not_eq_true', Bool.not_eq_false']) (by simp only [go_sem, Bool.not_eq_true', Bool.not_eq_false']) (by simp only [go_sem, Bool.not_eq_true', Bool.not_eq_false']) (by simp only [go_sem, Bool.not_eq_true', Bool.not_eq_false']) (by simp only [go_sem, Bool.not_eq_true', Bool.not_eq_false']) (by simp only [go_sem, Bool.not_eq_true', Bool.not_eq_false'])) ?_; simp only [go_sem, Bool.not_eq_true', Bool.not_eq_false', Int.reduceToNat, Int.reduceLT, Int.reduceLE, Int.reduceEq, Int.reduceAdd, Int.reduceSub, Int.reduceMul, Int.reduceNeg, Int.reduceNe, decide_false, Int.cast_ofNat_Int, kSet, List.getElem?_cons_succ, List.getElem?_cons_zero, List.set_cons_succ, List.set_cons_zero, exists_eq_left', forall_const, true_implies, List.map])
        refine ⟨fun h4 => ?_, fun h4 => ?_⟩
        · (refine acallF2 [440 ] [] ( hasL_ok [s.clear] 0 3 (Nat.le_of_ble_eq_true rfl)) (by simp only [go_sem, Bool.not_eq_true', Bool.not_eq_false']; rfl) (fit_of (by simp only [go_sem, Bool.not_eq_true', Bool.not_eq_false']) (by simp only [go_sem, Bool.not_eq_true', Bool.not_eq_false']) (by simp only [go_sem, Bool.not_eq_true', Bool.not_eq_false']) (by simp only [go_sem, Bool.not_eq_true', Bool.not_eq_false']) (by simp only [go_sem, Bool.not_eq_true', Bool.not_eq_false']) (by simp only [go_sem, Bool.not_eq_true', Bool.not_eq_false']) (by simp only [go_sem, Bool.not_eq_true', Bool.not_eq_false'])) ?_; simp only [go_sem, Bool.not_eq_true', Bool.not_eq_false', Int.reduceToNat, Int.reduceLT, Int.reduceLE, Int.reduceEq, Int.reduceAdd, Int.reduceSub, Int.reduceMul, Int.reduceNeg, Int.reduceNe, decide_false, Int.cast_ofNat_Int, kSet, List.getElem?_cons_succ, List.getElem?_cons_zero, List.set_cons_succ, List.set_cons_zero, exists_eq_left', forall_const, true_implies, List.map])
          simp [styB, *]
        · simp [styB, *]
      · simp [styB, *]
    · simp [styB, *]
  · have e : styB s = false := by simp [styB, h1]
    rw [e]
    (refine swp_lastW ?_; simp only [go_sem, Bool.not_eq_true', Bool.not_eq_false', Int.reduceToNat, Int.reduceLT, Int.reduceLE, Int.reduceEq, Int.reduceAdd, Int.reduceSub, Int.reduceMul, Int.reduceNeg, Int.reduceNe, decide_false, Int.cast_ofNat_Int, kSet, List.getElem?_cons_succ, List.getElem?_cons_zero, List.set_cons_succ, List.set_cons_zero, exists_eq_left', forall_const, true_implies])
def txtB (x : LNo) : Bool := decide (x.line = 0) && decide (x.space = 0) && decide (x.words.length = 0)
def bareB (x : LNo) : Bool := decide (x.st.top = 0) && (decide (x.st.bottom = 0) && (decide (x.st.padTop = 0) && (decide (x.st.padBottom = 0) && (decide (x.st.inset = 0) && (decide (x.st.orphans = 0) && (decide (x.st.widows = 0) && (decide (x.st.head = 0) && (decide (x.st.before = 0) && (decide (x.st.after = 0) && (decide (x.st.inside = 0) && decide (x.st.clear = 0)))))))))))
def nodB (x : LNo) : Bool :=
  if x.kind = 1 then txtB x && decide (x.w = 0) && decide (x.h = 0) && decide (x.side = 0) && styB x.st
  else if x.kind = 2 then bareB x && decide (x.w = 0) && decide (x.h = 0) && decide (x.side = 0) && hasL 1 1099511627776 [x.line] && hasL 1 1099511627776 x.words && hasL 0 1099511627776 [x.space] && decide (0 < x.words.length)
  else if x.kind = 3 then bareB x && txtB x && decide (x.side = 0) && hasL 1 1099511627776 [x.w, x.h]
  else if x.kind = 4 then bareB x && txtB x && hasL 1 1099511627776 [x.w, x.h] && hasL 1 2 [x.side]
  else false
set_option maxRecDepth 100000 in
set_option maxHeartbeats 4000000 in
theorem fits6_ok (x : LNo) (hw : x.words.length ≤ 9223372036854775807) : FnOk Try.prog 80 [aNo x] [] (.raw (.bool (nodB x))) [] := by
  refine fn_of_swp Try.func80 rfl (by kernel_rfl) (by kernel_rfl) (Nat.le_of_ble_eq_true rfl) Try.results80 ?_
  (refine swp_seqW ?_; simp only [go_sem, Bool.not_eq_true', Bool.not_eq_false'])
  (refine swp_seqW ?_; simp only [go_sem, Bool.not_eq_true', Bool.not_eq_false'])
  (refine swp_seqW ?_; simp only [go_sem, Bool.not_eq_true', Bool.not_eq_false'])
  refine swp_cutS (fun b : Bool => ⟨[(1, .hdr 8), (3, .hdr 16), (4, .raw (.bool (bareB x))), (5, .raw (.bool b))], [(8, some (.cells 37 (lNo x))), (16, some (.cells 160 [.raw (.int .i64 1), .raw (.int .i64 1099511627776)]))], none⟩) (fun b => b = txtB x) 4 ?_ ?_
  · (refine swp_lastW ?_; simp only [go_sem, Bool.not_eq_true', Bool.not_eq_false'])
    refine ⟨fun h1 => ⟨fun h2 => ?_, fun h2 => ?_⟩, fun h1 => ?_⟩
    · (refine cut_end [] (decide ((x.words.length : Int) = 0)) (by simp only [go_sem, Bool.not_eq_true', Bool.not_eq_false']; rfl) ?_ ?_; (focus (simp only [go_sem, Bool.not_eq_true', Bool.not_eq_false', bareB]; done)))
      simp only [txtB]; rw [h1, h2]; simp
    · (refine cut_end [] (false) (by simp only [go_sem, Bool.not_eq_true', Bool.not_eq_false']; rfl) ?_ ?_; (focus (simp only [go_sem, Bool.not_eq_true', Bool.not_eq_false', bareB]; done)))
      simp [txtB, h2]
    · (refine cut_end [] (false) (by simp only [go_sem, Bool.not_eq_true', Bool.not_eq_false']; rfl) ?_ ?_; (focus (simp only [go_sem, Bool.not_eq_true', Bool.not_eq_false', bareB]; done)))
      simp [txtB, h1]
  rintro b rfl
  refine swp_seqS ?_
  (refine swp_seqW ?_; simp only [go_sem, Bool.not_eq_true', Bool.not_eq_false'])
  refine swp_block ?_
  (refine swp_seqW ?_; simp only [go_sem, Bool.not_eq_true', Bool.not_eq_false'])
  (refine swp_condW ?_; simp only [go_sem, Bool.not_eq_true', Bool.not_eq_false'])
  refine ⟨fun k1 => ?_, fun k1 => ?_⟩
  · have e : nodB x = (txtB x && decide (x.w = 0) && decide (x.h = 0) && decide (x.side = 0) && styB x.st) := by unfold nodB; rw [if_pos k1]
    rw [e]
    (refine swp_lastW ?_; simp only [go_sem, Bool.not_eq_true', Bool.not_eq_false'])
    repeat' first | contradiction | intro _ | refine And.intro ?_ ?_ | refine ex_get (by omega) ?_ | (show drawB _ _ = true; kernel_rfl) | (refine ret2 [] (by simp only [go_sem, Bool.not_eq_true', Bool.not_eq_false']; rfl) ?_; simp only [go_sem, Bool.not_eq_true', Bool.not_eq_false']) | (refine acall2 [] (sty6_ok x.st) (by simp only [go_sem, Bool.not_eq_true', Bool.not_eq_false']; rfl) (fit_of (by simp only [go_sem, Bool.not_eq_true', Bool.not_eq_false']) (by simp only [go_sem, Bool.not_eq_true', Bool.not_eq_false']) (by simp only [go_sem, Bool.not_eq_true', Bool.not_eq_false']) (by simp only [go_sem, Bool.not_eq_true', Bool.not_eq_false']) (by simp only [go_sem, Bool.not_eq_true', Bool.not_eq_false']) (by simp only [go_sem, Bool.not_eq_true', Bool.not_eq_false']) (by simp only [go_sem, Bool.not_eq_true', Bool.not_eq_false'])) ?_; simp only [go_sem, Bool.not_eq_true', Bool.not_eq_false'])
    all_goals simp [*]
  (refine swp_seqW ?_; simp only [go_sem, Bool.not_eq_true', Bool.not_eq_false'])
  (refine swp_condW ?_; simp only [go_sem, Bool.not_eq_true', Bool.not_eq_false'])
  refine ⟨fun k2 => ?_, fun k2 => ?_⟩
  · have e : nodB x = (bareB x && decide (x.w = 0) && decide (x.h = 0) && decide (x.side = 0) && hasL 1 1099511627776 [x.line] && hasL 1 1099511627776 x.words && hasL 0 1099511627776 [x.space] && decide (0 < x.words.length)) := by unfold nodB; rw [if_neg k1, if_pos k2]
    rw [e]
    (refine swp_lastW ?_; simp only [go_sem, Bool.not_eq_true', Bool.not_eq_false'])
    refine ⟨fun h1 => ⟨fun h2 => ⟨fun h3 => ⟨fun h4 => ?_, fun h4 => ?_⟩, fun h3 => ?_⟩, fun h2 => ?_⟩, fun h1 => ?_⟩
    · (refine acallF2 [240 ] [] ( hasL_ok [x.line] 1 1099511627776 (Nat.le_of_ble_eq_true rfl)) (by simp only [go_sem, Bool.not_eq_true', Bool.not_eq_false']; rfl) (fit_of (by simp only [go_sem, Bool.not_eq_true', Bool.not_eq_false']) (by simp only [go_sem, Bool.not_eq_true', Bool.not_eq_false']) (by simp only [go_sem, Bool.not_eq_true', Bool.not_eq_false']) (by simp only [go_sem, Bool.not_eq_true', Bool.not_eq_false']) (by simp only [go_sem, Bool.not_eq_true', Bool.not_eq_false']) (by simp only [go_sem, Bool.not_eq_true', Bool.not_eq_false']) (by simp only [go_sem, Bool.not_eq_true', Bool.not_eq_false'])) ?_; simp only [go_sem, Bool.not_eq_true', Bool.not_eq_false', Int.reduceToNat, Int.reduceLT, Int.reduceLE, Int.reduceEq, Int.reduceAdd, Int.reduceSub, Int.reduceMul, Int.reduceNeg, Int.reduceNe, decide_false, Int.cast_ofNat_Int, kSet, List.getElem?_cons_succ, List.getElem?_cons_zero, List.set_cons_succ, List.set_cons_zero, exists_eq_left', forall_const, true_implies, List.map])
      refine ⟨fun h5 => ?_, fun h5 => ?_⟩
      · (refine acall2 [] (hasL_ok x.words 1 1099511627776 hw) (by simp only [go_sem, Bool.not_eq_true', Bool.not_eq_false']; rfl) (fit_of (by simp only [go_sem, Bool.not_eq_true', Bool.not_eq_false']) (by simp only [go_sem, Bool.not_eq_true', Bool.not_eq_false']) (by simp only [go_sem, Bool.not_eq_true', Bool.not_eq_false']) (by simp only [go_sem, Bool.not_eq_true', Bool.not_eq_false']) (by simp only [go_sem, Bool.not_eq_true', Bool.not_eq_false']) (by simp only [go_sem, Bool.not_eq_true', Bool.not_eq_false']) (by simp only [go_sem, Bool.not_eq_true', Bool.not_eq_false'])) ?_; simp only [go_sem, Bool.not_eq_true', Bool.not_eq_false'])
        refine ⟨fun h6 => ?_, fun h6 => ?_⟩
        · (refine acallF2 [344 ] [] ( hasL_ok [x.space] 0 1099511627776 (Nat.le_of_ble_eq_true rfl)) (by simp only [go_sem, Bool.not_eq_true', Bool.not_eq_false']; rfl) (fit_of (by simp only [go_sem, Bool.not_eq_true', Bool.not_eq_false']) (by simp only [go_sem, Bool.not_eq_true', Bool.not_eq_false']) (by simp only [go_sem, Bool.not_eq_true', Bool.not_eq_false']) (by simp only [go_sem, Bool.not_eq_true', Bool.not_eq_false']) (by simp only [go_sem, Bool.not_eq_true', Bool.not_eq_false']) (by simp only [go_sem, Bool.not_eq_true', Bool.not_eq_false']) (by simp only [go_sem, Bool.not_eq_true', Bool.not_eq_false'])) ?_; simp only [go_sem, Bool.not_eq_true', Bool.not_eq_false', Int.reduceToNat, Int.reduceLT, Int.reduceLE, Int.reduceEq, Int.reduceAdd, Int.reduceSub, Int.reduceMul, Int.reduceNeg, Int.reduceNe, decide_false, Int.cast_ofNat_Int, kSet, List.getElem?_cons_succ, List.getElem?_cons_zero, List.set_cons_succ, List.set_cons_zero, exists_eq_left', forall_const, true_implies, List.map])
          refine ⟨fun h7 => ?_, fun h7 => ?_⟩ <;> simp [*]
        · simp [*]
      · simp [*]
    all_goals simp [*]
  (refine swp_seqW ?_; simp only [go_sem, Bool.not_eq_true', Bool.not_eq_false'])
  (refine swp_condW ?_; simp only [go_sem, Bool.not_eq_true', Bool.not_eq_false'])
  refine ⟨fun k3 => ?_, fun k3 => ?_⟩
  · have e : nodB x = (bareB x && txtB x && decide (x.side = 0) && hasL 1 1099511627776 [x.w, x.h]) := by unfold nodB; rw [if_neg k1, if_neg k2, if_pos k3]
    rw [e]
    (refine swp_lastW ?_; simp only [go_sem, Bool.not_eq_true', Bool.not_eq_false'])
    refine ⟨fun h1 => ⟨fun h2 => ⟨fun h3 => ?_, fun h3 => ?_⟩, fun h2 => ?_⟩, fun h1 => ?_⟩
    · (refine acallF2 [216 ] [] ( hasL_ok [x.w, x.h] 1 1099511627776 (Nat.le_of_ble_eq_true rfl)) (by simp only [go_sem, Bool.not_eq_true', Bool.not_eq_false']; rfl) (fit_of (by simp only [go_sem, Bool.not_eq_true', Bool.not_eq_false']) (by simp only [go_sem, Bool.not_eq_true', Bool.not_eq_false']) (by simp only [go_sem, Bool.not_eq_true', Bool.not_eq_false']) (by simp only [go_sem, Bool.not_eq_true', Bool.not_eq_false']) (by simp only [go_sem, Bool.not_eq_true', Bool.not_eq_false']) (by simp only [go_sem, Bool.not_eq_true', Bool.not_eq_false']) (by simp only [go_sem, Bool.not_eq_true', Bool.not_eq_false'])) ?_; simp only [go_sem, Bool.not_eq_true', Bool.not_eq_false', Int.reduceToNat, Int.reduceLT, Int.reduceLE, Int.reduceEq, Int.reduceAdd, Int.reduceSub, Int.reduceMul, Int.reduceNeg, Int.reduceNe, decide_false, Int.cast_ofNat_Int, kSet, List.getElem?_cons_succ, List.getElem?_cons_zero, List.set_cons_succ, List.set_cons_zero, exists_eq_left', forall_const, true_implies, List.map])
      simp [*]
    all_goals simp [*]
  (refine swp_seqW ?_; simp only [go_sem, Bool.not_eq_true', Bool.not_eq_false'])
  (refine swp_condW ?_; simp only [go_sem, Bool.not_eq_true', Bool.not_eq_false'])
  refine ⟨fun k4 => ?_, fun k4 => ?_⟩
  · have e : nodB x = (bareB x && txtB x && hasL 1 1099511627776 [x.w, x.h] && hasL 1 2 [x.side]) := by unfold nodB; rw [if_neg k1, if_neg k2, if_neg k3, if_pos k4]
    rw [e]
    (refine swp_lastW ?_; simp only [go_sem, Bool.not_eq_true', Bool.not_eq_false'])
    refine ⟨fun h1 => ⟨fun h2 => ?_, fun h2 => ?_⟩, fun h1 => ?_⟩
    · (refine acallF2 [192 ] [] ( hasL_ok [x.w, x.h] 1 1099511627776 (Nat.le_of_ble_eq_true rfl)) (by simp only [go_sem, Bool.not_eq_true', Bool.not_eq_false']; rfl) (fit_of (by simp only [go_sem, Bool.not_eq_true', Bool.not_eq_false']) (by simp only [go_sem, Bool.not_eq_true', Bool.not_eq_false']) (by simp only [go_sem, Bool.not_eq_true', Bool.not_eq_false']) (by simp only [go_sem, Bool.not_eq_true', Bool.not_eq_false']) (by simp only [go_sem, Bool.not_eq_true', Bool.not_eq_false']) (by simp only [go_sem, Bool.not_eq_true', Bool.not_eq_false']) (by simp only [go_sem, Bool.not_eq_true', Bool.not_eq_false'])) ?_; simp only [go_sem, Bool.not_eq_true', Bool.not_eq_false', Int.reduceToNat, Int.reduceLT, Int.reduceLE, Int.reduceEq, Int.reduceAdd, Int.reduceSub, Int.reduceMul, Int.reduceNeg, Int.reduceNe, decide_false, Int.cast_ofNat_Int, kSet, List.getElem?_cons_succ, List.getElem?_cons_zero, List.set_cons_succ, List.set_cons_zero, exists_eq_left', forall_const, true_implies, List.map])
      refine ⟨fun h3 => ?_, fun h3 => ?_⟩
      · (refine acallF2 [248 ] [] ( hasL_ok [x.side] 1 2 (Nat.le_of_ble_eq_true rfl)) (by simp only [go_sem, Bool.not_eq_true', Bool.not_eq_false']; rfl) (fit_of (by simp only [go_sem, Bool.not_eq_true', Bool.not_eq_false']) (by simp only [go_sem, Bool.not_eq_true', Bool.not_eq_false']) (by simp only [go_sem, Bool.not_eq_true', Bool.not_eq_false']) (by simp only [go_sem, Bool.not_eq_true', Bool.not_eq_false']) (by simp only [go_sem, Bool.not_eq_true', Bool.not_eq_false']) (by simp only [go_sem, Bool.not_eq_true', Bool.not_eq_false']) (by simp only [go_sem, Bool.not_eq_true', Bool.not_eq_false'])) ?_; simp only [go_sem, Bool.not_eq_true', Bool.not_eq_false', Int.reduceToNat, Int.reduceLT, Int.reduceLE, Int.reduceEq, Int.reduceAdd, Int.reduceSub, Int.reduceMul, Int.reduceNeg, Int.reduceNe, decide_false, Int.cast_ofNat_Int, kSet, List.getElem?_cons_succ, List.getElem?_cons_zero, List.set_cons_succ, List.set_cons_zero, exists_eq_left', forall_const, true_implies, List.map])
        simp [*]
      · simp [*]
    all_goals simp [*]
  have e : nodB x = false := by unfold nodB; rw [if_neg k1, if_neg k2, if_neg k3, if_neg k4]
  rw [e]
  (refine swp_lastW ?_; simp only [go_sem, Bool.not_eq_true', Bool.not_eq_false'])
  (refine swp_lastW ?_; simp only [go_sem, Bool.not_eq_true', Bool.not_eq_false'])
end Go.Proofs.Ytblmebjhhanoaaa
/- CHAPTER 06: valid: nodes within nodes. -/
/- G -/
/- BOOLS -/
set_option linter.unusedSimpArgs false
set_option linter.unusedVariables false
namespace Go.Proofs.Ytblmebjhhanoaaa
open Go.RowKit

def topI (st : List Int) : Int := st.getD (st.length - 1) 0
def popS (i : Int) : Nat → List Int → List Int
  | 0, st => st
  | f + 1, st => if 1 < st.length ∧ topI st = i then popS i f (st.take (st.length - 1)) else st
def isG : List LNo → Nat → List Int → Bool
  | [], _, _ => true
  | x :: l, i, st => nodB x && decide (1 ≤ x.size) && decide (x.size ≤ topI (popS i st.length st) - i) && !(decide (x.kind ≠ 1) && decide (1 < x.size)) && isG l (i + 1) (popS i st.length st ++ [i + x.size])
def isS (l : List LNo) : Bool := isG l 0 [(l.length : Int)]
theorem popS_sub (i : Int) : ∀ f st, (∀ e ∈ popS i f st, e ∈ st) ∧ (popS i f st).length ≤ st.length ∧ (1 ≤ st.length → 1 ≤ (popS i f st).length)
  | 0, st => ⟨fun _ h => h, Nat.le_refl _, fun h => h⟩
  | f + 1, st => by
    rw [popS]
    split
    · next h =>
      obtain ⟨h1, h2, h3⟩ := popS_sub i f (st.take (st.length - 1))
      simp only [List.length_take] at h2 h3
      exact ⟨fun e he => List.mem_of_mem_take (h1 e he), by omega, fun _ => h3 (by omega)⟩
    · exact ⟨fun _ h => h, Nat.le_refl _, fun h => h⟩
theorem topI_mem {st : List Int} (h : 1 ≤ st.length) : topI st ∈ st := by
  unfold topI
  rw [List.getD_eq_getElem?_getD, List.getElem?_eq_getElem (by omega : st.length - 1 < st.length)]
  exact List.getElem_mem _
theorem topI_get {st : List Int} (h : 1 ≤ st.length) : st[st.length - 1]? = some (topI st) := by
  unfold topI
  rw [List.getD_eq_getElem?_getD, List.getElem?_eq_getElem (by omega : st.length - 1 < st.length)]
  rfl
theorem tm1 (k : Nat) : ((k : Int) - 1).toNat = k - 1 := by omega
theorem ex_i {α : Type} {o : Option α} {a : α} {P : α → Prop} (h : o = some a) (p : P a) : ∃ x, o = some x ∧ P x := ⟨a, h, p⟩
structure LIv6 where
  i : Nat
  st : List Int
set_option maxRecDepth 100000 in
set_option maxHeartbeats 4000000 in
theorem is6_ok (l : List LNo) (hl : l.length ≤ 1000) (hw : ∀ x ∈ l, x.words.length ≤ 9223372036854775807) : FnOk Try.prog 58 [.sl 20 (l.map cNo)] [] (.raw (.bool (isS l))) [] := by
  refine fn_of_swp Try.func58 rfl (by kernel_rfl) (by kernel_rfl) (Nat.le_of_ble_eq_true rfl) Try.results58 ?_
  (refine swp_seqW ?_; simp only [go_sem, Bool.not_eq_true', Bool.not_eq_false'])
  (refine swp_seqW ?_; simp only [go_sem, Bool.not_eq_true', Bool.not_eq_false', List.length_map])
  refine swp_cutS (fun _ : Unit => ⟨[], [], none⟩) (fun _ => isS l = true) 4 ?_ ?_
  · (refine swp_seqW ?_; simp only [go_sem, Bool.not_eq_true', Bool.not_eq_false', List.length_map])
    refine swp_block ?_
    refine swp_loop2 [] (fun z : LIv6 => ⟨[(3, .hdr 8), (9, .sl 20 (l.map cNo)), (10, .raw (.int .i64 l.length)), (11, .raw (.int .i64 z.i))], [(8, some (.row 3 1 (z.st.map cInt)))], none⟩) (fun z => z.i ≤ l.length ∧ 1 ≤ z.st.length ∧ z.st.length ≤ z.i + 1 ∧ (∀ e ∈ z.st, 0 ≤ e ∧ e ≤ l.length) ∧ isG (l.drop z.i) z.i z.st = isS l) (fun z => l.length - z.i) 40 ⟨0, [(l.length : Int)]⟩ (by simp only [go_sem, Bool.not_eq_true', Bool.not_eq_false']; rfl) (by simp only [go_sem, Bool.not_eq_true', Bool.not_eq_false']) ?_ ?_
    · exact ⟨Nat.zero_le _, Nat.le_refl _, Nat.le_refl _, fun e he => by simp at he; omega, rfl⟩
    · rintro ⟨i, st⟩ ⟨q1, q2, q3, q4, q5⟩
      simp only at q1 q2 q3 q4 q5
      (refine swp_seqW ?_; simp only [go_sem, Bool.not_eq_true', Bool.not_eq_false'])
      (refine swp_seqW ?_; simp only [go_sem, Bool.not_eq_true', Bool.not_eq_false'])
      refine ⟨fun h5 => ?_, fun h5 => ?_⟩
      rotate_left
      · (refine cut_end [] (()) (by simp only [go_sem, Bool.not_eq_true', Bool.not_eq_false']; rfl) ?_ ?_; (focus (simp only [go_sem, Bool.not_eq_true', Bool.not_eq_false']; done)))
        rw [← q5, List.drop_eq_nil_of_le (by omega)]; rfl
      have hi : i < l.length := by omega
      rw [List.drop_eq_getElem_cons hi, isG] at q5
      have hx := hw l[i] (List.getElem_mem hi)
      have hp := popS_sub i st.length st
      generalize hst : popS i st.length st = st2 at q5 hp
      refine swp_seqS ?_
      refine swp_block ?_
      (refine swp_seqW ?_; simp only [go_sem, Bool.not_eq_true', Bool.not_eq_false'])
      refine ⟨by omega, ex_get hi ?_⟩
      generalize l[i] = x at q5 hx ⊢
      refine swp_cutS (fun _ : Unit => ⟨[(3, .hdr 8), (4, .raw (.int .i64 i)), (5, .hdr 16), (9, .sl 20 (l.map cNo)), (10, .raw (.int .i64 l.length)), (11, .raw (.int .i64 i))], [(8, some (.row 3 1 (st2.map cInt))), (16, some (.cells 37 (lNo x)))], none⟩) (fun _ => True) 60 ?_ ?_
      · refine swp_block ?_
        refine swp_loop2 [] (fun s : List Int => ⟨[(3, .hdr 8), (4, .raw (.int .i64 i)), (5, .hdr 16), (9, .sl 20 (l.map cNo)), (10, .raw (.int .i64 l.length)), (11, .raw (.int .i64 i))], [(8, some (.row 3 1 (s.map cInt))), (16, some (.cells 37 (lNo x)))], none⟩) (fun s => 1 ≤ s.length ∧ s.length ≤ 1001 ∧ ∃ f, s.length ≤ f ∧ popS i f s = st2) (fun s => s.length) 80 st (by simp only [go_sem, Bool.not_eq_true', Bool.not_eq_false']; rfl) (by simp only [go_sem, Bool.not_eq_true', Bool.not_eq_false']) ?_ ?_
        · exact ⟨q2, by omega, st.length, Nat.le_refl _, hst⟩
        · rintro s ⟨p1, p2, f, p3, p4⟩
          obtain ⟨f, rfl⟩ : ∃ g, f = g + 1 := ⟨f - 1, by omega⟩
          rw [popS] at p4
          (refine swp_lastW ?_; simp only [go_sem, Bool.not_eq_true', Bool.not_eq_false', List.length_map, tm1])
          refine ⟨fun h6 => ⟨by omega, by omega, _, topI_get p1, fun h7 => ⟨by omega, by omega, ?_⟩, fun h7 => ?_⟩, fun h6 => ?_⟩
          · rw [if_pos ⟨by omega, h7⟩] at p4
            have e : (s.take (s.length - 1)).length = s.length - 1 := by simp
            (refine loop_end [] (s.take (s.length - 1)) (by simp only [go_sem, Bool.not_eq_true', Bool.not_eq_false']; rfl) ?_ ?_ ?_; (focus first | omega | (simp only; omega)); (focus (simp only [go_sem, Bool.not_eq_true', Bool.not_eq_false']; done)))
            exact ⟨by omega, by omega, f, by omega, p4⟩
          · rw [if_neg (fun q => h7 q.2)] at p4
            subst p4
            (refine cut_end [] (()) (by simp only [go_sem, Bool.not_eq_true', Bool.not_eq_false']; rfl) ?_ ?_; (focus (simp only [go_sem, Bool.not_eq_true', Bool.not_eq_false']; done)))
            trivial
          · rw [if_neg (fun q => h6 (by omega))] at p4
            subst p4
            (refine cut_end [] (()) (by simp only [go_sem, Bool.not_eq_true', Bool.not_eq_false']; rfl) ?_ ?_; (focus (simp only [go_sem, Bool.not_eq_true', Bool.not_eq_false']; done)))
            trivial
      rintro - -
      (refine swp_seqW ?_; simp only [go_sem, Bool.not_eq_true', Bool.not_eq_false'])
      have hp1 : 1 ≤ st2.length := hp.2.2 q2
      have hp2 := q4 _ (hp.1 _ (topI_mem hp1))
      (refine acall2 [] (fits6_ok x hx) (by simp only [go_sem, Bool.not_eq_true', Bool.not_eq_false']; rfl) (fit_of (by simp only [go_sem, Bool.not_eq_true', Bool.not_eq_false']) (by simp only [go_sem, Bool.not_eq_true', Bool.not_eq_false']) (by simp only [go_sem, Bool.not_eq_true', Bool.not_eq_false']) (by simp only [go_sem, Bool.not_eq_true', Bool.not_eq_false']) (by simp only [go_sem, Bool.not_eq_true', Bool.not_eq_false']) (by simp only [go_sem, Bool.not_eq_true', Bool.not_eq_false']) (by simp only [go_sem, Bool.not_eq_true', Bool.not_eq_false'])) ?_; simp only [go_sem, Bool.not_eq_true', Bool.not_eq_false', List.length_map, tm1])
      repeat' first | refine And.intro ?_ ?_ | intro _ | refine ex_i (topI_get hp1) ?_
      all_goals first
        | omega
        | (show drawB _ _ = true; kernel_rfl)
        | (refine Bool.eq_false_iff.2 (fun q => ?_)
           rw [← q5] at q
           simp only [Bool.and_eq_true, Bool.not_eq_true', Bool.and_eq_false_iff, decide_eq_true_eq, decide_eq_false_iff_not] at q
           obtain ⟨⟨⟨⟨u1, u2⟩, u3⟩, u4⟩, u5⟩ := q
           first
             | omega
             | (simp_all; done))
        | skip
      all_goals
        have u : (nodB x && decide (1 ≤ x.size) && decide (x.size ≤ topI st2 - ↑i) && !(decide (x.kind ≠ 1) && decide (1 < x.size))) = true := by
          simp only [Bool.and_eq_true, Bool.not_eq_true', Bool.and_eq_false_iff, decide_eq_true_eq, decide_eq_false_iff_not]
          exact ⟨⟨⟨by assumption, by omega⟩, by omega⟩, by omega⟩
        rw [u, Bool.true_and] at q5
        (refine swp_lastW ?_; simp only [go_sem, Bool.not_eq_true', Bool.not_eq_false', List.length_map])
        refine ⟨by omega, ⟨by omega, by omega⟩, ?_⟩
        (refine swp_lastW ?_; simp only [go_sem, Bool.not_eq_true', Bool.not_eq_false'])
        refine ⟨by omega, ?_⟩
        have e2 : (st2 ++ [(i : Int) + x.size]).length = st2.length + 1 := by simp
        (refine loop_end [] (⟨i + 1, st2 ++ [(i : Int) + x.size]⟩) (by simp only [go_sem, Bool.not_eq_true', Bool.not_eq_false']; rfl) ?_ ?_ ?_; (focus first | omega | (simp only; omega)); (focus (simp only [go_sem, Bool.not_eq_true', Bool.not_eq_false', List.map_append]; done)))
        refine ⟨by simp only; omega, by simp only; omega, by simp only; omega, fun e he => ?_, q5⟩
        rcases List.mem_append.1 he with h | h
        · exact q4 _ (hp.1 _ h)
        · simp only [List.mem_singleton] at h; omega
  rintro - hs
  rw [hs]
  (refine swp_lastW ?_; simp only [go_sem, Bool.not_eq_true', Bool.not_eq_false'])
end Go.Proofs.Ytblmebjhhanoaaa
/- CHAPTER 08: tree: of, has, parent. -/
/- G -/
/- BOOLS -/
set_option linter.unusedSimpArgs false
set_option linter.unusedVariables false
namespace Go.Proofs.Ytblmebjhhanoaaa
open Go.RowKit

theorem isG_sizes (N : Int) : ∀ (l : List LNo) (i : Nat) (st : List Int), isG l i st = true → 1 ≤ st.length → (∀ e ∈ st, e ≤ N) → ∀ x ∈ l, 1 ≤ x.size ∧ x.size ≤ N
  | [], _, _, _, _, _, x, hx => by cases hx
  | y :: l, i, st, h, h1, h2, x, hx => by
    rw [isG] at h
    simp only [Bool.and_eq_true, Bool.not_eq_true', Bool.and_eq_false_iff, decide_eq_true_eq, decide_eq_false_iff_not] at h
    obtain ⟨⟨⟨⟨u1, u2⟩, u3⟩, u4⟩, u5⟩ := h
    have hp := popS_sub i st.length st
    have ht := h2 _ (hp.1 _ (topI_mem (hp.2.2 h1)))
    rcases List.mem_cons.1 hx with e | e
    · subst e; exact ⟨u2, by omega⟩
    · refine isG_sizes N l (i + 1) _ u5 (by simp) (fun e he => ?_) x e
      rcases List.mem_append.1 he with h | h
      · exact h2 _ (hp.1 _ h)
      · simp only [List.mem_singleton] at h; omega
theorem isS_sizes {l : List LNo} (h : isS l = true) : ∀ x ∈ l, 1 ≤ x.size ∧ x.size ≤ l.length := isG_sizes _ l 0 _ h (Nat.le_refl _) (fun e he => by simp at he; omega)
def docN (l : List LNo) : List LNo := if isS l = true then l else []
theorem docN_len (l : List LNo) : (docN l).length ≤ l.length := by
  unfold docN
  split
  · exact Nat.le_refl _
  · exact Nat.zero_le _
theorem docN_sizes (l : List LNo) : ∀ x ∈ docN l, 1 ≤ x.size ∧ x.size ≤ (docN l).length := by
  unfold docN
  split
  · next h => exact isS_sizes h
  · intro x hx; cases hx
set_option maxRecDepth 100000 in
theorem of8_ok (l : List LNo) (hl : l.length ≤ 1000) (hw : ∀ x ∈ l, x.words.length ≤ 9223372036854775807) : FnOk Try.prog 33 [.sl 20 (l.map cNo)] [] (.agg [.sl 20 ((docN l).map cNo)]) [] := by
  refine fn_of_awp Try.func33 rfl (by kernel_rfl) (by kernel_rfl) (Nat.le_of_ble_eq_true rfl) Try.results33 ?_
  simp only [go_sem, Bool.not_eq_true', Bool.not_eq_false']
  (refine acall2 [] (is6_ok l hl hw) (by simp only [go_sem, Bool.not_eq_true', Bool.not_eq_false']; rfl) (fit_of (by simp only [go_sem, Bool.not_eq_true', Bool.not_eq_false']) (by simp only [go_sem, Bool.not_eq_true', Bool.not_eq_false']) (by simp only [go_sem, Bool.not_eq_true', Bool.not_eq_false']) (by simp only [go_sem, Bool.not_eq_true', Bool.not_eq_false']) (by simp only [go_sem, Bool.not_eq_true', Bool.not_eq_false']) (by simp only [go_sem, Bool.not_eq_true', Bool.not_eq_false']) (by simp only [go_sem, Bool.not_eq_true', Bool.not_eq_false'])) ?_; simp only [go_sem, Bool.not_eq_true', Bool.not_eq_false'])
  refine ⟨fun h => ?_, fun h => ?_⟩
  · have e : docN l = [] := by simp [docN, h]
    rw [e]
    (refine ret2 [40] (by simp only [go_sem, Bool.not_eq_true', Bool.not_eq_false', List.map]; rfl) ?_; simp only [go_sem, Bool.not_eq_true', Bool.not_eq_false', List.map])
  · have e : docN l = l := by simp [docN, h]
    rw [e]
    (refine ret2 [] (by simp only [go_sem, Bool.not_eq_true', Bool.not_eq_false']; rfl) ?_; simp only [go_sem, Bool.not_eq_true', Bool.not_eq_false'])
def hasN (l : List LNo) (a : Int) : Bool := decide (0 ≤ a) && decide (a < l.length)
def sizN (l : List LNo) (k : Nat) : Int := match l[k]? with | some x => x.size | none => 0
theorem sizN_get {l : List LNo} {k : Nat} (hk : k < l.length) : sizN l k = l[k].size := by unfold sizN; rw [List.getElem?_eq_getElem hk]
/-- the parent of a place, among nodes below k. -/
def parI (l : List LNo) (a : Int) : Nat → Int
  | 0 => -1
  | k + 1 => if a < k + sizN l k then k else parI l a k
theorem parI_lt (l : List LNo) (a : Int) : ∀ k, -1 ≤ parI l a k ∧ parI l a k < k
  | 0 => by simp [parI]
  | k + 1 => by
    rw [parI]
    have := parI_lt l a k
    split <;> omega
end Go.Proofs.Ytblmebjhhanoaaa
/- CHAPTER 08: tree: Parent, Above. -/
/- G -/
/- BOOLS -/
set_option linter.unusedSimpArgs false
set_option linter.unusedVariables false
namespace Go.Proofs.Ytblmebjhhanoaaa
open Go.RowKit

/-- the parent of any place. -/
def parN (l : List LNo) (a : Int) : Int := if hasN l a = true then parI l a a.toNat else -1
end Go.Proofs.Ytblmebjhhanoaaa
/- CHAPTER 08: tree: Holds, Kids. -/
/- G -/
/- BOOLS -/
set_option linter.unusedSimpArgs false
set_option linter.unusedVariables false
namespace Go.Proofs.Ytblmebjhhanoaaa
open Go.RowKit

def holN (l : List LNo) (a b : Int) : Bool := hasN l a && hasN l b && decide (a ≤ b) && decide (b < a + sizN l a.toNat)
theorem docN_eq {l : List LNo} {a : Int} (h : hasN (docN l) a = true) : docN l = l ∧ 0 ≤ a ∧ a < l.length := by
  unfold docN at h ⊢
  split at h
  · next q =>
    simp only [hasN, Bool.and_eq_true, decide_eq_true_eq] at h
    rw [if_pos q]
    exact ⟨rfl, h⟩
  · simp only [hasN, Bool.and_eq_true, decide_eq_true_eq, List.length_nil] at h
    omega
theorem isG_ends (N : Int) : ∀ (l : List LNo) (i : Nat) (st : List Int), isG l i st = true → 1 ≤ st.length → (∀ e ∈ st, e ≤ N) → ∀ k (hk : k < l.length), i + k + l[k].size ≤ N
  | [], _, _, _, _, _, k, hk => absurd hk (Nat.not_lt_zero _)
  | y :: l, i, st, h, h1, h2, k, hk => by
    rw [isG] at h
    simp only [Bool.and_eq_true, Bool.not_eq_true', Bool.and_eq_false_iff, decide_eq_true_eq, decide_eq_false_iff_not] at h
    obtain ⟨⟨⟨⟨u1, u2⟩, u3⟩, u4⟩, u5⟩ := h
    have hp := popS_sub i st.length st
    have ht := h2 _ (hp.1 _ (topI_mem (hp.2.2 h1)))
    cases k with
    | zero => show (i : Int) + (0 : Nat) + y.size ≤ N; omega
    | succ k =>
      have := isG_ends N l (i + 1) _ u5 (by simp) (fun e he => by
        rcases List.mem_append.1 he with h | h
        · exact h2 _ (hp.1 _ h)
        · simp only [List.mem_singleton] at h; omega) k (by simp only [List.length_cons] at hk; omega)
      simp only [List.getElem_cons_succ]
      omega
theorem docN_ends (l : List LNo) : ∀ k (hk : k < (docN l).length), k + (docN l)[k].size ≤ (docN l).length := by
  by_cases h : isS l = true
  · have e : docN l = l := by simp [docN, h]
    rw [e]
    intro k hk
    have := isG_ends l.length l 0 _ h (Nat.le_refl _) (fun e he => by simp at he; omega) k hk
    omega
  · have e : docN l = [] := by simp [docN, h]
    rw [e]
    intro k hk
    exact absurd hk (Nat.not_lt_zero _)
def kidS (l : List LNo) (e : Int) : Nat → Nat → List Int
  | 0, _ => []
  | f + 1, k => if (k : Int) < e then (k : Int) :: kidS l e f (k + (sizN l k).toNat) else []
def kidN (l : List LNo) (a : Int) : List Int :=
  if a = -1 then kidS l l.length l.length 0
  else if hasN l a = true then kidS l (a + sizN l a.toNat) l.length (a.toNat + 1) else []
theorem docN_or (l : List LNo) : docN l = l ∨ docN l = [] := by
  unfold docN
  split
  · exact Or.inl rfl
  · exact Or.inr rfl
structure LKd where
  e : Int
  k : Nat
  acc : List Int
end Go.Proofs.Ytblmebjhhanoaaa
/- CHAPTER 08: tree: Above. -/
/- G -/
/- BOOLS -/
set_option linter.unusedSimpArgs false
set_option linter.unusedVariables false
namespace Go.Proofs.Ytblmebjhhanoaaa
open Go.RowKit

def abvL (l : List LNo) : Nat → Int → List Int
  | 0, _ => []
  | f + 1, p => if 0 ≤ p then p :: abvL l f (parI l p p.toNat) else []
def abvN (l : List LNo) (a : Int) : List Int := if hasN l a = true then abvL l l.length (parI l a a.toNat) else []
structure LAb where
  p : Int
  acc : List Int
end Go.Proofs.Ytblmebjhhanoaaa
/- CHAPTER 08: tree: Rooms (under way). -/
/- G -/
/- BOOLS -/
set_option linter.unusedSimpArgs false
set_option linter.unusedVariables false
namespace Go.Proofs.Ytblmebjhhanoaaa
open Go.RowKit

structure LRm where
  x : Int
  w : Int
deriving DecidableEq
def cRm (r : LRm) : List PV := [.raw (.int .i64 r.x), .raw (.int .i64 r.w)]
attribute [go_sem] cRm
def insN (l : List LNo) (k : Nat) : Int := match l[k]? with | some x => x.st.inset | none => 0
theorem insN_get {l : List LNo} {k : Nat} (hk : k < l.length) : insN l k = l[k].st.inset := by unfold insN; rw [List.getElem?_eq_getElem hk]
def inR (l : List LNo) (k : Nat) (r : LRm) : LRm := ⟨min (r.x + insN l k) 1099511627776, max (r.w - 2 * insN l k) 1⟩
def putS (l : List LNo) : Nat → Nat → Int → LRm → List LRm
  | 0, _, _, _ => []
  | f + 1, k, e, r => if (k : Int) < e then r :: (putS l f (k + 1) (k + sizN l k) (inR l k r) ++ putS l f (k + (sizN l k).toNat) e r) else []
def okR (r : LRm) : Prop := 0 ≤ r.x ∧ r.x ≤ 1099511627776 ∧ 1 ≤ r.w ∧ r.w ≤ 1099511627776
abbrev putO (l : List LNo) (i : Nat) : List (Nat × AO) := [(0, .cells 22 [.sl 20 (l.map cNo)]), (1, .cells 44 [.hdr i]), (2, .cells 83 [.clo (.func 34) [.hdr 0, .hdr 1, .hdr 2]])]
def nst (l : List LNo) : Nat → Nat → Int → Prop
  | 0, _, _ => False
  | f + 1, k, e => (k : Int) ≤ e ∧ ((k : Int) < e → 1 ≤ sizN l k ∧ k + sizN l k ≤ e ∧ nst l f (k + 1) (k + sizN l k) ∧ nst l f (k + (sizN l k).toNat) e)
theorem putS_len (l : List LNo) : ∀ (f k : Nat) (e : Int) (r : LRm), nst l f k e → ((putS l f k e r).length : Int) = e - k
  | 0, k, e, r, h => absurd h (by simp [nst])
  | f + 1, k, e, r, h => by
    obtain ⟨h1, h2⟩ := h
    rw [putS]
    split
    · next q =>
      obtain ⟨u1, u2, u3, u4⟩ := h2 q
      have e1 := putS_len l f (k + 1) (k + sizN l k) (inR l k r) u3
      have e2 := putS_len l f (k + (sizN l k).toNat) e r u4
      simp only [List.length_cons, List.length_append]
      omega
    · simp only [List.length_nil]; omega
theorem nst_le (l : List LNo) {f k : Nat} {e : Int} (h : nst l f k e) : (k : Int) ≤ e := by
  cases f with
  | zero => exact absurd h (by simp [nst])
  | succ f => exact h.1
structure LPt where
  k : Nat
  acc : List LRm
set_option maxRecDepth 100000 in
set_option maxHeartbeats 4000000 in
theorem put8_ok (l : List LNo) (hl : l.length ≤ 1000) (hi : ∀ x ∈ l, 0 ≤ x.st.inset ∧ x.st.inset ≤ 1099511627776) : ∀ (F f : Nat), f ≤ F → ∀ (k : Nat) (e : Int) (r : LRm) (acc : List LRm), okR r → e ≤ l.length → nst l f k e → acc.length ≤ k → 
    FnOk Try.prog 34 [.raw (.int .i64 k), .raw (.int .i64 e), .agg [.raw (.int .i64 r.x), .raw (.int .i64 r.w)], .hdr 0, .hdr 1, .hdr 2] [(0, .cells 22 [.sl 20 (l.map cNo)]), (1, .cells 44 [.hdr 3]), (2, .cells 83 [.clo (.func 34) [.hdr 0, .hdr 1, .hdr 2]]), (3, .row 47 2 (acc.map cRm))] (.tup []) [(0, .cells 22 [.sl 20 (l.map cNo)]), (1, .cells 44 [.hdr 8]), (2, .cells 83 [.clo (.func 34) [.hdr 0, .hdr 1, .hdr 2]]), (8, .row 47 2 ((acc ++ putS l f k e r).map cRm))]
  | 0, f, hf, k, e, r, acc, h1, h2, h3, h5 => by
    obtain rfl : f = 0 := by omega
    exact absurd h3 (by simp [nst])
  | F + 1, f, hf, k, e, r, acc, h1, h2, h3, h5 => by
    refine fn_of_swp Try.func34 rfl (by kernel_rfl) (by kernel_rfl) (Nat.le_of_ble_eq_true rfl) Try.results34 ?_
    (refine swp_seqW ?_; simp only [go_sem, Bool.not_eq_true', Bool.not_eq_false'])
    (refine swp_seqW ?_; simp only [go_sem, Bool.not_eq_true', Bool.not_eq_false'])
    refine swp_block ?_
    refine swp_loop2 [] (fun z : LPt => ⟨[(1, .raw (.int .i64 e)), (3, .hdr 0), (4, .hdr 1), (5, .hdr 2), (8, .hdr 8), (9, .raw (.int .i64 z.k))], [(1, some (.cells 44 [.hdr 16])), (8, some (.cells 47 [.raw (.int .i64 r.x), .raw (.int .i64 r.w)])), (0, some (.cells 22 [.sl 20 (l.map cNo)])), (2, some (.cells 83 [.clo (.func 34) [.hdr 0, .hdr 1, .hdr 2]])), (16, some (.row 47 2 (z.acc.map cRm)))], none⟩) (fun z => ∃ g, g ≤ f ∧ nst l g z.k e ∧ z.acc ++ putS l g z.k e r = acc ++ putS l f k e r ∧ z.acc.length ≤ z.k) (fun z => l.length - z.k) 4 ⟨k, acc⟩ (by simp only [go_sem, Bool.not_eq_true', Bool.not_eq_false']; rfl) (by simp only [go_sem, Bool.not_eq_true', Bool.not_eq_false']) ?_ ?_
    · exact ⟨f, Nat.le_refl _, h3, rfl, h5⟩
    · rintro ⟨kk, ac⟩ ⟨g, g1, g2, g3, g4⟩
      simp only at g1 g2 g3 g4
      obtain ⟨g, rfl⟩ : ∃ g', g = g' + 1 := by
        cases g with
        | zero => exact absurd g2 (by simp [nst])
        | succ g => exact ⟨g, rfl⟩
      (refine swp_seqW ?_; simp only [go_sem, Bool.not_eq_true', Bool.not_eq_false'])
      refine ⟨fun q => ?_, fun q => ?_⟩
      · obtain ⟨u1, u2, u3, u4⟩ := g2.2 q
        have hk : kk < l.length := by omega
        have hin := hi l[kk] (List.getElem_mem hk)
        have hsz := sizN_get hk
        have hii := insN_get hk
        obtain ⟨m, hm⟩ : ∃ m : Nat, sizN l kk = m := ⟨(sizN l kk).toNat, by omega⟩
        have e1 := putS_len l g (kk + 1) (kk + sizN l kk) (inR l kk r) u3
        rw [putS, if_pos q] at g3
        refine swp_seqS ?_
        refine swp_block ?_
        (refine swp_seqW ?_; simp only [go_sem, Bool.not_eq_true', Bool.not_eq_false'])
        refine ⟨⟨by omega, by omega⟩, ?_⟩
        (refine swp_seqW ?_; simp only [go_sem, Bool.not_eq_true', Bool.not_eq_false'])
        refine ⟨⟨by omega, by omega⟩, l[kk], List.getElem?_eq_getElem hk, ?_⟩
        (refine swp_lastW ?_; simp only [go_sem, Bool.not_eq_true', Bool.not_eq_false'])
        have er : inR l kk r = ⟨min (r.x + l[kk].st.inset) 1099511627776, max (r.w - 2 * l[kk].st.inset) 1⟩ := by unfold inR; rw [hii]
        obtain ⟨o1, o2, o3, o4⟩ := h1
        rw [er] at e1 g3
        rw [hsz] at e1 u1 u2 u3 u4 g3 hm
        refine ⟨by omega, ⟨by omega, by omega⟩, l[kk], List.getElem?_eq_getElem hk, by omega, by omega, by omega, by omega, ?_⟩
        have em : ac.map cRm ++ [[PV.raw (.int .i64 r.x), PV.raw (.int .i64 r.w)]] = (ac ++ [r]).map cRm := by simp [cRm]
        rw [em]
        (refine acall2 [] (put8_ok l hl hi F g (by omega) (kk + 1) (kk + l[kk].size) ⟨min (r.x + l[kk].st.inset) 1099511627776, max (r.w - 2 * l[kk].st.inset) 1⟩ (ac ++ [r]) ⟨by simp only; omega, by simp only; omega, by simp only; omega, by simp only; omega⟩ (by omega) u3 (by simp; omega)) (by simp only [go_sem, Bool.not_eq_true', Bool.not_eq_false']; rfl) (fit_of (by simp only [go_sem, Bool.not_eq_true', Bool.not_eq_false']) (by simp only [go_sem, Bool.not_eq_true', Bool.not_eq_false']) (by simp only [go_sem, Bool.not_eq_true', Bool.not_eq_false']) (by simp only [go_sem, Bool.not_eq_true', Bool.not_eq_false']) (by simp only [go_sem, Bool.not_eq_true', Bool.not_eq_false']) (by simp only [go_sem, Bool.not_eq_true', Bool.not_eq_false']) (by simp only [go_sem, Bool.not_eq_true', Bool.not_eq_false'])) ?_; simp only [go_sem, Bool.not_eq_true', Bool.not_eq_false'])
        refine ⟨(by show drawB _ _ = true; kernel_rfl), ?_⟩
        (refine swp_lastW ?_; simp only [go_sem, Bool.not_eq_true', Bool.not_eq_false'])
        refine ⟨⟨by omega, by omega⟩, l[kk], List.getElem?_eq_getElem hk, by omega, ?_⟩
        rw [hm] at g3 e1 u1 u2 u4 ⊢
        simp only [Int.toNat_natCast] at g3 u4
        generalize putS l g (kk + 1) (kk + (m : Int)) _ = pp at g3 e1 ⊢
        have e5 : (ac ++ [r] ++ pp).length = ac.length + 1 + pp.length := by simp; omega
        (refine loop_end [] (⟨kk + m, ac ++ [r] ++ pp⟩) (by simp only [go_sem, Bool.not_eq_true', Bool.not_eq_false']; rfl) ?_ ?_ ?_; (focus first | omega | (simp only; omega)); (focus (simp only [go_sem, Bool.not_eq_true', Bool.not_eq_false']; done)))
        exact ⟨g, by omega, u4, by rw [← g3]; simp, by simp only; omega⟩
      · rw [← g3, putS, if_neg q, List.append_nil]
        (refine ret2 [] (by simp only [go_sem, Bool.not_eq_true', Bool.not_eq_false']; rfl) ?_; simp only [go_sem, Bool.not_eq_true', Bool.not_eq_false'])
end Go.Proofs.Ytblmebjhhanoaaa
/- CHAPTER 08: tree: Rooms. -/
/- G -/
/- BOOLS -/
set_option linter.unusedSimpArgs false
set_option linter.unusedVariables false
namespace Go.Proofs.Ytblmebjhhanoaaa
open Go.RowKit

def romN (l : List LNo) (w : Int) : List LRm := if 1 ≤ w ∧ w ≤ 1099511627776 then putS l (l.length + 1) 0 (docN l).length ⟨0, w⟩ else []
set_option maxRecDepth 100000 in
set_option maxHeartbeats 4000000 in
theorem rooms8_ok (l : List LNo) (w : Int) (hl : l.length ≤ 1000) (hw : ∀ x ∈ l, x.words.length ≤ 9223372036854775807) (hi : ∀ x ∈ l, 0 ≤ x.st.inset ∧ x.st.inset ≤ 1099511627776) (hn : nst l (l.length + 1) 0 (docN l).length) : FnOk Try.prog 12 [.sl 20 (l.map cNo), .raw (.int .i64 w)] [] (.hdr 8) [(8, .row 47 2 ((romN l w).map cRm))] := by
  have hd := docN_len l
  refine fn_of_swp Try.func12 rfl (by kernel_rfl) (by kernel_rfl) (Nat.le_of_ble_eq_true rfl) Try.results12 ?_
  (refine swp_seqW ?_; simp only [go_sem, Bool.not_eq_true', Bool.not_eq_false'])
  (refine swp_seqW ?_; simp only [go_sem, Bool.not_eq_true', Bool.not_eq_false'])
  (refine acall2 [] (of8_ok l hl hw) (by simp only [go_sem, Bool.not_eq_true', Bool.not_eq_false']; rfl) (fit_of (by simp only [go_sem, Bool.not_eq_true', Bool.not_eq_false']) (by simp only [go_sem, Bool.not_eq_true', Bool.not_eq_false']) (by simp only [go_sem, Bool.not_eq_true', Bool.not_eq_false']) (by simp only [go_sem, Bool.not_eq_true', Bool.not_eq_false']) (by simp only [go_sem, Bool.not_eq_true', Bool.not_eq_false']) (by simp only [go_sem, Bool.not_eq_true', Bool.not_eq_false']) (by simp only [go_sem, Bool.not_eq_true', Bool.not_eq_false'])) ?_; simp only [go_sem, Bool.not_eq_true', Bool.not_eq_false'])
  (refine swp_seqW ?_; simp only [go_sem, Bool.not_eq_true', Bool.not_eq_false'])
  repeat' first | contradiction | intro _ | refine And.intro ?_ ?_ | refine ex_get (by omega) ?_ | (show drawB _ _ = true; kernel_rfl) | (refine ret2 [] (by simp only [go_sem, Bool.not_eq_true', Bool.not_eq_false']; rfl) ?_; simp only [go_sem, Bool.not_eq_true', Bool.not_eq_false'])
  rotate_left
  · (refine swp_seqW ?_; simp only [go_sem, Bool.not_eq_true', Bool.not_eq_false'])
    (refine swp_seqW ?_; simp only [go_sem, Bool.not_eq_true', Bool.not_eq_false'])
    (refine swp_seqW ?_; simp only [go_sem, Bool.not_eq_true', Bool.not_eq_false'])
    (refine swp_seqW ?_; simp only [go_sem, Bool.not_eq_true', Bool.not_eq_false', List.length_map])
    (refine acall2 [] (put8_ok l hl hi (l.length + 1) (l.length + 1) (Nat.le_refl _) 0 (docN l).length ⟨0, w⟩ [] ⟨by simp, by simp, by simp only; omega, by simp only; omega⟩ (by omega) hn (Nat.le_refl _)) (by simp only [go_sem, Bool.not_eq_true', Bool.not_eq_false']; rfl) (fit_of (by simp only [go_sem, Bool.not_eq_true', Bool.not_eq_false']) (by simp only [go_sem, Bool.not_eq_true', Bool.not_eq_false']) (by simp only [go_sem, Bool.not_eq_true', Bool.not_eq_false']) (by simp only [go_sem, Bool.not_eq_true', Bool.not_eq_false']) (by simp only [go_sem, Bool.not_eq_true', Bool.not_eq_false']) (by simp only [go_sem, Bool.not_eq_true', Bool.not_eq_false']) (by simp only [go_sem, Bool.not_eq_true', Bool.not_eq_false'])) ?_; simp only [go_sem, Bool.not_eq_true', Bool.not_eq_false'])
    have er : romN l w = putS l (l.length + 1) 0 (docN l).length ⟨0, w⟩ := by unfold romN; rw [if_pos ⟨by omega, by omega⟩]
    rw [er]
    (refine swp_lastW ?_; simp only [go_sem, Bool.not_eq_true', Bool.not_eq_false'])
    (refine ret2 [] (by simp only [go_sem, Bool.not_eq_true', Bool.not_eq_false']; rfl) ?_; simp only [go_sem, Bool.not_eq_true', Bool.not_eq_false'])
  all_goals
    have er : romN l w = [] := by unfold romN; rw [if_neg (by omega)]
    rw [er]
    rfl
end Go.Proofs.Ytblmebjhhanoaaa
/- CHAPTER 08: nodes of a document lie within one another. -/
/- G -/
set_option linter.unusedSimpArgs false
set_option linter.unusedVariables false
namespace Go.Proofs.Ytblmebjhhanoaaa
open Go.RowKit

theorem nst_fuel (l : List LNo) : ∀ (g f k : Nat) (e : Int), nst l f k e → e - k < g → nst l g k e
  | 0, f, k, e, h, q => absurd (nst_le l h) (by omega)
  | g + 1, 0, k, e, h, q => absurd h (by simp [nst])
  | g + 1, f + 1, k, e, h, q => by
    obtain ⟨h1, h2⟩ := h
    refine ⟨h1, fun h => ?_⟩
    obtain ⟨u1, u2, u3, u4⟩ := h2 h
    exact ⟨u1, u2, nst_fuel l g f _ _ u3 (by omega), nst_fuel l g f _ _ u4 (by omega)⟩
def chn (l : List LNo) : Nat → List Int → Prop
  | _, [] => True
  | k, e :: s => (∃ f, nst l f k e) ∧ chn l e.toNat s
theorem topI_rev (a : Int) (t : List Int) : topI (a :: t).reverse = a := by
  unfold topI
  simp [List.getD_eq_getElem?_getD]
theorem take_rev (a : Int) (t : List Int) : (a :: t).reverse.take ((a :: t).reverse.length - 1) = t.reverse := by
  simp
def popR (i : Int) : List Int → List Int
  | a :: b :: t => if a = i then popR i (b :: t) else a :: b :: t
  | s => s
theorem popS_rev (i : Int) : ∀ (f : Nat) (R : List Int), R.length ≤ f → popS i f R.reverse = (popR i R).reverse
  | 0, R, h => by
    obtain rfl : R = [] := List.eq_nil_of_length_eq_zero (by omega)
    rfl
  | f + 1, [], h => by simp [popS, popR]
  | f + 1, [a], h => by simp [popS, popR]
  | f + 1, a :: b :: t, h => by
    rw [popS, topI_rev, take_rev, popR]
    by_cases q : a = i
    · rw [if_pos ⟨by simp, q⟩, if_pos q]
      exact popS_rev i f (b :: t) (by simp only [List.length_cons] at h ⊢; omega)
    · rw [if_neg (fun z => q z.2), if_neg q]
def gdR (k N : Int) : List Int → Prop
  | [] => False
  | [a] => k ≤ a ∧ a = N
  | a :: b :: t => k ≤ a ∧ gdR a N (b :: t)
theorem gdR_le {k N : Int} : ∀ {R : List Int}, gdR k N R → k ≤ N
  | [], h => absurd h (by simp [gdR])
  | [a], h => by obtain ⟨h1, h2⟩ := h; omega
  | a :: b :: t, h => by obtain ⟨h1, h2⟩ := h; have := gdR_le h2; omega
theorem gdR_to {k k2 N a : Int} {t : List Int} (h : gdR k N (a :: t)) (q : k2 ≤ a) : gdR k2 N (a :: t) := by
  cases t with
  | nil => exact ⟨q, h.2⟩
  | cons b t => exact ⟨q, h.2⟩
theorem popR_gd {k N : Int} (hk : k < N) : ∀ (R : List Int), gdR k N R → gdR (k + 1) N (popR k R)
  | [], h => absurd h (by simp [gdR])
  | [a], h => by obtain ⟨h1, h2⟩ := h; exact ⟨by omega, h2⟩
  | a :: b :: t, h => by
    rw [popR]
    split
    · next q => subst q; exact popR_gd hk (b :: t) h.2
    · next q => exact ⟨by have := h.1; omega, h.2⟩
theorem nst_same (l : List LNo) (k : Nat) : nst l 1 k k := ⟨Int.le_refl _, fun h => absurd h (by omega)⟩
theorem popR_chn (l : List LNo) (k : Nat) : ∀ (R : List Int), chn l k (popR k R) → chn l k R
  | [], h => h
  | [a], h => h
  | a :: b :: t, h => by
    rw [popR] at h
    split at h
    · next q => subst q; exact ⟨⟨1, nst_same l k⟩, popR_chn l k (b :: t) h⟩
    · exact h
theorem chn_end (l : List LNo) (k : Nat) : ∀ (R : List Int), gdR k k R → chn l k R
  | [], h => trivial
  | [a], h => by obtain ⟨h1, h2⟩ := h; subst h2; exact ⟨⟨1, nst_same l k⟩, trivial⟩
  | a :: b :: t, h => by
    obtain ⟨h1, h2⟩ := h
    have h3 := gdR_le h2
    obtain rfl : a = k := by omega
    exact ⟨⟨1, nst_same l k⟩, chn_end l k (b :: t) h2⟩
theorem isG_chn (l : List LNo) : ∀ (m k : Nat) (R : List Int), m + k = l.length → gdR k l.length R → isG (l.drop k) k R.reverse = true → chn l k R
  | 0, k, R, hm, hg, h => by
    have e : (l.length : Int) = k := by omega
    rw [e] at hg
    exact chn_end l k R hg
  | m + 1, k, R, hm, hg, h => by
    have hk : k < l.length := by omega
    rw [List.drop_eq_getElem_cons hk, isG, popS_rev _ _ _ (by simp)] at h
    simp only [Bool.and_eq_true, Bool.not_eq_true', Bool.and_eq_false_iff, decide_eq_true_eq, decide_eq_false_iff_not] at h
    obtain ⟨⟨⟨⟨u1, u2⟩, u3⟩, u4⟩, u5⟩ := h
    have hg2 := popR_gd (by omega) R hg
    refine popR_chn l k R ?_
    generalize popR (k : Int) R = R2 at u3 u5 hg2 ⊢
    cases R2 with
    | nil => exact absurd hg2 (by simp [gdR])
    | cons e t =>
      rw [topI_rev] at u3
      have hs := sizN_get hk
      obtain ⟨s, hs2⟩ : ∃ s : Nat, l[k].size = s := ⟨l[k].size.toNat, by omega⟩
      rw [hs2] at u2 u3 u5 hs
      have hR : (e :: t).reverse ++ [(k : Int) + (s : Int)] = (((k : Int) + (s : Int)) :: e :: t).reverse := by simp
      rw [hR] at u5
      have hc := isG_chn l m (k + 1) (((k : Int) + (s : Int)) :: e :: t) (by omega) ⟨by omega, gdR_to hg2 (by omega)⟩ u5
      obtain ⟨⟨f1, n1⟩, ⟨f2, n2⟩, hc⟩ := hc
      have ek : ((k : Int) + (s : Int)).toNat = k + s := by omega
      rw [ek] at n2
      refine ⟨⟨f1 + f2 + (e - k).toNat + 1 + s, ?_⟩, hc⟩
      refine nst_fuel l _ ((e - k).toNat + s + 1) k e ⟨by omega, fun _ => ⟨by omega, by omega, ?_, ?_⟩⟩ (by omega)
      · rw [hs]; exact nst_fuel l _ f1 (k + 1) _ n1 (by omega)
      · rw [hs, Int.toNat_natCast]; exact nst_fuel l _ f2 (k + s) e n2 (by omega)
theorem isS_nst {l : List LNo} (h : isS l = true) : nst l (l.length + 1) 0 l.length := by
  have hc := isG_chn l l.length 0 [(l.length : Int)] (by omega) ⟨by omega, rfl⟩ h
  obtain ⟨⟨f, n⟩, -⟩ := hc
  exact nst_fuel l _ f 0 _ n (by omega)
end Go.Proofs.Ytblmebjhhanoaaa
/- CHAPTER 08: tree: Rooms, of any nodes. -/
/- G -/
/- BOOLS -/
set_option linter.unusedSimpArgs false
set_option linter.unusedVariables false
namespace Go.Proofs.Ytblmebjhhanoaaa
open Go.RowKit

theorem nodB_ins {x : LNo} (h : nodB x = true) : 0 ≤ x.st.inset ∧ x.st.inset ≤ 1099511627776 := by
  unfold nodB at h
  have hb : bareB x = true → 0 ≤ x.st.inset ∧ x.st.inset ≤ 1099511627776 := by
    intro q
    simp only [bareB, Bool.and_eq_true, decide_eq_true_eq] at q
    omega
  split at h
  · simp only [Bool.and_eq_true, styB, hasL, Bool.not_eq_true', List.any_cons, Bool.or_eq_false_iff, offN, decide_eq_false_iff_not] at h
    omega
  · split at h
    · simp only [Bool.and_eq_true] at h
      exact hb h.1.1.1.1.1.1.1
    · split at h
      · simp only [Bool.and_eq_true] at h
        exact hb h.1.1.1
      · split at h
        · simp only [Bool.and_eq_true] at h
          exact hb h.1.1.1
        · cases h
theorem isG_nod : ∀ (l : List LNo) (i : Nat) (st : List Int), isG l i st = true → ∀ x ∈ l, nodB x = true
  | [], _, _, _, x, hx => by cases hx
  | y :: l, i, st, h, x, hx => by
    rw [isG] at h
    simp only [Bool.and_eq_true] at h
    rcases List.mem_cons.1 hx with e | e
    · subst e; exact h.1.1.1.1
    · exact isG_nod l (i + 1) _ h.2 x e
theorem isS_ins {l : List LNo} (h : isS l = true) : ∀ x ∈ l, 0 ≤ x.st.inset ∧ x.st.inset ≤ 1099511627776 := fun x hx => nodB_ins (isG_nod l 0 _ h x hx)
set_option maxRecDepth 100000 in
set_option maxHeartbeats 4000000 in
theorem put0_ok (l : List LNo) (w : Int) : FnOk Try.prog 34 [.raw (.int .i64 0), .raw (.int .i64 0), .agg [.raw (.int .i64 0), .raw (.int .i64 w)], .hdr 0, .hdr 1, .hdr 2] [(0, .cells 22 [.sl 20 (l.map cNo)]), (1, .cells 44 [.hdr 3]), (2, .cells 83 [.clo (.func 34) [.hdr 0, .hdr 1, .hdr 2]]), (3, .row 47 2 [])] (.tup []) [(0, .cells 22 [.sl 20 (l.map cNo)]), (1, .cells 44 [.hdr 8]), (2, .cells 83 [.clo (.func 34) [.hdr 0, .hdr 1, .hdr 2]]), (8, .row 47 2 [])] := by
  refine fn_of_swp Try.func34 rfl (by kernel_rfl) (by kernel_rfl) (Nat.le_of_ble_eq_true rfl) Try.results34 ?_
  (refine swp_seqW ?_; simp only [go_sem, Bool.not_eq_true', Bool.not_eq_false'])
  (refine swp_seqW ?_; simp only [go_sem, Bool.not_eq_true', Bool.not_eq_false'])
  refine swp_block ?_
  refine swp_loop2 [] (fun _ : Unit => ⟨[(1, .raw (.int .i64 0)), (9, .raw (.int .i64 0))], [(0, some (.cells 22 [.sl 20 (l.map cNo)])), (1, some (.cells 44 [.hdr 16])), (2, some (.cells 83 [.clo (.func 34) [.hdr 0, .hdr 1, .hdr 2]])), (16, some (.row 47 2 []))], none⟩) (fun _ => True) (fun _ => 0) 4 () (by simp only [go_sem, Bool.not_eq_true', Bool.not_eq_false']; rfl) (by simp only [go_sem, Bool.not_eq_true', Bool.not_eq_false']) ?_ ?_
  · trivial
  · rintro - -
    (refine swp_seqW ?_; simp only [go_sem, Bool.not_eq_true', Bool.not_eq_false', Int.reduceToNat, Int.reduceLT, Int.reduceLE, Int.reduceEq, Int.reduceAdd, Int.reduceSub, Int.reduceMul, Int.reduceNeg, Int.reduceNe, decide_false, Int.cast_ofNat_Int, kSet, List.getElem?_cons_succ, List.getElem?_cons_zero, List.set_cons_succ, List.set_cons_zero, exists_eq_left', forall_const, true_implies])
    (refine ret2 [] (by simp only [go_sem, Bool.not_eq_true', Bool.not_eq_false']; rfl) ?_; simp only [go_sem, Bool.not_eq_true', Bool.not_eq_false'])
set_option maxRecDepth 100000 in
set_option maxHeartbeats 4000000 in
theorem rooms9_ok (l : List LNo) (w : Int) (hl : l.length ≤ 1000) (hw : ∀ x ∈ l, x.words.length ≤ 9223372036854775807) : FnOk Try.prog 12 [.sl 20 (l.map cNo), .raw (.int .i64 w)] [] (.hdr 8) [(8, .row 47 2 ((romN l w).map cRm))] := by
  by_cases h : isS l = true
  · have e : docN l = l := by simp [docN, h]
    exact rooms8_ok l w hl hw (isS_ins h) (by rw [e]; exact isS_nst h)
  have e : docN l = [] := by simp [docN, h]
  have e2 : romN l w = [] := by
    unfold romN
    rw [e]
    split
    · rw [putS, if_neg (by simp)]
    · rfl
  rw [e2]
  refine fn_of_swp Try.func12 rfl (by kernel_rfl) (by kernel_rfl) (Nat.le_of_ble_eq_true rfl) Try.results12 ?_
  (refine swp_seqW ?_; simp only [go_sem, Bool.not_eq_true', Bool.not_eq_false'])
  (refine swp_seqW ?_; simp only [go_sem, Bool.not_eq_true', Bool.not_eq_false'])
  (refine acall2 [] (of8_ok l hl hw) (by simp only [go_sem, Bool.not_eq_true', Bool.not_eq_false']; rfl) (fit_of (by simp only [go_sem, Bool.not_eq_true', Bool.not_eq_false']) (by simp only [go_sem, Bool.not_eq_true', Bool.not_eq_false']) (by simp only [go_sem, Bool.not_eq_true', Bool.not_eq_false']) (by simp only [go_sem, Bool.not_eq_true', Bool.not_eq_false']) (by simp only [go_sem, Bool.not_eq_true', Bool.not_eq_false']) (by simp only [go_sem, Bool.not_eq_true', Bool.not_eq_false']) (by simp only [go_sem, Bool.not_eq_true', Bool.not_eq_false'])) ?_; simp only [go_sem, Bool.not_eq_true', Bool.not_eq_false'])
  rw [e]
  (refine swp_seqW ?_; simp only [go_sem, Bool.not_eq_true', Bool.not_eq_false'])
  repeat' first | contradiction | intro _ | refine And.intro ?_ ?_ | refine ex_get (by omega) ?_ | (show drawB _ _ = true; kernel_rfl) | (refine ret2 [] (by simp only [go_sem, Bool.not_eq_true', Bool.not_eq_false']; rfl) ?_; simp only [go_sem, Bool.not_eq_true', Bool.not_eq_false'])
  rotate_left
  · (refine swp_seqW ?_; simp only [go_sem, Bool.not_eq_true', Bool.not_eq_false'])
    (refine swp_seqW ?_; simp only [go_sem, Bool.not_eq_true', Bool.not_eq_false'])
    (refine swp_seqW ?_; simp only [go_sem, Bool.not_eq_true', Bool.not_eq_false'])
    (refine swp_seqW ?_; simp only [go_sem, Bool.not_eq_true', Bool.not_eq_false', List.length_map, List.map, List.length_nil])
    (refine acall2 [] (put0_ok l w) (by simp only [go_sem, Bool.not_eq_true', Bool.not_eq_false']; rfl) (fit_of (by simp only [go_sem, Bool.not_eq_true', Bool.not_eq_false']) (by simp only [go_sem, Bool.not_eq_true', Bool.not_eq_false']) (by simp only [go_sem, Bool.not_eq_true', Bool.not_eq_false']) (by simp only [go_sem, Bool.not_eq_true', Bool.not_eq_false']) (by simp only [go_sem, Bool.not_eq_true', Bool.not_eq_false']) (by simp only [go_sem, Bool.not_eq_true', Bool.not_eq_false']) (by simp only [go_sem, Bool.not_eq_true', Bool.not_eq_false'])) ?_; simp only [go_sem, Bool.not_eq_true', Bool.not_eq_false'])
    (refine swp_lastW ?_; simp only [go_sem, Bool.not_eq_true', Bool.not_eq_false'])
    (refine ret2 [] (by simp only [go_sem, Bool.not_eq_true', Bool.not_eq_false']; rfl) ?_; simp only [go_sem, Bool.not_eq_true', Bool.not_eq_false'])
  all_goals rfl
end Go.Proofs.Ytblmebjhhanoaaa
/- CHAPTER 05: nodes in memory of their own; are nodes the same? -/
/- G -/
/- BOOLS -/
set_option linter.unusedSimpArgs false
set_option linter.unusedVariables false
namespace Go.Proofs.Ytblmebjhhanoaaa
open Go.RowKit

end Go.Proofs.Ytblmebjhhanoaaa
/- CHAPTER 06: the document's answer: which nodes are a document's. -/
/- G -/
/- BOOLS -/
set_option linter.unusedSimpArgs false
set_option linter.unusedVariables false
namespace Go.Proofs.Ytblmebjhhanoaaa
open Go.RowKit

def frB (n a b : Int) : Bool := decide (a ≤ n) && decide (n ≤ b)
set_option maxRecDepth 100000 in
theorem from6_ok (n a b : Int) : FnOk Try.prog 64 [.raw (.int .i64 n), .raw (.int .i64 a), .raw (.int .i64 b)] [] (.raw (.bool (frB n a b))) [] := by
  refine fn_of_awp Try.func64 rfl (by kernel_rfl) (by kernel_rfl) (Nat.le_of_ble_eq_true rfl) Try.results64 ?_
  simp only [go_sem, Bool.not_eq_true', Bool.not_eq_false']
  repeat' first | contradiction | intro _ | refine And.intro ?_ ?_ | refine ex_get (by omega) ?_ | (show drawB _ _ = true; kernel_rfl) | (refine ret2 [] (by simp only [go_sem, Bool.not_eq_true', Bool.not_eq_false']; rfl) ?_; simp only [go_sem, Bool.not_eq_true', Bool.not_eq_false'])
  all_goals (simp [frB] <;> omega)
theorem offN_fr (n a b : Int) : offN a b n = !frB n a b := by
  simp only [offN, frB]
  by_cases h1 : n < a
  · have : ¬ a ≤ n := by omega
    simp [h1, this]
  · have : a ≤ n := by omega
    by_cases h2 : b < n
    · have : ¬ n ≤ b := by omega
      simp [*]
    · have : n ≤ b := by omega
      simp [*]
theorem styB_fr (s : LSty) : styB s = (frB s.top 0 1099511627776 && frB s.bottom 0 1099511627776 && frB s.padTop 0 1099511627776 && frB s.padBottom 0 1099511627776 && frB s.inset 0 1099511627776 && frB s.orphans 1 1099511627776 && frB s.widows 1 1099511627776 && frB s.head 0 1099511627776 && frB s.before 0 4 && frB s.after 0 4 && frB s.inside 0 1 && frB s.clear 0 3) := by
  simp only [styB, hasL, List.any_cons, List.any_nil, offN_fr, Bool.not_or, Bool.not_not, Bool.or_false]
  ac_rfl
set_option maxRecDepth 100000 in
set_option maxHeartbeats 4000000 in
theorem block6_ok (s : LSty) : FnOk Try.prog 63 [aSty s] [] (.raw (.bool (styB s))) [] := by
  rw [styB_fr]
  refine fn_of_awp Try.func63 rfl (by kernel_rfl) (by kernel_rfl) (Nat.le_of_ble_eq_true rfl) Try.results63 ?_
  simp only [go_sem, Bool.not_eq_true', Bool.not_eq_false']
  (refine acall2 [] (from6_ok s.top 0 1099511627776) (by simp only [go_sem, Bool.not_eq_true', Bool.not_eq_false']; rfl) (fit_of (by simp only [go_sem, Bool.not_eq_true', Bool.not_eq_false']) (by simp only [go_sem, Bool.not_eq_true', Bool.not_eq_false']) (by simp only [go_sem, Bool.not_eq_true', Bool.not_eq_false']) (by simp only [go_sem, Bool.not_eq_true', Bool.not_eq_false']) (by simp only [go_sem, Bool.not_eq_true', Bool.not_eq_false']) (by simp only [go_sem, Bool.not_eq_true', Bool.not_eq_false']) (by simp only [go_sem, Bool.not_eq_true', Bool.not_eq_false'])) ?_; simp only [go_sem, Bool.not_eq_true', Bool.not_eq_false'])
  refine ⟨fun h1 => ?_, fun h1 => by simp [h1]⟩
  (refine acall2 [] (from6_ok s.bottom 0 1099511627776) (by simp only [go_sem, Bool.not_eq_true', Bool.not_eq_false']; rfl) (fit_of (by simp only [go_sem, Bool.not_eq_true', Bool.not_eq_false']) (by simp only [go_sem, Bool.not_eq_true', Bool.not_eq_false']) (by simp only [go_sem, Bool.not_eq_true', Bool.not_eq_false']) (by simp only [go_sem, Bool.not_eq_true', Bool.not_eq_false']) (by simp only [go_sem, Bool.not_eq_true', Bool.not_eq_false']) (by simp only [go_sem, Bool.not_eq_true', Bool.not_eq_false']) (by simp only [go_sem, Bool.not_eq_true', Bool.not_eq_false'])) ?_; simp only [go_sem, Bool.not_eq_true', Bool.not_eq_false'])
  refine ⟨fun h2 => ?_, fun h2 => by simp [h2]⟩
  (refine acall2 [] (from6_ok s.padTop 0 1099511627776) (by simp only [go_sem, Bool.not_eq_true', Bool.not_eq_false']; rfl) (fit_of (by simp only [go_sem, Bool.not_eq_true', Bool.not_eq_false']) (by simp only [go_sem, Bool.not_eq_true', Bool.not_eq_false']) (by simp only [go_sem, Bool.not_eq_true', Bool.not_eq_false']) (by simp only [go_sem, Bool.not_eq_true', Bool.not_eq_false']) (by simp only [go_sem, Bool.not_eq_true', Bool.not_eq_false']) (by simp only [go_sem, Bool.not_eq_true', Bool.not_eq_false']) (by simp only [go_sem, Bool.not_eq_true', Bool.not_eq_false'])) ?_; simp only [go_sem, Bool.not_eq_true', Bool.not_eq_false'])
  refine ⟨fun h3 => ?_, fun h3 => by simp [h3]⟩
  (refine acall2 [] (from6_ok s.padBottom 0 1099511627776) (by simp only [go_sem, Bool.not_eq_true', Bool.not_eq_false']; rfl) (fit_of (by simp only [go_sem, Bool.not_eq_true', Bool.not_eq_false']) (by simp only [go_sem, Bool.not_eq_true', Bool.not_eq_false']) (by simp only [go_sem, Bool.not_eq_true', Bool.not_eq_false']) (by simp only [go_sem, Bool.not_eq_true', Bool.not_eq_false']) (by simp only [go_sem, Bool.not_eq_true', Bool.not_eq_false']) (by simp only [go_sem, Bool.not_eq_true', Bool.not_eq_false']) (by simp only [go_sem, Bool.not_eq_true', Bool.not_eq_false'])) ?_; simp only [go_sem, Bool.not_eq_true', Bool.not_eq_false'])
  refine ⟨fun h4 => ?_, fun h4 => by simp [h4]⟩
  (refine acall2 [] (from6_ok s.inset 0 1099511627776) (by simp only [go_sem, Bool.not_eq_true', Bool.not_eq_false']; rfl) (fit_of (by simp only [go_sem, Bool.not_eq_true', Bool.not_eq_false']) (by simp only [go_sem, Bool.not_eq_true', Bool.not_eq_false']) (by simp only [go_sem, Bool.not_eq_true', Bool.not_eq_false']) (by simp only [go_sem, Bool.not_eq_true', Bool.not_eq_false']) (by simp only [go_sem, Bool.not_eq_true', Bool.not_eq_false']) (by simp only [go_sem, Bool.not_eq_true', Bool.not_eq_false']) (by simp only [go_sem, Bool.not_eq_true', Bool.not_eq_false'])) ?_; simp only [go_sem, Bool.not_eq_true', Bool.not_eq_false'])
  refine ⟨fun h5 => ?_, fun h5 => by simp [h5]⟩
  (refine acall2 [] (from6_ok s.orphans 1 1099511627776) (by simp only [go_sem, Bool.not_eq_true', Bool.not_eq_false']; rfl) (fit_of (by simp only [go_sem, Bool.not_eq_true', Bool.not_eq_false']) (by simp only [go_sem, Bool.not_eq_true', Bool.not_eq_false']) (by simp only [go_sem, Bool.not_eq_true', Bool.not_eq_false']) (by simp only [go_sem, Bool.not_eq_true', Bool.not_eq_false']) (by simp only [go_sem, Bool.not_eq_true', Bool.not_eq_false']) (by simp only [go_sem, Bool.not_eq_true', Bool.not_eq_false']) (by simp only [go_sem, Bool.not_eq_true', Bool.not_eq_false'])) ?_; simp only [go_sem, Bool.not_eq_true', Bool.not_eq_false'])
  refine ⟨fun h6 => ?_, fun h6 => by simp [h6]⟩
  (refine acall2 [] (from6_ok s.widows 1 1099511627776) (by simp only [go_sem, Bool.not_eq_true', Bool.not_eq_false']; rfl) (fit_of (by simp only [go_sem, Bool.not_eq_true', Bool.not_eq_false']) (by simp only [go_sem, Bool.not_eq_true', Bool.not_eq_false']) (by simp only [go_sem, Bool.not_eq_true', Bool.not_eq_false']) (by simp only [go_sem, Bool.not_eq_true', Bool.not_eq_false']) (by simp only [go_sem, Bool.not_eq_true', Bool.not_eq_false']) (by simp only [go_sem, Bool.not_eq_true', Bool.not_eq_false']) (by simp only [go_sem, Bool.not_eq_true', Bool.not_eq_false'])) ?_; simp only [go_sem, Bool.not_eq_true', Bool.not_eq_false'])
  refine ⟨fun h7 => ?_, fun h7 => by simp [h7]⟩
  (refine acall2 [] (from6_ok s.head 0 1099511627776) (by simp only [go_sem, Bool.not_eq_true', Bool.not_eq_false']; rfl) (fit_of (by simp only [go_sem, Bool.not_eq_true', Bool.not_eq_false']) (by simp only [go_sem, Bool.not_eq_true', Bool.not_eq_false']) (by simp only [go_sem, Bool.not_eq_true', Bool.not_eq_false']) (by simp only [go_sem, Bool.not_eq_true', Bool.not_eq_false']) (by simp only [go_sem, Bool.not_eq_true', Bool.not_eq_false']) (by simp only [go_sem, Bool.not_eq_true', Bool.not_eq_false']) (by simp only [go_sem, Bool.not_eq_true', Bool.not_eq_false'])) ?_; simp only [go_sem, Bool.not_eq_true', Bool.not_eq_false'])
  refine ⟨fun h8 => ?_, fun h8 => by simp [h8]⟩
  (refine acall2 [] (from6_ok s.before 0 4) (by simp only [go_sem, Bool.not_eq_true', Bool.not_eq_false']; rfl) (fit_of (by simp only [go_sem, Bool.not_eq_true', Bool.not_eq_false']) (by simp only [go_sem, Bool.not_eq_true', Bool.not_eq_false']) (by simp only [go_sem, Bool.not_eq_true', Bool.not_eq_false']) (by simp only [go_sem, Bool.not_eq_true', Bool.not_eq_false']) (by simp only [go_sem, Bool.not_eq_true', Bool.not_eq_false']) (by simp only [go_sem, Bool.not_eq_true', Bool.not_eq_false']) (by simp only [go_sem, Bool.not_eq_true', Bool.not_eq_false'])) ?_; simp only [go_sem, Bool.not_eq_true', Bool.not_eq_false'])
  refine ⟨fun h9 => ?_, fun h9 => by simp [h9]⟩
  (refine acall2 [] (from6_ok s.after 0 4) (by simp only [go_sem, Bool.not_eq_true', Bool.not_eq_false']; rfl) (fit_of (by simp only [go_sem, Bool.not_eq_true', Bool.not_eq_false']) (by simp only [go_sem, Bool.not_eq_true', Bool.not_eq_false']) (by simp only [go_sem, Bool.not_eq_true', Bool.not_eq_false']) (by simp only [go_sem, Bool.not_eq_true', Bool.not_eq_false']) (by simp only [go_sem, Bool.not_eq_true', Bool.not_eq_false']) (by simp only [go_sem, Bool.not_eq_true', Bool.not_eq_false']) (by simp only [go_sem, Bool.not_eq_true', Bool.not_eq_false'])) ?_; simp only [go_sem, Bool.not_eq_true', Bool.not_eq_false'])
  refine ⟨fun h10 => ?_, fun h10 => by simp [h10]⟩
  (refine acall2 [] (from6_ok s.inside 0 1) (by simp only [go_sem, Bool.not_eq_true', Bool.not_eq_false']; rfl) (fit_of (by simp only [go_sem, Bool.not_eq_true', Bool.not_eq_false']) (by simp only [go_sem, Bool.not_eq_true', Bool.not_eq_false']) (by simp only [go_sem, Bool.not_eq_true', Bool.not_eq_false']) (by simp only [go_sem, Bool.not_eq_true', Bool.not_eq_false']) (by simp only [go_sem, Bool.not_eq_true', Bool.not_eq_false']) (by simp only [go_sem, Bool.not_eq_true', Bool.not_eq_false']) (by simp only [go_sem, Bool.not_eq_true', Bool.not_eq_false'])) ?_; simp only [go_sem, Bool.not_eq_true', Bool.not_eq_false'])
  refine ⟨fun h11 => ?_, fun h11 => by simp [h11]⟩
  (refine acall2 [] (from6_ok s.clear 0 3) (by simp only [go_sem, Bool.not_eq_true', Bool.not_eq_false']; rfl) (fit_of (by simp only [go_sem, Bool.not_eq_true', Bool.not_eq_false']) (by simp only [go_sem, Bool.not_eq_true', Bool.not_eq_false']) (by simp only [go_sem, Bool.not_eq_true', Bool.not_eq_false']) (by simp only [go_sem, Bool.not_eq_true', Bool.not_eq_false']) (by simp only [go_sem, Bool.not_eq_true', Bool.not_eq_false']) (by simp only [go_sem, Bool.not_eq_true', Bool.not_eq_false']) (by simp only [go_sem, Bool.not_eq_true', Bool.not_eq_false'])) ?_; simp only [go_sem, Bool.not_eq_true', Bool.not_eq_false'])
  simp [*]
theorem hasL_words {l : List Int} {a b : Int} (h : ∀ j (hj : j < l.length), offN a b l[j] = false) : hasL a b l = true := by
  unfold hasL
  rw [Bool.not_eq_true', List.any_eq_false]
  intro x hx
  obtain ⟨j, hj, rfl⟩ := List.getElem_of_mem hx
  rw [h j hj]; decide
theorem hasL_not {l : List Int} {a b : Int} {k : Nat} (hk : k < l.length) (h : frB l[k] a b = false) : hasL a b l = false := by
  unfold hasL
  rw [Bool.not_eq_false', List.any_eq_true]
  exact ⟨l[k], List.getElem_mem hk, by rw [offN_fr, h]; rfl⟩
theorem hasL_1 (n a b : Int) : hasL a b [n] = frB n a b := by simp [hasL, offN_fr]
theorem hasL_2 (n m a b : Int) : hasL a b [n, m] = (frB n a b && frB m a b) := by simp [hasL, offN_fr]
set_option maxRecDepth 100000 in
set_option maxHeartbeats 4000000 in
theorem one6_ok (x : LNo) (hw : x.words.length ≤ 9223372036854775807) : FnOk Try.prog 40 [aNo x] [] (.raw (.bool (nodB x))) [] := by
  refine fn_of_swp Try.func40 rfl (by kernel_rfl) (by kernel_rfl) (Nat.le_of_ble_eq_true rfl) Try.results40 ?_
  (refine swp_seqW ?_; simp only [go_sem, Bool.not_eq_true', Bool.not_eq_false'])
  (refine swp_seqW ?_; simp only [go_sem, Bool.not_eq_true', Bool.not_eq_false'])
  refine swp_seqS ?_
  (refine swp_seqW ?_; simp only [go_sem, Bool.not_eq_true', Bool.not_eq_false'])
  (refine swp_condW ?_; simp only [go_sem, Bool.not_eq_true', Bool.not_eq_false'])
  refine ⟨fun k1 => ?_, fun k1 => ?_⟩
  · have e : nodB x = (txtB x && decide (x.w = 0) && decide (x.h = 0) && decide (x.side = 0) && styB x.st) := by unfold nodB; rw [if_pos k1]
    rw [e]
    (refine swp_lastW ?_; simp only [go_sem, Bool.not_eq_true', Bool.not_eq_false'])
    (refine acall2 [] (block6_ok x.st) (by simp only [go_sem, Bool.not_eq_true', Bool.not_eq_false']; rfl) (fit_of (by simp only [go_sem, Bool.not_eq_true', Bool.not_eq_false']) (by simp only [go_sem, Bool.not_eq_true', Bool.not_eq_false']) (by simp only [go_sem, Bool.not_eq_true', Bool.not_eq_false']) (by simp only [go_sem, Bool.not_eq_true', Bool.not_eq_false']) (by simp only [go_sem, Bool.not_eq_true', Bool.not_eq_false']) (by simp only [go_sem, Bool.not_eq_true', Bool.not_eq_false']) (by simp only [go_sem, Bool.not_eq_true', Bool.not_eq_false'])) ?_; simp only [go_sem, Bool.not_eq_true', Bool.not_eq_false'])
    refine ⟨fun h1 => ?_, fun h1 => by simp [*]⟩
    repeat' first | contradiction | intro _ | refine And.intro ?_ ?_ | refine ex_get (by omega) ?_ | (show drawB _ _ = true; kernel_rfl) | (refine ret2 [] (by simp only [go_sem, Bool.not_eq_true', Bool.not_eq_false']; rfl) ?_; simp only [go_sem, Bool.not_eq_true', Bool.not_eq_false'])
    all_goals first
      | (simp [txtB, *]; done)
      | (simp [txtB, *]; intro _; exact List.eq_nil_of_length_eq_zero (by omega))
      | (simp [txtB, *]; intro q; simp [q] at *)
  (refine swp_lastW ?_; simp only [go_sem, Bool.not_eq_true', Bool.not_eq_false'])
  refine swp_seqS ?_
  (refine swp_seqW ?_; simp only [go_sem, Bool.not_eq_true', Bool.not_eq_false'])
  (refine swp_condW ?_; simp only [go_sem, Bool.not_eq_true', Bool.not_eq_false'])
  refine ⟨fun k2 => ?_, fun k2 => ?_⟩
  · have e : nodB x = false := by
      unfold nodB
      rw [if_neg k1]
      have : bareB x = false := by simp [bareB]; simp_all
      simp [this]
    rw [e]
    (refine swp_lastW ?_; simp only [go_sem, Bool.not_eq_true', Bool.not_eq_false'])
  (refine swp_lastW ?_; simp only [go_sem, Bool.not_eq_true', Bool.not_eq_false'])
  have hb : bareB x = true := by simp [bareB]; simp_all
  clear k2
  refine swp_seqS ?_
  (refine swp_seqW ?_; simp only [go_sem, Bool.not_eq_true', Bool.not_eq_false'])
  (refine swp_condW ?_; simp only [go_sem, Bool.not_eq_true', Bool.not_eq_false'])
  refine ⟨fun k2 => ?_, fun k2 => ?_⟩
  · have e : nodB x = (bareB x && decide (x.w = 0) && decide (x.h = 0) && decide (x.side = 0) && hasL 1 1099511627776 [x.line] && hasL 1 1099511627776 x.words && hasL 0 1099511627776 [x.space] && decide (0 < x.words.length)) := by unfold nodB; rw [if_neg k1, if_pos k2]
    rw [e]
    refine swp_cutS (fun _ : Unit => ⟨[(1, .hdr 8), (3, .raw (.int .i64 1099511627776))], [(8, some (.cells 37 (lNo x)))], none⟩) (fun _ => hasL 1 1099511627776 x.words = true) 3 ?_ ?_
    · (refine swp_seqW ?_; simp only [go_sem, Bool.not_eq_true', Bool.not_eq_false'])
      refine swp_block ?_
      refine swp_loop2 [] (fun k : Nat => ⟨[(1, .hdr 8), (3, .raw (.int .i64 1099511627776)), (4, .raw (.int .i64 k))], [(8, some (.cells 37 (lNo x)))], none⟩) (fun k => k ≤ x.words.length ∧ ∀ j (hj : j < x.words.length), j < k → offN 1 1099511627776 x.words[j] = false) (fun k => x.words.length - k) 4 0 (by simp only [go_sem, Bool.not_eq_true', Bool.not_eq_false']; rfl) (by simp only [go_sem, Bool.not_eq_true', Bool.not_eq_false']) ?_ ?_
      · exact ⟨Nat.zero_le _, fun j _ h => absurd h (Nat.not_lt_zero j)⟩
      · rintro k ⟨hk, ha⟩
        (refine swp_lastW ?_; simp only [go_sem, Bool.not_eq_true', Bool.not_eq_false', List.length_map])
        refine ⟨fun h5 => ?_, fun h5 => ?_⟩
        · have hkl : k < x.words.length := by omega
          refine ⟨by omega, ex_get hkl ?_⟩
          (refine acall2 [] (from6_ok x.words[k] 1 1099511627776) (by simp only [go_sem, Bool.not_eq_true', Bool.not_eq_false']; rfl) (fit_of (by simp only [go_sem, Bool.not_eq_true', Bool.not_eq_false']) (by simp only [go_sem, Bool.not_eq_true', Bool.not_eq_false']) (by simp only [go_sem, Bool.not_eq_true', Bool.not_eq_false']) (by simp only [go_sem, Bool.not_eq_true', Bool.not_eq_false']) (by simp only [go_sem, Bool.not_eq_true', Bool.not_eq_false']) (by simp only [go_sem, Bool.not_eq_true', Bool.not_eq_false']) (by simp only [go_sem, Bool.not_eq_true', Bool.not_eq_false'])) ?_; simp only [go_sem, Bool.not_eq_true', Bool.not_eq_false'])
          refine ⟨fun h6 => ?_, fun h6 => ⟨by omega, ?_⟩⟩
          · simp [hasL_not hkl h6]
          · (refine loop_end [] (k + 1) (by simp only [go_sem, Bool.not_eq_true', Bool.not_eq_false']; rfl) ?_ ?_ ?_; (focus first | omega | (simp only; omega)); (focus (simp only [go_sem, Bool.not_eq_true', Bool.not_eq_false']; done)))
            refine ⟨by omega, fun j hj h7 => ?_⟩
            rcases Nat.lt_succ_iff_lt_or_eq.1 h7 with h8 | h8
            · exact ha j hj h8
            · subst h8; rw [offN_fr, h6]; rfl
        · (refine cut_end [] (()) (by simp only [go_sem, Bool.not_eq_true', Bool.not_eq_false']; rfl) ?_ ?_; (focus (simp only [go_sem, Bool.not_eq_true', Bool.not_eq_false']; done)))
          exact hasL_words fun j hj => ha j hj (by omega)
    rintro - hwd
    rw [hasL_1, hasL_1]
    (refine swp_lastW ?_; simp only [go_sem, Bool.not_eq_true', Bool.not_eq_false', List.length_map])
    refine ⟨fun h1 => ?_, fun h1 => by simp [show x.words.length = 0 by omega]⟩
    (refine acall2 [] (from6_ok x.line 1 1099511627776) (by simp only [go_sem, Bool.not_eq_true', Bool.not_eq_false']; rfl) (fit_of (by simp only [go_sem, Bool.not_eq_true', Bool.not_eq_false']) (by simp only [go_sem, Bool.not_eq_true', Bool.not_eq_false']) (by simp only [go_sem, Bool.not_eq_true', Bool.not_eq_false']) (by simp only [go_sem, Bool.not_eq_true', Bool.not_eq_false']) (by simp only [go_sem, Bool.not_eq_true', Bool.not_eq_false']) (by simp only [go_sem, Bool.not_eq_true', Bool.not_eq_false']) (by simp only [go_sem, Bool.not_eq_true', Bool.not_eq_false'])) ?_; simp only [go_sem, Bool.not_eq_true', Bool.not_eq_false'])
    refine ⟨fun h2 => ?_, fun h2 => by simp [h2]⟩
    (refine acall2 [] (from6_ok x.space 0 1099511627776) (by simp only [go_sem, Bool.not_eq_true', Bool.not_eq_false']; rfl) (fit_of (by simp only [go_sem, Bool.not_eq_true', Bool.not_eq_false']) (by simp only [go_sem, Bool.not_eq_true', Bool.not_eq_false']) (by simp only [go_sem, Bool.not_eq_true', Bool.not_eq_false']) (by simp only [go_sem, Bool.not_eq_true', Bool.not_eq_false']) (by simp only [go_sem, Bool.not_eq_true', Bool.not_eq_false']) (by simp only [go_sem, Bool.not_eq_true', Bool.not_eq_false']) (by simp only [go_sem, Bool.not_eq_true', Bool.not_eq_false'])) ?_; simp only [go_sem, Bool.not_eq_true', Bool.not_eq_false'])
    refine ⟨fun h3 => ?_, fun h3 => by simp [h3]⟩
    repeat' first | contradiction | intro _ | refine And.intro ?_ ?_ | refine ex_get (by omega) ?_ | (show drawB _ _ = true; kernel_rfl) | (refine ret2 [] (by simp only [go_sem, Bool.not_eq_true', Bool.not_eq_false']; rfl) ?_; simp only [go_sem, Bool.not_eq_true', Bool.not_eq_false'])
    all_goals first
      | (simp [*]; done)
      | (simp [*]; omega)
  (refine swp_lastW ?_; simp only [go_sem, Bool.not_eq_true', Bool.not_eq_false'])
  by_cases k5 : txtB x = true ∧ frB x.w 1 1099511627776 = true ∧ frB x.h 1 1099511627776 = true
  rotate_left
  · have e : nodB x = false := by
      unfold nodB
      rw [if_neg k1, if_neg k2, hasL_2]
      cases h1 : txtB x <;> cases h2 : frB x.w 1 1099511627776 <;> cases h3 : frB x.h 1 1099511627776 <;> simp_all
    rw [e]
    refine swp_seqS ?_
    (refine swp_seqW ?_; simp only [go_sem, Bool.not_eq_true', Bool.not_eq_false', List.length_map])
    refine ⟨fun z1 => ⟨fun z2 => ⟨fun z3 => ?_, fun z3 => ?_⟩, fun z2 => ?_⟩, fun z1 => ?_⟩
    · (refine acall2 [] (from6_ok x.w 1 1099511627776) (by simp only [go_sem, Bool.not_eq_true', Bool.not_eq_false']; rfl) (fit_of (by simp only [go_sem, Bool.not_eq_true', Bool.not_eq_false']) (by simp only [go_sem, Bool.not_eq_true', Bool.not_eq_false']) (by simp only [go_sem, Bool.not_eq_true', Bool.not_eq_false']) (by simp only [go_sem, Bool.not_eq_true', Bool.not_eq_false']) (by simp only [go_sem, Bool.not_eq_true', Bool.not_eq_false']) (by simp only [go_sem, Bool.not_eq_true', Bool.not_eq_false']) (by simp only [go_sem, Bool.not_eq_true', Bool.not_eq_false'])) ?_; simp only [go_sem, Bool.not_eq_true', Bool.not_eq_false'])
      refine ⟨fun z4 => ?_, fun z4 => ?_⟩
      · (refine acall2 [] (from6_ok x.h 1 1099511627776) (by simp only [go_sem, Bool.not_eq_true', Bool.not_eq_false']; rfl) (fit_of (by simp only [go_sem, Bool.not_eq_true', Bool.not_eq_false']) (by simp only [go_sem, Bool.not_eq_true', Bool.not_eq_false']) (by simp only [go_sem, Bool.not_eq_true', Bool.not_eq_false']) (by simp only [go_sem, Bool.not_eq_true', Bool.not_eq_false']) (by simp only [go_sem, Bool.not_eq_true', Bool.not_eq_false']) (by simp only [go_sem, Bool.not_eq_true', Bool.not_eq_false']) (by simp only [go_sem, Bool.not_eq_true', Bool.not_eq_false'])) ?_; simp only [go_sem, Bool.not_eq_true', Bool.not_eq_false'])
        (refine swp_condW ?_; simp only [go_sem, Bool.not_eq_true', Bool.not_eq_false'])
        refine ⟨fun z5 => ?_, fun z5 => absurd ⟨by simp only [txtB, Bool.and_eq_true, decide_eq_true_eq]; omega, z4, z5⟩ k5⟩
        (refine swp_lastW ?_; simp only [go_sem, Bool.not_eq_true', Bool.not_eq_false'])
      · (refine swp_condW ?_; simp only [go_sem, Bool.not_eq_true', Bool.not_eq_false'])
        (refine swp_lastW ?_; simp only [go_sem, Bool.not_eq_true', Bool.not_eq_false'])
    all_goals
      (refine swp_condW ?_; simp only [go_sem, Bool.not_eq_true', Bool.not_eq_false'])
      (refine swp_lastW ?_; simp only [go_sem, Bool.not_eq_true', Bool.not_eq_false'])
  obtain ⟨k6, k7, k8⟩ := k5
  have e : nodB x = (decide (x.kind = 3) && decide (x.side = 0) || decide (x.kind = 4) && frB x.side 1 2) := by
    unfold nodB
    rw [if_neg k1, if_neg k2, hasL_2, hasL_1]
    by_cases k3 : x.kind = 3
    · simp [*]
    · by_cases k4 : x.kind = 4 <;> simp [*]
  rw [e]
  simp only [txtB, Bool.and_eq_true, decide_eq_true_eq] at k6
  obtain ⟨⟨q1, q2⟩, q3⟩ := k6
  refine swp_seqS ?_
  (refine swp_seqW ?_; simp only [go_sem, Bool.not_eq_true', Bool.not_eq_false', List.length_map])
  refine ⟨fun z1 => ⟨fun z2 => ⟨fun z3 => ?_, fun z3 => absurd (by omega) z3⟩, fun z2 => absurd q2 z2⟩, fun z1 => absurd q1 z1⟩
  (refine acall2 [] (from6_ok x.w 1 1099511627776) (by simp only [go_sem, Bool.not_eq_true', Bool.not_eq_false']; rfl) (fit_of (by simp only [go_sem, Bool.not_eq_true', Bool.not_eq_false']) (by simp only [go_sem, Bool.not_eq_true', Bool.not_eq_false']) (by simp only [go_sem, Bool.not_eq_true', Bool.not_eq_false']) (by simp only [go_sem, Bool.not_eq_true', Bool.not_eq_false']) (by simp only [go_sem, Bool.not_eq_true', Bool.not_eq_false']) (by simp only [go_sem, Bool.not_eq_true', Bool.not_eq_false']) (by simp only [go_sem, Bool.not_eq_true', Bool.not_eq_false'])) ?_; simp only [go_sem, Bool.not_eq_true', Bool.not_eq_false', k7])
  (refine acall2 [] (from6_ok x.h 1 1099511627776) (by simp only [go_sem, Bool.not_eq_true', Bool.not_eq_false']; rfl) (fit_of (by simp only [go_sem, Bool.not_eq_true', Bool.not_eq_false']) (by simp only [go_sem, Bool.not_eq_true', Bool.not_eq_false']) (by simp only [go_sem, Bool.not_eq_true', Bool.not_eq_false']) (by simp only [go_sem, Bool.not_eq_true', Bool.not_eq_false']) (by simp only [go_sem, Bool.not_eq_true', Bool.not_eq_false']) (by simp only [go_sem, Bool.not_eq_true', Bool.not_eq_false']) (by simp only [go_sem, Bool.not_eq_true', Bool.not_eq_false'])) ?_; simp only [go_sem, Bool.not_eq_true', Bool.not_eq_false', k8])
  (refine swp_condW ?_; simp only [go_sem, Bool.not_eq_true', Bool.not_eq_false', k8])
  (refine swp_lastW ?_; simp only [go_sem, Bool.not_eq_true', Bool.not_eq_false'])
  (refine swp_lastW ?_; simp only [go_sem, Bool.not_eq_true', Bool.not_eq_false'])
  refine ⟨fun k3 => ⟨fun z4 => ?_, fun z4 => ?_⟩, fun k3 => ⟨fun k4 => ?_, fun k4 => ?_⟩⟩
  · simp [*]
  · simp [*]
  · (refine acall2 [] (from6_ok x.side 1 2) (by simp only [go_sem, Bool.not_eq_true', Bool.not_eq_false']; rfl) (fit_of (by simp only [go_sem, Bool.not_eq_true', Bool.not_eq_false']) (by simp only [go_sem, Bool.not_eq_true', Bool.not_eq_false']) (by simp only [go_sem, Bool.not_eq_true', Bool.not_eq_false']) (by simp only [go_sem, Bool.not_eq_true', Bool.not_eq_false']) (by simp only [go_sem, Bool.not_eq_true', Bool.not_eq_false']) (by simp only [go_sem, Bool.not_eq_true', Bool.not_eq_false']) (by simp only [go_sem, Bool.not_eq_true', Bool.not_eq_false'])) ?_; simp only [go_sem, Bool.not_eq_true', Bool.not_eq_false'])
    simp [*]
  · simp [*]
end Go.Proofs.Ytblmebjhhanoaaa
/- CHAPTER 06: valid: Count and Check; what they count, in plain words. -/
/- G -/
set_option linter.unusedSimpArgs false
set_option linter.unusedVariables false
namespace Go.Proofs.Ytblmebjhhanoaaa
open Go.RowKit

def ndN (l : List LNo) (k : Nat) : LNo := l[k]?.getD ⟨0, 0, sty0, 0, 0, [], 0, 0, 0⟩
theorem ndN_get {l : List LNo} {k : Nat} (hk : k < l.length) : ndN l k = l[k] := by unfold ndN; rw [List.getElem?_eq_getElem hk]; rfl
theorem ndN_siz (l : List LNo) (k : Nat) : (ndN l k).size = sizN l k := by
  unfold ndN sizN
  cases l[k]? <;> rfl
/-- how high a node is at most, by its own numbers; how many pieces it is. -/
def hgtN (x : LNo) : Int := if x.kind = 1 then x.st.top + x.st.bottom + x.st.padTop + x.st.padBottom + x.st.head else if x.kind = 2 then x.line * x.words.length else x.h
def pcsN (x : LNo) : Int := if x.kind = 1 then 0 else if x.kind = 2 then x.words.length else 1
def hsN (l : List LNo) (k : Nat) : Int := ((l.take k).map hgtN).sum
def psN (l : List LNo) (k : Nat) : Int := ((l.take k).map pcsN).sum
theorem hsN_succ {l : List LNo} {k : Nat} (hk : k < l.length) : hsN l (k + 1) = hsN l k + hgtN (ndN l k) := by
  unfold hsN
  rw [List.take_succ_eq_append_getElem hk, List.map_append, List.sum_append, ndN_get hk]
  simp
theorem psN_succ {l : List LNo} {k : Nat} (hk : k < l.length) : psN l (k + 1) = psN l k + pcsN (ndN l k) := by
  unfold psN
  rw [List.take_succ_eq_append_getElem hk, List.map_append, List.sum_append, ndN_get hk]
  simp
def hall (l : List LNo) : Int := hsN l l.length
def pall (l : List LNo) : Int := psN l l.length
/-- the ends, above i, of the blocks among the first j. -/
def opE (l : List LNo) (i : Int) : Nat → List Int
  | 0 => []
  | j + 1 => opE l i j ++ if (ndN l j).kind = 1 ∧ i < j + (ndN l j).size then [(j : Int) + (ndN l j).size] else []
theorem opE_filter (l : List LNo) (i m : Int) : ∀ j, (opE l i j).filter (fun e => decide (m < e)) = opE l (max i m) j
  | 0 => rfl
  | j + 1 => by
    rw [opE, opE, List.filter_append, opE_filter l i m j]
    congr 1
    by_cases h1 : (ndN l j).kind = 1
    · by_cases h2 : i < j + (ndN l j).size
      · by_cases h3 : m < j + (ndN l j).size
        · rw [if_pos ⟨h1, h2⟩, if_pos ⟨h1, by omega⟩]; simp [h3]
        · rw [if_pos ⟨h1, h2⟩, if_neg (fun q => by have := q.2; omega)]; simp [h3]
      · rw [if_neg (fun q => h2 q.2), if_neg (fun q => by have := q.2; omega)]; rfl
    · rw [if_neg (fun q => h1 q.1), if_neg (fun q => h1 q.1)]; rfl
theorem opE_len (l : List LNo) (i : Int) : ∀ j, (opE l i j).length ≤ j
  | 0 => Nat.le_refl _
  | j + 1 => by
    have := opE_len l i j
    rw [opE, List.length_append]
    split <;> simp <;> omega
/-- how deep blocks lie within blocks, of the first so many. -/
def dpN (l : List LNo) : Nat → Int
  | 0 => 0
  | i + 1 => if (ndN l i).kind = 1 then max (dpN l i) (opE l i (i + 1)).length else dpN l i
theorem dpN_bd (l : List LNo) : ∀ k, 0 ≤ dpN l k ∧ dpN l k ≤ k
  | 0 => ⟨Int.le_refl _, Int.le_refl _⟩
  | k + 1 => by
    have := dpN_bd l k
    have := opE_len l k (k + 1)
    rw [dpN]
    split <;> omega
def chkN (l : List LNo) : Int := if isS l = false then 4 else if 16 < dpN l l.length ∨ 2000 < pall l ∨ 2000 < (l.length : Int) ∨ 1099511627776 < hall l then 2 else 0
def cutM (n : Int) : Int := min n 1099511627777
/-! what a document's node is, by its kind -/
structure Blk6 (x : LNo) : Prop where
  top : 0 ≤ x.st.top ∧ x.st.top ≤ 1099511627776
  bottom : 0 ≤ x.st.bottom ∧ x.st.bottom ≤ 1099511627776
  padTop : 0 ≤ x.st.padTop ∧ x.st.padTop ≤ 1099511627776
  padBottom : 0 ≤ x.st.padBottom ∧ x.st.padBottom ≤ 1099511627776
  inset : 0 ≤ x.st.inset ∧ x.st.inset ≤ 1099511627776
  head : 0 ≤ x.st.head ∧ x.st.head ≤ 1099511627776
  clear : 0 ≤ x.st.clear ∧ x.st.clear ≤ 3
  words : x.words = []
structure Txt6 (x : LNo) : Prop where
  line : 1 ≤ x.line ∧ x.line ≤ 1099511627776
  space : 0 ≤ x.space ∧ x.space ≤ 1099511627776
  words : ∀ w ∈ x.words, 1 ≤ w ∧ w ≤ 1099511627776
  some : 0 < x.words.length
structure Box6 (x : LNo) : Prop where
  w : 1 ≤ x.w ∧ x.w ≤ 1099511627776
  h : 1 ≤ x.h ∧ x.h ≤ 1099511627776
  words : x.words = []
theorem hasL_iff {a b : Int} {l : List Int} : hasL a b l = true ↔ ∀ n ∈ l, a ≤ n ∧ n ≤ b := by
  unfold hasL
  rw [Bool.not_eq_true', List.any_eq_false]
  simp only [offN, Bool.or_eq_true, decide_eq_true_eq]
  exact ⟨fun h n hn => by have := h n hn; omega, fun h n hn => by have := h n hn; omega⟩
theorem txtB_w {x : LNo} (h : txtB x = true) : x.words = [] := by
  simp only [txtB, Bool.and_eq_true, decide_eq_true_eq] at h
  exact List.eq_nil_of_length_eq_zero (by omega)
theorem nodB_kind {x : LNo} (h : nodB x = true) : x.kind = 1 ∨ x.kind = 2 ∨ x.kind = 3 ∨ x.kind = 4 := by
  unfold nodB at h
  split at h
  · exact .inl ‹_›
  · split at h
    · exact .inr (.inl ‹_›)
    · split at h
      · exact .inr (.inr (.inl ‹_›))
      · split at h
        · exact .inr (.inr (.inr ‹_›))
        · cases h
theorem nodB_blk {x : LNo} (h : nodB x = true) (k : x.kind = 1) : Blk6 x := by
  unfold nodB at h
  rw [if_pos k] at h
  simp only [Bool.and_eq_true, styB, hasL_iff] at h
  obtain ⟨⟨⟨⟨h1, -⟩, -⟩, -⟩, ⟨⟨⟨h5, -⟩, -⟩, -⟩, h6⟩ := h
  exact ⟨h5 _ (by simp), h5 _ (by simp), h5 _ (by simp), h5 _ (by simp), h5 _ (by simp), h5 _ (by simp), h6 _ (by simp), txtB_w h1⟩
theorem nodB_txt {x : LNo} (h : nodB x = true) (k : x.kind = 2) : Txt6 x := by
  unfold nodB at h
  rw [if_neg (by omega), if_pos k] at h
  simp only [Bool.and_eq_true, hasL_iff, decide_eq_true_eq] at h
  obtain ⟨⟨⟨⟨-, h1⟩, h2⟩, h3⟩, h4⟩ := h
  exact ⟨h1 _ (by simp), h3 _ (by simp), h2, by omega⟩
theorem nodB_mono {x : LNo} (h : nodB x = true) (k : x.kind = 3) : Box6 x := by
  unfold nodB at h
  rw [if_neg (by omega), if_neg (by omega), if_pos k] at h
  simp only [Bool.and_eq_true, hasL_iff] at h
  obtain ⟨⟨⟨-, h1⟩, -⟩, h2⟩ := h
  exact ⟨h2 _ (by simp), h2 _ (by simp), txtB_w h1⟩
theorem nodB_flt {x : LNo} (h : nodB x = true) (k : x.kind = 4) : Box6 x ∧ 1 ≤ x.side ∧ x.side ≤ 2 := by
  unfold nodB at h
  rw [if_neg (by omega), if_neg (by omega), if_neg (by omega), if_pos k] at h
  simp only [Bool.and_eq_true, hasL_iff] at h
  obtain ⟨⟨⟨-, h1⟩, h2⟩, h3⟩ := h
  exact ⟨⟨h2 _ (by simp), h2 _ (by simp), txtB_w h1⟩, h3 _ (by simp)⟩
theorem nod_at {l : List LNo} (h : isS l = true) {k : Nat} (hk : k < l.length) : nodB (ndN l k) = true := by
  rw [ndN_get hk]
  exact isG_nod l 0 _ h _ (List.getElem_mem hk)
theorem mul_nn {a b : Int} (h1 : 0 ≤ a) (h2 : 0 ≤ b) : 0 ≤ a * b := Int.mul_nonneg h1 h2
theorem hgt_nn {x : LNo} (h : nodB x = true) : 0 ≤ hgtN x := by
  unfold hgtN
  rcases nodB_kind h with k | k | k | k
  · obtain ⟨a, b, c, d, e, f, -⟩ := nodB_blk h k
    rw [if_pos k]; omega
  · obtain ⟨a, -⟩ := nodB_txt h k
    rw [if_neg (by omega), if_pos k]
    exact mul_nn (by omega) (by omega)
  · obtain ⟨-, a, -⟩ := nodB_mono h k
    rw [if_neg (by omega), if_neg (by omega)]; omega
  · obtain ⟨⟨-, a, -⟩, -⟩ := nodB_flt h k
    rw [if_neg (by omega), if_neg (by omega)]; omega
theorem pcs_nn (x : LNo) : 0 ≤ pcsN x := by
  unfold pcsN
  split
  · omega
  · split <;> omega
theorem hs_mono {l : List LNo} (h : isS l = true) : ∀ {j k : Nat}, j ≤ k → k ≤ l.length → hsN l j ≤ hsN l k := by
  intro j k hjk hk
  induction k with
  | zero => obtain rfl : j = 0 := by omega
            exact Int.le_refl _
  | succ k ih =>
    by_cases e : j = k + 1
    · subst e; exact Int.le_refl _
    · have h1 := ih (by omega) (by omega)
      have h2 := hsN_succ (l := l) (k := k) (by omega)
      have h3 := hgt_nn (nod_at h (k := k) (by omega))
      omega
theorem ps_mono {l : List LNo} : ∀ {j k : Nat}, j ≤ k → k ≤ l.length → psN l j ≤ psN l k := by
  intro j k hjk hk
  induction k with
  | zero => obtain rfl : j = 0 := by omega
            exact Int.le_refl _
  | succ k ih =>
    by_cases e : j = k + 1
    · subst e; exact Int.le_refl _
    · have h1 := ih (by omega) (by omega)
      have h2 := psN_succ (l := l) (k := k) (by omega)
      have h3 := pcs_nn (ndN l k)
      omega
theorem hsN_zero (l : List LNo) : hsN l 0 = 0 := rfl
theorem psN_zero (l : List LNo) : psN l 0 = 0 := rfl
end Go.Proofs.Ytblmebjhhanoaaa
/- CHAPTER 15: atoms: what they are asked; which a node holds. -/
/- G -/
/- BOOLS -/
/- GET ex_atA ex_atA' -/
set_option linter.unusedSimpArgs false
set_option linter.unusedVariables false
namespace Go.Proofs.Ytblmebjhhanoaaa
open Go.RowKit

theorem half_eq {z : Int} (h : 0 ≤ z) (h2 : z ≤ 4611686018427387904) : IntKind.wrap .i64 ((IntKind.wrap .u64 z).fdiv (2 ^ min (Int.toNat 1) 64)) = z / 2 := by
  have e1 : IntKind.wrap .u64 z = z := by
    have hb : IntKind.u64.bits = 64 := rfl
    simp [IntKind.wrap, hb, IntKind.signed]
    omega
  rw [e1]
  have e2 : (2 : Int) ^ min (Int.toNat 1) 64 = 2 := by decide
  rw [e2, Int.fdiv_eq_ediv_of_nonneg _ (by omega)]
  exact IntWalk.i64_in _ (by omega)
/-- the first place that is so; n: there is none. -/
def firstF (pr : Nat → Bool) : Nat → Nat → Nat
  | 0, k => k
  | n + 1, k => if pr k then k else firstF pr n (k + 1)
def firstP (pr : Nat → Bool) (n : Nat) : Nat := firstF pr n 0
theorem firstF_eq {pr : Nat → Bool} {r : Nat} : ∀ (n k : Nat), k ≤ r → r ≤ k + n → (∀ j, k ≤ j → j < r → pr j = false) → (r < k + n → pr r = true) → firstF pr n k = r
  | 0, k, h1, h2, _, _ => by show k = r; omega
  | n + 1, k, h1, h2, h3, h4 => by
    show (if pr k then k else firstF pr n (k + 1)) = r
    rcases Nat.eq_or_lt_of_le h1 with h | h
    · subst h; rw [if_pos (h4 (by omega))]
    · rw [if_neg (by rw [h3 k (Nat.le_refl _) h]; decide)]
      exact firstF_eq n (k + 1) h (by omega) (fun j hj => h3 j (by omega)) (fun h5 => h4 (by omega))
theorem firstP_eq {pr : Nat → Bool} {n r : Nat} (h2 : r ≤ n) (h3 : ∀ j, j < r → pr j = false) (h4 : r < n → pr r = true) : firstP pr n = r := firstF_eq n 0 (Nat.zero_le _) (by omega) (fun j _ => h3 j) (fun h => h4 (by omega))
/-- a search under way: ahead of i none is so, from j on all are. -/
structure SrX where
  i : Nat
  j : Nat
def SrInv (pr : Nat → Bool) (n : Nat) (z : SrX) : Prop := z.i ≤ z.j ∧ z.j ≤ n ∧ (∀ k, k < z.i → pr k = false) ∧ (∀ k, z.j ≤ k → k < n → pr k = true)
theorem sr_first (pr : Nat → Bool) (n : Nat) : SrInv pr n ⟨0, n⟩ := ⟨Nat.zero_le _, Nat.le_refl _, (fun k h => absurd h (Nat.not_lt_zero k)), (fun k h1 h2 => absurd h2 (Nat.not_lt.2 h1))⟩
theorem sr_no {pr : Nat → Bool} {n i j h : Nat} (hm : ∀ a b, a ≤ b → b < n → pr a = true → pr b = true) (hi : SrInv pr n ⟨i, j⟩) (h1 : h < j) (e : pr h = false) : SrInv pr n ⟨h + 1, j⟩ := by
  obtain ⟨a, b, c, d⟩ := hi
  simp only at a b c d
  refine ⟨h1, b, fun k hk => ?_, d⟩
  simp only at hk
  cases hp : pr k with
  | false => rfl
  | true => rw [hm k h (by omega) (by omega) hp] at e; cases e
theorem sr_yes {pr : Nat → Bool} {n i j h : Nat} (hm : ∀ a b, a ≤ b → b < n → pr a = true → pr b = true) (hi : SrInv pr n ⟨i, j⟩) (h1 : i ≤ h ∧ h < j) (e : pr h = true) : SrInv pr n ⟨i, h⟩ := by
  obtain ⟨a, b, c, d⟩ := hi
  simp only at a b c d
  exact ⟨h1.1, by simp only; omega, c, fun k hk hn => hm h k hk hn e⟩
theorem sr_last {pr : Nat → Bool} {n i j : Nat} (hi : SrInv pr n ⟨i, j⟩) (h : ¬ (i : Int) < j) : firstP pr n = i := by
  obtain ⟨a, b, c, d⟩ := hi
  simp only at a b c d
  exact firstP_eq (by omega) c (fun hn => d i (by omega) hn)

theorem firstF_spec (pr : Nat → Bool) : ∀ n k, k ≤ firstF pr n k ∧ firstF pr n k ≤ k + n ∧ (∀ j, k ≤ j → j < firstF pr n k → pr j = false) ∧ (firstF pr n k < k + n → pr (firstF pr n k) = true)
  | 0, k => ⟨Nat.le_refl _, Nat.le_refl _, fun j h1 h2 => absurd h2 (Nat.not_lt.2 h1), fun h => absurd h (Nat.lt_irrefl _)⟩
  | n + 1, k => by
    rw [firstF]
    split
    · next h => exact ⟨Nat.le_refl _, by omega, fun j h1 h2 => by omega, fun _ => h⟩
    · next h =>
      obtain ⟨a, b, c, d⟩ := firstF_spec pr n (k + 1)
      refine ⟨by omega, by omega, fun j h1 h2 => ?_, fun q => d (by omega)⟩
      by_cases e : j = k
      · subst e; simpa using h
      · exact c j (by omega) h2
def geA (l : List LAt) (v : Int) (k : Nat) : Bool := decide (v ≤ (atA l k).node)
/-- the place of the first whose node is not below one. -/
def loA (l : List LAt) (v : Int) : Nat := firstP (geA l v) l.length
def MonoA (l : List LAt) : Prop := ∀ i j : Nat, i ≤ j → j < l.length → (atA l i).node ≤ (atA l j).node
theorem geA_mono {l : List LAt} {v : Int} (hm : MonoA l) : ∀ a b, a ≤ b → b < l.length → geA l v a = true → geA l v b = true := fun a b h1 h2 h3 => by
  have := hm a b h1 h2
  simp only [geA, decide_eq_true_eq] at h3 ⊢
  omega
theorem loA_le (l : List LAt) (v : Int) : loA l v ≤ l.length := by
  have := (firstF_spec (geA l v) l.length 0).2.1
  unfold loA firstP
  omega
theorem loA_iff {l : List LAt} {v : Int} (hm : MonoA l) {k : Nat} (hk : k < l.length) : k < loA l v ↔ (atA l k).node < v := by
  obtain ⟨-, h2, h3, h4⟩ := firstF_spec (geA l v) l.length 0
  constructor
  · intro h
    have := h3 k (Nat.zero_le _) h
    simp only [geA, decide_eq_false_iff_not] at this
    omega
  · intro h
    refine Nat.lt_of_not_le fun q => ?_
    have q : firstF (geA l v) l.length 0 ≤ k := q
    have h5 := h4 (by omega)
    have h6 := geA_mono hm _ _ q hk h5
    simp only [geA, decide_eq_true_eq] at h6
    omega
theorem loA_mono {l : List LAt} {v v' : Int} (hm : MonoA l) (h : v ≤ v') : loA l v ≤ loA l v' := by
  refine Nat.le_of_not_lt fun q => ?_
  have h1 := loA_le l v
  have h2 := (loA_iff (v := v) hm (k := loA l v') (by omega)).1 q
  have h3 := mt (loA_iff (v := v') hm (k := loA l v') (by omega)).2 (Nat.lt_irrefl _)
  omega
theorem near_mono {l : List LAt} (h : Near15 l) : MonoA l := by
  intro i j hij hj
  induction j with
  | zero => obtain rfl : i = 0 := by omega
            exact Int.le_refl _
  | succ j ih =>
    by_cases e : i = j + 1
    · subst e; exact Int.le_refl _
    · have h1 := ih (by omega) (by omega)
      have h2 := (h ((j + 1 : Nat) : Int) (by omega) (by omega)).2 (by omega)
      have e2 : ((j + 1 : Nat) : Int) - 1 = j := by omega
      rw [e2] at h2
      omega
def botA (l : List LAt) (k : Int) : Int := if 0 ≤ k ∧ k < l.length then (atA l k).y + (atA l k).h else 0
def gapA (l : List LAt) (k : Int) : Int := if 0 ≤ k ∧ k < l.length then (atA l k).y - botA l (k - 1) else 0
def ofsA (l : List LAt) (i k : Int) : Int := if (0 ≤ i ∧ i < l.length) ∧ 0 ≤ k ∧ k < l.length then (atA l k).y - (atA l i).y else 0
def higA (l : List LAt) (i k : Int) : Int := if (0 ≤ i ∧ i < l.length) ∧ i < k ∧ k ≤ l.length then (atA l (k - 1)).y + (atA l (k - 1)).h - (atA l i).y else 0
structure WiA where
  a : Nat
  b : Nat
def witA (l : List LAt) (u v : Int) : WiA := if loA l u < loA l v then ⟨loA l u, loA l v⟩ else ⟨0, 0⟩
def winA (ns : List LNo) (l : List LAt) (n : Int) : WiA := if 0 ≤ n ∧ n < ns.length then witA l n (n + (ndN ns n.toNat).size) else ⟨0, 0⟩
theorem witA_le (l : List LAt) (u v : Int) : (witA l u v).a ≤ l.length ∧ (witA l u v).b ≤ l.length := by
  have h1 := loA_le l u
  have h2 := loA_le l v
  unfold witA
  split
  · exact ⟨h1, h2⟩
  · exact ⟨Nat.zero_le _, Nat.zero_le _⟩
theorem winA_le (ns : List LNo) (l : List LAt) (n : Int) : (winA ns l n).a ≤ l.length ∧ (winA ns l n).b ≤ l.length := by
  unfold winA
  split
  · exact witA_le l _ _
  · exact ⟨Nat.zero_le _, Nat.zero_le _⟩
def aWi (z : WiA) : AV := .tup [.raw (.int .i64 z.a), .raw (.int .i64 z.b)]
attribute [go_sem] aWi
abbrev wiO (l : List LAt) (v : Int) : List (Nat × AO) := [(1, .cells 25 [.sl 8 (l.map cAt)]), (2, .cells 3 [.raw (.int .i64 v)])]
set_option maxRecDepth 100000 in
theorem hasAt_ok (l : List LAt) (k : Int) : FnOk Try.prog 48 [.sl 8 (l.map cAt), .raw (.int .i64 k)] [] (.raw (.bool (decide (0 ≤ k ∧ k < l.length)))) [] := by
  refine fn_of_awp Try.func48 rfl (by kernel_rfl) (by kernel_rfl) (Nat.le_of_ble_eq_true rfl) Try.results48 ?_
  simp only [go_sem, Bool.not_eq_true', Bool.not_eq_false', List.length_map]
  repeat' first | contradiction | intro _ | refine And.intro ?_ ?_ | refine ex_atA (by omega) ?_ | refine ex_atA' (by omega) ?_ | refine ex_get (by omega) ?_ | (show drawB _ _ = true; kernel_rfl) | (refine ret2 [] (by simp only [go_sem, Bool.not_eq_true', Bool.not_eq_false']; rfl) ?_; simp only [go_sem, Bool.not_eq_true', Bool.not_eq_false'])
  all_goals first
    | omega
    | (simp; done)
    | (simp; omega)
set_option maxRecDepth 100000 in
theorem hasNo_ok (l : List LNo) (k : Int) : FnOk Try.prog 44 [.sl 20 (l.map cNo), .raw (.int .i64 k)] [] (.raw (.bool (decide (0 ≤ k ∧ k < l.length)))) [] := by
  refine fn_of_awp Try.func44 rfl (by kernel_rfl) (by kernel_rfl) (Nat.le_of_ble_eq_true rfl) Try.results44 ?_
  simp only [go_sem, Bool.not_eq_true', Bool.not_eq_false', List.length_map]
  repeat' first | contradiction | intro _ | refine And.intro ?_ ?_ | refine ex_atA (by omega) ?_ | refine ex_atA' (by omega) ?_ | refine ex_get (by omega) ?_ | (show drawB _ _ = true; kernel_rfl) | (refine ret2 [] (by simp only [go_sem, Bool.not_eq_true', Bool.not_eq_false']; rfl) ?_; simp only [go_sem, Bool.not_eq_true', Bool.not_eq_false'])
  all_goals first
    | omega
    | (simp; done)
    | (simp; omega)
set_option maxRecDepth 100000 in
theorem abot_ok (a : LAt) (h : -4611686018427387904 ≤ a.y + a.h ∧ a.y + a.h ≤ 4611686018427387904) : FnOk Try.prog 49 [aAt a] [] (.raw (.int .i64 (a.y + a.h))) [] := by
  refine fn_of_awp Try.func49 rfl (by kernel_rfl) (by kernel_rfl) (Nat.le_of_ble_eq_true rfl) Try.results49 ?_
  simp only [go_sem, Bool.not_eq_true', Bool.not_eq_false']
  repeat' first | contradiction | intro _ | refine And.intro ?_ ?_ | refine ex_atA (by omega) ?_ | refine ex_atA' (by omega) ?_ | refine ex_get (by omega) ?_ | (show drawB _ _ = true; kernel_rfl) | (refine ret2 [] (by simp only [go_sem, Bool.not_eq_true', Bool.not_eq_false']; rfl) ?_; simp only [go_sem, Bool.not_eq_true', Bool.not_eq_false'])
  all_goals omega
/-- numbers that may be added. -/
def SmA (l : List LAt) : Prop := ∀ q : Int, 0 ≤ q → q < l.length → (-1125899906842624 ≤ (atA l q).y ∧ (atA l q).y ≤ 1125899906842624) ∧ (-1125899906842624 ≤ (atA l q).h ∧ (atA l q).h ≤ 1125899906842624)
theorem near_sm {l : List LAt} (h : Near15 l) : SmA l := fun q h1 h2 => by
  have := (h q h1 h2).1
  omega
theorem botA_bd {l : List LAt} (h : SmA l) (k : Int) : -2251799813685248 ≤ botA l k ∧ botA l k ≤ 2251799813685248 := by
  unfold botA
  split
  · have := h k (by omega) (by omega); omega
  · omega
set_option maxRecDepth 100000 in
theorem bota_ok (l : List LAt) (k : Int) (h : SmA l) : FnOk Try.prog 20 [.sl 8 (l.map cAt), .raw (.int .i64 k)] [] (.raw (.int .i64 (botA l k))) [] := by
  refine fn_of_awp Try.func20 rfl (by kernel_rfl) (by kernel_rfl) (Nat.le_of_ble_eq_true rfl) Try.results20 ?_
  simp only [go_sem, Bool.not_eq_true', Bool.not_eq_false']
  (refine acall2 [] (hasAt_ok l k) (by simp only [go_sem, Bool.not_eq_true', Bool.not_eq_false']; rfl) (fit_of (by simp only [go_sem, Bool.not_eq_true', Bool.not_eq_false']) (by simp only [go_sem, Bool.not_eq_true', Bool.not_eq_false']) (by simp only [go_sem, Bool.not_eq_true', Bool.not_eq_false']) (by simp only [go_sem, Bool.not_eq_true', Bool.not_eq_false']) (by simp only [go_sem, Bool.not_eq_true', Bool.not_eq_false']) (by simp only [go_sem, Bool.not_eq_true', Bool.not_eq_false']) (by simp only [go_sem, Bool.not_eq_true', Bool.not_eq_false'])) ?_; simp only [go_sem, Bool.not_eq_true', Bool.not_eq_false'])
  by_cases q : 0 ≤ k ∧ k < l.length
  · have e : botA l k = (atA l k).y + (atA l k).h := if_pos q
    have hb := h k q.1 q.2
    rw [e]
    refine ⟨fun w => absurd q w, fun _ => ?_⟩
    repeat' first | contradiction | intro _ | refine And.intro ?_ ?_ | refine ex_atA (by omega) ?_ | refine ex_atA' (by omega) ?_ | refine ex_get (by omega) ?_ | (show drawB _ _ = true; kernel_rfl) | (refine ret2 [] (by simp only [go_sem, Bool.not_eq_true', Bool.not_eq_false', List.length_map]; rfl) ?_; simp only [go_sem, Bool.not_eq_true', Bool.not_eq_false', List.length_map]) | (refine acall2 [] (abot_ok (atA l k) (by omega)) (by simp only [go_sem, Bool.not_eq_true', Bool.not_eq_false']; rfl) (fit_of (by simp only [go_sem, Bool.not_eq_true', Bool.not_eq_false']) (by simp only [go_sem, Bool.not_eq_true', Bool.not_eq_false']) (by simp only [go_sem, Bool.not_eq_true', Bool.not_eq_false']) (by simp only [go_sem, Bool.not_eq_true', Bool.not_eq_false']) (by simp only [go_sem, Bool.not_eq_true', Bool.not_eq_false']) (by simp only [go_sem, Bool.not_eq_true', Bool.not_eq_false']) (by simp only [go_sem, Bool.not_eq_true', Bool.not_eq_false'])) ?_; simp only [go_sem, Bool.not_eq_true', Bool.not_eq_false', List.length_map])
    all_goals omega
  · have e : botA l k = 0 := if_neg q
    rw [e]
    exact ⟨fun _ => rfl, fun w => absurd w q⟩
set_option maxRecDepth 100000 in
theorem gapa_ok (l : List LAt) (k : Int) (h : SmA l) (hl : l.length ≤ 4000) : FnOk Try.prog 19 [.sl 8 (l.map cAt), .raw (.int .i64 k)] [] (.raw (.int .i64 (gapA l k))) [] := by
  have hbb := botA_bd h (k - 1)
  refine fn_of_awp Try.func19 rfl (by kernel_rfl) (by kernel_rfl) (Nat.le_of_ble_eq_true rfl) Try.results19 ?_
  simp only [go_sem, Bool.not_eq_true', Bool.not_eq_false']
  (refine acall2 [] (hasAt_ok l k) (by simp only [go_sem, Bool.not_eq_true', Bool.not_eq_false']; rfl) (fit_of (by simp only [go_sem, Bool.not_eq_true', Bool.not_eq_false']) (by simp only [go_sem, Bool.not_eq_true', Bool.not_eq_false']) (by simp only [go_sem, Bool.not_eq_true', Bool.not_eq_false']) (by simp only [go_sem, Bool.not_eq_true', Bool.not_eq_false']) (by simp only [go_sem, Bool.not_eq_true', Bool.not_eq_false']) (by simp only [go_sem, Bool.not_eq_true', Bool.not_eq_false']) (by simp only [go_sem, Bool.not_eq_true', Bool.not_eq_false'])) ?_; simp only [go_sem, Bool.not_eq_true', Bool.not_eq_false'])
  by_cases q : 0 ≤ k ∧ k < l.length
  · have e : gapA l k = (atA l k).y - botA l (k - 1) := if_pos q
    have hb := h k q.1 q.2
    rw [e]
    refine ⟨fun w => absurd q w, fun _ => ?_⟩
    repeat' first | contradiction | intro _ | refine And.intro ?_ ?_ | refine ex_atA (by omega) ?_ | refine ex_atA' (by omega) ?_ | refine ex_get (by omega) ?_ | (show drawB _ _ = true; kernel_rfl) | (refine ret2 [] (by simp only [go_sem, Bool.not_eq_true', Bool.not_eq_false', List.length_map]; rfl) ?_; simp only [go_sem, Bool.not_eq_true', Bool.not_eq_false', List.length_map]) | (refine acall2 [] (bota_ok l (k - 1) h) (by simp only [go_sem, Bool.not_eq_true', Bool.not_eq_false']; rfl) (fit_of (by simp only [go_sem, Bool.not_eq_true', Bool.not_eq_false']) (by simp only [go_sem, Bool.not_eq_true', Bool.not_eq_false']) (by simp only [go_sem, Bool.not_eq_true', Bool.not_eq_false']) (by simp only [go_sem, Bool.not_eq_true', Bool.not_eq_false']) (by simp only [go_sem, Bool.not_eq_true', Bool.not_eq_false']) (by simp only [go_sem, Bool.not_eq_true', Bool.not_eq_false']) (by simp only [go_sem, Bool.not_eq_true', Bool.not_eq_false'])) ?_; simp only [go_sem, Bool.not_eq_true', Bool.not_eq_false', List.length_map])
    all_goals omega
  · have e : gapA l k = 0 := if_neg q
    rw [e]
    exact ⟨fun _ => rfl, fun w => absurd w q⟩
set_option maxRecDepth 100000 in
theorem ofsa_ok (l : List LAt) (i k : Int) (h : SmA l) : FnOk Try.prog 22 [.sl 8 (l.map cAt), .raw (.int .i64 i), .raw (.int .i64 k)] [] (.raw (.int .i64 (ofsA l i k))) [] := by
  refine fn_of_awp Try.func22 rfl (by kernel_rfl) (by kernel_rfl) (Nat.le_of_ble_eq_true rfl) Try.results22 ?_
  simp only [go_sem, Bool.not_eq_true', Bool.not_eq_false']
  (refine acall2 [] (hasAt_ok l i) (by simp only [go_sem, Bool.not_eq_true', Bool.not_eq_false']; rfl) (fit_of (by simp only [go_sem, Bool.not_eq_true', Bool.not_eq_false']) (by simp only [go_sem, Bool.not_eq_true', Bool.not_eq_false']) (by simp only [go_sem, Bool.not_eq_true', Bool.not_eq_false']) (by simp only [go_sem, Bool.not_eq_true', Bool.not_eq_false']) (by simp only [go_sem, Bool.not_eq_true', Bool.not_eq_false']) (by simp only [go_sem, Bool.not_eq_true', Bool.not_eq_false']) (by simp only [go_sem, Bool.not_eq_true', Bool.not_eq_false'])) ?_; simp only [go_sem, Bool.not_eq_true', Bool.not_eq_false'])
  by_cases q : (0 ≤ i ∧ i < l.length) ∧ 0 ≤ k ∧ k < l.length
  · have e : ofsA l i k = (atA l k).y - (atA l i).y := if_pos q
    have hb := h k q.2.1 q.2.2
    have hc := h i q.1.1 q.1.2
    rw [e]
    repeat' first | contradiction | intro _ | refine And.intro ?_ ?_ | refine ex_atA (by omega) ?_ | refine ex_atA' (by omega) ?_ | refine ex_get (by omega) ?_ | (show drawB _ _ = true; kernel_rfl) | (refine ret2 [] (by simp only [go_sem, Bool.not_eq_true', Bool.not_eq_false', List.length_map]; rfl) ?_; simp only [go_sem, Bool.not_eq_true', Bool.not_eq_false', List.length_map]) | (refine acall2 [] (hasAt_ok l k) (by simp only [go_sem, Bool.not_eq_true', Bool.not_eq_false']; rfl) (fit_of (by simp only [go_sem, Bool.not_eq_true', Bool.not_eq_false']) (by simp only [go_sem, Bool.not_eq_true', Bool.not_eq_false']) (by simp only [go_sem, Bool.not_eq_true', Bool.not_eq_false']) (by simp only [go_sem, Bool.not_eq_true', Bool.not_eq_false']) (by simp only [go_sem, Bool.not_eq_true', Bool.not_eq_false']) (by simp only [go_sem, Bool.not_eq_true', Bool.not_eq_false']) (by simp only [go_sem, Bool.not_eq_true', Bool.not_eq_false'])) ?_; simp only [go_sem, Bool.not_eq_true', Bool.not_eq_false', List.length_map])
    all_goals first
      | omega
      | skip
  · have e : ofsA l i k = 0 := if_neg q
    rw [e]
    repeat' first | contradiction | intro _ | refine And.intro ?_ ?_ | refine ex_atA (by omega) ?_ | refine ex_atA' (by omega) ?_ | refine ex_get (by omega) ?_ | (show drawB _ _ = true; kernel_rfl) | (refine ret2 [] (by simp only [go_sem, Bool.not_eq_true', Bool.not_eq_false', List.length_map]; rfl) ?_; simp only [go_sem, Bool.not_eq_true', Bool.not_eq_false', List.length_map]) | (refine acall2 [] (hasAt_ok l k) (by simp only [go_sem, Bool.not_eq_true', Bool.not_eq_false']; rfl) (fit_of (by simp only [go_sem, Bool.not_eq_true', Bool.not_eq_false']) (by simp only [go_sem, Bool.not_eq_true', Bool.not_eq_false']) (by simp only [go_sem, Bool.not_eq_true', Bool.not_eq_false']) (by simp only [go_sem, Bool.not_eq_true', Bool.not_eq_false']) (by simp only [go_sem, Bool.not_eq_true', Bool.not_eq_false']) (by simp only [go_sem, Bool.not_eq_true', Bool.not_eq_false']) (by simp only [go_sem, Bool.not_eq_true', Bool.not_eq_false'])) ?_; simp only [go_sem, Bool.not_eq_true', Bool.not_eq_false', List.length_map])
    all_goals first
      | omega
      | skip
set_option maxRecDepth 100000 in
theorem higa_ok (l : List LAt) (i k : Int) (h : SmA l) (hl : l.length ≤ 4000) : FnOk Try.prog 21 [.sl 8 (l.map cAt), .raw (.int .i64 i), .raw (.int .i64 k)] [] (.raw (.int .i64 (higA l i k))) [] := by
  refine fn_of_awp Try.func21 rfl (by kernel_rfl) (by kernel_rfl) (Nat.le_of_ble_eq_true rfl) Try.results21 ?_
  simp only [go_sem, Bool.not_eq_true', Bool.not_eq_false']
  (refine acall2 [] (hasAt_ok l i) (by simp only [go_sem, Bool.not_eq_true', Bool.not_eq_false']; rfl) (fit_of (by simp only [go_sem, Bool.not_eq_true', Bool.not_eq_false']) (by simp only [go_sem, Bool.not_eq_true', Bool.not_eq_false']) (by simp only [go_sem, Bool.not_eq_true', Bool.not_eq_false']) (by simp only [go_sem, Bool.not_eq_true', Bool.not_eq_false']) (by simp only [go_sem, Bool.not_eq_true', Bool.not_eq_false']) (by simp only [go_sem, Bool.not_eq_true', Bool.not_eq_false']) (by simp only [go_sem, Bool.not_eq_true', Bool.not_eq_false'])) ?_; simp only [go_sem, Bool.not_eq_true', Bool.not_eq_false', List.length_map])
  by_cases q : (0 ≤ i ∧ i < l.length) ∧ i < k ∧ k ≤ l.length
  · have e : higA l i k = (atA l (k - 1)).y + (atA l (k - 1)).h - (atA l i).y := if_pos q
    have hb := h (k - 1) (by omega) (by omega)
    have hc := h i q.1.1 q.1.2
    rw [e]
    repeat' first | contradiction | intro _ | refine And.intro ?_ ?_ | refine ex_atA (by omega) ?_ | refine ex_atA' (by omega) ?_ | refine ex_get (by omega) ?_ | (show drawB _ _ = true; kernel_rfl) | (refine ret2 [] (by simp only [go_sem, Bool.not_eq_true', Bool.not_eq_false', List.length_map]; rfl) ?_; simp only [go_sem, Bool.not_eq_true', Bool.not_eq_false', List.length_map]) | (refine acall2 [] (abot_ok (atA l (k - 1)) (by omega)) (by simp only [go_sem, Bool.not_eq_true', Bool.not_eq_false']; rfl) (fit_of (by simp only [go_sem, Bool.not_eq_true', Bool.not_eq_false']) (by simp only [go_sem, Bool.not_eq_true', Bool.not_eq_false']) (by simp only [go_sem, Bool.not_eq_true', Bool.not_eq_false']) (by simp only [go_sem, Bool.not_eq_true', Bool.not_eq_false']) (by simp only [go_sem, Bool.not_eq_true', Bool.not_eq_false']) (by simp only [go_sem, Bool.not_eq_true', Bool.not_eq_false']) (by simp only [go_sem, Bool.not_eq_true', Bool.not_eq_false'])) ?_; simp only [go_sem, Bool.not_eq_true', Bool.not_eq_false', List.length_map])
    all_goals first
      | omega
      | skip
  · have e : higA l i k = 0 := if_neg q
    rw [e]
    repeat' first | contradiction | intro _ | refine And.intro ?_ ?_ | refine ex_atA (by omega) ?_ | refine ex_atA' (by omega) ?_ | refine ex_get (by omega) ?_ | (show drawB _ _ = true; kernel_rfl) | (refine ret2 [] (by simp only [go_sem, Bool.not_eq_true', Bool.not_eq_false', List.length_map]; rfl) ?_; simp only [go_sem, Bool.not_eq_true', Bool.not_eq_false', List.length_map]) | (refine acall2 [] (abot_ok (atA l (k - 1)) (by have := h (k - 1) (by omega) (by omega); omega)) (by simp only [go_sem, Bool.not_eq_true', Bool.not_eq_false']; rfl) (fit_of (by simp only [go_sem, Bool.not_eq_true', Bool.not_eq_false']) (by simp only [go_sem, Bool.not_eq_true', Bool.not_eq_false']) (by simp only [go_sem, Bool.not_eq_true', Bool.not_eq_false']) (by simp only [go_sem, Bool.not_eq_true', Bool.not_eq_false']) (by simp only [go_sem, Bool.not_eq_true', Bool.not_eq_false']) (by simp only [go_sem, Bool.not_eq_true', Bool.not_eq_false']) (by simp only [go_sem, Bool.not_eq_true', Bool.not_eq_false'])) ?_; simp only [go_sem, Bool.not_eq_true', Bool.not_eq_false', List.length_map])
    all_goals first
      | omega
      | skip
set_option maxRecDepth 100000 in
theorem wc1_ok (l : List LAt) (v : Int) (k : Nat) (hk : k < l.length) : FnOk Try.prog 46 [.raw (.int .i64 k), .hdr 1, .hdr 2] (wiO l v) (.raw (.bool (geA l v k))) (wiO l v) := by
  refine fn_of_awp Try.func46 rfl (by kernel_rfl) (by kernel_rfl) (Nat.le_of_ble_eq_true rfl) Try.results46 ?_
  simp only [go_sem, Bool.not_eq_true', Bool.not_eq_false', List.length_map]
  repeat' first | contradiction | intro _ | refine And.intro ?_ ?_ | refine ex_atA (by omega) ?_ | refine ex_atA' (by omega) ?_ | refine ex_get (by omega) ?_ | (show drawB _ _ = true; kernel_rfl) | (refine ret2 [] (by simp only [go_sem, Bool.not_eq_true', Bool.not_eq_false', List.length_map]; rfl) ?_; simp only [go_sem, Bool.not_eq_true', Bool.not_eq_false', List.length_map])
  all_goals first
    | omega
    | rfl
set_option maxRecDepth 100000 in
theorem ws1_ok (l : List LAt) (v : Int) (hm : MonoA l) (hl : l.length ≤ 4000) : FnOk Try.prog 45 [.raw (.int .i64 l.length), .clo (.func 46) [.hdr 1, .hdr 2]] (wiO l v) (.raw (.int .i64 (loA l v))) (wiO l v) := by
  refine fn_of_awp Try.func45 rfl (by kernel_rfl) (by kernel_rfl) (Nat.le_of_ble_eq_true rfl) Try.results45 ?_
  simp only [go_sem, Bool.not_eq_true', Bool.not_eq_false', List.length_map]
  refine aloop2 [] (fun z : SrX => ⟨[(1, .clo (.func 46) [.hdr 1, .hdr 2]), (4, .raw (.int .i64 0)), (5, .raw (.int .i64 z.i)), (6, .raw (.int .i64 z.j))], [(1, some (.cells 25 [.sl 8 (l.map cAt)])), (2, some (.cells 3 [.raw (.int .i64 v)]))], none⟩) (SrInv (geA l v) l.length) (fun z => z.j - z.i) 2 ⟨0, l.length⟩ (by simp only [go_sem, Bool.not_eq_true', Bool.not_eq_false']; rfl) (by simp only [go_sem, Bool.not_eq_true', Bool.not_eq_false']) ?_ ?_
  · exact sr_first _ _
  · rintro ⟨i, j⟩ hi
    have hb := hi
    obtain ⟨b1, b2, -, -⟩ := hb
    simp only at b1 b2
    obtain ⟨h, hh⟩ : ∃ h : Nat, h = (i + j) / 2 := ⟨_, rfl⟩
    have e : IntKind.wrap .i64 ((IntKind.wrap .u64 ((i : Int) + j)).fdiv (2 ^ min 1 64)) = h := by
      have := half_eq (z := (i : Int) + j) (by omega) (by omega)
      rw [Int.toNat_one] at this
      rw [this]
      omega
    have mono := geA_mono (v := v) hm
    simp only [go_sem, Bool.not_eq_true', Bool.not_eq_false', e, List.length_map]
    repeat' first | contradiction | intro _ | refine And.intro ?_ ?_ | refine ex_atA (by omega) ?_ | refine ex_atA' (by omega) ?_ | refine ex_get (by omega) ?_ | (show drawB _ _ = true; kernel_rfl) | (refine ret2 [] (by simp only [go_sem, Bool.not_eq_true', Bool.not_eq_false', e, List.length_map]; rfl) ?_; simp only [go_sem, Bool.not_eq_true', Bool.not_eq_false', e, List.length_map]) | (refine acall2 [] (wc1_ok l v h (by omega)) (by simp only [go_sem, Bool.not_eq_true', Bool.not_eq_false']; rfl) (fit_of (by simp only [go_sem, Bool.not_eq_true', Bool.not_eq_false']) (by simp only [go_sem, Bool.not_eq_true', Bool.not_eq_false']) (by simp only [go_sem, Bool.not_eq_true', Bool.not_eq_false']) (by simp only [go_sem, Bool.not_eq_true', Bool.not_eq_false']) (by simp only [go_sem, Bool.not_eq_true', Bool.not_eq_false']) (by simp only [go_sem, Bool.not_eq_true', Bool.not_eq_false']) (by simp only [go_sem, Bool.not_eq_true', Bool.not_eq_false'])) ?_; simp only [go_sem, Bool.not_eq_true', Bool.not_eq_false', e, List.length_map])
    all_goals try omega
    all_goals first | (have eL : loA l v = i := sr_last hi (by assumption); rw [eL]; done) | ((refine loop_end [] (⟨h + 1, j⟩) (by simp only [go_sem, Bool.not_eq_true', Bool.not_eq_false']; rfl) ?_ ?_ ?_; (focus first | omega | (simp only; omega)); (focus (simp only [go_sem, Bool.not_eq_true', Bool.not_eq_false']; done))); exact sr_no mono hi (by omega) (by assumption)) | ((refine loop_end [] (⟨i, h⟩) (by simp only [go_sem, Bool.not_eq_true', Bool.not_eq_false']; rfl) ?_ ?_ ?_; (focus first | omega | (simp only; omega)); (focus (simp only [go_sem, Bool.not_eq_true', Bool.not_eq_false']; done))); exact sr_yes mono hi (by omega) (by assumption))
set_option maxRecDepth 100000 in
theorem wc2_ok (l : List LAt) (v : Int) (k : Nat) (hk : k < l.length) : FnOk Try.prog 47 [.raw (.int .i64 k), .hdr 1, .hdr 2] (wiO l v) (.raw (.bool (geA l v k))) (wiO l v) := by
  refine fn_of_awp Try.func47 rfl (by kernel_rfl) (by kernel_rfl) (Nat.le_of_ble_eq_true rfl) Try.results47 ?_
  simp only [go_sem, Bool.not_eq_true', Bool.not_eq_false', List.length_map]
  repeat' first | contradiction | intro _ | refine And.intro ?_ ?_ | refine ex_atA (by omega) ?_ | refine ex_atA' (by omega) ?_ | refine ex_get (by omega) ?_ | (show drawB _ _ = true; kernel_rfl) | (refine ret2 [] (by simp only [go_sem, Bool.not_eq_true', Bool.not_eq_false', List.length_map]; rfl) ?_; simp only [go_sem, Bool.not_eq_true', Bool.not_eq_false', List.length_map])
  all_goals first
    | omega
    | rfl
set_option maxRecDepth 100000 in
theorem ws2_ok (l : List LAt) (v : Int) (hm : MonoA l) (hl : l.length ≤ 4000) : FnOk Try.prog 45 [.raw (.int .i64 l.length), .clo (.func 47) [.hdr 1, .hdr 2]] (wiO l v) (.raw (.int .i64 (loA l v))) (wiO l v) := by
  refine fn_of_awp Try.func45 rfl (by kernel_rfl) (by kernel_rfl) (Nat.le_of_ble_eq_true rfl) Try.results45 ?_
  simp only [go_sem, Bool.not_eq_true', Bool.not_eq_false', List.length_map]
  refine aloop2 [] (fun z : SrX => ⟨[(1, .clo (.func 47) [.hdr 1, .hdr 2]), (4, .raw (.int .i64 0)), (5, .raw (.int .i64 z.i)), (6, .raw (.int .i64 z.j))], [(1, some (.cells 25 [.sl 8 (l.map cAt)])), (2, some (.cells 3 [.raw (.int .i64 v)]))], none⟩) (SrInv (geA l v) l.length) (fun z => z.j - z.i) 2 ⟨0, l.length⟩ (by simp only [go_sem, Bool.not_eq_true', Bool.not_eq_false']; rfl) (by simp only [go_sem, Bool.not_eq_true', Bool.not_eq_false']) ?_ ?_
  · exact sr_first _ _
  · rintro ⟨i, j⟩ hi
    have hb := hi
    obtain ⟨b1, b2, -, -⟩ := hb
    simp only at b1 b2
    obtain ⟨h, hh⟩ : ∃ h : Nat, h = (i + j) / 2 := ⟨_, rfl⟩
    have e : IntKind.wrap .i64 ((IntKind.wrap .u64 ((i : Int) + j)).fdiv (2 ^ min 1 64)) = h := by
      have := half_eq (z := (i : Int) + j) (by omega) (by omega)
      rw [Int.toNat_one] at this
      rw [this]
      omega
    have mono := geA_mono (v := v) hm
    simp only [go_sem, Bool.not_eq_true', Bool.not_eq_false', e, List.length_map]
    repeat' first | contradiction | intro _ | refine And.intro ?_ ?_ | refine ex_atA (by omega) ?_ | refine ex_atA' (by omega) ?_ | refine ex_get (by omega) ?_ | (show drawB _ _ = true; kernel_rfl) | (refine ret2 [] (by simp only [go_sem, Bool.not_eq_true', Bool.not_eq_false', e, List.length_map]; rfl) ?_; simp only [go_sem, Bool.not_eq_true', Bool.not_eq_false', e, List.length_map]) | (refine acall2 [] (wc2_ok l v h (by omega)) (by simp only [go_sem, Bool.not_eq_true', Bool.not_eq_false']; rfl) (fit_of (by simp only [go_sem, Bool.not_eq_true', Bool.not_eq_false']) (by simp only [go_sem, Bool.not_eq_true', Bool.not_eq_false']) (by simp only [go_sem, Bool.not_eq_true', Bool.not_eq_false']) (by simp only [go_sem, Bool.not_eq_true', Bool.not_eq_false']) (by simp only [go_sem, Bool.not_eq_true', Bool.not_eq_false']) (by simp only [go_sem, Bool.not_eq_true', Bool.not_eq_false']) (by simp only [go_sem, Bool.not_eq_true', Bool.not_eq_false'])) ?_; simp only [go_sem, Bool.not_eq_true', Bool.not_eq_false', e, List.length_map])
    all_goals try omega
    all_goals first | (have eL : loA l v = i := sr_last hi (by assumption); rw [eL]; done) | ((refine loop_end [] (⟨h + 1, j⟩) (by simp only [go_sem, Bool.not_eq_true', Bool.not_eq_false']; rfl) ?_ ?_ ?_; (focus first | omega | (simp only; omega)); (focus (simp only [go_sem, Bool.not_eq_true', Bool.not_eq_false']; done))); exact sr_no mono hi (by omega) (by assumption)) | ((refine loop_end [] (⟨i, h⟩) (by simp only [go_sem, Bool.not_eq_true', Bool.not_eq_false']; rfl) ?_ ?_ ?_; (focus first | omega | (simp only; omega)); (focus (simp only [go_sem, Bool.not_eq_true', Bool.not_eq_false']; done))); exact sr_yes mono hi (by omega) (by assumption))
set_option maxRecDepth 100000 in
theorem wina_ok (ns : List LNo) (l : List LAt) (n : Int) (hm : MonoA l) (hl : l.length ≤ 4000) (hs : ∀ x ∈ ns, 0 ≤ x.size ∧ x.size ≤ 1000) (hn : ns.length ≤ 1000) : FnOk Try.prog 17 [.sl 20 (ns.map cNo), .sl 8 (l.map cAt), .raw (.int .i64 n)] [] (aWi (winA ns l n)) [] := by
  refine fn_of_awp Try.func17 rfl (by kernel_rfl) (by kernel_rfl) (Nat.le_of_ble_eq_true rfl) Try.results17 ?_
  simp only [go_sem, Bool.not_eq_true', Bool.not_eq_false']
  (refine acall2 [] (hasNo_ok ns n) (by simp only [go_sem, Bool.not_eq_true', Bool.not_eq_false']; rfl) (fit_of (by simp only [go_sem, Bool.not_eq_true', Bool.not_eq_false']) (by simp only [go_sem, Bool.not_eq_true', Bool.not_eq_false']) (by simp only [go_sem, Bool.not_eq_true', Bool.not_eq_false']) (by simp only [go_sem, Bool.not_eq_true', Bool.not_eq_false']) (by simp only [go_sem, Bool.not_eq_true', Bool.not_eq_false']) (by simp only [go_sem, Bool.not_eq_true', Bool.not_eq_false']) (by simp only [go_sem, Bool.not_eq_true', Bool.not_eq_false'])) ?_; simp only [go_sem, Bool.not_eq_true', Bool.not_eq_false', List.length_map])
  by_cases q : 0 ≤ n ∧ n < ns.length
  · have e : winA ns l n = witA l n (n + (ndN ns n.toNat).size) := if_pos q
    have hk : n.toNat < ns.length := by omega
    have hsz := hs _ (List.getElem_mem hk)
    rw [e]
    refine ⟨fun w => absurd q w, fun _ => ⟨⟨by omega, by omega⟩, _, List.getElem?_eq_getElem hk, ?_⟩⟩
    rw [← ndN_get hk] at hsz ⊢
    refine ⟨⟨by omega, by omega⟩, (show drawB _ _ = true by kernel_rfl), ?_⟩
    (refine acall2 [] (ws1_ok l n hm hl) (by simp only [go_sem, Bool.not_eq_true', Bool.not_eq_false']; rfl) (fit_of (by simp only [go_sem, Bool.not_eq_true', Bool.not_eq_false']) (by simp only [go_sem, Bool.not_eq_true', Bool.not_eq_false']) (by simp only [go_sem, Bool.not_eq_true', Bool.not_eq_false']) (by simp only [go_sem, Bool.not_eq_true', Bool.not_eq_false']) (by simp only [go_sem, Bool.not_eq_true', Bool.not_eq_false']) (by simp only [go_sem, Bool.not_eq_true', Bool.not_eq_false']) (by simp only [go_sem, Bool.not_eq_true', Bool.not_eq_false'])) ?_; simp only [go_sem, Bool.not_eq_true', Bool.not_eq_false', List.length_map])
    (refine acall2 [] (ws2_ok l (n + (ndN ns n.toNat).size) hm hl) (by simp only [go_sem, Bool.not_eq_true', Bool.not_eq_false']; rfl) (fit_of (by simp only [go_sem, Bool.not_eq_true', Bool.not_eq_false']) (by simp only [go_sem, Bool.not_eq_true', Bool.not_eq_false']) (by simp only [go_sem, Bool.not_eq_true', Bool.not_eq_false']) (by simp only [go_sem, Bool.not_eq_true', Bool.not_eq_false']) (by simp only [go_sem, Bool.not_eq_true', Bool.not_eq_false']) (by simp only [go_sem, Bool.not_eq_true', Bool.not_eq_false']) (by simp only [go_sem, Bool.not_eq_true', Bool.not_eq_false'])) ?_; simp only [go_sem, Bool.not_eq_true', Bool.not_eq_false', List.length_map])
    refine ⟨fun w => ?_, fun w => ?_⟩
    · have e2 : witA l n (n + (ndN ns n.toNat).size) = ⟨0, 0⟩ := if_neg (by omega)
      rw [e2]
      exact ⟨rfl, rfl⟩
    · have e2 : witA l n (n + (ndN ns n.toNat).size) = ⟨loA l n, loA l (n + (ndN ns n.toNat).size)⟩ := if_pos (by omega)
      rw [e2]
      exact ⟨rfl, rfl⟩
  · have e : winA ns l n = ⟨0, 0⟩ := if_neg q
    rw [e]
    exact ⟨fun _ => ⟨rfl, rfl⟩, fun w => absurd w q⟩
end Go.Proofs.Ytblmebjhhanoaaa
/- CHAPTER 15: the document's answer: which atoms a node holds. -/
/- G -/
/- BOOLS -/
/- GET ex_atA ex_atA' -/
set_option linter.unusedSimpArgs false
set_option linter.unusedVariables false
namespace Go.Proofs.Ytblmebjhhanoaaa
open Go.RowKit

/-- a search under way through atoms, up to a place. -/
def WiInv (l : List LAt) (u v : Int) (k : Nat) (z : WiA) : Prop := (z.b = 0 ∧ z.a = 0 ∧ ¬ loA l u < min k (loA l v)) ∨ (z.a = loA l u ∧ z.b = min k (loA l v) ∧ loA l u < min k (loA l v))
theorem wi_last {l : List LAt} {u v : Int} {z : WiA} (h : WiInv l u v l.length z) : witA l u v = z := by
  obtain ⟨a, b⟩ := z
  have := loA_le l v
  unfold witA
  rcases h with ⟨h1, h2, h3⟩ | ⟨h1, h2, h3⟩
  · simp only at h1 h2
    rw [if_neg (by omega), h1, h2]
  · simp only at h1 h2
    rw [if_pos (by omega), h1, h2]
    congr 1
    omega
theorem wi_skip {l : List LAt} {u v : Int} {k : Nat} {z : WiA} (h : WiInv l u v k z) (q : k < loA l u ∨ loA l v ≤ k) : WiInv l u v (k + 1) z := by
  rcases h with ⟨h1, h2, h3⟩ | ⟨h1, h2, h3⟩
  · exact .inl ⟨h1, h2, by omega⟩
  · exact .inr ⟨h1, by omega, by omega⟩
theorem wi_hit {l : List LAt} {u v : Int} {k : Nat} {z : WiA} (h : WiInv l u v k z) (q1 : loA l u ≤ k) (q2 : k < loA l v) : (z.b = 0 → WiInv l u v (k + 1) ⟨k, k + 1⟩) ∧ (z.b ≠ 0 → WiInv l u v (k + 1) ⟨z.a, k + 1⟩) := by
  rcases h with ⟨h1, h2, h3⟩ | ⟨h1, h2, h3⟩
  · exact ⟨fun _ => .inr ⟨by show k = _; omega, by show k + 1 = _; omega, by omega⟩, fun w => absurd h1 w⟩
  · exact ⟨fun w => absurd w (by omega), fun _ => .inr ⟨h1, by show k + 1 = _; omega, by omega⟩⟩
set_option maxRecDepth 100000 in
set_option maxHeartbeats 4000000 in
theorem rwina_ok (ns : List LNo) (l : List LAt) (n : Int) (hm : MonoA l) (hl : l.length ≤ 4000) (hs : ∀ x ∈ ns, 0 ≤ x.size ∧ x.size ≤ 1000) (hn : ns.length ≤ 1000) : FnOk Try.prog 18 [.sl 20 (ns.map cNo), .sl 8 (l.map cAt), .raw (.int .i64 n)] [] (aWi (winA ns l n)) [] := by
  refine fn_of_swp Try.func18 rfl (by kernel_rfl) (by kernel_rfl) (Nat.le_of_ble_eq_true rfl) Try.results18 ?_
  (refine swp_seqW ?_; simp only [go_sem, Bool.not_eq_true', Bool.not_eq_false'])
  by_cases q : 0 ≤ n ∧ n < ns.length
  rotate_left
  · have e : winA ns l n = ⟨0, 0⟩ := if_neg q
    rw [e]
    (refine swp_seqW ?_; simp only [go_sem, Bool.not_eq_true', Bool.not_eq_false', List.length_map])
    repeat' first | contradiction | intro _ | refine And.intro ?_ ?_ | refine ex_atA (by omega) ?_ | refine ex_atA' (by omega) ?_ | refine ex_get (by omega) ?_ | (show drawB _ _ = true; kernel_rfl) | (refine ret2 [] (by simp only [go_sem, Bool.not_eq_true', Bool.not_eq_false']; rfl) ?_; simp only [go_sem, Bool.not_eq_true', Bool.not_eq_false'])
    all_goals first
      | omega
      | skip
  have e : winA ns l n = witA l n (n + (ndN ns n.toNat).size) := if_pos q
  have hk : n.toNat < ns.length := by omega
  have hsz := hs _ (List.getElem_mem hk)
  rw [← ndN_get hk] at hsz
  rw [e]
  (refine swp_seqW ?_; simp only [go_sem, Bool.not_eq_true', Bool.not_eq_false', List.length_map])
  refine ⟨fun _ => ⟨fun w => by omega, fun _ => ?_⟩, fun w => by omega⟩
  (refine swp_seqW ?_; simp only [go_sem, Bool.not_eq_true', Bool.not_eq_false'])
  refine swp_cutS (fun _ : Unit => ⟨[(8, .raw (.int .i64 (witA l n (n + (ndN ns n.toNat).size)).a)), (9, .raw (.int .i64 (witA l n (n + (ndN ns n.toNat).size)).b))], [], none⟩) (fun _ => True) 120 ?_ ?_
  · (refine swp_seqW ?_; simp only [go_sem, Bool.not_eq_true', Bool.not_eq_false'])
    refine swp_block ?_
    refine swp_loop2 [] (fun z : KY WiA => ⟨[(0, .sl 20 (ns.map cNo)), (1, .sl 8 (l.map cAt)), (2, .raw (.int .i64 n)), (8, .raw (.int .i64 z.o.a)), (9, .raw (.int .i64 z.o.b)), (10, .raw (.int .i64 z.k))], [], none⟩) (fun z => z.k ≤ l.length ∧ WiInv l n (n + (ndN ns n.toNat).size) z.k z.o) (fun z => l.length - z.k) 120 ⟨0, ⟨0, 0⟩⟩ (by simp only [go_sem, Bool.not_eq_true', Bool.not_eq_false']; rfl) (by simp only [go_sem, Bool.not_eq_true', Bool.not_eq_false']) ?_ ?_
    · exact ⟨Nat.zero_le _, .inl ⟨rfl, rfl, by simp⟩⟩
    rintro ⟨k, z⟩ ⟨h1, h2⟩
    simp only at h1 h2
    have hex : ∀ {C : LNo → Prop}, C (ndN ns n.toNat) → ∃ x, ns[n.toNat]? = some x ∧ C x := fun c => ⟨_, List.getElem?_eq_getElem hk, by rw [← ndN_get hk]; exact c⟩
    (refine swp_seqW ?_; simp only [go_sem, Bool.not_eq_true', Bool.not_eq_false', List.length_map])
    refine ⟨fun h5 => ?_, fun h5 => ?_⟩
    · have hkl : k < l.length := by omega
      have a1 := loA_iff (v := n) hm hkl
      have a2 := loA_iff (v := n + (ndN ns n.toNat).size) hm hkl
      have hsk := wi_skip h2
      have hht := wi_hit h2
      refine swp_seqS ?_
      refine swp_block ?_
      (refine swp_seqW ?_; simp only [go_sem, Bool.not_eq_true', Bool.not_eq_false', List.length_map])
      have hgs : ns[n.toNat].size = (ndN ns n.toNat).size := by rw [ndN_get hk]
      repeat' first | contradiction | intro _ | refine And.intro ?_ ?_ | refine ex_atA (by omega) ?_ | refine ex_atA' (by omega) ?_ | refine ex_get (by omega) ?_ | (show drawB _ _ = true; kernel_rfl) | (refine ret2 [] (by simp only [go_sem, Bool.not_eq_true', Bool.not_eq_false', List.length_map]; rfl) ?_; simp only [go_sem, Bool.not_eq_true', Bool.not_eq_false', List.length_map])
      all_goals try omega
      · (refine swp_lastW ?_; simp only [go_sem, Bool.not_eq_true', Bool.not_eq_false'])
        refine ⟨by omega, ?_⟩
        (refine loop_end [] (⟨k + 1, z⟩) (by simp only [go_sem, Bool.not_eq_true', Bool.not_eq_false']; rfl) ?_ ?_ ?_; (focus first | omega | (simp only; omega)); (focus (simp only [go_sem, Bool.not_eq_true', Bool.not_eq_false']; done)))
        exact ⟨hkl, hsk (by omega)⟩
      · have hht := hht (by omega) (by omega)
        refine swp_seqS ?_
        (refine swp_seqW ?_; simp only [go_sem, Bool.not_eq_true', Bool.not_eq_false'])
        (refine swp_condW ?_; simp only [go_sem, Bool.not_eq_true', Bool.not_eq_false'])
        refine ⟨fun w => ?_, fun w => ?_⟩
        · (refine swp_lastW ?_; simp only [go_sem, Bool.not_eq_true', Bool.not_eq_false'])
          (refine swp_lastW ?_; simp only [go_sem, Bool.not_eq_true', Bool.not_eq_false'])
          refine ⟨by omega, ?_⟩
          (refine swp_lastW ?_; simp only [go_sem, Bool.not_eq_true', Bool.not_eq_false'])
          refine ⟨by omega, ?_⟩
          (refine loop_end [] (⟨k + 1, ⟨k, k + 1⟩⟩) (by simp only [go_sem, Bool.not_eq_true', Bool.not_eq_false']; rfl) ?_ ?_ ?_; (focus first | omega | (simp only; omega)); (focus (simp only [go_sem, Bool.not_eq_true', Bool.not_eq_false']; done)))
          exact ⟨hkl, hht.1 (by omega)⟩
        · (refine swp_lastW ?_; simp only [go_sem, Bool.not_eq_true', Bool.not_eq_false'])
          (refine swp_lastW ?_; simp only [go_sem, Bool.not_eq_true', Bool.not_eq_false'])
          refine ⟨by omega, ?_⟩
          (refine swp_lastW ?_; simp only [go_sem, Bool.not_eq_true', Bool.not_eq_false'])
          refine ⟨by omega, ?_⟩
          (refine loop_end [] (⟨k + 1, ⟨z.a, k + 1⟩⟩) (by simp only [go_sem, Bool.not_eq_true', Bool.not_eq_false']; rfl) ?_ ?_ ?_; (focus first | omega | (simp only; omega)); (focus (simp only [go_sem, Bool.not_eq_true', Bool.not_eq_false']; done)))
          exact ⟨hkl, hht.2 (by omega)⟩
      · (refine swp_lastW ?_; simp only [go_sem, Bool.not_eq_true', Bool.not_eq_false'])
        refine ⟨by omega, ?_⟩
        (refine loop_end [] (⟨k + 1, z⟩) (by simp only [go_sem, Bool.not_eq_true', Bool.not_eq_false']; rfl) ?_ ?_ ?_; (focus first | omega | (simp only; omega)); (focus (simp only [go_sem, Bool.not_eq_true', Bool.not_eq_false']; done)))
        exact ⟨hkl, hsk (by omega)⟩
    · obtain rfl : k = l.length := by omega
      rw [wi_last h2]
      (refine cut_end [] (()) (by simp only [go_sem, Bool.not_eq_true', Bool.not_eq_false']; rfl) ?_ ?_; (focus (simp only [go_sem, Bool.not_eq_true', Bool.not_eq_false']; done)))
      trivial
  rintro - -
  (refine swp_lastW ?_; simp only [go_sem, Bool.not_eq_true', Bool.not_eq_false'])
end Go.Proofs.Ytblmebjhhanoaaa
