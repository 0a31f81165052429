/- THE SCRIPT'S READER: tokens (of plain letters, without remarks). -/
/- G -/
import Derived.Test.YtiidfcadmdahmaaTG
import Derived.Test.YtiidfcadmdahmaaG14
/- BOOLS -/
set_option linter.unusedSimpArgs false
set_option linter.unusedVariables false
namespace Go.Proofs.Ytiidfcadmdahmaa
open Go.RowKit

def ascii (s : ByteArray) : Prop := ∀ q : Nat, q < s.size → byteAt s q ≤ 127
theorem byteAt_ge (s : ByteArray) (q : Nat) : 0 ≤ byteAt s q := by unfold byteAt; omega
def inB (s : ByteArray) (k : Nat) (a b : Int) : Bool := decide (k < s.size ∧ a ≤ byteAt s k ∧ byteAt s k ≤ b)
set_option maxRecDepth 100000 in
theorem in4_ok (s : ByteArray) (k : Nat) (a b : Int) : FnOk Try.prog 86 [.raw (.string s), .raw (.int .i64 k), .raw (.int .u8 a), .raw (.int .u8 b)] [] (.raw (.bool (inB s k a b))) [] := by
  refine fn_of_awp Try.func86 rfl (by kernel_rfl) (by kernel_rfl) (Nat.le_of_ble_eq_true rfl) Try.results86 ?_
  simp only [go_sem, Nat.reduceAdd, Nat.reduceMul, Nat.reduceSub, Nat.reduceEqDiff, Nat.reduceDiv, Nat.reduceLT, Nat.reduceLeDiff, reduceCtorEq, decide_true, Int.natCast_add, Int.cast_ofNat_Int, Bool.not_eq_true', Bool.not_eq_false']
  repeat' first | contradiction | intro _ | refine And.intro ?_ ?_ | refine ex_get (by omega) ?_ | (show drawB _ _ = true; kernel_rfl) | (refine ret2 [] (by simp only [go_sem, Nat.reduceAdd, Nat.reduceMul, Nat.reduceSub, Nat.reduceEqDiff, Nat.reduceDiv, Nat.reduceLT, Nat.reduceLeDiff, reduceCtorEq, decide_true, Int.natCast_add, Int.cast_ofNat_Int, Bool.not_eq_true', Bool.not_eq_false']; rfl) ?_; simp only [go_sem, Nat.reduceAdd, Nat.reduceMul, Nat.reduceSub, Nat.reduceEqDiff, Nat.reduceDiv, Nat.reduceLT, Nat.reduceLeDiff, reduceCtorEq, decide_true, Int.natCast_add, Int.cast_ofNat_Int, Bool.not_eq_true', Bool.not_eq_false'])
  all_goals first
    | omega
    | (unfold inB; refine decide_eq_decide.2 ?_; omega)
    | (unfold inB; refine (decide_eq_false ?_); omega)
    | (unfold inB; refine (decide_eq_false ?_).symm; omega)
    | skip
set_option maxRecDepth 100000 in
theorem size4_ok (s : ByteArray) (k : Nat) (ha : ascii s) (hk : k < s.size) : FnOk Try.prog 85 [.raw (.string s), .raw (.int .i64 k)] [] (.raw (.int .i64 1)) [] := by
  refine fn_of_swp Try.func85 rfl (by kernel_rfl) (by kernel_rfl) (Nat.le_of_ble_eq_true rfl) Try.results85 ?_
  have e : inB s k 0 127 = true := by
    unfold inB
    have := byteAt_ge s k
    have := ha k hk
    exact decide_eq_true ⟨hk, by omega, by omega⟩
  (refine swp_seqW ?_; simp only [go_sem, Nat.reduceAdd, Nat.reduceMul, Nat.reduceSub, Nat.reduceEqDiff, Nat.reduceDiv, Nat.reduceLT, Nat.reduceLeDiff, reduceCtorEq, decide_true, Int.natCast_add, Int.cast_ofNat_Int, Bool.not_eq_true', Bool.not_eq_false'])
  (refine swp_seqW ?_; simp only [go_sem, Nat.reduceAdd, Nat.reduceMul, Nat.reduceSub, Nat.reduceEqDiff, Nat.reduceDiv, Nat.reduceLT, Nat.reduceLeDiff, reduceCtorEq, decide_true, Int.natCast_add, Int.cast_ofNat_Int, Bool.not_eq_true', Bool.not_eq_false'])
  (refine acall2 [] (in4_ok s k 0 127) (by simp only [go_sem, Nat.reduceAdd, Nat.reduceMul, Nat.reduceSub, Nat.reduceEqDiff, Nat.reduceDiv, Nat.reduceLT, Nat.reduceLeDiff, reduceCtorEq, decide_true, Int.natCast_add, Int.cast_ofNat_Int, Bool.not_eq_true', Bool.not_eq_false']; rfl) (fit_of (by simp only [go_sem, Nat.reduceAdd, Nat.reduceMul, Nat.reduceSub, Nat.reduceEqDiff, Nat.reduceDiv, Nat.reduceLT, Nat.reduceLeDiff, reduceCtorEq, decide_true, Int.natCast_add, Int.cast_ofNat_Int, Bool.not_eq_true', Bool.not_eq_false']) (by simp only [go_sem, Nat.reduceAdd, Nat.reduceMul, Nat.reduceSub, Nat.reduceEqDiff, Nat.reduceDiv, Nat.reduceLT, Nat.reduceLeDiff, reduceCtorEq, decide_true, Int.natCast_add, Int.cast_ofNat_Int, Bool.not_eq_true', Bool.not_eq_false']) (by simp only [go_sem, Nat.reduceAdd, Nat.reduceMul, Nat.reduceSub, Nat.reduceEqDiff, Nat.reduceDiv, Nat.reduceLT, Nat.reduceLeDiff, reduceCtorEq, decide_true, Int.natCast_add, Int.cast_ofNat_Int, Bool.not_eq_true', Bool.not_eq_false']) (by simp only [go_sem, Nat.reduceAdd, Nat.reduceMul, Nat.reduceSub, Nat.reduceEqDiff, Nat.reduceDiv, Nat.reduceLT, Nat.reduceLeDiff, reduceCtorEq, decide_true, Int.natCast_add, Int.cast_ofNat_Int, Bool.not_eq_true', Bool.not_eq_false']) (by simp only [go_sem, Nat.reduceAdd, Nat.reduceMul, Nat.reduceSub, Nat.reduceEqDiff, Nat.reduceDiv, Nat.reduceLT, Nat.reduceLeDiff, reduceCtorEq, decide_true, Int.natCast_add, Int.cast_ofNat_Int, Bool.not_eq_true', Bool.not_eq_false']) (by simp only [go_sem, Nat.reduceAdd, Nat.reduceMul, Nat.reduceSub, Nat.reduceEqDiff, Nat.reduceDiv, Nat.reduceLT, Nat.reduceLeDiff, reduceCtorEq, decide_true, Int.natCast_add, Int.cast_ofNat_Int, Bool.not_eq_true', Bool.not_eq_false']) (by simp only [go_sem, Nat.reduceAdd, Nat.reduceMul, Nat.reduceSub, Nat.reduceEqDiff, Nat.reduceDiv, Nat.reduceLT, Nat.reduceLeDiff, reduceCtorEq, decide_true, Int.natCast_add, Int.cast_ofNat_Int, Bool.not_eq_true', Bool.not_eq_false'])) ?_; simp only [go_sem, Nat.reduceAdd, Nat.reduceMul, Nat.reduceSub, Nat.reduceEqDiff, Nat.reduceDiv, Nat.reduceLT, Nat.reduceLeDiff, reduceCtorEq, decide_true, Int.natCast_add, Int.cast_ofNat_Int, Bool.not_eq_true', Bool.not_eq_false', e])
set_option maxRecDepth 100000 in
theorem rune4_ok (s : ByteArray) (k : Nat) (ha : ascii s) (hk : k < s.size) : FnOk Try.prog 87 [.raw (.string s), .raw (.int .i64 k), .raw (.int .i64 1)] [] (.raw (.int .i32 (byteAt s k))) [] := by
  refine fn_of_swp Try.func87 rfl (by kernel_rfl) (by kernel_rfl) (Nat.le_of_ble_eq_true rfl) Try.results87 ?_
  have h1 := byteAt_ge s k
  have h2 := ha k hk
  have e : IntKind.i32.wrap (byteAt s k) = byteAt s k := IntWalk.i32_in _ ⟨by omega, by omega⟩
  (refine swp_seqW ?_; simp only [go_sem, Nat.reduceAdd, Nat.reduceMul, Nat.reduceSub, Nat.reduceEqDiff, Nat.reduceDiv, Nat.reduceLT, Nat.reduceLeDiff, reduceCtorEq, decide_true, Int.natCast_add, Int.cast_ofNat_Int, Bool.not_eq_true', Bool.not_eq_false'])
  (refine swp_seqW ?_; simp only [go_sem, Nat.reduceAdd, Nat.reduceMul, Nat.reduceSub, Nat.reduceEqDiff, Nat.reduceDiv, Nat.reduceLT, Nat.reduceLeDiff, reduceCtorEq, decide_true, Int.natCast_add, Int.cast_ofNat_Int, Bool.not_eq_true', Bool.not_eq_false', Int.reduceToNat, Int.reduceLT, Int.reduceLE, Int.reduceEq, Int.reduceAdd, Int.reduceSub, Int.reduceMul, Int.reduceNeg, Int.reduceNe, decide_false, Int.cast_ofNat_Int, kSet, List.getElem?_cons_succ, List.getElem?_cons_zero, List.set_cons_succ, List.set_cons_zero, exists_eq_left', forall_const, true_implies])
  exact ⟨by omega, e.symm⟩
structure LTk where
  kind : Int
  sign : Int
  n : Int
  at_ : Int
deriving DecidableEq
def cTk (x : LTk) : List PV := [.raw (.int .i64 x.kind), .raw (.int .i32 x.sign), .raw (.int .i64 x.n), .raw (.int .i64 x.at_)]
attribute [go_sem] cTk
/-- digits from a place on. -/
def numS (s : ByteArray) : Nat → Nat → Int → Nat × Int
  | 0, e, n => (e, n)
  | f + 1, e, n => if inB s e 48 57 = true then numS s f (e + 1) (min (10 * n + (byteAt s e - 48)) 2199023255552) else (e, n)
def tokS (s : ByteArray) : Nat → Nat → Option (List LTk)
  | 0, _ => none
  | f + 1, k => if k < s.size then
      (if byteAt s k = 35 then none
       else if byteAt s k = 32 ∨ byteAt s k = 9 ∨ byteAt s k = 10 then tokS s f (k + 1)
       else if inB s k 48 57 = true then
         (let q := numS s (s.size - k) k 0
          if 1099511627776 < q.2 ∨ byteAt s k = 48 ∧ k + 1 < q.1 then none
          else match tokS s f q.1 with
            | some r => some (⟨2, 0, q.2, k⟩ :: r)
            | none => none)
       else match tokS s f (k + 1) with
         | some r => some (⟨1, byteAt s k, 0, k⟩ :: r)
         | none => none)
    else some []
theorem numS_end (s : ByteArray) : ∀ (f e : Nat) (n : Int), e + f = s.size → (numS s f e n).1 ≤ s.size ∧ e ≤ (numS s f e n).1
  | 0, e, n, h => ⟨by simp only [numS]; omega, by simp only [numS]; omega⟩
  | f + 1, e, n, h => by
    simp only [numS]
    split
    · have := numS_end s f (e + 1) (min (10 * n + (byteAt s e - 48)) 2199023255552) (by omega)
      omega
    · simp only; omega
structure LTz where
  k : Nat
  acc : List LTk
structure TokInv (s : ByteArray) (toks : List LTk) (z : LTz) : Prop where
  le : z.k ≤ s.size
  len : z.acc.length ≤ z.k
  ex : ∃ f rest, tokS s f z.k = some rest ∧ z.acc ++ rest = toks
inductive TokWay (s : ByteArray) (toks acc : List LTk) (k : Nat) : Prop
  | space (h : byteAt s k = 32 ∨ byteAt s k = 9 ∨ byteAt s k = 10) (hi : TokInv s toks ⟨k + 1, acc⟩)
  | sign (h : ¬ (byteAt s k = 32 ∨ byteAt s k = 9 ∨ byteAt s k = 10)) (hd : inB s k 48 57 = false) (hi : TokInv s toks ⟨k + 1, acc ++ [⟨1, byteAt s k, 0, k⟩]⟩)
  | num (h : ¬ (byteAt s k = 32 ∨ byteAt s k = 9 ∨ byteAt s k = 10)) (hd : inB s k 48 57 = true) (hn : ¬ (1099511627776 < (numS s (s.size - k) k 0).2 ∨ byteAt s k = 48 ∧ k + 1 < (numS s (s.size - k) k 0).1)) (hg : k < (numS s (s.size - k) k 0).1) (hi : TokInv s toks ⟨(numS s (s.size - k) k 0).1, acc ++ [⟨2, 0, (numS s (s.size - k) k 0).2, k⟩]⟩)
theorem numS_fwd (s : ByteArray) {f e : Nat} {n : Int} (h : e + f = s.size) (hd : inB s e 48 57 = true) : e < (numS s f e n).1 := by
  cases f with
  | zero =>
    have : e < s.size := (of_decide_eq_true hd).1
    omega
  | succ f =>
    simp only [numS]
    rw [if_pos hd]
    have := numS_end s f (e + 1) (min (10 * n + (byteAt s e - 48)) 2199023255552) (by omega)
    omega
theorem tok_way {s : ByteArray} {toks acc : List LTk} {k : Nat} (hk : k < s.size) (h : TokInv s toks ⟨k, acc⟩) : byteAt s k ≠ 35 ∧ TokWay s toks acc k := by
  obtain ⟨h1, h2, f, rest, h3, h4⟩ := h
  simp only at h1 h2 h3 h4
  cases f with
  | zero => simp [tokS] at h3
  | succ f =>
    simp only [tokS] at h3
    rw [if_pos hk] at h3
    split at h3
    · cases h3
    · next h35 =>
      refine ⟨h35, ?_⟩
      split at h3
      · next hs => exact .space hs ⟨hk, by simp only; omega, f, rest, h3, h4⟩
      · next hs =>
        split at h3
        · next hd =>
          split at h3
          · cases h3
          · next hn =>
            have hfw := numS_fwd s (f := s.size - k) (n := 0) (by omega) hd
            have hen := numS_end s (s.size - k) k 0 (by omega)
            split at h3
            · next r hr =>
              injection h3 with h3
              subst h3
              exact .num hs hd hn hfw ⟨hen.1, by simp; omega, f, r, hr, by rw [← h4]; simp⟩
            · cases h3
        · next hd =>
          split at h3
          · next r hr =>
            injection h3 with h3
            subst h3
            exact .sign hs (by simpa using hd) ⟨hk, by simp; omega, f, r, hr, by rw [← h4]; simp⟩
          · cases h3
theorem tok_end {s : ByteArray} {toks acc : List LTk} {k : Nat} (hk : ¬ k < s.size) (h : TokInv s toks ⟨k, acc⟩) : acc = toks := by
  obtain ⟨h1, h2, f, rest, h3, h4⟩ := h
  simp only at h3 h4
  cases f with
  | zero => simp [tokS] at h3
  | succ f =>
    simp only [tokS] at h3
    rw [if_neg hk] at h3
    injection h3 with h3
    subst h3
    simpa using h4
set_option maxRecDepth 100000 in
set_option maxHeartbeats 4000000 in
theorem tok4_ok (s : ByteArray) (toks : List LTk) (ha : ascii s) (hs : s.size ≤ 1000) (h : tokS s (s.size + 1) 0 = some toks) : FnOk Try.prog 68 [.raw (.string s)] [] (.tup [.hdr 8, .raw (.int .i64 0), .raw (.int .i64 0)]) [(8, .row 103 4 (toks.map cTk))] := by
  refine fn_of_swp Try.func68 rfl (by kernel_rfl) (by kernel_rfl) (Nat.le_of_ble_eq_true rfl) Try.results68 ?_
  (refine swp_seqW ?_; simp only [go_sem, Nat.reduceAdd, Nat.reduceMul, Nat.reduceSub, Nat.reduceEqDiff, Nat.reduceDiv, Nat.reduceLT, Nat.reduceLeDiff, reduceCtorEq, decide_true, Int.natCast_add, Int.cast_ofNat_Int, Bool.not_eq_true', Bool.not_eq_false'])
  (refine swp_seqW ?_; simp only [go_sem, Nat.reduceAdd, Nat.reduceMul, Nat.reduceSub, Nat.reduceEqDiff, Nat.reduceDiv, Nat.reduceLT, Nat.reduceLeDiff, reduceCtorEq, decide_true, Int.natCast_add, Int.cast_ofNat_Int, Bool.not_eq_true', Bool.not_eq_false'])
  (refine swp_seqW ?_; simp only [go_sem, Nat.reduceAdd, Nat.reduceMul, Nat.reduceSub, Nat.reduceEqDiff, Nat.reduceDiv, Nat.reduceLT, Nat.reduceLeDiff, reduceCtorEq, decide_true, Int.natCast_add, Int.cast_ofNat_Int, Bool.not_eq_true', Bool.not_eq_false'])
  refine swp_seqS ?_
  (refine swp_seqW ?_; simp only [go_sem, Nat.reduceAdd, Nat.reduceMul, Nat.reduceSub, Nat.reduceEqDiff, Nat.reduceDiv, Nat.reduceLT, Nat.reduceLeDiff, reduceCtorEq, decide_true, Int.natCast_add, Int.cast_ofNat_Int, Bool.not_eq_true', Bool.not_eq_false'])
  refine swp_block ?_
  refine swp_loop2 [] (fun z : LTz => ⟨[(0, .raw (.string s)), (5, .hdr 8), (6, .raw (.int .i64 0)), (7, .raw (.int .i64 z.k))], [(8, some (.row 103 4 (z.acc.map cTk)))], none⟩) (TokInv s toks) (fun z => s.size - z.k) 4 ⟨0, []⟩ (by simp only [go_sem, Nat.reduceAdd, Nat.reduceMul, Nat.reduceSub, Nat.reduceEqDiff, Nat.reduceDiv, Nat.reduceLT, Nat.reduceLeDiff, reduceCtorEq, decide_true, Int.natCast_add, Int.cast_ofNat_Int, Bool.not_eq_true', Bool.not_eq_false']; rfl) (by simp only [go_sem, Nat.reduceAdd, Nat.reduceMul, Nat.reduceSub, Nat.reduceEqDiff, Nat.reduceDiv, Nat.reduceLT, Nat.reduceLeDiff, reduceCtorEq, decide_true, Int.natCast_add, Int.cast_ofNat_Int, Bool.not_eq_true', Bool.not_eq_false']) ?_ ?_
  · exact ⟨Nat.zero_le _, Nat.le_refl _, _, _, h, rfl⟩
  · rintro ⟨k, acc⟩ hi
    have hi1 := hi.le
    have hi2 := hi.len
    simp only at hi1 hi2
    (refine swp_seqW ?_; simp only [go_sem, Nat.reduceAdd, Nat.reduceMul, Nat.reduceSub, Nat.reduceEqDiff, Nat.reduceDiv, Nat.reduceLT, Nat.reduceLeDiff, reduceCtorEq, decide_true, Int.natCast_add, Int.cast_ofNat_Int, Bool.not_eq_true', Bool.not_eq_false', List.length_map])
    refine ⟨fun h5 => ?_, fun h5 => ?_⟩
    · have hk : k < s.size := by omega
      obtain ⟨h35, hw⟩ := tok_way hk hi
      clear hi h
      refine swp_block ?_
      (refine swp_seqW ?_; simp only [go_sem, Nat.reduceAdd, Nat.reduceMul, Nat.reduceSub, Nat.reduceEqDiff, Nat.reduceDiv, Nat.reduceLT, Nat.reduceLeDiff, reduceCtorEq, decide_true, Int.natCast_add, Int.cast_ofNat_Int, Bool.not_eq_true', Bool.not_eq_false'])
      (refine acall2 [] (size4_ok s k ha hk) (by simp only [go_sem, Nat.reduceAdd, Nat.reduceMul, Nat.reduceSub, Nat.reduceEqDiff, Nat.reduceDiv, Nat.reduceLT, Nat.reduceLeDiff, reduceCtorEq, decide_true, Int.natCast_add, Int.cast_ofNat_Int, Bool.not_eq_true', Bool.not_eq_false']; rfl) (fit_of (by simp only [go_sem, Nat.reduceAdd, Nat.reduceMul, Nat.reduceSub, Nat.reduceEqDiff, Nat.reduceDiv, Nat.reduceLT, Nat.reduceLeDiff, reduceCtorEq, decide_true, Int.natCast_add, Int.cast_ofNat_Int, Bool.not_eq_true', Bool.not_eq_false']) (by simp only [go_sem, Nat.reduceAdd, Nat.reduceMul, Nat.reduceSub, Nat.reduceEqDiff, Nat.reduceDiv, Nat.reduceLT, Nat.reduceLeDiff, reduceCtorEq, decide_true, Int.natCast_add, Int.cast_ofNat_Int, Bool.not_eq_true', Bool.not_eq_false']) (by simp only [go_sem, Nat.reduceAdd, Nat.reduceMul, Nat.reduceSub, Nat.reduceEqDiff, Nat.reduceDiv, Nat.reduceLT, Nat.reduceLeDiff, reduceCtorEq, decide_true, Int.natCast_add, Int.cast_ofNat_Int, Bool.not_eq_true', Bool.not_eq_false']) (by simp only [go_sem, Nat.reduceAdd, Nat.reduceMul, Nat.reduceSub, Nat.reduceEqDiff, Nat.reduceDiv, Nat.reduceLT, Nat.reduceLeDiff, reduceCtorEq, decide_true, Int.natCast_add, Int.cast_ofNat_Int, Bool.not_eq_true', Bool.not_eq_false']) (by simp only [go_sem, Nat.reduceAdd, Nat.reduceMul, Nat.reduceSub, Nat.reduceEqDiff, Nat.reduceDiv, Nat.reduceLT, Nat.reduceLeDiff, reduceCtorEq, decide_true, Int.natCast_add, Int.cast_ofNat_Int, Bool.not_eq_true', Bool.not_eq_false']) (by simp only [go_sem, Nat.reduceAdd, Nat.reduceMul, Nat.reduceSub, Nat.reduceEqDiff, Nat.reduceDiv, Nat.reduceLT, Nat.reduceLeDiff, reduceCtorEq, decide_true, Int.natCast_add, Int.cast_ofNat_Int, Bool.not_eq_true', Bool.not_eq_false']) (by simp only [go_sem, Nat.reduceAdd, Nat.reduceMul, Nat.reduceSub, Nat.reduceEqDiff, Nat.reduceDiv, Nat.reduceLT, Nat.reduceLeDiff, reduceCtorEq, decide_true, Int.natCast_add, Int.cast_ofNat_Int, Bool.not_eq_true', Bool.not_eq_false'])) ?_; simp only [go_sem, Nat.reduceAdd, Nat.reduceMul, Nat.reduceSub, Nat.reduceEqDiff, Nat.reduceDiv, Nat.reduceLT, Nat.reduceLeDiff, reduceCtorEq, decide_true, Int.natCast_add, Int.cast_ofNat_Int, Bool.not_eq_true', Bool.not_eq_false'])
      (refine swp_seqW ?_; simp only [go_sem, Nat.reduceAdd, Nat.reduceMul, Nat.reduceSub, Nat.reduceEqDiff, Nat.reduceDiv, Nat.reduceLT, Nat.reduceLeDiff, reduceCtorEq, decide_true, Int.natCast_add, Int.cast_ofNat_Int, Bool.not_eq_true', Bool.not_eq_false', Int.reduceToNat, Int.reduceLT, Int.reduceLE, Int.reduceEq, Int.reduceAdd, Int.reduceSub, Int.reduceMul, Int.reduceNeg, Int.reduceNe, decide_false, Int.cast_ofNat_Int, kSet, List.getElem?_cons_succ, List.getElem?_cons_zero, List.set_cons_succ, List.set_cons_zero, exists_eq_left', forall_const, true_implies])
      (refine swp_seqW ?_; simp only [go_sem, Nat.reduceAdd, Nat.reduceMul, Nat.reduceSub, Nat.reduceEqDiff, Nat.reduceDiv, Nat.reduceLT, Nat.reduceLeDiff, reduceCtorEq, decide_true, Int.natCast_add, Int.cast_ofNat_Int, Bool.not_eq_true', Bool.not_eq_false'])
      refine ⟨by omega, ?_⟩
      (refine swp_seqW ?_; simp only [go_sem, Nat.reduceAdd, Nat.reduceMul, Nat.reduceSub, Nat.reduceEqDiff, Nat.reduceDiv, Nat.reduceLT, Nat.reduceLeDiff, reduceCtorEq, decide_true, Int.natCast_add, Int.cast_ofNat_Int, Bool.not_eq_true', Bool.not_eq_false', Int.reduceToNat, Int.reduceLT, Int.reduceLE, Int.reduceEq, Int.reduceAdd, Int.reduceSub, Int.reduceMul, Int.reduceNeg, Int.reduceNe, decide_false, Int.cast_ofNat_Int, kSet, List.getElem?_cons_succ, List.getElem?_cons_zero, List.set_cons_succ, List.set_cons_zero, exists_eq_left', forall_const, true_implies])
      (refine swp_seqW ?_; simp only [go_sem, Nat.reduceAdd, Nat.reduceMul, Nat.reduceSub, Nat.reduceEqDiff, Nat.reduceDiv, Nat.reduceLT, Nat.reduceLeDiff, reduceCtorEq, decide_true, Int.natCast_add, Int.cast_ofNat_Int, Bool.not_eq_true', Bool.not_eq_false', h35])
      have hc0 := byteAt_ge s k
      have hc1 := ha k hk
      rcases hw with ⟨hsp, hi⟩ | ⟨hsp, hd, hi⟩ | ⟨hsp, hd, hn, hg, hi⟩
      · (refine swp_lastW ?_; simp only [go_sem, Nat.reduceAdd, Nat.reduceMul, Nat.reduceSub, Nat.reduceEqDiff, Nat.reduceDiv, Nat.reduceLT, Nat.reduceLeDiff, reduceCtorEq, decide_true, Int.natCast_add, Int.cast_ofNat_Int, Bool.not_eq_true', Bool.not_eq_false', h35])
        repeat' first | contradiction | intro _ | refine And.intro ?_ ?_ | refine ex_get (by omega) ?_ | (show drawB _ _ = true; kernel_rfl) | (refine ret2 [] (by simp only [go_sem, Nat.reduceAdd, Nat.reduceMul, Nat.reduceSub, Nat.reduceEqDiff, Nat.reduceDiv, Nat.reduceLT, Nat.reduceLeDiff, reduceCtorEq, decide_true, Int.natCast_add, Int.cast_ofNat_Int, Bool.not_eq_true', Bool.not_eq_false']; rfl) ?_; simp only [go_sem, Nat.reduceAdd, Nat.reduceMul, Nat.reduceSub, Nat.reduceEqDiff, Nat.reduceDiv, Nat.reduceLT, Nat.reduceLeDiff, reduceCtorEq, decide_true, Int.natCast_add, Int.cast_ofNat_Int, Bool.not_eq_true', Bool.not_eq_false'])
        all_goals first
          | omega
          | ((refine loop_end [] (⟨k + 1, acc⟩) (by simp only [go_sem, Nat.reduceAdd, Nat.reduceMul, Nat.reduceSub, Nat.reduceEqDiff, Nat.reduceDiv, Nat.reduceLT, Nat.reduceLeDiff, reduceCtorEq, decide_true, Int.natCast_add, Int.cast_ofNat_Int, Bool.not_eq_true', Bool.not_eq_false']; rfl) ?_ ?_ ?_; (focus first | omega | (simp only; omega)); (focus (simp only [go_sem, Nat.reduceAdd, Nat.reduceMul, Nat.reduceSub, Nat.reduceEqDiff, Nat.reduceDiv, Nat.reduceLT, Nat.reduceLeDiff, reduceCtorEq, decide_true, Int.natCast_add, Int.cast_ofNat_Int, Bool.not_eq_true', Bool.not_eq_false']; done)))
             exact hi)
          | (exfalso; omega)
          | skip
      · refine swp_cutW (fun _ : Unit => ⟨[(0, .raw (.string s)), (5, .hdr 8), (6, .raw (.int .i64 0)), (7, .raw (.int .i64 k)), (8, .raw (.int .i64 1))], [(8, some (.row 103 4 (acc.map cTk)))], none⟩) (fun _ => True) 4 ?_ ?_
        · simp only [go_sem, Nat.reduceAdd, Nat.reduceMul, Nat.reduceSub, Nat.reduceEqDiff, Nat.reduceDiv, Nat.reduceLT, Nat.reduceLeDiff, reduceCtorEq, decide_true, Int.natCast_add, Int.cast_ofNat_Int, Bool.not_eq_true', Bool.not_eq_false', h35]
          repeat' first | contradiction | intro _ | refine And.intro ?_ ?_ | refine ex_get (by omega) ?_ | (show drawB _ _ = true; kernel_rfl) | (refine ret2 [] (by simp only [go_sem, Nat.reduceAdd, Nat.reduceMul, Nat.reduceSub, Nat.reduceEqDiff, Nat.reduceDiv, Nat.reduceLT, Nat.reduceLeDiff, reduceCtorEq, decide_true, Int.natCast_add, Int.cast_ofNat_Int, Bool.not_eq_true', Bool.not_eq_false']; rfl) ?_; simp only [go_sem, Nat.reduceAdd, Nat.reduceMul, Nat.reduceSub, Nat.reduceEqDiff, Nat.reduceDiv, Nat.reduceLT, Nat.reduceLeDiff, reduceCtorEq, decide_true, Int.natCast_add, Int.cast_ofNat_Int, Bool.not_eq_true', Bool.not_eq_false'])
          all_goals first
            | omega
            | ((refine cut_end [] (()) (by simp only [go_sem, Nat.reduceAdd, Nat.reduceMul, Nat.reduceSub, Nat.reduceEqDiff, Nat.reduceDiv, Nat.reduceLT, Nat.reduceLeDiff, reduceCtorEq, decide_true, Int.natCast_add, Int.cast_ofNat_Int, Bool.not_eq_true', Bool.not_eq_false']; rfl) ?_ ?_; (focus (simp only [go_sem, Nat.reduceAdd, Nat.reduceMul, Nat.reduceSub, Nat.reduceEqDiff, Nat.reduceDiv, Nat.reduceLT, Nat.reduceLeDiff, reduceCtorEq, decide_true, Int.natCast_add, Int.cast_ofNat_Int, Bool.not_eq_true', Bool.not_eq_false']; done)))
               trivial)
            | skip
        rintro - -
        (refine swp_lastW ?_; simp only [go_sem, Nat.reduceAdd, Nat.reduceMul, Nat.reduceSub, Nat.reduceEqDiff, Nat.reduceDiv, Nat.reduceLT, Nat.reduceLeDiff, reduceCtorEq, decide_true, Int.natCast_add, Int.cast_ofNat_Int, Bool.not_eq_true', Bool.not_eq_false'])
        (refine acall2 [] (in4_ok s k 48 57) (by simp only [go_sem, Nat.reduceAdd, Nat.reduceMul, Nat.reduceSub, Nat.reduceEqDiff, Nat.reduceDiv, Nat.reduceLT, Nat.reduceLeDiff, reduceCtorEq, decide_true, Int.natCast_add, Int.cast_ofNat_Int, Bool.not_eq_true', Bool.not_eq_false']; rfl) (fit_of (by simp only [go_sem, Nat.reduceAdd, Nat.reduceMul, Nat.reduceSub, Nat.reduceEqDiff, Nat.reduceDiv, Nat.reduceLT, Nat.reduceLeDiff, reduceCtorEq, decide_true, Int.natCast_add, Int.cast_ofNat_Int, Bool.not_eq_true', Bool.not_eq_false']) (by simp only [go_sem, Nat.reduceAdd, Nat.reduceMul, Nat.reduceSub, Nat.reduceEqDiff, Nat.reduceDiv, Nat.reduceLT, Nat.reduceLeDiff, reduceCtorEq, decide_true, Int.natCast_add, Int.cast_ofNat_Int, Bool.not_eq_true', Bool.not_eq_false']) (by simp only [go_sem, Nat.reduceAdd, Nat.reduceMul, Nat.reduceSub, Nat.reduceEqDiff, Nat.reduceDiv, Nat.reduceLT, Nat.reduceLeDiff, reduceCtorEq, decide_true, Int.natCast_add, Int.cast_ofNat_Int, Bool.not_eq_true', Bool.not_eq_false']) (by simp only [go_sem, Nat.reduceAdd, Nat.reduceMul, Nat.reduceSub, Nat.reduceEqDiff, Nat.reduceDiv, Nat.reduceLT, Nat.reduceLeDiff, reduceCtorEq, decide_true, Int.natCast_add, Int.cast_ofNat_Int, Bool.not_eq_true', Bool.not_eq_false']) (by simp only [go_sem, Nat.reduceAdd, Nat.reduceMul, Nat.reduceSub, Nat.reduceEqDiff, Nat.reduceDiv, Nat.reduceLT, Nat.reduceLeDiff, reduceCtorEq, decide_true, Int.natCast_add, Int.cast_ofNat_Int, Bool.not_eq_true', Bool.not_eq_false']) (by simp only [go_sem, Nat.reduceAdd, Nat.reduceMul, Nat.reduceSub, Nat.reduceEqDiff, Nat.reduceDiv, Nat.reduceLT, Nat.reduceLeDiff, reduceCtorEq, decide_true, Int.natCast_add, Int.cast_ofNat_Int, Bool.not_eq_true', Bool.not_eq_false']) (by simp only [go_sem, Nat.reduceAdd, Nat.reduceMul, Nat.reduceSub, Nat.reduceEqDiff, Nat.reduceDiv, Nat.reduceLT, Nat.reduceLeDiff, reduceCtorEq, decide_true, Int.natCast_add, Int.cast_ofNat_Int, Bool.not_eq_true', Bool.not_eq_false'])) ?_; simp only [go_sem, Nat.reduceAdd, Nat.reduceMul, Nat.reduceSub, Nat.reduceEqDiff, Nat.reduceDiv, Nat.reduceLT, Nat.reduceLeDiff, reduceCtorEq, decide_true, Int.natCast_add, Int.cast_ofNat_Int, Bool.not_eq_true', Bool.not_eq_false', hd])
        (refine acall2 [] (rune4_ok s k ha hk) (by simp only [go_sem, Nat.reduceAdd, Nat.reduceMul, Nat.reduceSub, Nat.reduceEqDiff, Nat.reduceDiv, Nat.reduceLT, Nat.reduceLeDiff, reduceCtorEq, decide_true, Int.natCast_add, Int.cast_ofNat_Int, Bool.not_eq_true', Bool.not_eq_false']; rfl) (fit_of (by simp only [go_sem, Nat.reduceAdd, Nat.reduceMul, Nat.reduceSub, Nat.reduceEqDiff, Nat.reduceDiv, Nat.reduceLT, Nat.reduceLeDiff, reduceCtorEq, decide_true, Int.natCast_add, Int.cast_ofNat_Int, Bool.not_eq_true', Bool.not_eq_false']) (by simp only [go_sem, Nat.reduceAdd, Nat.reduceMul, Nat.reduceSub, Nat.reduceEqDiff, Nat.reduceDiv, Nat.reduceLT, Nat.reduceLeDiff, reduceCtorEq, decide_true, Int.natCast_add, Int.cast_ofNat_Int, Bool.not_eq_true', Bool.not_eq_false']) (by simp only [go_sem, Nat.reduceAdd, Nat.reduceMul, Nat.reduceSub, Nat.reduceEqDiff, Nat.reduceDiv, Nat.reduceLT, Nat.reduceLeDiff, reduceCtorEq, decide_true, Int.natCast_add, Int.cast_ofNat_Int, Bool.not_eq_true', Bool.not_eq_false']) (by simp only [go_sem, Nat.reduceAdd, Nat.reduceMul, Nat.reduceSub, Nat.reduceEqDiff, Nat.reduceDiv, Nat.reduceLT, Nat.reduceLeDiff, reduceCtorEq, decide_true, Int.natCast_add, Int.cast_ofNat_Int, Bool.not_eq_true', Bool.not_eq_false']) (by simp only [go_sem, Nat.reduceAdd, Nat.reduceMul, Nat.reduceSub, Nat.reduceEqDiff, Nat.reduceDiv, Nat.reduceLT, Nat.reduceLeDiff, reduceCtorEq, decide_true, Int.natCast_add, Int.cast_ofNat_Int, Bool.not_eq_true', Bool.not_eq_false']) (by simp only [go_sem, Nat.reduceAdd, Nat.reduceMul, Nat.reduceSub, Nat.reduceEqDiff, Nat.reduceDiv, Nat.reduceLT, Nat.reduceLeDiff, reduceCtorEq, decide_true, Int.natCast_add, Int.cast_ofNat_Int, Bool.not_eq_true', Bool.not_eq_false']) (by simp only [go_sem, Nat.reduceAdd, Nat.reduceMul, Nat.reduceSub, Nat.reduceEqDiff, Nat.reduceDiv, Nat.reduceLT, Nat.reduceLeDiff, reduceCtorEq, decide_true, Int.natCast_add, Int.cast_ofNat_Int, Bool.not_eq_true', Bool.not_eq_false'])) ?_; simp only [go_sem, Nat.reduceAdd, Nat.reduceMul, Nat.reduceSub, Nat.reduceEqDiff, Nat.reduceDiv, Nat.reduceLT, Nat.reduceLeDiff, reduceCtorEq, decide_true, Int.natCast_add, Int.cast_ofNat_Int, Bool.not_eq_true', Bool.not_eq_false'])
        refine ⟨⟨by omega, by omega⟩, ⟨by omega, by omega⟩, ?_⟩
        (refine loop_end [] (⟨k + 1, acc ++ [⟨1, byteAt s k, 0, k⟩]⟩) (by simp only [go_sem, Nat.reduceAdd, Nat.reduceMul, Nat.reduceSub, Nat.reduceEqDiff, Nat.reduceDiv, Nat.reduceLT, Nat.reduceLeDiff, reduceCtorEq, decide_true, Int.natCast_add, Int.cast_ofNat_Int, Bool.not_eq_true', Bool.not_eq_false']; rfl) ?_ ?_ ?_; (focus first | omega | (simp only; omega)); (focus (simp only [go_sem, Nat.reduceAdd, Nat.reduceMul, Nat.reduceSub, Nat.reduceEqDiff, Nat.reduceDiv, Nat.reduceLT, Nat.reduceLeDiff, reduceCtorEq, decide_true, Int.natCast_add, Int.cast_ofNat_Int, Bool.not_eq_true', Bool.not_eq_false', List.map_append]; done)))
        exact hi
      · refine swp_cutW (fun _ : Unit => ⟨[(0, .raw (.string s)), (5, .hdr 8), (6, .raw (.int .i64 0)), (7, .raw (.int .i64 k)), (8, .raw (.int .i64 1)), (9, .raw (.int .u8 (byteAt s k)))], [(8, some (.row 103 4 (acc.map cTk)))], none⟩) (fun _ => True) 4 ?_ ?_
        · simp only [go_sem, Nat.reduceAdd, Nat.reduceMul, Nat.reduceSub, Nat.reduceEqDiff, Nat.reduceDiv, Nat.reduceLT, Nat.reduceLeDiff, reduceCtorEq, decide_true, Int.natCast_add, Int.cast_ofNat_Int, Bool.not_eq_true', Bool.not_eq_false', h35]
          repeat' first | contradiction | intro _ | refine And.intro ?_ ?_ | refine ex_get (by omega) ?_ | (show drawB _ _ = true; kernel_rfl) | (refine ret2 [] (by simp only [go_sem, Nat.reduceAdd, Nat.reduceMul, Nat.reduceSub, Nat.reduceEqDiff, Nat.reduceDiv, Nat.reduceLT, Nat.reduceLeDiff, reduceCtorEq, decide_true, Int.natCast_add, Int.cast_ofNat_Int, Bool.not_eq_true', Bool.not_eq_false']; rfl) ?_; simp only [go_sem, Nat.reduceAdd, Nat.reduceMul, Nat.reduceSub, Nat.reduceEqDiff, Nat.reduceDiv, Nat.reduceLT, Nat.reduceLeDiff, reduceCtorEq, decide_true, Int.natCast_add, Int.cast_ofNat_Int, Bool.not_eq_true', Bool.not_eq_false'])
          all_goals first
            | omega
            | ((refine cut_end [] (()) (by simp only [go_sem, Nat.reduceAdd, Nat.reduceMul, Nat.reduceSub, Nat.reduceEqDiff, Nat.reduceDiv, Nat.reduceLT, Nat.reduceLeDiff, reduceCtorEq, decide_true, Int.natCast_add, Int.cast_ofNat_Int, Bool.not_eq_true', Bool.not_eq_false']; rfl) ?_ ?_; (focus (simp only [go_sem, Nat.reduceAdd, Nat.reduceMul, Nat.reduceSub, Nat.reduceEqDiff, Nat.reduceDiv, Nat.reduceLT, Nat.reduceLeDiff, reduceCtorEq, decide_true, Int.natCast_add, Int.cast_ofNat_Int, Bool.not_eq_true', Bool.not_eq_false']; done)))
               trivial)
        rintro - -
        (refine swp_seqW ?_; simp only [go_sem, Nat.reduceAdd, Nat.reduceMul, Nat.reduceSub, Nat.reduceEqDiff, Nat.reduceDiv, Nat.reduceLT, Nat.reduceLeDiff, reduceCtorEq, decide_true, Int.natCast_add, Int.cast_ofNat_Int, Bool.not_eq_true', Bool.not_eq_false'])
        (refine acall2 [] (in4_ok s k 48 57) (by simp only [go_sem, Nat.reduceAdd, Nat.reduceMul, Nat.reduceSub, Nat.reduceEqDiff, Nat.reduceDiv, Nat.reduceLT, Nat.reduceLeDiff, reduceCtorEq, decide_true, Int.natCast_add, Int.cast_ofNat_Int, Bool.not_eq_true', Bool.not_eq_false']; rfl) (fit_of (by simp only [go_sem, Nat.reduceAdd, Nat.reduceMul, Nat.reduceSub, Nat.reduceEqDiff, Nat.reduceDiv, Nat.reduceLT, Nat.reduceLeDiff, reduceCtorEq, decide_true, Int.natCast_add, Int.cast_ofNat_Int, Bool.not_eq_true', Bool.not_eq_false']) (by simp only [go_sem, Nat.reduceAdd, Nat.reduceMul, Nat.reduceSub, Nat.reduceEqDiff, Nat.reduceDiv, Nat.reduceLT, Nat.reduceLeDiff, reduceCtorEq, decide_true, Int.natCast_add, Int.cast_ofNat_Int, Bool.not_eq_true', Bool.not_eq_false']) (by simp only [go_sem, Nat.reduceAdd, Nat.reduceMul, Nat.reduceSub, Nat.reduceEqDiff, Nat.reduceDiv, Nat.reduceLT, Nat.reduceLeDiff, reduceCtorEq, decide_true, Int.natCast_add, Int.cast_ofNat_Int, Bool.not_eq_true', Bool.not_eq_false']) (by simp only [go_sem, Nat.reduceAdd, Nat.reduceMul, Nat.reduceSub, Nat.reduceEqDiff, Nat.reduceDiv, Nat.reduceLT, Nat.reduceLeDiff, reduceCtorEq, decide_true, Int.natCast_add, Int.cast_ofNat_Int, Bool.not_eq_true', Bool.not_eq_false']) (by simp only [go_sem, Nat.reduceAdd, Nat.reduceMul, Nat.reduceSub, Nat.reduceEqDiff, Nat.reduceDiv, Nat.reduceLT, Nat.reduceLeDiff, reduceCtorEq, decide_true, Int.natCast_add, Int.cast_ofNat_Int, Bool.not_eq_true', Bool.not_eq_false']) (by simp only [go_sem, Nat.reduceAdd, Nat.reduceMul, Nat.reduceSub, Nat.reduceEqDiff, Nat.reduceDiv, Nat.reduceLT, Nat.reduceLeDiff, reduceCtorEq, decide_true, Int.natCast_add, Int.cast_ofNat_Int, Bool.not_eq_true', Bool.not_eq_false']) (by simp only [go_sem, Nat.reduceAdd, Nat.reduceMul, Nat.reduceSub, Nat.reduceEqDiff, Nat.reduceDiv, Nat.reduceLT, Nat.reduceLeDiff, reduceCtorEq, decide_true, Int.natCast_add, Int.cast_ofNat_Int, Bool.not_eq_true', Bool.not_eq_false'])) ?_; simp only [go_sem, Nat.reduceAdd, Nat.reduceMul, Nat.reduceSub, Nat.reduceEqDiff, Nat.reduceDiv, Nat.reduceLT, Nat.reduceLeDiff, reduceCtorEq, decide_true, Int.natCast_add, Int.cast_ofNat_Int, Bool.not_eq_true', Bool.not_eq_false', hd])
        (refine swp_seqW ?_; simp only [go_sem, Nat.reduceAdd, Nat.reduceMul, Nat.reduceSub, Nat.reduceEqDiff, Nat.reduceDiv, Nat.reduceLT, Nat.reduceLeDiff, reduceCtorEq, decide_true, Int.natCast_add, Int.cast_ofNat_Int, Bool.not_eq_true', Bool.not_eq_false'])
        refine swp_cutS (fun _ : Unit => ⟨[(0, .raw (.string s)), (5, .hdr 8), (6, .raw (.int .i64 0)), (7, .raw (.int .i64 k)), (9, .raw (.int .u8 (byteAt s k))), (10, .raw (.int .i64 (numS s (s.size - k) k 0).2)), (11, .raw (.int .i64 (numS s (s.size - k) k 0).1))], [(8, some (.row 103 4 (acc.map cTk)))], none⟩) (fun _ => True) 4 ?_ ?_
        · refine swp_block ?_
          refine swp_loop2 [] (fun z : KY Int => ⟨[(0, .raw (.string s)), (5, .hdr 8), (6, .raw (.int .i64 0)), (7, .raw (.int .i64 k)), (9, .raw (.int .u8 (byteAt s k))), (10, .raw (.int .i64 z.o)), (11, .raw (.int .i64 z.k))], [(8, some (.row 103 4 (acc.map cTk)))], none⟩) (fun z => z.k ≤ s.size ∧ 0 ≤ z.o ∧ z.o ≤ 2199023255552 ∧ numS s (s.size - z.k) z.k z.o = numS s (s.size - k) k 0) (fun z => s.size - z.k) 4 ⟨k, 0⟩ (by simp only [go_sem, Nat.reduceAdd, Nat.reduceMul, Nat.reduceSub, Nat.reduceEqDiff, Nat.reduceDiv, Nat.reduceLT, Nat.reduceLeDiff, reduceCtorEq, decide_true, Int.natCast_add, Int.cast_ofNat_Int, Bool.not_eq_true', Bool.not_eq_false']; rfl) (by simp only [go_sem, Nat.reduceAdd, Nat.reduceMul, Nat.reduceSub, Nat.reduceEqDiff, Nat.reduceDiv, Nat.reduceLT, Nat.reduceLeDiff, reduceCtorEq, decide_true, Int.natCast_add, Int.cast_ofNat_Int, Bool.not_eq_true', Bool.not_eq_false']) ?_ ?_
          · exact ⟨by show k ≤ s.size; omega, by simp, by simp, rfl⟩
          · rintro ⟨e, n⟩ ⟨q1, q2, q3, q4⟩
            simp only at q1 q2 q3 q4
            (refine swp_lastW ?_; simp only [go_sem, Nat.reduceAdd, Nat.reduceMul, Nat.reduceSub, Nat.reduceEqDiff, Nat.reduceDiv, Nat.reduceLT, Nat.reduceLeDiff, reduceCtorEq, decide_true, Int.natCast_add, Int.cast_ofNat_Int, Bool.not_eq_true', Bool.not_eq_false'])
            (refine acall2 [] (in4_ok s e 48 57) (by simp only [go_sem, Nat.reduceAdd, Nat.reduceMul, Nat.reduceSub, Nat.reduceEqDiff, Nat.reduceDiv, Nat.reduceLT, Nat.reduceLeDiff, reduceCtorEq, decide_true, Int.natCast_add, Int.cast_ofNat_Int, Bool.not_eq_true', Bool.not_eq_false']; rfl) (fit_of (by simp only [go_sem, Nat.reduceAdd, Nat.reduceMul, Nat.reduceSub, Nat.reduceEqDiff, Nat.reduceDiv, Nat.reduceLT, Nat.reduceLeDiff, reduceCtorEq, decide_true, Int.natCast_add, Int.cast_ofNat_Int, Bool.not_eq_true', Bool.not_eq_false']) (by simp only [go_sem, Nat.reduceAdd, Nat.reduceMul, Nat.reduceSub, Nat.reduceEqDiff, Nat.reduceDiv, Nat.reduceLT, Nat.reduceLeDiff, reduceCtorEq, decide_true, Int.natCast_add, Int.cast_ofNat_Int, Bool.not_eq_true', Bool.not_eq_false']) (by simp only [go_sem, Nat.reduceAdd, Nat.reduceMul, Nat.reduceSub, Nat.reduceEqDiff, Nat.reduceDiv, Nat.reduceLT, Nat.reduceLeDiff, reduceCtorEq, decide_true, Int.natCast_add, Int.cast_ofNat_Int, Bool.not_eq_true', Bool.not_eq_false']) (by simp only [go_sem, Nat.reduceAdd, Nat.reduceMul, Nat.reduceSub, Nat.reduceEqDiff, Nat.reduceDiv, Nat.reduceLT, Nat.reduceLeDiff, reduceCtorEq, decide_true, Int.natCast_add, Int.cast_ofNat_Int, Bool.not_eq_true', Bool.not_eq_false']) (by simp only [go_sem, Nat.reduceAdd, Nat.reduceMul, Nat.reduceSub, Nat.reduceEqDiff, Nat.reduceDiv, Nat.reduceLT, Nat.reduceLeDiff, reduceCtorEq, decide_true, Int.natCast_add, Int.cast_ofNat_Int, Bool.not_eq_true', Bool.not_eq_false']) (by simp only [go_sem, Nat.reduceAdd, Nat.reduceMul, Nat.reduceSub, Nat.reduceEqDiff, Nat.reduceDiv, Nat.reduceLT, Nat.reduceLeDiff, reduceCtorEq, decide_true, Int.natCast_add, Int.cast_ofNat_Int, Bool.not_eq_true', Bool.not_eq_false']) (by simp only [go_sem, Nat.reduceAdd, Nat.reduceMul, Nat.reduceSub, Nat.reduceEqDiff, Nat.reduceDiv, Nat.reduceLT, Nat.reduceLeDiff, reduceCtorEq, decide_true, Int.natCast_add, Int.cast_ofNat_Int, Bool.not_eq_true', Bool.not_eq_false'])) ?_; simp only [go_sem, Nat.reduceAdd, Nat.reduceMul, Nat.reduceSub, Nat.reduceEqDiff, Nat.reduceDiv, Nat.reduceLT, Nat.reduceLeDiff, reduceCtorEq, decide_true, Int.natCast_add, Int.cast_ofNat_Int, Bool.not_eq_true', Bool.not_eq_false'])
            refine ⟨fun h7 => ?_, fun h7 => ?_⟩
            · obtain ⟨h8, h9, h10⟩ : e < s.size ∧ 48 ≤ byteAt s e ∧ byteAt s e ≤ 57 := of_decide_eq_true h7
              have ew : IntKind.i64.wrap (byteAt s e - 48) = byteAt s e - 48 := IntWalk.i64_in _ ⟨by omega, by omega⟩
              have en : numS s (s.size - e) e n = numS s (s.size - (e + 1)) (e + 1) (min (10 * n + (byteAt s e - 48)) 2199023255552) := by
                rw [show s.size - e = (s.size - (e + 1)) + 1 by omega, numS, if_pos h7]
              simp only [ew]
              repeat' first | contradiction | intro _ | refine And.intro ?_ ?_ | refine ex_get (by omega) ?_ | (show drawB _ _ = true; kernel_rfl) | (refine ret2 [] (by simp only [go_sem, Nat.reduceAdd, Nat.reduceMul, Nat.reduceSub, Nat.reduceEqDiff, Nat.reduceDiv, Nat.reduceLT, Nat.reduceLeDiff, reduceCtorEq, decide_true, Int.natCast_add, Int.cast_ofNat_Int, Bool.not_eq_true', Bool.not_eq_false']; rfl) ?_; simp only [go_sem, Nat.reduceAdd, Nat.reduceMul, Nat.reduceSub, Nat.reduceEqDiff, Nat.reduceDiv, Nat.reduceLT, Nat.reduceLeDiff, reduceCtorEq, decide_true, Int.natCast_add, Int.cast_ofNat_Int, Bool.not_eq_true', Bool.not_eq_false'])
              all_goals first
                | omega
                | ((refine loop_end [] (⟨e + 1, min (10 * n + (byteAt s e - 48)) 2199023255552⟩) (by simp only [go_sem, Nat.reduceAdd, Nat.reduceMul, Nat.reduceSub, Nat.reduceEqDiff, Nat.reduceDiv, Nat.reduceLT, Nat.reduceLeDiff, reduceCtorEq, decide_true, Int.natCast_add, Int.cast_ofNat_Int, Bool.not_eq_true', Bool.not_eq_false']; rfl) ?_ ?_ ?_; (focus first | omega | (simp only; omega)); (focus (simp only [go_sem, Nat.reduceAdd, Nat.reduceMul, Nat.reduceSub, Nat.reduceEqDiff, Nat.reduceDiv, Nat.reduceLT, Nat.reduceLeDiff, reduceCtorEq, decide_true, Int.natCast_add, Int.cast_ofNat_Int, Bool.not_eq_true', Bool.not_eq_false']; done)))
                   exact ⟨by show e + 1 ≤ s.size; omega, by simp only; omega, by simp only; omega, by rw [← q4, en]⟩)
                | skip
            · have en : numS s (s.size - k) k 0 = (e, n) := by
                rw [← q4]
                cases hf : s.size - e with
                | zero => rfl
                | succ f => rw [numS, if_neg (by rw [h7]; decide)]
              rw [en]
              (refine cut_end [] (()) (by simp only [go_sem, Nat.reduceAdd, Nat.reduceMul, Nat.reduceSub, Nat.reduceEqDiff, Nat.reduceDiv, Nat.reduceLT, Nat.reduceLeDiff, reduceCtorEq, decide_true, Int.natCast_add, Int.cast_ofNat_Int, Bool.not_eq_true', Bool.not_eq_false']; rfl) ?_ ?_; (focus (simp only [go_sem, Nat.reduceAdd, Nat.reduceMul, Nat.reduceSub, Nat.reduceEqDiff, Nat.reduceDiv, Nat.reduceLT, Nat.reduceLeDiff, reduceCtorEq, decide_true, Int.natCast_add, Int.cast_ofNat_Int, Bool.not_eq_true', Bool.not_eq_false']; done)))
              trivial
        rintro - -
        have hen := numS_end s (s.size - k) k 0 (by omega)
        generalize numS s (s.size - k) k 0 = q at hn hg hi hen
        (refine swp_lastW ?_; simp only [go_sem, Nat.reduceAdd, Nat.reduceMul, Nat.reduceSub, Nat.reduceEqDiff, Nat.reduceDiv, Nat.reduceLT, Nat.reduceLeDiff, reduceCtorEq, decide_true, Int.natCast_add, Int.cast_ofNat_Int, Bool.not_eq_true', Bool.not_eq_false'])
        repeat' first | contradiction | intro _ | refine And.intro ?_ ?_ | refine ex_get (by omega) ?_ | (show drawB _ _ = true; kernel_rfl) | (refine ret2 [] (by simp only [go_sem, Nat.reduceAdd, Nat.reduceMul, Nat.reduceSub, Nat.reduceEqDiff, Nat.reduceDiv, Nat.reduceLT, Nat.reduceLeDiff, reduceCtorEq, decide_true, Int.natCast_add, Int.cast_ofNat_Int, Bool.not_eq_true', Bool.not_eq_false']; rfl) ?_; simp only [go_sem, Nat.reduceAdd, Nat.reduceMul, Nat.reduceSub, Nat.reduceEqDiff, Nat.reduceDiv, Nat.reduceLT, Nat.reduceLeDiff, reduceCtorEq, decide_true, Int.natCast_add, Int.cast_ofNat_Int, Bool.not_eq_true', Bool.not_eq_false'])
        all_goals first
          | omega
          | ((refine loop_end [] (⟨q.1, acc ++ [⟨2, 0, q.2, k⟩]⟩) (by simp only [go_sem, Nat.reduceAdd, Nat.reduceMul, Nat.reduceSub, Nat.reduceEqDiff, Nat.reduceDiv, Nat.reduceLT, Nat.reduceLeDiff, reduceCtorEq, decide_true, Int.natCast_add, Int.cast_ofNat_Int, Bool.not_eq_true', Bool.not_eq_false']; rfl) ?_ ?_ ?_; (focus first | omega | (simp only; omega)); (focus (simp only [go_sem, Nat.reduceAdd, Nat.reduceMul, Nat.reduceSub, Nat.reduceEqDiff, Nat.reduceDiv, Nat.reduceLT, Nat.reduceLeDiff, reduceCtorEq, decide_true, Int.natCast_add, Int.cast_ofNat_Int, Bool.not_eq_true', Bool.not_eq_false', List.map_append]; done)))
             exact hi)
          | skip
    · rw [← tok_end (by omega) hi]
      (refine swp_lastW ?_; simp only [go_sem, Nat.reduceAdd, Nat.reduceMul, Nat.reduceSub, Nat.reduceEqDiff, Nat.reduceDiv, Nat.reduceLT, Nat.reduceLeDiff, reduceCtorEq, decide_true, Int.natCast_add, Int.cast_ofNat_Int, Bool.not_eq_true', Bool.not_eq_false'])
      (refine ret2 [] (by simp only [go_sem, Nat.reduceAdd, Nat.reduceMul, Nat.reduceSub, Nat.reduceEqDiff, Nat.reduceDiv, Nat.reduceLT, Nat.reduceLeDiff, reduceCtorEq, decide_true, Int.natCast_add, Int.cast_ofNat_Int, Bool.not_eq_true', Bool.not_eq_false']; rfl) ?_; simp only [go_sem, Nat.reduceAdd, Nat.reduceMul, Nat.reduceSub, Nat.reduceEqDiff, Nat.reduceDiv, Nat.reduceLT, Nat.reduceLeDiff, reduceCtorEq, decide_true, Int.natCast_add, Int.cast_ofNat_Int, Bool.not_eq_true', Bool.not_eq_false'])
end Go.Proofs.Ytiidfcadmdahmaa
