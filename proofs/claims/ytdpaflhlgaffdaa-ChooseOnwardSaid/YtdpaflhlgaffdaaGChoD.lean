/- CHAPTER 22: the document's answer. -/
/- G -/
import Derived.Test.YtdpaflhlgaffdaaGChoC
/- BOOLS -/
/- GET get_fo -/
set_option linter.unusedSimpArgs false
set_option linter.unusedVariables false
namespace Go.Proofs.Ytdpaflhlgaffdaa
open Go.RowKit

def ovB (l : List LBrk) (k m : Int) : Bool := decide (0 ≤ k ∧ 0 ≤ m ∧ k < l.length ∧ m < l.length ∧ ((foAt l k.toNat).b.rk < (foAt l m.toNat).b.rk ∨ (foAt l k.toNat).b.rk = (foAt l m.toNat).b.rk ∧ m < k))
theorem foAt_get {l : List LBrk} {k : Nat} (h : k < l.length) : (foAt l k).b = l[k] := by simp [foAt, List.getD_eq_getElem?_getD, h]
theorem get_fo {l : List LBrk} {q : Int} {C : LBrk → Prop} (h : 0 ≤ q ∧ q < l.length) (hC : C (foAt l q.toNat).b) : ∃ x, l[q.toNat]? = some x ∧ C x := by
  have : q.toNat < l.length := by omega
  exact ⟨(foAt l q.toNat).b, by rw [foAt_get this]; exact List.getElem?_eq_getElem this, hC⟩
set_option maxRecDepth 100000 in
theorem rover22_ok (l : List LBrk) (k m : Int) (hl : l.length ≤ 1000) : FnOk Try.prog 39 [.sl 3 (l.map cBrk), .raw (.int .i64 k), .raw (.int .i64 m)] [] (.raw (.bool (ovB l k m))) [] := by
  refine fn_of_awp Try.func39 rfl (by kernel_rfl) (by kernel_rfl) (Nat.le_of_ble_eq_true rfl) Try.results39 ?_
  simp only [go_sem, Nat.reduceAdd, Nat.reduceMul, Nat.reduceSub, Nat.reduceEqDiff, Nat.reduceDiv, Nat.reduceLT, Nat.reduceLeDiff, reduceCtorEq, decide_true, Int.natCast_add, Int.cast_ofNat_Int, Bool.not_eq_true', Bool.not_eq_false', List.length_map]
  repeat' first | contradiction | intro _ | refine And.intro ?_ ?_ | refine get_fo (by omega) ?_ | refine ex_get (by omega) ?_ | (show drawB _ _ = true; kernel_rfl) | (refine ret2 [] (by simp only [go_sem, Nat.reduceAdd, Nat.reduceMul, Nat.reduceSub, Nat.reduceEqDiff, Nat.reduceDiv, Nat.reduceLT, Nat.reduceLeDiff, reduceCtorEq, decide_true, Int.natCast_add, Int.cast_ofNat_Int, Bool.not_eq_true', Bool.not_eq_false']; rfl) ?_; simp only [go_sem, Nat.reduceAdd, Nat.reduceMul, Nat.reduceSub, Nat.reduceEqDiff, Nat.reduceDiv, Nat.reduceLT, Nat.reduceLeDiff, reduceCtorEq, decide_true, Int.natCast_add, Int.cast_ofNat_Int, Bool.not_eq_true', Bool.not_eq_false'])
  all_goals first | omega | (simp only [ovB, eq_comm (a := false), eq_comm (a := true), decide_eq_false_iff_not, decide_eq_true_eq]; omega) | (refine decide_eq_decide.2 ?_; omega)
end Go.Proofs.Ytdpaflhlgaffdaa
