/- THE SCRIPT'S READER: the whole. -/
/- G -/
import Derived.Test.YtiidfcadmdahmaaGScrE
/- BOOLS -/
set_option linter.unusedSimpArgs false
set_option linter.unusedVariables false
namespace Go.Proofs.Ytiidfcadmdahmaa
open Go.RowKit

theorem nodes5_ok (l : List LTk) (hl : l.length ≤ 1000) : ∀ (f k : Nat) (r : List LNo × Nat), k ≤ l.length → nodesS l f k = some r → FnOk Try.prog 69 [.sl 4 (l.map cTk), .raw (.int .i64 k)] [] (aGot r) []
  | 0, _, _, _, h => by cases h
  | f + 1, k, r, hk, h => nodesG_ok (nodesS l f) l (nodes5_ok l hl f) (l.length + 1) k r hl hk h
set_option maxRecDepth 100000 in
set_option maxHeartbeats 4000000 in
theorem of5_ok (s : ByteArray) (l : List LTk) (ns : List LNo) (ha : ascii s) (hs : s.size ≤ 1000) (h1 : tokS s (s.size + 1) 0 = some l) (hl : l.length ≤ 1000) (h2 : nodesS l (l.length + 1) 0 = some (ns, l.length)) : FnOk Try.prog 43 [.raw (.string s)] [] (.tup [.sl 20 (ns.map cNo), .raw (.int .i64 0), .raw (.int .i64 0)]) [] := by
  have hn : FnOk Try.prog 69 [.sl 4 (l.map cTk), .raw (.int .i64 0)] [] (aGot (ns, l.length)) [] := nodes5_ok l hl (l.length + 1) 0 (ns, l.length) (Nat.zero_le _) h2
  refine fn_of_awp Try.func43 rfl (by kernel_rfl) (by kernel_rfl) (Nat.le_of_ble_eq_true rfl) Try.results43 ?_
  simp only [go_sem, Nat.reduceAdd, Nat.reduceMul, Nat.reduceSub, Nat.reduceEqDiff, Nat.reduceDiv, Nat.reduceLT, Nat.reduceLeDiff, reduceCtorEq, decide_true, Int.natCast_add, Int.cast_ofNat_Int, Bool.not_eq_true', Bool.not_eq_false']
  (refine acall2 [] (tok4_ok s l ha hs h1) (by simp only [go_sem, Nat.reduceAdd, Nat.reduceMul, Nat.reduceSub, Nat.reduceEqDiff, Nat.reduceDiv, Nat.reduceLT, Nat.reduceLeDiff, reduceCtorEq, decide_true, Int.natCast_add, Int.cast_ofNat_Int, Bool.not_eq_true', Bool.not_eq_false']; rfl) (fit_of (by simp only [go_sem, Nat.reduceAdd, Nat.reduceMul, Nat.reduceSub, Nat.reduceEqDiff, Nat.reduceDiv, Nat.reduceLT, Nat.reduceLeDiff, reduceCtorEq, decide_true, Int.natCast_add, Int.cast_ofNat_Int, Bool.not_eq_true', Bool.not_eq_false']) (by simp only [go_sem, Nat.reduceAdd, Nat.reduceMul, Nat.reduceSub, Nat.reduceEqDiff, Nat.reduceDiv, Nat.reduceLT, Nat.reduceLeDiff, reduceCtorEq, decide_true, Int.natCast_add, Int.cast_ofNat_Int, Bool.not_eq_true', Bool.not_eq_false']) (by simp only [go_sem, Nat.reduceAdd, Nat.reduceMul, Nat.reduceSub, Nat.reduceEqDiff, Nat.reduceDiv, Nat.reduceLT, Nat.reduceLeDiff, reduceCtorEq, decide_true, Int.natCast_add, Int.cast_ofNat_Int, Bool.not_eq_true', Bool.not_eq_false']) (by simp only [go_sem, Nat.reduceAdd, Nat.reduceMul, Nat.reduceSub, Nat.reduceEqDiff, Nat.reduceDiv, Nat.reduceLT, Nat.reduceLeDiff, reduceCtorEq, decide_true, Int.natCast_add, Int.cast_ofNat_Int, Bool.not_eq_true', Bool.not_eq_false']) (by simp only [go_sem, Nat.reduceAdd, Nat.reduceMul, Nat.reduceSub, Nat.reduceEqDiff, Nat.reduceDiv, Nat.reduceLT, Nat.reduceLeDiff, reduceCtorEq, decide_true, Int.natCast_add, Int.cast_ofNat_Int, Bool.not_eq_true', Bool.not_eq_false']) (by simp only [go_sem, Nat.reduceAdd, Nat.reduceMul, Nat.reduceSub, Nat.reduceEqDiff, Nat.reduceDiv, Nat.reduceLT, Nat.reduceLeDiff, reduceCtorEq, decide_true, Int.natCast_add, Int.cast_ofNat_Int, Bool.not_eq_true', Bool.not_eq_false']) (by simp only [go_sem, Nat.reduceAdd, Nat.reduceMul, Nat.reduceSub, Nat.reduceEqDiff, Nat.reduceDiv, Nat.reduceLT, Nat.reduceLeDiff, reduceCtorEq, decide_true, Int.natCast_add, Int.cast_ofNat_Int, Bool.not_eq_true', Bool.not_eq_false'])) ?_; simp only [go_sem, Nat.reduceAdd, Nat.reduceMul, Nat.reduceSub, Nat.reduceEqDiff, Nat.reduceDiv, Nat.reduceLT, Nat.reduceLeDiff, reduceCtorEq, decide_true, Int.natCast_add, Int.cast_ofNat_Int, Bool.not_eq_true', Bool.not_eq_false', Int.reduceToNat, Int.reduceLT, Int.reduceLE, Int.reduceEq, Int.reduceAdd, Int.reduceSub, Int.reduceMul, Int.reduceNeg, Int.reduceNe, decide_false, Int.cast_ofNat_Int, kSet, List.getElem?_cons_succ, List.getElem?_cons_zero, List.set_cons_succ, List.set_cons_zero, exists_eq_left', forall_const, true_implies])
  (refine acallF2 [40 ] [] ( hn) (by simp only [go_sem, Nat.reduceAdd, Nat.reduceMul, Nat.reduceSub, Nat.reduceEqDiff, Nat.reduceDiv, Nat.reduceLT, Nat.reduceLeDiff, reduceCtorEq, decide_true, Int.natCast_add, Int.cast_ofNat_Int, Bool.not_eq_true', Bool.not_eq_false']; rfl) (fit_of (by simp only [go_sem, Nat.reduceAdd, Nat.reduceMul, Nat.reduceSub, Nat.reduceEqDiff, Nat.reduceDiv, Nat.reduceLT, Nat.reduceLeDiff, reduceCtorEq, decide_true, Int.natCast_add, Int.cast_ofNat_Int, Bool.not_eq_true', Bool.not_eq_false']) (by simp only [go_sem, Nat.reduceAdd, Nat.reduceMul, Nat.reduceSub, Nat.reduceEqDiff, Nat.reduceDiv, Nat.reduceLT, Nat.reduceLeDiff, reduceCtorEq, decide_true, Int.natCast_add, Int.cast_ofNat_Int, Bool.not_eq_true', Bool.not_eq_false']) (by simp only [go_sem, Nat.reduceAdd, Nat.reduceMul, Nat.reduceSub, Nat.reduceEqDiff, Nat.reduceDiv, Nat.reduceLT, Nat.reduceLeDiff, reduceCtorEq, decide_true, Int.natCast_add, Int.cast_ofNat_Int, Bool.not_eq_true', Bool.not_eq_false']) (by simp only [go_sem, Nat.reduceAdd, Nat.reduceMul, Nat.reduceSub, Nat.reduceEqDiff, Nat.reduceDiv, Nat.reduceLT, Nat.reduceLeDiff, reduceCtorEq, decide_true, Int.natCast_add, Int.cast_ofNat_Int, Bool.not_eq_true', Bool.not_eq_false']) (by simp only [go_sem, Nat.reduceAdd, Nat.reduceMul, Nat.reduceSub, Nat.reduceEqDiff, Nat.reduceDiv, Nat.reduceLT, Nat.reduceLeDiff, reduceCtorEq, decide_true, Int.natCast_add, Int.cast_ofNat_Int, Bool.not_eq_true', Bool.not_eq_false']) (by simp only [go_sem, Nat.reduceAdd, Nat.reduceMul, Nat.reduceSub, Nat.reduceEqDiff, Nat.reduceDiv, Nat.reduceLT, Nat.reduceLeDiff, reduceCtorEq, decide_true, Int.natCast_add, Int.cast_ofNat_Int, Bool.not_eq_true', Bool.not_eq_false']) (by simp only [go_sem, Nat.reduceAdd, Nat.reduceMul, Nat.reduceSub, Nat.reduceEqDiff, Nat.reduceDiv, Nat.reduceLT, Nat.reduceLeDiff, reduceCtorEq, decide_true, Int.natCast_add, Int.cast_ofNat_Int, Bool.not_eq_true', Bool.not_eq_false'])) ?_; simp only [go_sem, Nat.reduceAdd, Nat.reduceMul, Nat.reduceSub, Nat.reduceEqDiff, Nat.reduceDiv, Nat.reduceLT, Nat.reduceLeDiff, reduceCtorEq, decide_true, Int.natCast_add, Int.cast_ofNat_Int, Bool.not_eq_true', Bool.not_eq_false', Int.reduceToNat, Int.reduceLT, Int.reduceLE, Int.reduceEq, Int.reduceAdd, Int.reduceSub, Int.reduceMul, Int.reduceNeg, Int.reduceNe, decide_false, Int.cast_ofNat_Int, kSet, List.getElem?_cons_succ, List.getElem?_cons_zero, List.set_cons_succ, List.set_cons_zero, exists_eq_left', forall_const, true_implies, List.length_map])
  refine ⟨fun q => absurd q (by omega), fun _ => ?_⟩
  (refine ret2 [] (by simp only [go_sem, Nat.reduceAdd, Nat.reduceMul, Nat.reduceSub, Nat.reduceEqDiff, Nat.reduceDiv, Nat.reduceLT, Nat.reduceLeDiff, reduceCtorEq, decide_true, Int.natCast_add, Int.cast_ofNat_Int, Bool.not_eq_true', Bool.not_eq_false']; rfl) ?_; simp only [go_sem, Nat.reduceAdd, Nat.reduceMul, Nat.reduceSub, Nat.reduceEqDiff, Nat.reduceDiv, Nat.reduceLT, Nat.reduceLeDiff, reduceCtorEq, decide_true, Int.natCast_add, Int.cast_ofNat_Int, Bool.not_eq_true', Bool.not_eq_false'])
def asciiB (s : ByteArray) : Bool := (List.range s.size).all (fun q => decide (byteAt s q ≤ 127))
theorem ascii_of (s : ByteArray) (h : asciiB s = true) : ascii s := fun q hq => of_decide_eq_true (List.all_eq_true.1 h q (List.mem_range.2 hq))
def rdS (s : ByteArray) : Option (List LNo) :=
  if asciiB s = true ∧ s.size ≤ 1000 then match tokS s (s.size + 1) 0 with
    | some l => if l.length ≤ 1000 then match nodesS l (l.length + 1) 0 with
      | some (ns, k) => if k = l.length then some ns else none
      | none => none
      else none
    | none => none
  else none
set_option maxRecDepth 100000 in
theorem rdS_ok (s : ByteArray) (ns : List LNo) (h : rdS s = some ns) : FnOk Try.prog 43 [.raw (.string s)] [] (.tup [.sl 20 (ns.map cNo), .raw (.int .i64 0), .raw (.int .i64 0)]) [] := by
  unfold rdS at h
  split at h
  case isFalse => cases h
  next ha =>
  split at h
  case h_2 => cases h
  next l h1 =>
  split at h
  case isFalse => cases h
  next hl =>
  split at h
  case h_2 => cases h
  next q k h2 =>
  split at h
  case isFalse => cases h
  next hk =>
  injection h with h
  subst h
  subst hk
  exact of5_ok s l q (ascii_of s ha.1) ha.2 h1 hl h2
def scr08 : ByteArray := { data := #[91, 105, 53, 32, 40, 49, 48, 32, 50, 32, 51, 48, 41, 91, 105, 54, 48, 32, 123, 51, 32, 52, 125, 93, 93, 123, 49, 32, 49, 125] }
def nds08 : List LNo := [⟨1, 4, ⟨0, 0, 0, 0, 5, 2, 2, 0, 0, 0, 0, 0⟩, 0, 0, [], 0, 0, 0⟩, ⟨2, 1, sty0, 10, 2, [30], 0, 0, 0⟩, ⟨1, 2, ⟨0, 0, 0, 0, 60, 2, 2, 0, 0, 0, 0, 0⟩, 0, 0, [], 0, 0, 0⟩, ⟨3, 1, sty0, 0, 0, [], 0, 3, 4⟩, ⟨3, 1, sty0, 0, 0, [], 0, 1, 1⟩]
theorem rd08 : rdS scr08 = some nds08 := by kernel_rfl
end Go.Proofs.Ytiidfcadmdahmaa
