/- CHAPTER 23: the floats that a page calls. -/
/- G -/
import Derived.Test.YtmgckellncfjpaaGDelC
/- BOOLS -/
set_option linter.unusedSimpArgs false
set_option linter.unusedVariables false
namespace Go.Proofs.Ytmgckellncfjpaa
open Go.RowKit

structure LSo where
  put : List LFl
  later : List LFl
def takeS (body : Int) (z : LSo) (f m : LFl) : LSo := if 0 < z.later.length ∨ body < m.y + m.h then ⟨z.put, z.later ++ [f]⟩ else ⟨z.put ++ [m], z.later⟩
set_option maxRecDepth 100000 in
set_option maxHeartbeats 4000000 in
theorem take_ok (z : LSo) (f m : LFl) (body : Int) (h1 : z.put.length ≤ 1000) (h2 : z.later.length ≤ 1000) (h3 : -9223372036854775808 ≤ m.y + m.h ∧ m.y + m.h ≤ 9223372036854775807) : FnOk Try.prog 63 [.hdr 0, aFl f, aFl m, .raw (.int .i64 body)] [(0, .cells 79 [.hdr 1, .hdr 2]), (1, .row 52 7 (z.put.map cFl)), (2, .row 52 7 (z.later.map cFl))] (.tup []) [(0, .cells 79 [.hdr 8, .hdr 9]), (8, .row 52 7 ((takeS body z f m).put.map cFl)), (9, .row 52 7 ((takeS body z f m).later.map cFl))] := by
  refine fn_of_awp Try.func63 rfl (by kernel_rfl) (by kernel_rfl) (Nat.le_of_ble_eq_true rfl) Try.results63 ?_
  have t1 : 0 < z.later.length ∨ body < m.y + m.h → takeS body z f m = ⟨z.put, z.later ++ [f]⟩ := fun h => if_pos h
  have t2 : ¬ (0 < z.later.length ∨ body < m.y + m.h) → takeS body z f m = ⟨z.put ++ [m], z.later⟩ := fun h => if_neg h
  simp only [go_sem, Nat.reduceAdd, Nat.reduceMul, Nat.reduceSub, Nat.reduceEqDiff, Nat.reduceDiv, Nat.reduceLT, Nat.reduceLeDiff, reduceCtorEq, decide_true, Int.natCast_add, Int.cast_ofNat_Int, Bool.not_eq_true', Bool.not_eq_false', List.length_map]
  repeat' first | contradiction | intro _ | refine And.intro ?_ ?_ | refine ex_get (by omega) ?_ | (show drawB _ _ = true; kernel_rfl) | (refine ret2 [] (by simp only [go_sem, Nat.reduceAdd, Nat.reduceMul, Nat.reduceSub, Nat.reduceEqDiff, Nat.reduceDiv, Nat.reduceLT, Nat.reduceLeDiff, reduceCtorEq, decide_true, Int.natCast_add, Int.cast_ofNat_Int, Bool.not_eq_true', Bool.not_eq_false', List.length_map]; rfl) ?_; simp only [go_sem, Nat.reduceAdd, Nat.reduceMul, Nat.reduceSub, Nat.reduceEqDiff, Nat.reduceDiv, Nat.reduceLT, Nat.reduceLeDiff, reduceCtorEq, decide_true, Int.natCast_add, Int.cast_ofNat_Int, Bool.not_eq_true', Bool.not_eq_false', List.length_map])
  all_goals first
    | omega
    | (rw [t1 (by omega)] <;> simp [cFl]; done)
    | (rw [t2 (by omega)] <;> simp [cFl]; done)
set_option maxRecDepth 100000 in
set_option maxHeartbeats 4000000 in
theorem rcalled_ok (l : List LFl) (s : LSt) (to : Int) (hl : l.length ≤ 1000) (hs : -9223372036854775808 ≤ s.atom ∧ s.atom < 9223372036854775807) (hd : 0 ≤ s.done) : FnOk Try.prog 64 [.sl 7 (l.map cFl), aSt s, .raw (.int .i64 to)] [] (.hdr 8) [(8, .row 52 7 ((anchF l (fromS s) to).map cFl))] := by
  refine fn_of_awp Try.func64 rfl (by kernel_rfl) (by kernel_rfl) (Nat.le_of_ble_eq_true rfl) Try.results64 ?_
  have f1 : 0 < s.done → fromS s = s.atom + 1 := fun h => if_pos h
  have f2 : ¬ 0 < s.done → fromS s = s.atom := fun h => if_neg h
  simp only [go_sem, Nat.reduceAdd, Nat.reduceMul, Nat.reduceSub, Nat.reduceEqDiff, Nat.reduceDiv, Nat.reduceLT, Nat.reduceLeDiff, reduceCtorEq, decide_true, Int.natCast_add, Int.cast_ofNat_Int, Bool.not_eq_true', Bool.not_eq_false', List.length_map]
  refine aloop2 [] (fun k : Nat => ⟨[(0, .sl 7 (l.map cFl)), (2, .raw (.int .i64 to)), (4, .hdr 8), (7, .hdr 16), (8, .raw (.int .i64 k))], [(8, some (.cells 24 [.raw (.int .i64 s.atom), .raw (.int .i64 s.done), .raw (.bool s.free)])), (16, some (.row 52 7 ((kepF l (fromS s) to k).map cFl)))], none⟩) (fun k => k ≤ l.length) (fun k => l.length - k) 4 0 (by simp only [go_sem, Nat.reduceAdd, Nat.reduceMul, Nat.reduceSub, Nat.reduceEqDiff, Nat.reduceDiv, Nat.reduceLT, Nat.reduceLeDiff, reduceCtorEq, decide_true, Int.natCast_add, Int.cast_ofNat_Int, Bool.not_eq_true', Bool.not_eq_false']; rfl) (by simp only [go_sem, Nat.reduceAdd, Nat.reduceMul, Nat.reduceSub, Nat.reduceEqDiff, Nat.reduceDiv, Nat.reduceLT, Nat.reduceLeDiff, reduceCtorEq, decide_true, Int.natCast_add, Int.cast_ofNat_Int, Bool.not_eq_true', Bool.not_eq_false', kepF, List.take_zero, List.filter_nil]) ?_ ?_
  · exact Nat.zero_le _
  · intro k hk
    have hK := kepF_len l (fromS s) to k
    simp only [go_sem, Nat.reduceAdd, Nat.reduceMul, Nat.reduceSub, Nat.reduceEqDiff, Nat.reduceDiv, Nat.reduceLT, Nat.reduceLeDiff, reduceCtorEq, decide_true, Int.natCast_add, Int.cast_ofNat_Int, Bool.not_eq_true', Bool.not_eq_false', List.length_map]
    refine ⟨fun h5 => ?_, fun h5 => ?_⟩
    · have hkl : k < l.length := by omega
      have hks := kepF_succ (a := fromS s) (b := to) hkl
      have ha : ancF (fromS s) to l[k] = true ↔ fromS s ≤ l[k].anchor ∧ l[k].anchor < to := by simp [ancF, offF]
      simp only [ha] at hks
      refine ⟨by omega, ex_get hkl ?_⟩
      have k1 : fromS s ≤ l[k].anchor ∧ l[k].anchor < to → kepF l (fromS s) to (k + 1) = kepF l (fromS s) to k ++ [l[k]] := fun h => by rw [hks, if_pos h]
      have k2 : ¬ (fromS s ≤ l[k].anchor ∧ l[k].anchor < to) → kepF l (fromS s) to (k + 1) = kepF l (fromS s) to k := fun h => by rw [hks, if_neg h]
      repeat' first | contradiction | intro _ | refine And.intro ?_ ?_ | refine ex_get (by omega) ?_ | (show drawB _ _ = true; kernel_rfl) | (refine ret2 [] (by simp only [go_sem, Nat.reduceAdd, Nat.reduceMul, Nat.reduceSub, Nat.reduceEqDiff, Nat.reduceDiv, Nat.reduceLT, Nat.reduceLeDiff, reduceCtorEq, decide_true, Int.natCast_add, Int.cast_ofNat_Int, Bool.not_eq_true', Bool.not_eq_false', List.length_map]; rfl) ?_; simp only [go_sem, Nat.reduceAdd, Nat.reduceMul, Nat.reduceSub, Nat.reduceEqDiff, Nat.reduceDiv, Nat.reduceLT, Nat.reduceLeDiff, reduceCtorEq, decide_true, Int.natCast_add, Int.cast_ofNat_Int, Bool.not_eq_true', Bool.not_eq_false', List.length_map])
      all_goals first
        | omega
        | ((refine loop_end [] (k + 1) (by simp only [go_sem, Nat.reduceAdd, Nat.reduceMul, Nat.reduceSub, Nat.reduceEqDiff, Nat.reduceDiv, Nat.reduceLT, Nat.reduceLeDiff, reduceCtorEq, decide_true, Int.natCast_add, Int.cast_ofNat_Int, Bool.not_eq_true', Bool.not_eq_false']; rfl) ?_ ?_ ?_; (focus first | omega | (simp only; omega)); (focus (simp only [go_sem, Nat.reduceAdd, Nat.reduceMul, Nat.reduceSub, Nat.reduceEqDiff, Nat.reduceDiv, Nat.reduceLT, Nat.reduceLeDiff, reduceCtorEq, decide_true, Int.natCast_add, Int.cast_ofNat_Int, Bool.not_eq_true', Bool.not_eq_false', k1 (by omega), List.map_append]; done)))
           omega)
        | ((refine loop_end [] (k + 1) (by simp only [go_sem, Nat.reduceAdd, Nat.reduceMul, Nat.reduceSub, Nat.reduceEqDiff, Nat.reduceDiv, Nat.reduceLT, Nat.reduceLeDiff, reduceCtorEq, decide_true, Int.natCast_add, Int.cast_ofNat_Int, Bool.not_eq_true', Bool.not_eq_false']; rfl) ?_ ?_ ?_; (focus first | omega | (simp only; omega)); (focus (simp only [go_sem, Nat.reduceAdd, Nat.reduceMul, Nat.reduceSub, Nat.reduceEqDiff, Nat.reduceDiv, Nat.reduceLT, Nat.reduceLeDiff, reduceCtorEq, decide_true, Int.natCast_add, Int.cast_ofNat_Int, Bool.not_eq_true', Bool.not_eq_false', k2 (by omega)]; done)))
           omega)
        | skip
    · have e : anchF l (fromS s) to = kepF l (fromS s) to k := by
        unfold kepF
        rw [List.take_of_length_le (by omega)]
        rfl
      rw [e]
      (refine ret2 [] (by simp only [go_sem, Nat.reduceAdd, Nat.reduceMul, Nat.reduceSub, Nat.reduceEqDiff, Nat.reduceDiv, Nat.reduceLT, Nat.reduceLeDiff, reduceCtorEq, decide_true, Int.natCast_add, Int.cast_ofNat_Int, Bool.not_eq_true', Bool.not_eq_false']; rfl) ?_; simp only [go_sem, Nat.reduceAdd, Nat.reduceMul, Nat.reduceSub, Nat.reduceEqDiff, Nat.reduceDiv, Nat.reduceLT, Nat.reduceLeDiff, reduceCtorEq, decide_true, Int.natCast_add, Int.cast_ofNat_Int, Bool.not_eq_true', Bool.not_eq_false'])
end Go.Proofs.Ytmgckellncfjpaa
