/- CHAPTER 22: the document's answer: what may be; rows that are alike. -/
/- G -/
import Derived.Test.YtdpaflhlgaffdaaGChoF
import Derived.Test.YtdpaflhlgaffdaaG14
/- BOOLS -/
set_option linter.unusedSimpArgs false
set_option linter.unusedVariables false
namespace Go.Proofs.Ytdpaflhlgaffdaa
open Go.RowKit

theorem brk_ext {x y : LBrk} (h : (decide (x.cl = y.cl) && (decide (x.fo = y.fo) && decide (x.rk = y.rk))) = true) : x = y := by
  simp at h
  cases x; cases y; simp_all
set_option maxRecDepth 100000 in
theorem same19_ok (a b : List LBrk) (hl : a.length ≤ 1000) (hb : b.length ≤ 1000) : FnOk Try.prog 43 [.sl 3 (a.map cBrk), .sl 3 (b.map cBrk)] [] (.raw (.bool (decide (a = b)))) [] := by
  refine fn_of_awp Try.func43 rfl (by kernel_rfl) (by kernel_rfl) (Nat.le_of_ble_eq_true rfl) Try.results43 ?_
  simp only [go_sem, Nat.reduceAdd, Nat.reduceMul, Nat.reduceSub, Nat.reduceEqDiff, Nat.reduceDiv, Nat.reduceLT, Nat.reduceLeDiff, reduceCtorEq, decide_true, Int.natCast_add, Int.cast_ofNat_Int, Bool.not_eq_true', Bool.not_eq_false', List.length_map]
  refine ⟨fun h => ?_, fun h => ?_⟩
  · exact fun e => h (by rw [e])
  refine aloop2 [] (fun k : Nat => ⟨[(0, .sl 3 (a.map cBrk)), (1, .sl 3 (b.map cBrk)), (5, .raw (.int .i64 k))], [], none⟩) (fun k => k ≤ a.length ∧ a.take k = b.take k) (fun k => a.length - k) 4 0 (by simp only [go_sem, Nat.reduceAdd, Nat.reduceMul, Nat.reduceSub, Nat.reduceEqDiff, Nat.reduceDiv, Nat.reduceLT, Nat.reduceLeDiff, reduceCtorEq, decide_true, Int.natCast_add, Int.cast_ofNat_Int, Bool.not_eq_true', Bool.not_eq_false']; rfl) (by simp only [go_sem, Nat.reduceAdd, Nat.reduceMul, Nat.reduceSub, Nat.reduceEqDiff, Nat.reduceDiv, Nat.reduceLT, Nat.reduceLeDiff, reduceCtorEq, decide_true, Int.natCast_add, Int.cast_ofNat_Int, Bool.not_eq_true', Bool.not_eq_false']) ?_ ?_
  · exact ⟨Nat.zero_le _, rfl⟩
  · rintro k ⟨hk, ht⟩
    simp only [go_sem, Nat.reduceAdd, Nat.reduceMul, Nat.reduceSub, Nat.reduceEqDiff, Nat.reduceDiv, Nat.reduceLT, Nat.reduceLeDiff, reduceCtorEq, decide_true, Int.natCast_add, Int.cast_ofNat_Int, Bool.not_eq_true', Bool.not_eq_false', List.length_map]
    have hlen : a.length = b.length := by omega
    refine ⟨fun h5 => ?_, fun h5 => ?_⟩
    · have ka : k < a.length := by omega
      have kb : k < b.length := by omega
      repeat' first | contradiction | intro _ | refine And.intro ?_ ?_ | refine ex_get (by omega) ?_ | (show drawB _ _ = true; kernel_rfl) | (refine ret2 [] (by simp only [go_sem, Nat.reduceAdd, Nat.reduceMul, Nat.reduceSub, Nat.reduceEqDiff, Nat.reduceDiv, Nat.reduceLT, Nat.reduceLeDiff, reduceCtorEq, decide_true, Int.natCast_add, Int.cast_ofNat_Int, Bool.not_eq_true', Bool.not_eq_false']; rfl) ?_; simp only [go_sem, Nat.reduceAdd, Nat.reduceMul, Nat.reduceSub, Nat.reduceEqDiff, Nat.reduceDiv, Nat.reduceLT, Nat.reduceLeDiff, reduceCtorEq, decide_true, Int.natCast_add, Int.cast_ofNat_Int, Bool.not_eq_true', Bool.not_eq_false'])
      all_goals first
        | omega
        | (have e : a = b := by assumption
           subst e
           simp_all; done)
        | ((refine loop_end [] (k + 1) (by simp only [go_sem, Nat.reduceAdd, Nat.reduceMul, Nat.reduceSub, Nat.reduceEqDiff, Nat.reduceDiv, Nat.reduceLT, Nat.reduceLeDiff, reduceCtorEq, decide_true, Int.natCast_add, Int.cast_ofNat_Int, Bool.not_eq_true', Bool.not_eq_false']; rfl) ?_ ?_ ?_; (focus first | omega | (simp only; omega)); (focus (simp only [go_sem, Nat.reduceAdd, Nat.reduceMul, Nat.reduceSub, Nat.reduceEqDiff, Nat.reduceDiv, Nat.reduceLT, Nat.reduceLeDiff, reduceCtorEq, decide_true, Int.natCast_add, Int.cast_ofNat_Int, Bool.not_eq_true', Bool.not_eq_false']; done)))
           refine ⟨by omega, ?_⟩
           rw [List.take_succ_eq_append_getElem ka, List.take_succ_eq_append_getElem kb, ht, brk_ext (x := a[k]) (y := b[k]) (by assumption)])

    · have e : a = b := by
        have h1 : a.take k = a := List.take_of_length_le (by omega)
        have h2 : b.take k = b := List.take_of_length_le (by omega)
        rw [← h1, ← h2, ht]
      first | exact e | (rw [decide_eq_true e])
theorem rightQ_iff {k n : Nat} {x : LBrk} : rightQ (decide (k = 0)) (decide (k + 1 = n)) x ↔ ((k = 0 → x.cl = 0) ∧ (k ≠ 0 → k + 1 = n → x.cl = 3) ∧ (k ≠ 0 → k + 1 ≠ n → x.cl = 1 ∨ x.cl = 2) ∧ (x.fo ≠ 0 → 2 ≤ x.fo ∧ x.fo ≤ 4 ∧ x.cl ≠ 3 ∧ x.cl ≠ 2) ∧ (x.rk = 0 ∨ (x.cl = 1 ∨ x.cl = 2) ∧ x.fo = 0 ∧ 0 < x.rk ∧ x.rk < 8)) := by
  unfold rightQ
  simp only [decide_eq_true_eq, decide_eq_false_iff_not, ne_eq]
def stM (l : List LBrk) (k : Nat) (b : LBrk) (t : List (Nat × AV)) : AS := ⟨(0, .sl 3 (l.map cBrk)) :: (3, .raw (.int .i64 k)) :: (4, .hdr 8) :: t, [(8, some (.cells 63 [.raw (.int .i64 b.cl), .raw (.int .i64 b.fo), .raw (.int .i64 b.rk)]))], none⟩
attribute [go_sem] stM
set_option maxRecDepth 100000 in
set_option maxHeartbeats 4000000 in
theorem rmay19_ok (l : List LBrk) (hl : l.length ≤ 1000) : FnOk Try.prog 73 [.sl 3 (l.map cBrk)] [] (.raw (.bool (mayB l))) [] := by
  refine fn_of_swp Try.func73 rfl (by kernel_rfl) (by kernel_rfl) (Nat.le_of_ble_eq_true rfl) Try.results73 ?_
  (refine swp_seqW ?_; simp only [go_sem, Nat.reduceAdd, Nat.reduceMul, Nat.reduceSub, Nat.reduceEqDiff, Nat.reduceDiv, Nat.reduceLT, Nat.reduceLeDiff, reduceCtorEq, decide_true, Int.natCast_add, Int.cast_ofNat_Int, Bool.not_eq_true', Bool.not_eq_false'])
  refine swp_seqS ?_
  (refine swp_seqW ?_; simp only [go_sem, Nat.reduceAdd, Nat.reduceMul, Nat.reduceSub, Nat.reduceEqDiff, Nat.reduceDiv, Nat.reduceLT, Nat.reduceLeDiff, reduceCtorEq, decide_true, Int.natCast_add, Int.cast_ofNat_Int, Bool.not_eq_true', Bool.not_eq_false'])
  refine swp_block ?_
  refine swp_loop2 [] (fun k : Nat => ⟨[(0, .sl 3 (l.map cBrk)), (3, .raw (.int .i64 k))], [], none⟩) (fun k => k ≤ l.length ∧ ∀ i (h : i < l.length), i < k → rightQ (decide (i = 0)) (decide (i + 1 = l.length)) l[i]) (fun k => l.length - k) 4 0 (by simp only [go_sem, Nat.reduceAdd, Nat.reduceMul, Nat.reduceSub, Nat.reduceEqDiff, Nat.reduceDiv, Nat.reduceLT, Nat.reduceLeDiff, reduceCtorEq, decide_true, Int.natCast_add, Int.cast_ofNat_Int, Bool.not_eq_true', Bool.not_eq_false']; rfl) (by simp only [go_sem, Nat.reduceAdd, Nat.reduceMul, Nat.reduceSub, Nat.reduceEqDiff, Nat.reduceDiv, Nat.reduceLT, Nat.reduceLeDiff, reduceCtorEq, decide_true, Int.natCast_add, Int.cast_ofNat_Int, Bool.not_eq_true', Bool.not_eq_false']) ?_ ?_
  · exact ⟨Nat.zero_le _, fun i _ h => absurd h (Nat.not_lt_zero _)⟩
  · rintro k ⟨hk, ha⟩
    (refine swp_seqW ?_; simp only [go_sem, Nat.reduceAdd, Nat.reduceMul, Nat.reduceSub, Nat.reduceEqDiff, Nat.reduceDiv, Nat.reduceLT, Nat.reduceLeDiff, reduceCtorEq, decide_true, Int.natCast_add, Int.cast_ofNat_Int, Bool.not_eq_true', Bool.not_eq_false', List.length_map])
    refine ⟨fun h5 => ?_, fun h5 => ?_⟩
    · have hk' : k < l.length := by omega
      have hno := @mayB_not l k hk'
      have hyes : ∀ i (h : i < l.length), i < k + 1 → ¬ (¬ rightQ (decide (k = 0)) (decide (k + 1 = l.length)) l[k]) → rightQ (decide (i = 0)) (decide (i + 1 = l.length)) l[i] := fun i hi h7 h9 => by
        rcases Nat.lt_succ_iff_lt_or_eq.1 h7 with h8 | h8
        · exact ha i hi h8
        · subst h8; exact Decidable.not_not.1 h9
      rw [rightQ_iff] at hno hyes
      clear ha
      refine swp_seqS ?_
      refine swp_block ?_
      (refine swp_seqW ?_; simp only [go_sem, Nat.reduceAdd, Nat.reduceMul, Nat.reduceSub, Nat.reduceEqDiff, Nat.reduceDiv, Nat.reduceLT, Nat.reduceLeDiff, reduceCtorEq, decide_true, Int.natCast_add, Int.cast_ofNat_Int, Bool.not_eq_true', Bool.not_eq_false', List.length_map])
      refine ⟨by omega, ex_get hk' ?_⟩
      generalize l[k] = b at hno hyes
      (refine swp_seqW ?_; simp only [go_sem, Nat.reduceAdd, Nat.reduceMul, Nat.reduceSub, Nat.reduceEqDiff, Nat.reduceDiv, Nat.reduceLT, Nat.reduceLeDiff, reduceCtorEq, decide_true, Int.natCast_add, Int.cast_ofNat_Int, Bool.not_eq_true', Bool.not_eq_false'])
      refine swp_cutW (fun w : Int => stM l k b [(5, .raw (.int .i64 w))]) (fun w => 0 < k ∧ k + 1 = l.length ∧ w = 3 ∨ ¬ (0 < k ∧ k + 1 = l.length) ∧ w = 0) 3 ?_ ?_
      · simp only [go_sem, Nat.reduceAdd, Nat.reduceMul, Nat.reduceSub, Nat.reduceEqDiff, Nat.reduceDiv, Nat.reduceLT, Nat.reduceLeDiff, reduceCtorEq, decide_true, Int.natCast_add, Int.cast_ofNat_Int, Bool.not_eq_true', Bool.not_eq_false', List.length_map]
        repeat' first | contradiction | intro _ | refine And.intro ?_ ?_ | refine ex_get (by omega) ?_ | (show drawB _ _ = true; kernel_rfl) | (refine ret2 [] (by simp only [go_sem, Nat.reduceAdd, Nat.reduceMul, Nat.reduceSub, Nat.reduceEqDiff, Nat.reduceDiv, Nat.reduceLT, Nat.reduceLeDiff, reduceCtorEq, decide_true, Int.natCast_add, Int.cast_ofNat_Int, Bool.not_eq_true', Bool.not_eq_false']; rfl) ?_; simp only [go_sem, Nat.reduceAdd, Nat.reduceMul, Nat.reduceSub, Nat.reduceEqDiff, Nat.reduceDiv, Nat.reduceLT, Nat.reduceLeDiff, reduceCtorEq, decide_true, Int.natCast_add, Int.cast_ofNat_Int, Bool.not_eq_true', Bool.not_eq_false'])
        all_goals first | omega | ((refine cut_end [] (3) (by simp only [go_sem, Nat.reduceAdd, Nat.reduceMul, Nat.reduceSub, Nat.reduceEqDiff, Nat.reduceDiv, Nat.reduceLT, Nat.reduceLeDiff, reduceCtorEq, decide_true, Int.natCast_add, Int.cast_ofNat_Int, Bool.not_eq_true', Bool.not_eq_false']; rfl) ?_ ?_; (focus (simp only [go_sem, Nat.reduceAdd, Nat.reduceMul, Nat.reduceSub, Nat.reduceEqDiff, Nat.reduceDiv, Nat.reduceLT, Nat.reduceLeDiff, reduceCtorEq, decide_true, Int.natCast_add, Int.cast_ofNat_Int, Bool.not_eq_true', Bool.not_eq_false']; done))); omega) | ((refine cut_end [] (0) (by simp only [go_sem, Nat.reduceAdd, Nat.reduceMul, Nat.reduceSub, Nat.reduceEqDiff, Nat.reduceDiv, Nat.reduceLT, Nat.reduceLeDiff, reduceCtorEq, decide_true, Int.natCast_add, Int.cast_ofNat_Int, Bool.not_eq_true', Bool.not_eq_false']; rfl) ?_ ?_; (focus (simp only [go_sem, Nat.reduceAdd, Nat.reduceMul, Nat.reduceSub, Nat.reduceEqDiff, Nat.reduceDiv, Nat.reduceLT, Nat.reduceLeDiff, reduceCtorEq, decide_true, Int.natCast_add, Int.cast_ofNat_Int, Bool.not_eq_true', Bool.not_eq_false']; done))); omega)
      rintro w hw
      refine swp_cutW (fun i : Bool => stM l k b [(5, .raw (.int .i64 w)), (6, .raw (.bool i))]) (fun i => i = true ↔ (0 < k ∧ k + 1 < l.length)) 3 ?_ ?_
      · simp only [go_sem, Nat.reduceAdd, Nat.reduceMul, Nat.reduceSub, Nat.reduceEqDiff, Nat.reduceDiv, Nat.reduceLT, Nat.reduceLeDiff, reduceCtorEq, decide_true, Int.natCast_add, Int.cast_ofNat_Int, Bool.not_eq_true', Bool.not_eq_false', List.length_map]
        repeat' first | contradiction | intro _ | refine And.intro ?_ ?_ | refine ex_get (by omega) ?_ | (show drawB _ _ = true; kernel_rfl) | (refine ret2 [] (by simp only [go_sem, Nat.reduceAdd, Nat.reduceMul, Nat.reduceSub, Nat.reduceEqDiff, Nat.reduceDiv, Nat.reduceLT, Nat.reduceLeDiff, reduceCtorEq, decide_true, Int.natCast_add, Int.cast_ofNat_Int, Bool.not_eq_true', Bool.not_eq_false']; rfl) ?_; simp only [go_sem, Nat.reduceAdd, Nat.reduceMul, Nat.reduceSub, Nat.reduceEqDiff, Nat.reduceDiv, Nat.reduceLT, Nat.reduceLeDiff, reduceCtorEq, decide_true, Int.natCast_add, Int.cast_ofNat_Int, Bool.not_eq_true', Bool.not_eq_false'])
        all_goals first | omega | ((refine cut_end [] (decide ((k : Int) < l.length - 1)) (by simp only [go_sem, Nat.reduceAdd, Nat.reduceMul, Nat.reduceSub, Nat.reduceEqDiff, Nat.reduceDiv, Nat.reduceLT, Nat.reduceLeDiff, reduceCtorEq, decide_true, Int.natCast_add, Int.cast_ofNat_Int, Bool.not_eq_true', Bool.not_eq_false']; rfl) ?_ ?_; (focus (simp only [go_sem, Nat.reduceAdd, Nat.reduceMul, Nat.reduceSub, Nat.reduceEqDiff, Nat.reduceDiv, Nat.reduceLT, Nat.reduceLeDiff, reduceCtorEq, decide_true, Int.natCast_add, Int.cast_ofNat_Int, Bool.not_eq_true', Bool.not_eq_false']; done))); simp; omega) | ((refine cut_end [] (false) (by simp only [go_sem, Nat.reduceAdd, Nat.reduceMul, Nat.reduceSub, Nat.reduceEqDiff, Nat.reduceDiv, Nat.reduceLT, Nat.reduceLeDiff, reduceCtorEq, decide_true, Int.natCast_add, Int.cast_ofNat_Int, Bool.not_eq_true', Bool.not_eq_false']; rfl) ?_ ?_; (focus (simp only [go_sem, Nat.reduceAdd, Nat.reduceMul, Nat.reduceSub, Nat.reduceEqDiff, Nat.reduceDiv, Nat.reduceLT, Nat.reduceLeDiff, reduceCtorEq, decide_true, Int.natCast_add, Int.cast_ofNat_Int, Bool.not_eq_true', Bool.not_eq_false']; done))); simp; omega)
      rintro i hi
      refine swp_cutW (fun _ : Unit => stM l k b [(6, .raw (.bool i))]) (fun _ => (k = 0 → b.cl = 0) ∧ (k ≠ 0 → k + 1 = l.length → b.cl = 3) ∧ (k ≠ 0 → k + 1 ≠ l.length → b.cl = 1 ∨ b.cl = 2)) 3 ?_ ?_
      · clear hyes
        cases i <;> simp only [Bool.false_eq_true, false_iff, true_iff] at hi <;> simp only [go_sem, Nat.reduceAdd, Nat.reduceMul, Nat.reduceSub, Nat.reduceEqDiff, Nat.reduceDiv, Nat.reduceLT, Nat.reduceLeDiff, reduceCtorEq, decide_true, Int.natCast_add, Int.cast_ofNat_Int, Bool.not_eq_true', Bool.not_eq_false']
        all_goals repeat' first | contradiction | intro _ | refine And.intro ?_ ?_ | refine ex_get (by omega) ?_ | (show drawB _ _ = true; kernel_rfl) | (refine ret2 [] (by simp only [go_sem, Nat.reduceAdd, Nat.reduceMul, Nat.reduceSub, Nat.reduceEqDiff, Nat.reduceDiv, Nat.reduceLT, Nat.reduceLeDiff, reduceCtorEq, decide_true, Int.natCast_add, Int.cast_ofNat_Int, Bool.not_eq_true', Bool.not_eq_false']; rfl) ?_; simp only [go_sem, Nat.reduceAdd, Nat.reduceMul, Nat.reduceSub, Nat.reduceEqDiff, Nat.reduceDiv, Nat.reduceLT, Nat.reduceLeDiff, reduceCtorEq, decide_true, Int.natCast_add, Int.cast_ofNat_Int, Bool.not_eq_true', Bool.not_eq_false'])
        all_goals first
          | ((refine cut_end [] (()) (by simp only [go_sem, Nat.reduceAdd, Nat.reduceMul, Nat.reduceSub, Nat.reduceEqDiff, Nat.reduceDiv, Nat.reduceLT, Nat.reduceLeDiff, reduceCtorEq, decide_true, Int.natCast_add, Int.cast_ofNat_Int, Bool.not_eq_true', Bool.not_eq_false']; rfl) ?_ ?_; (focus (simp only [go_sem, Nat.reduceAdd, Nat.reduceMul, Nat.reduceSub, Nat.reduceEqDiff, Nat.reduceDiv, Nat.reduceLT, Nat.reduceLeDiff, reduceCtorEq, decide_true, Int.natCast_add, Int.cast_ofNat_Int, Bool.not_eq_true', Bool.not_eq_false']; done))); omega)
          | (refine (hno ?_).symm; omega)
          | (refine hno ?_; omega)
      rintro - hc
      clear hw
      refine swp_cutW (fun _ : Unit => stM l k b [(6, .raw (.bool i))]) (fun _ => b.fo = 0 ∨ 2 ≤ b.fo ∧ b.fo ≤ 4) 3 ?_ ?_
      · clear hyes
        simp only [go_sem, Nat.reduceAdd, Nat.reduceMul, Nat.reduceSub, Nat.reduceEqDiff, Nat.reduceDiv, Nat.reduceLT, Nat.reduceLeDiff, reduceCtorEq, decide_true, Int.natCast_add, Int.cast_ofNat_Int, Bool.not_eq_true', Bool.not_eq_false']
        repeat' first | contradiction | intro _ | refine And.intro ?_ ?_ | refine ex_get (by omega) ?_ | (show drawB _ _ = true; kernel_rfl) | (refine ret2 [] (by simp only [go_sem, Nat.reduceAdd, Nat.reduceMul, Nat.reduceSub, Nat.reduceEqDiff, Nat.reduceDiv, Nat.reduceLT, Nat.reduceLeDiff, reduceCtorEq, decide_true, Int.natCast_add, Int.cast_ofNat_Int, Bool.not_eq_true', Bool.not_eq_false']; rfl) ?_; simp only [go_sem, Nat.reduceAdd, Nat.reduceMul, Nat.reduceSub, Nat.reduceEqDiff, Nat.reduceDiv, Nat.reduceLT, Nat.reduceLeDiff, reduceCtorEq, decide_true, Int.natCast_add, Int.cast_ofNat_Int, Bool.not_eq_true', Bool.not_eq_false'])
        all_goals first
          | ((refine cut_end [] (()) (by simp only [go_sem, Nat.reduceAdd, Nat.reduceMul, Nat.reduceSub, Nat.reduceEqDiff, Nat.reduceDiv, Nat.reduceLT, Nat.reduceLeDiff, reduceCtorEq, decide_true, Int.natCast_add, Int.cast_ofNat_Int, Bool.not_eq_true', Bool.not_eq_false']; rfl) ?_ ?_; (focus (simp only [go_sem, Nat.reduceAdd, Nat.reduceMul, Nat.reduceSub, Nat.reduceEqDiff, Nat.reduceDiv, Nat.reduceLT, Nat.reduceLeDiff, reduceCtorEq, decide_true, Int.natCast_add, Int.cast_ofNat_Int, Bool.not_eq_true', Bool.not_eq_false']; done))); omega)
          | (refine (hno ?_).symm; omega)
          | (refine hno ?_; omega)
      rintro - hf
      refine swp_cutW (fun _ : Unit => stM l k b [(6, .raw (.bool i))]) (fun _ => b.fo ≠ 0 → b.cl ≠ 2 ∧ b.cl ≠ 3 ∧ b.rk = 0) 3 ?_ ?_
      · clear hyes
        simp only [go_sem, Nat.reduceAdd, Nat.reduceMul, Nat.reduceSub, Nat.reduceEqDiff, Nat.reduceDiv, Nat.reduceLT, Nat.reduceLeDiff, reduceCtorEq, decide_true, Int.natCast_add, Int.cast_ofNat_Int, Bool.not_eq_true', Bool.not_eq_false']
        repeat' first | contradiction | intro _ | refine And.intro ?_ ?_ | refine ex_get (by omega) ?_ | (show drawB _ _ = true; kernel_rfl) | (refine ret2 [] (by simp only [go_sem, Nat.reduceAdd, Nat.reduceMul, Nat.reduceSub, Nat.reduceEqDiff, Nat.reduceDiv, Nat.reduceLT, Nat.reduceLeDiff, reduceCtorEq, decide_true, Int.natCast_add, Int.cast_ofNat_Int, Bool.not_eq_true', Bool.not_eq_false']; rfl) ?_; simp only [go_sem, Nat.reduceAdd, Nat.reduceMul, Nat.reduceSub, Nat.reduceEqDiff, Nat.reduceDiv, Nat.reduceLT, Nat.reduceLeDiff, reduceCtorEq, decide_true, Int.natCast_add, Int.cast_ofNat_Int, Bool.not_eq_true', Bool.not_eq_false'])
        all_goals first
          | ((refine cut_end [] (()) (by simp only [go_sem, Nat.reduceAdd, Nat.reduceMul, Nat.reduceSub, Nat.reduceEqDiff, Nat.reduceDiv, Nat.reduceLT, Nat.reduceLeDiff, reduceCtorEq, decide_true, Int.natCast_add, Int.cast_ofNat_Int, Bool.not_eq_true', Bool.not_eq_false']; rfl) ?_ ?_; (focus (simp only [go_sem, Nat.reduceAdd, Nat.reduceMul, Nat.reduceSub, Nat.reduceEqDiff, Nat.reduceDiv, Nat.reduceLT, Nat.reduceLeDiff, reduceCtorEq, decide_true, Int.natCast_add, Int.cast_ofNat_Int, Bool.not_eq_true', Bool.not_eq_false']; done))); omega)
          | (refine (hno ?_).symm; omega)
          | (refine hno ?_; omega)
      rintro - hg
      cases i <;> simp only [Bool.false_eq_true, false_iff, true_iff] at hi <;> (refine swp_lastW ?_; simp only [go_sem, Nat.reduceAdd, Nat.reduceMul, Nat.reduceSub, Nat.reduceEqDiff, Nat.reduceDiv, Nat.reduceLT, Nat.reduceLeDiff, reduceCtorEq, decide_true, Int.natCast_add, Int.cast_ofNat_Int, Bool.not_eq_true', Bool.not_eq_false'])
      all_goals repeat' first | contradiction | intro _ | refine And.intro ?_ ?_ | refine ex_get (by omega) ?_ | (show drawB _ _ = true; kernel_rfl) | (refine ret2 [] (by simp only [go_sem, Nat.reduceAdd, Nat.reduceMul, Nat.reduceSub, Nat.reduceEqDiff, Nat.reduceDiv, Nat.reduceLT, Nat.reduceLeDiff, reduceCtorEq, decide_true, Int.natCast_add, Int.cast_ofNat_Int, Bool.not_eq_true', Bool.not_eq_false']; rfl) ?_; simp only [go_sem, Nat.reduceAdd, Nat.reduceMul, Nat.reduceSub, Nat.reduceEqDiff, Nat.reduceDiv, Nat.reduceLT, Nat.reduceLeDiff, reduceCtorEq, decide_true, Int.natCast_add, Int.cast_ofNat_Int, Bool.not_eq_true', Bool.not_eq_false'])
      all_goals first
        | omega
        | (refine (hno ?_).symm; omega)
        | (refine hno ?_; omega)
        | ((refine swp_lastW ?_; simp only [go_sem, Nat.reduceAdd, Nat.reduceMul, Nat.reduceSub, Nat.reduceEqDiff, Nat.reduceDiv, Nat.reduceLT, Nat.reduceLeDiff, reduceCtorEq, decide_true, Int.natCast_add, Int.cast_ofNat_Int, Bool.not_eq_true', Bool.not_eq_false'])
           refine ⟨by omega, ?_⟩
           (refine loop_end [] (k + 1) (by simp only [go_sem, Nat.reduceAdd, Nat.reduceMul, Nat.reduceSub, Nat.reduceEqDiff, Nat.reduceDiv, Nat.reduceLT, Nat.reduceLeDiff, reduceCtorEq, decide_true, Int.natCast_add, Int.cast_ofNat_Int, Bool.not_eq_true', Bool.not_eq_false']; rfl) ?_ ?_ ?_; (focus first | omega | (simp only; omega)); (focus (simp only [go_sem, Nat.reduceAdd, Nat.reduceMul, Nat.reduceSub, Nat.reduceEqDiff, Nat.reduceDiv, Nat.reduceLT, Nat.reduceLeDiff, reduceCtorEq, decide_true, Int.natCast_add, Int.cast_ofNat_Int, Bool.not_eq_true', Bool.not_eq_false']; done)))
           refine ⟨by omega, fun j hj h7 => hyes j hj h7 (not_not_intro ?_)⟩
           omega)
    · have : mayB l = decide (0 < l.length) := decide_eq_decide.2 ⟨fun q => q.1, fun q => ⟨q, fun i hi => ha i hi (by omega)⟩⟩
      rw [this]
      (refine swp_lastW ?_; simp only [go_sem, Nat.reduceAdd, Nat.reduceMul, Nat.reduceSub, Nat.reduceEqDiff, Nat.reduceDiv, Nat.reduceLT, Nat.reduceLeDiff, reduceCtorEq, decide_true, Int.natCast_add, Int.cast_ofNat_Int, Bool.not_eq_true', Bool.not_eq_false', List.length_map])
      refine decide_eq_decide.2 ?_
      omega
end Go.Proofs.Ytdpaflhlgaffdaa
