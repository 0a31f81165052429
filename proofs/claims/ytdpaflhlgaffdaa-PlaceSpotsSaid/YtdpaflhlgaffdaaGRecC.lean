/- CHAPTER 3: slices, the program's and the reference's; rows compared; the chapter's examples. -/
/- G -/
import Derived.Test.YtdpaflhlgaffdaaGRecB
set_option linter.unusedSimpArgs false
set_option linter.unusedVariables false
namespace Go.Proofs.Ytdpaflhlgaffdaa
open Go.RowKit

theorem div_facts {h high : Int} (h1 : 1 ≤ h) (h2 : 1 ≤ high) (h3 : h ≤ 1152921504606846976) : (h - 1).tdiv high = (h - 1) / high ∧ 0 ≤ (h - 1) / high ∧ (h - 1) / high ≤ 1152921504606846976 := by
  refine ⟨Int.tdiv_eq_ediv_of_nonneg (by omega), Int.ediv_nonneg (by omega) (by omega), ?_⟩
  have := Int.ediv_le_self high (show 0 ≤ h - 1 by omega)
  omega
theorem sliceN_none {r : LRect} {high : Int} (h : noneR r = true ∨ high < 1 ∨ 32768 ≤ (r.h - 1) / high) : slicesR r high = [] := by
  unfold slicesR sliceN
  rw [if_pos h]
  rfl
theorem range_succ' (n : Nat) : List.range (n + 1) = List.range n ++ [n] := List.range_succ
theorem div_up {h high : Int} (h1 : 1 ≤ h) (h2 : 1 ≤ high) : h.tdiv high = h / high ∧ 0 ≤ h / high ∧ h / high * high ≤ h ∧ (h / high * high < h → (h - 1) / high = h / high) ∧ (¬ h / high * high < h → (h - 1) / high = h / high - 1) := by
  have a1 : h / high * high ≤ h := (Int.le_ediv_iff_mul_le (by omega)).1 (Int.le_refl _)
  have a2 : h < (h / high + 1) * high := (Int.ediv_lt_iff_lt_mul (by omega)).1 (by omega)
  have key : ∀ q : Int, q * high ≤ h - 1 → h - 1 < (q + 1) * high → (h - 1) / high = q := fun q b1 b2 => by
    have c1 := (Int.le_ediv_iff_mul_le (a := q) (b := h - 1) (c := high) (by omega)).2 b1
    have c2 := (Int.ediv_lt_iff_lt_mul (a := h - 1) (b := q + 1) (c := high) (by omega)).2 b2
    omega
  refine ⟨Int.tdiv_eq_ediv_of_nonneg (by omega), Int.ediv_nonneg (by omega) (by omega), a1, fun h3 => key _ (by omega) (by omega), fun h3 => key _ ?_ ?_⟩
  · rw [Int.sub_mul]; omega
  · rw [Int.sub_add_cancel]; omega
structure SlX where
  i : Nat
  y : Int
  h : Int
def SlInv (r : LRect) (high : Int) (x : SlX) : Prop := x.i ≤ sliceN r high ∧ (x.i < sliceN r high → x.y = r.y + x.i * high) ∧ (-1152921504606846976 ≤ x.y ∧ x.y ≤ 2305843009213693952)
set_option maxRecDepth 100000 in
theorem slices_ok (r : LRect) (high : Int) (hr : nearR r = true) (hh : high ≤ 1152921504606846976) : FnOk Try.prog 15 [aRect r, .raw (.int .i64 high)] [] (.hdr 8) [(8, .row 24 4 ((slicesR r high).map cRect))] := by
  have hr' := nearR_iff.1 hr
  refine fn_of_awp Try.func15 rfl (by kernel_rfl) (by kernel_rfl) (Nat.le_of_ble_eq_true rfl) Try.results15 ?_
  simp only [go_sem, Nat.reduceAdd, Nat.reduceMul, Nat.reduceSub, Nat.reduceEqDiff, Nat.reduceDiv, Nat.reduceLT, Nat.reduceLeDiff, reduceCtorEq, decide_true, Int.natCast_add, Int.cast_ofNat_Int]
  (refine acall2 [] (rnone_ok r) (by simp only [go_sem, Nat.reduceAdd, Nat.reduceMul, Nat.reduceSub, Nat.reduceEqDiff, Nat.reduceDiv, Nat.reduceLT, Nat.reduceLeDiff, reduceCtorEq, decide_true, Int.natCast_add, Int.cast_ofNat_Int]; rfl) (fit_of (by simp only [go_sem, Nat.reduceAdd, Nat.reduceMul, Nat.reduceSub, Nat.reduceEqDiff, Nat.reduceDiv, Nat.reduceLT, Nat.reduceLeDiff, reduceCtorEq, decide_true, Int.natCast_add, Int.cast_ofNat_Int]) (by simp only [go_sem, Nat.reduceAdd, Nat.reduceMul, Nat.reduceSub, Nat.reduceEqDiff, Nat.reduceDiv, Nat.reduceLT, Nat.reduceLeDiff, reduceCtorEq, decide_true, Int.natCast_add, Int.cast_ofNat_Int]) (by simp only [go_sem, Nat.reduceAdd, Nat.reduceMul, Nat.reduceSub, Nat.reduceEqDiff, Nat.reduceDiv, Nat.reduceLT, Nat.reduceLeDiff, reduceCtorEq, decide_true, Int.natCast_add, Int.cast_ofNat_Int]) (by simp only [go_sem, Nat.reduceAdd, Nat.reduceMul, Nat.reduceSub, Nat.reduceEqDiff, Nat.reduceDiv, Nat.reduceLT, Nat.reduceLeDiff, reduceCtorEq, decide_true, Int.natCast_add, Int.cast_ofNat_Int]) (by simp only [go_sem, Nat.reduceAdd, Nat.reduceMul, Nat.reduceSub, Nat.reduceEqDiff, Nat.reduceDiv, Nat.reduceLT, Nat.reduceLeDiff, reduceCtorEq, decide_true, Int.natCast_add, Int.cast_ofNat_Int]) (by simp only [go_sem, Nat.reduceAdd, Nat.reduceMul, Nat.reduceSub, Nat.reduceEqDiff, Nat.reduceDiv, Nat.reduceLT, Nat.reduceLeDiff, reduceCtorEq, decide_true, Int.natCast_add, Int.cast_ofNat_Int]) (by simp only [go_sem, Nat.reduceAdd, Nat.reduceMul, Nat.reduceSub, Nat.reduceEqDiff, Nat.reduceDiv, Nat.reduceLT, Nat.reduceLeDiff, reduceCtorEq, decide_true, Int.natCast_add, Int.cast_ofNat_Int])) ?_; simp only [go_sem, Nat.reduceAdd, Nat.reduceMul, Nat.reduceSub, Nat.reduceEqDiff, Nat.reduceDiv, Nat.reduceLT, Nat.reduceLeDiff, reduceCtorEq, decide_true, Int.natCast_add, Int.cast_ofNat_Int])
  refine ⟨fun h1 => ⟨fun h2 => ?_, fun h2 => ?_⟩, fun h1 => ?_⟩
  · have h1' := h1
    simp only [noneR, decide_eq_false_iff_not, not_or, Int.not_lt] at h1'
    have hd := div_facts (h := r.h) (high := high) h1'.2 (by omega) (by omega)
    rw [hd.1]
    refine ⟨by omega, by omega, fun h3 => ?_, fun h3 => ?_⟩
    · rw [sliceN_none (.inr (.inr h3))]
      (refine ret2 [] (by simp only [go_sem, Nat.reduceAdd, Nat.reduceMul, Nat.reduceSub, Nat.reduceEqDiff, Nat.reduceDiv, Nat.reduceLT, Nat.reduceLeDiff, reduceCtorEq, decide_true, Int.natCast_add, Int.cast_ofNat_Int, List.map_nil]; rfl) ?_; simp only [go_sem, Nat.reduceAdd, Nat.reduceMul, Nat.reduceSub, Nat.reduceEqDiff, Nat.reduceDiv, Nat.reduceLT, Nat.reduceLeDiff, reduceCtorEq, decide_true, Int.natCast_add, Int.cast_ofNat_Int, List.map_nil])
    · refine aloop2 [] (fun x : SlX => ⟨[(1, .raw (.int .i64 high)), (2, .hdr 8), (5, .hdr 16), (6, .raw (.int .i64 (r.h - x.i * high)))], [(8, some (.cells 24 [.raw (.int .i64 r.x), .raw (.int .i64 x.y), .raw (.int .i64 r.w), .raw (.int .i64 x.h)])), (16, some (.row 24 4 (((List.range x.i).map (sliceR r high)).map cRect)))], none⟩) (SlInv r high) (fun x => sliceN r high - x.i) 3 ⟨0, r.y, r.h⟩ (by simp only [go_sem, Nat.reduceAdd, Nat.reduceMul, Nat.reduceSub, Nat.reduceEqDiff, Nat.reduceDiv, Nat.reduceLT, Nat.reduceLeDiff, reduceCtorEq, decide_true, Int.natCast_add, Int.cast_ofNat_Int]; rfl) (by simp only [go_sem, Nat.reduceAdd, Nat.reduceMul, Nat.reduceSub, Nat.reduceEqDiff, Nat.reduceDiv, Nat.reduceLT, Nat.reduceLeDiff, reduceCtorEq, decide_true, Int.natCast_add, Int.cast_ofNat_Int, Int.ofNat_zero, Int.zero_mul, Int.sub_zero, List.range_zero, List.map_nil]) ?_ ?_
      · exact ⟨Nat.zero_le _, fun _ => by simp, by simp only; omega⟩
      · rintro ⟨i, y, h⟩ ⟨i1, i2, i3⟩
        simp only at i1 i2 i3
        have hlt := sliceN_lt (high := high) h1 (by omega) (by omega) i
        have hn := sliceN_le (r := r) (high := high)
        simp only [go_sem, Nat.reduceAdd, Nat.reduceMul, Nat.reduceSub, Nat.reduceEqDiff, Nat.reduceDiv, Nat.reduceLT, Nat.reduceLeDiff, reduceCtorEq, decide_true, Int.natCast_add, Int.cast_ofNat_Int, List.length_map, List.length_range]
        refine ⟨fun h4 => ?_, fun h4 => ?_⟩
        · have hi : i < sliceN r high := by omega
          have hy := i2 hi
          have e1 : r.h - ((i + 1 : Nat) : Int) * high = r.h - i * high - high := by rw [Int.natCast_add, Int.add_mul]; omega
          have hp := Int.mul_nonneg (show 0 ≤ (i : Int) by omega) (show 0 ≤ high by omega)
          have hlt' := sliceN_lt (high := high) h1 (by omega) (by omega) (i + 1)
          refine ⟨by omega, by omega, by omega, ?_⟩
          have e2 : sliceR r high i = ⟨r.x, y, r.w, min (r.h - i * high) high⟩ := by
            simp only [sliceR, hy, Int.min_comm]
          simp only [Int.natCast_add, Int.cast_ofNat_Int] at e1
          (refine loop_end [] (⟨i + 1, y + min (r.h - i * high) high, min (r.h - i * high) high⟩) (by simp only [go_sem, Nat.reduceAdd, Nat.reduceMul, Nat.reduceSub, Nat.reduceEqDiff, Nat.reduceDiv, Nat.reduceLT, Nat.reduceLeDiff, reduceCtorEq, decide_true, Int.natCast_add, Int.cast_ofNat_Int]; rfl) ?_ ?_ ?_; (focus first | omega | (simp only; omega)); (focus (simp only [go_sem, Nat.reduceAdd, Nat.reduceMul, Nat.reduceSub, Nat.reduceEqDiff, Nat.reduceDiv, Nat.reduceLT, Nat.reduceLeDiff, reduceCtorEq, decide_true, Int.natCast_add, Int.cast_ofNat_Int, e1, e2, List.range_succ, List.map_append]; done)))
          refine ⟨by simp only; omega, fun h5 => ?_, by simp only; omega⟩
          simp only at h5 ⊢
          have := hlt'.1 h5
          rw [Int.natCast_add, Int.add_mul] at this ⊢
          omega
        · obtain rfl : i = sliceN r high := by omega
          (refine ret2 [] (by simp only [go_sem, Nat.reduceAdd, Nat.reduceMul, Nat.reduceSub, Nat.reduceEqDiff, Nat.reduceDiv, Nat.reduceLT, Nat.reduceLeDiff, reduceCtorEq, decide_true, Int.natCast_add, Int.cast_ofNat_Int, slicesR]; rfl) ?_; simp only [go_sem, Nat.reduceAdd, Nat.reduceMul, Nat.reduceSub, Nat.reduceEqDiff, Nat.reduceDiv, Nat.reduceLT, Nat.reduceLeDiff, reduceCtorEq, decide_true, Int.natCast_add, Int.cast_ofNat_Int, slicesR])
  · rw [sliceN_none (.inr (.inl h2))]
    (refine ret2 [] (by simp only [go_sem, Nat.reduceAdd, Nat.reduceMul, Nat.reduceSub, Nat.reduceEqDiff, Nat.reduceDiv, Nat.reduceLT, Nat.reduceLeDiff, reduceCtorEq, decide_true, Int.natCast_add, Int.cast_ofNat_Int, List.map_nil]; rfl) ?_; simp only [go_sem, Nat.reduceAdd, Nat.reduceMul, Nat.reduceSub, Nat.reduceEqDiff, Nat.reduceDiv, Nat.reduceLT, Nat.reduceLeDiff, reduceCtorEq, decide_true, Int.natCast_add, Int.cast_ofNat_Int, List.map_nil])
  · rw [sliceN_none (.inl h1)]
    (refine ret2 [] (by simp only [go_sem, Nat.reduceAdd, Nat.reduceMul, Nat.reduceSub, Nat.reduceEqDiff, Nat.reduceDiv, Nat.reduceLT, Nat.reduceLeDiff, reduceCtorEq, decide_true, Int.natCast_add, Int.cast_ofNat_Int, List.map_nil]; rfl) ?_; simp only [go_sem, Nat.reduceAdd, Nat.reduceMul, Nat.reduceSub, Nat.reduceEqDiff, Nat.reduceDiv, Nat.reduceLT, Nat.reduceLeDiff, reduceCtorEq, decide_true, Int.natCast_add, Int.cast_ofNat_Int, List.map_nil])
set_option maxRecDepth 100000 in
theorem rslices_ok (r : LRect) (high : Int) (hr : nearR r = true) (hh : high ≤ 1152921504606846976) : FnOk Try.prog 16 [aRect r, .raw (.int .i64 high)] [] (.hdr 8) [(8, .row 24 4 ((slicesR r high).map cRect))] := by
  have hr' := nearR_iff.1 hr
  refine fn_of_awp Try.func16 rfl (by kernel_rfl) (by kernel_rfl) (Nat.le_of_ble_eq_true rfl) Try.results16 ?_
  simp only [go_sem, Nat.reduceAdd, Nat.reduceMul, Nat.reduceSub, Nat.reduceEqDiff, Nat.reduceDiv, Nat.reduceLT, Nat.reduceLeDiff, reduceCtorEq, decide_true, Int.natCast_add, Int.cast_ofNat_Int]
  (refine acall2 [] (rrnone_ok r) (by simp only [go_sem, Nat.reduceAdd, Nat.reduceMul, Nat.reduceSub, Nat.reduceEqDiff, Nat.reduceDiv, Nat.reduceLT, Nat.reduceLeDiff, reduceCtorEq, decide_true, Int.natCast_add, Int.cast_ofNat_Int]; rfl) (fit_of (by simp only [go_sem, Nat.reduceAdd, Nat.reduceMul, Nat.reduceSub, Nat.reduceEqDiff, Nat.reduceDiv, Nat.reduceLT, Nat.reduceLeDiff, reduceCtorEq, decide_true, Int.natCast_add, Int.cast_ofNat_Int]) (by simp only [go_sem, Nat.reduceAdd, Nat.reduceMul, Nat.reduceSub, Nat.reduceEqDiff, Nat.reduceDiv, Nat.reduceLT, Nat.reduceLeDiff, reduceCtorEq, decide_true, Int.natCast_add, Int.cast_ofNat_Int]) (by simp only [go_sem, Nat.reduceAdd, Nat.reduceMul, Nat.reduceSub, Nat.reduceEqDiff, Nat.reduceDiv, Nat.reduceLT, Nat.reduceLeDiff, reduceCtorEq, decide_true, Int.natCast_add, Int.cast_ofNat_Int]) (by simp only [go_sem, Nat.reduceAdd, Nat.reduceMul, Nat.reduceSub, Nat.reduceEqDiff, Nat.reduceDiv, Nat.reduceLT, Nat.reduceLeDiff, reduceCtorEq, decide_true, Int.natCast_add, Int.cast_ofNat_Int]) (by simp only [go_sem, Nat.reduceAdd, Nat.reduceMul, Nat.reduceSub, Nat.reduceEqDiff, Nat.reduceDiv, Nat.reduceLT, Nat.reduceLeDiff, reduceCtorEq, decide_true, Int.natCast_add, Int.cast_ofNat_Int]) (by simp only [go_sem, Nat.reduceAdd, Nat.reduceMul, Nat.reduceSub, Nat.reduceEqDiff, Nat.reduceDiv, Nat.reduceLT, Nat.reduceLeDiff, reduceCtorEq, decide_true, Int.natCast_add, Int.cast_ofNat_Int]) (by simp only [go_sem, Nat.reduceAdd, Nat.reduceMul, Nat.reduceSub, Nat.reduceEqDiff, Nat.reduceDiv, Nat.reduceLT, Nat.reduceLeDiff, reduceCtorEq, decide_true, Int.natCast_add, Int.cast_ofNat_Int])) ?_; simp only [go_sem, Nat.reduceAdd, Nat.reduceMul, Nat.reduceSub, Nat.reduceEqDiff, Nat.reduceDiv, Nat.reduceLT, Nat.reduceLeDiff, reduceCtorEq, decide_true, Int.natCast_add, Int.cast_ofNat_Int])
  refine ⟨fun h1 => ⟨fun h2 => ?_, fun h2 => ?_⟩, fun h1 => ?_⟩
  · rw [sliceN_none (.inr (.inl h2))]
    (refine ret2 [] (by simp only [go_sem, Nat.reduceAdd, Nat.reduceMul, Nat.reduceSub, Nat.reduceEqDiff, Nat.reduceDiv, Nat.reduceLT, Nat.reduceLeDiff, reduceCtorEq, decide_true, Int.natCast_add, Int.cast_ofNat_Int, List.map_nil]; rfl) ?_; simp only [go_sem, Nat.reduceAdd, Nat.reduceMul, Nat.reduceSub, Nat.reduceEqDiff, Nat.reduceDiv, Nat.reduceLT, Nat.reduceLeDiff, reduceCtorEq, decide_true, Int.natCast_add, Int.cast_ofNat_Int, List.map_nil])
  · have h1' := h1
    simp only [noneR, decide_eq_false_iff_not, not_or, Int.not_lt] at h1'
    have hd := div_up (h := r.h) (high := high) h1'.2 (by omega)
    have hd2 := div_facts (h := r.h) (high := high) h1'.2 (by omega) (by omega)
    rw [hd.1]
    have hN : (r.h - 1) / high < 32768 → ((sliceN r high : Nat) : Int) = (r.h - 1) / high + 1 := fun h => by
      unfold sliceN
      rw [h1, if_neg (by simp; omega)]
      omega
    have hn := sliceN_le (r := r) (high := high)
    have hq := Int.mul_nonneg hd.2.1 (show 0 ≤ high by omega)
    have hq2 : r.h / high ≤ r.h := Int.ediv_le_self high (by omega)
    generalize hqq : r.h / high = q at *
    repeat' first | intro _ | refine And.intro ?_ ?_ | refine ex_get (by omega) ?_
    all_goals try omega
    all_goals try (rw [sliceN_none (.inr (.inr (by omega)))]; (refine ret2 [] (by simp only [go_sem, Nat.reduceAdd, Nat.reduceMul, Nat.reduceSub, Nat.reduceEqDiff, Nat.reduceDiv, Nat.reduceLT, Nat.reduceLeDiff, reduceCtorEq, decide_true, Int.natCast_add, Int.cast_ofNat_Int, List.map_nil]; rfl) ?_; simp only [go_sem, Nat.reduceAdd, Nat.reduceMul, Nat.reduceSub, Nat.reduceEqDiff, Nat.reduceDiv, Nat.reduceLT, Nat.reduceLeDiff, reduceCtorEq, decide_true, Int.natCast_add, Int.cast_ofNat_Int, List.map_nil]))
    all_goals (have hlim : (r.h - 1) / high < 32768 := by omega)
    all_goals (have hN := hN hlim)
    all_goals (first | (have hE : q + 1 = ((sliceN r high : Nat) : Int) := by omega) | (have hE : q = ((sliceN r high : Nat) : Int) := by omega))
    all_goals (refine aloop2 [] (fun i : Nat => ⟨[(1, .raw (.int .i64 high)), (2, .hdr 8), (5, .raw (.int .i64 (sliceN r high))), (6, .hdr 16), (7, .raw (.int .i64 i))], [(8, some (.cells 24 [.raw (.int .i64 r.x), .raw (.int .i64 r.y), .raw (.int .i64 r.w), .raw (.int .i64 r.h)])), (16, some (.row 24 4 (((List.range i).map (sliceR r high)).map cRect)))], none⟩) (fun i => i ≤ sliceN r high) (fun i => sliceN r high - i) 3 0 (by simp only [go_sem, Nat.reduceAdd, Nat.reduceMul, Nat.reduceSub, Nat.reduceEqDiff, Nat.reduceDiv, Nat.reduceLT, Nat.reduceLeDiff, reduceCtorEq, decide_true, Int.natCast_add, Int.cast_ofNat_Int]; rfl) (by simp only [go_sem, Nat.reduceAdd, Nat.reduceMul, Nat.reduceSub, Nat.reduceEqDiff, Nat.reduceDiv, Nat.reduceLT, Nat.reduceLeDiff, reduceCtorEq, decide_true, Int.natCast_add, Int.cast_ofNat_Int, hE, Int.ofNat_zero, Int.zero_mul, Int.sub_zero, List.range_zero, List.map_nil]) ?_ ?_)
    all_goals try exact Nat.zero_le _
    all_goals (
      intro i hi
      simp only [go_sem, Nat.reduceAdd, Nat.reduceMul, Nat.reduceSub, Nat.reduceEqDiff, Nat.reduceDiv, Nat.reduceLT, Nat.reduceLeDiff, reduceCtorEq, decide_true, Int.natCast_add, Int.cast_ofNat_Int, List.length_map, List.length_range]
      refine ⟨fun h4 => ?_, fun h4 => ?_⟩
      · have hlt := (sliceN_lt (high := high) h1 (by omega) hlim i).1 (by omega)
        have hp := Int.mul_nonneg (show 0 ≤ (i : Int) by omega) (show 0 ≤ high by omega)
        refine ⟨by omega, by omega, by omega, by omega, by omega, by omega, ?_⟩
        (refine loop_end [] (i + 1) (by simp only [go_sem, Nat.reduceAdd, Nat.reduceMul, Nat.reduceSub, Nat.reduceEqDiff, Nat.reduceDiv, Nat.reduceLT, Nat.reduceLeDiff, reduceCtorEq, decide_true, Int.natCast_add, Int.cast_ofNat_Int]; rfl) ?_ ?_ ?_; (focus first | omega | (simp only; omega)); (focus (simp only [go_sem, Nat.reduceAdd, Nat.reduceMul, Nat.reduceSub, Nat.reduceEqDiff, Nat.reduceDiv, Nat.reduceLT, Nat.reduceLeDiff, reduceCtorEq, decide_true, Int.natCast_add, Int.cast_ofNat_Int, sliceR, List.range_succ, List.map_append]; done)))
        omega
      · obtain rfl : i = sliceN r high := by omega
        (refine ret2 [] (by simp only [go_sem, Nat.reduceAdd, Nat.reduceMul, Nat.reduceSub, Nat.reduceEqDiff, Nat.reduceDiv, Nat.reduceLT, Nat.reduceLeDiff, reduceCtorEq, decide_true, Int.natCast_add, Int.cast_ofNat_Int, slicesR]; rfl) ?_; simp only [go_sem, Nat.reduceAdd, Nat.reduceMul, Nat.reduceSub, Nat.reduceEqDiff, Nat.reduceDiv, Nat.reduceLT, Nat.reduceLeDiff, reduceCtorEq, decide_true, Int.natCast_add, Int.cast_ofNat_Int, slicesR]))
  · rw [sliceN_none (.inl h1)]
    (refine ret2 [] (by simp only [go_sem, Nat.reduceAdd, Nat.reduceMul, Nat.reduceSub, Nat.reduceEqDiff, Nat.reduceDiv, Nat.reduceLT, Nat.reduceLeDiff, reduceCtorEq, decide_true, Int.natCast_add, Int.cast_ofNat_Int, List.map_nil]; rfl) ?_; simp only [go_sem, Nat.reduceAdd, Nat.reduceMul, Nat.reduceSub, Nat.reduceEqDiff, Nat.reduceDiv, Nat.reduceLT, Nat.reduceLeDiff, reduceCtorEq, decide_true, Int.natCast_add, Int.cast_ofNat_Int, List.map_nil])
end Go.Proofs.Ytdpaflhlgaffdaa
