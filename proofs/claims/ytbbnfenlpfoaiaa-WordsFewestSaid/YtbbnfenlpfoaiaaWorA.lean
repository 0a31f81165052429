/- CHAPTER 9: the reference's Wide and Take; the program's Wide and Take, as contracts. -/
import Derived.Test.YtbbnfenlpfoaiaaTI
import Derived.Test.YtbbnfenlpfoaiaaWorW
import Derived.Test.YtbbnfenlpfoaiaaWorT
set_option linter.unusedSimpArgs false
set_option linter.unusedVariables false
namespace Go.Proofs.Ytbbnfenlpfoaiaa
open Go.RowKit

def cRun (r : WRun) : List Value := [.int .i64 r.f, .int .i64 r.t, .int .i64 r.w]
def aRun (r : WRun) : AV := .agg [.raw (.int .i64 r.f), .raw (.int .i64 r.t), .raw (.int .i64 r.w)]
attribute [go_sem] cRun aRun
theorem sum_bd {xs : List Int} (h : xs.all nr9 = true) (f : Nat) : ∀ t, f ≤ t → t ≤ xs.length → 0 ≤ (seg xs f t).sum ∧ (seg xs f t).sum ≤ 35184372088832 * ((t : Int) - f) := by
  intro t
  induction t with
  | zero => intro h1 _; obtain rfl : f = 0 := by omega
            rw [seg_same]; simp
  | succ t ih =>
    intro h1 h2
    by_cases e : f = t + 1
    · subst e; rw [seg_same]; simp
    · have := ih (by omega) (by omega)
      rw [seg_succ xs f t (by omega) (by omega), List.sum_append]
      have := near9_at h t (by omega)
      simp
      omega
theorem mul_bd {a sp : Int} (h : 0 ≤ a ∧ a ≤ 200) (hsp : 0 ≤ sp ∧ sp ≤ 35184372088832) : 0 ≤ a * sp ∧ a * sp ≤ 7036874417766400 := by
  have h1 := Int.mul_nonneg h.1 hsp.1
  have h2 : a * sp ≤ 200 * sp := Int.mul_le_mul_of_nonneg_right h.2 hsp.1
  omega

set_option maxRecDepth 100000 in
theorem rwide_ok (xs : List Int) (sp f t : Int) (hl : xs.length ≤ 200) (hxs : xs.all nr9 = true) (hsp : 0 ≤ sp ∧ sp ≤ 35184372088832) : FnOk Try.prog 48 [.hdr 0, .raw (.int .i64 sp), .raw (.int .i64 f), .raw (.int .i64 t)] [(0, .ext 1 (xs.map cInt))] (.raw (.int .i64 (wideF xs sp f t))) [] := by
  refine fn_of_awp Try.func48 rfl (by kernel_rfl) (by kernel_rfl) (Nat.le_of_ble_eq_true rfl) Try.results48 ?_
  simp only [go_sem, Nat.reduceAdd, Nat.reduceMul, Nat.reduceSub, Nat.reduceEqDiff, Nat.reduceDiv, Nat.reduceLT, Nat.reduceLeDiff, reduceCtorEq, decide_true, Int.natCast_add, Int.cast_ofNat_Int, List.length_map]
  refine ⟨fun h1 => ⟨fun h2 => ⟨fun h3 => ⟨fun h4 => ?_, fun h4 => ⟨?_, ?_, ?_, ?_⟩⟩, fun h3 => ?_⟩, fun h2 => ?_⟩, fun h1 => ?_⟩
  · unfold wideF; rw [if_pos (by omega)]
  · omega
  · omega
  · have := mul_bd (a := t - f - 1) (by omega) hsp; omega
  · obtain ⟨f', rfl⟩ := Int.eq_ofNat_of_zero_le (show 0 ≤ f by omega)
    obtain ⟨t', rfl⟩ := Int.eq_ofNat_of_zero_le (show 0 ≤ t by omega)
    have hm := mul_bd (a := (t' : Int) - f' - 1) (by omega) hsp
    refine aloop (fun k : Nat => ⟨[(0, .hdr 0), (3, .raw (.int .i64 t')), (9, .raw (.int .i64 ((t' - f' - 1) * sp + (seg xs f' k).sum))), (10, .raw (.int .i64 k))], [(0, some (.ext 1 (xs.map cInt)))], none⟩)
      (fun k => f' ≤ k ∧ k ≤ t') (fun k => t' - k) 1 f' [] ⟨Nat.le_refl _, by omega⟩ ?_ ?_
    · simp only [go_sem, Nat.reduceAdd, Nat.reduceMul, Nat.reduceSub, Nat.reduceEqDiff, Nat.reduceDiv, Nat.reduceLT, Nat.reduceLeDiff, reduceCtorEq, decide_true, Int.natCast_add, Int.cast_ofNat_Int]
      simp [seg_same]
    · intro k hk
      have hs := sum_bd hxs f' k (by omega) (by omega)
      simp only [go_sem, Nat.reduceAdd, Nat.reduceMul, Nat.reduceSub, Nat.reduceEqDiff, Nat.reduceDiv, Nat.reduceLT, Nat.reduceLeDiff, reduceCtorEq, decide_true, Int.natCast_add, Int.cast_ofNat_Int, List.length_map]
      refine ⟨fun h5 => ⟨by omega, xs[k], ?_, ?_, ?_, ?_⟩, fun h5 => ?_⟩
      · simp
      · have := near9_at hxs k (by omega); omega
      · omega
      · refine ⟨k + 1, [], by omega, by simp only; omega, ?_⟩
        simp only [go_sem, Nat.reduceAdd, Nat.reduceMul, Nat.reduceSub, Nat.reduceEqDiff, Nat.reduceDiv, Nat.reduceLT, Nat.reduceLeDiff, reduceCtorEq, decide_true, Int.natCast_add, Int.cast_ofNat_Int]
        rw [seg_succ xs f' k (by omega) (by omega)]
        simp
        omega
      · obtain rfl : k = t' := by omega
        unfold wideF
        rw [if_neg (by omega)]
        simp only [Int.toNat_natCast, wideN, seg_len xs f' k (by omega)]
        rw [show (((k - f' : Nat) : Int) - 1) = (k : Int) - f' - 1 by omega, Int.add_comm]
  · unfold wideF; rw [if_pos (by omega)]
  · unfold wideF; rw [if_pos (by omega)]
  · unfold wideF; rw [if_pos (by omega)]

theorem wide_ok (xs : List Int) (sp f t : Int) (hl : xs.length ≤ 200) (hxs : xs.all nr9 = true) (hsp : 0 ≤ sp ∧ sp ≤ 35184372088832) : FnOk Try.prog 47 [.hdr 0, .raw (.int .i64 sp), .raw (.int .i64 f), .raw (.int .i64 t)] [(0, .ext 1 (xs.map cInt))] (.raw (.int .i64 (wideF xs sp f t))) [] :=
  fn_ext1 (rest := [.int .i64 sp, .int .i64 f, .int .i64 t]) (u := .int .i64 (wideF xs sp f t)) (by kernel_rfl) (fun _ => by simp [Rep]) (fun A c w hr _ => by
    have := wide_any A c xs sp f t w (rows_ints hr) hl hxs hsp
    simpa using this)

theorem wideF_nat {xs : List Int} {sp : Int} {f t : Nat} (h : f < t) (ht : t ≤ xs.length) : wideF xs sp f t = wideN sp (seg xs f t) := by
  unfold wideF
  rw [if_neg (by omega)]
  simp

set_option maxRecDepth 100000 in
theorem rtake_ok (xs : List Int) (sp width f : Int) (hl : xs.length ≤ 200) (hxs : xs.all nr9 = true) (hsp : 0 ≤ sp ∧ sp ≤ 35184372088832) : FnOk Try.prog 50 [.hdr 0, .raw (.int .i64 sp), .raw (.int .i64 width), .raw (.int .i64 f)] [(0, .ext 1 (xs.map cInt))] (aRun (takeF xs sp width f)) [] := by
  refine fn_of_awp Try.func50 rfl (by kernel_rfl) (by kernel_rfl) (Nat.le_of_ble_eq_true rfl) Try.results50 ?_
  simp only [go_sem, Nat.reduceAdd, Nat.reduceMul, Nat.reduceSub, Nat.reduceEqDiff, Nat.reduceDiv, Nat.reduceLT, Nat.reduceLeDiff, reduceCtorEq, decide_true, Int.natCast_add, Int.cast_ofNat_Int, List.length_map]
  refine ⟨fun h1 => ⟨fun h2 => ?_, fun h2 => ⟨?_, ?_⟩⟩, fun h1 => ?_⟩
  · unfold takeF; rw [if_pos (by omega)]; exact ⟨rfl, rfl, rfl⟩
  · omega
  · obtain ⟨f', rfl⟩ := Int.eq_ofNat_of_zero_le (show 0 ≤ f by omega)
    refine aloop (fun t : Nat => ⟨[(0, .hdr 0), (1, .raw (.int .i64 sp)), (2, .raw (.int .i64 width)), (3, .raw (.int .i64 f')), (8, .hdr 8), (9, .raw (.int .i64 t))], [(0, some (.ext 1 (xs.map cInt))), (8, some (.cells 56 [.raw (.int .i64 0), .raw (.int .i64 0), .raw (.int .i64 0)]))], none⟩)
      (fun t => f' + 1 ≤ t ∧ t ≤ xs.length ∧ growT xs sp width f' (xs.length - t) t = takeT xs sp width f') (fun t => xs.length - t) 2 (f' + 1) [] ⟨Nat.le_refl _, by omega, rfl⟩ ?_ ?_
    · simp only [go_sem, Nat.reduceAdd, Nat.reduceMul, Nat.reduceSub, Nat.reduceEqDiff, Nat.reduceDiv, Nat.reduceLT, Nat.reduceLeDiff, reduceCtorEq, decide_true, Int.natCast_add, Int.cast_ofNat_Int]
    · intro t ht
      have hfin : takeT xs sp width f' = t → aRun (takeF xs sp width f') = .agg [.raw (.int .i64 f'), .raw (.int .i64 t), .raw (.int .i64 (wideF xs sp f' t))] := fun e => by
        unfold takeF
        rw [if_neg (by omega)]
        simp only [Int.toNat_natCast, e, aRun]
        rw [wideF_nat (by omega) (by omega)]
      simp only [go_sem, Nat.reduceAdd, Nat.reduceMul, Nat.reduceSub, Nat.reduceEqDiff, Nat.reduceDiv, Nat.reduceLT, Nat.reduceLeDiff, reduceCtorEq, decide_true, Int.natCast_add, Int.cast_ofNat_Int, List.length_map]
      refine ⟨fun h3 => ⟨by omega, ?_⟩, fun h3 => ?_⟩
      · refine acall [0] (rwide_ok xs sp f' (t + 1) hl hxs hsp) (fit_of rfl rfl (by simp only [go_sem, Nat.reduceAdd, Nat.reduceMul, Nat.reduceSub, Nat.reduceEqDiff, Nat.reduceDiv, Nat.reduceLT, Nat.reduceLeDiff, reduceCtorEq, decide_true, Int.natCast_add, Int.cast_ofNat_Int]) (by simp only [go_sem, Nat.reduceAdd, Nat.reduceMul, Nat.reduceSub, Nat.reduceEqDiff, Nat.reduceDiv, Nat.reduceLT, Nat.reduceLeDiff, reduceCtorEq, decide_true, Int.natCast_add, Int.cast_ofNat_Int]) (by simp only [go_sem, Nat.reduceAdd, Nat.reduceMul, Nat.reduceSub, Nat.reduceEqDiff, Nat.reduceDiv, Nat.reduceLT, Nat.reduceLeDiff, reduceCtorEq, decide_true, Int.natCast_add, Int.cast_ofNat_Int]) (by simp only [go_sem, Nat.reduceAdd, Nat.reduceMul, Nat.reduceSub, Nat.reduceEqDiff, Nat.reduceDiv, Nat.reduceLT, Nat.reduceLeDiff, reduceCtorEq, decide_true, Int.natCast_add, Int.cast_ofNat_Int])) ?_
        have hw := wideF_nat (xs := xs) (sp := sp) (f := f') (t := t + 1) (by omega) (by omega)
        simp only [go_sem, Nat.reduceAdd, Nat.reduceMul, Nat.reduceSub, Nat.reduceEqDiff, Nat.reduceDiv, Nat.reduceLT, Nat.reduceLeDiff, reduceCtorEq, decide_true, Int.natCast_add, Int.cast_ofNat_Int]
        refine ⟨fun h4 => ⟨by omega, t + 1, [], ⟨by omega, by omega, ?_⟩, by simp only; omega, ?_⟩, fun h4 => ?_⟩
        · rw [← growT_yes (by omega) (by rw [← hw]; simpa using h4)]; exact ht.2.2
        · simp only [go_sem, Nat.reduceAdd, Nat.reduceMul, Nat.reduceSub, Nat.reduceEqDiff, Nat.reduceDiv, Nat.reduceLT, Nat.reduceLeDiff, reduceCtorEq, decide_true, Int.natCast_add, Int.cast_ofNat_Int]
        · refine acall [0] (rwide_ok xs sp f' t hl hxs hsp) (fit_of rfl rfl (by simp only [go_sem, Nat.reduceAdd, Nat.reduceMul, Nat.reduceSub, Nat.reduceEqDiff, Nat.reduceDiv, Nat.reduceLT, Nat.reduceLeDiff, reduceCtorEq, decide_true, Int.natCast_add, Int.cast_ofNat_Int]) (by simp only [go_sem, Nat.reduceAdd, Nat.reduceMul, Nat.reduceSub, Nat.reduceEqDiff, Nat.reduceDiv, Nat.reduceLT, Nat.reduceLeDiff, reduceCtorEq, decide_true, Int.natCast_add, Int.cast_ofNat_Int]) (by simp only [go_sem, Nat.reduceAdd, Nat.reduceMul, Nat.reduceSub, Nat.reduceEqDiff, Nat.reduceDiv, Nat.reduceLT, Nat.reduceLeDiff, reduceCtorEq, decide_true, Int.natCast_add, Int.cast_ofNat_Int]) (by simp only [go_sem, Nat.reduceAdd, Nat.reduceMul, Nat.reduceSub, Nat.reduceEqDiff, Nat.reduceDiv, Nat.reduceLT, Nat.reduceLeDiff, reduceCtorEq, decide_true, Int.natCast_add, Int.cast_ofNat_Int])) ?_
          have e := hfin (ht.2.2.symm.trans (growT_no fun hc => h4 (by have := hc.2; rw [← hw] at this; simpa using this)))
          simp only [aRun, AV.agg.injEq, List.cons.injEq, AV.raw.injEq, Value.int.injEq, true_and, and_true] at e
          simp only [go_sem, Nat.reduceAdd, Nat.reduceMul, Nat.reduceSub, Nat.reduceEqDiff, Nat.reduceDiv, Nat.reduceLT, Nat.reduceLeDiff, reduceCtorEq, decide_true, Int.natCast_add, Int.cast_ofNat_Int, e.1, e.2.1, e.2.2]
      · refine acall [0] (rwide_ok xs sp f' t hl hxs hsp) (fit_of rfl rfl (by simp only [go_sem, Nat.reduceAdd, Nat.reduceMul, Nat.reduceSub, Nat.reduceEqDiff, Nat.reduceDiv, Nat.reduceLT, Nat.reduceLeDiff, reduceCtorEq, decide_true, Int.natCast_add, Int.cast_ofNat_Int]) (by simp only [go_sem, Nat.reduceAdd, Nat.reduceMul, Nat.reduceSub, Nat.reduceEqDiff, Nat.reduceDiv, Nat.reduceLT, Nat.reduceLeDiff, reduceCtorEq, decide_true, Int.natCast_add, Int.cast_ofNat_Int]) (by simp only [go_sem, Nat.reduceAdd, Nat.reduceMul, Nat.reduceSub, Nat.reduceEqDiff, Nat.reduceDiv, Nat.reduceLT, Nat.reduceLeDiff, reduceCtorEq, decide_true, Int.natCast_add, Int.cast_ofNat_Int]) (by simp only [go_sem, Nat.reduceAdd, Nat.reduceMul, Nat.reduceSub, Nat.reduceEqDiff, Nat.reduceDiv, Nat.reduceLT, Nat.reduceLeDiff, reduceCtorEq, decide_true, Int.natCast_add, Int.cast_ofNat_Int])) ?_
        have e := hfin (ht.2.2.symm.trans (growT_no fun hc => h3 (by omega)))
        simp only [aRun, AV.agg.injEq, List.cons.injEq, AV.raw.injEq, Value.int.injEq, true_and, and_true] at e
        simp only [go_sem, Nat.reduceAdd, Nat.reduceMul, Nat.reduceSub, Nat.reduceEqDiff, Nat.reduceDiv, Nat.reduceLT, Nat.reduceLeDiff, reduceCtorEq, decide_true, Int.natCast_add, Int.cast_ofNat_Int, e.1, e.2.1, e.2.2]
  · unfold takeF; rw [if_pos (by omega)]; exact ⟨rfl, rfl, rfl⟩
end Go.Proofs.Ytbbnfenlpfoaiaa
