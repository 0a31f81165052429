/- CHAPTER 9: all lines, the program's and the reference's; rows of runs compared. -/
import Derived.Test.YtbbnfenlpfoaiaaWorA
set_option linter.unusedSimpArgs false
set_option linter.unusedVariables false
namespace Go.Proofs.Ytbbnfenlpfoaiaa
open Go.RowKit

set_option maxRecDepth 100000 in
theorem far_ok (xs : List Int) (sp f : Int) : FnOk Try.prog 64 [.agg [.hdr 0, .raw (.int .i64 sp)], .raw (.int .i64 f)] [(0, .ext 1 (xs.map cInt))] (.raw (.bool (decide (f < 0 ∨ (xs.length : Int) ≤ f)))) [] := by
  refine fn_of_awp Try.func64 rfl (by kernel_rfl) (by kernel_rfl) (Nat.le_of_ble_eq_true rfl) Try.results64 ?_
  simp only [go_sem, Nat.reduceAdd, Nat.reduceMul, Nat.reduceSub, Nat.reduceEqDiff, Nat.reduceDiv, Nat.reduceLT, Nat.reduceLeDiff, reduceCtorEq, decide_true, Int.natCast_add, Int.cast_ofNat_Int, List.length_map]
  refine ⟨fun h => ?_, fun h => ?_⟩
  · simp [h]
  · simp [h]

set_option maxRecDepth 100000 in
theorem take_ok (xs : List Int) (sp width f : Int) (hl : xs.length ≤ 200) (hxs : xs.all nr9 = true) (hsp : 0 ≤ sp ∧ sp ≤ 35184372088832) : FnOk Try.prog 49 [.hdr 0, .raw (.int .i64 sp), .raw (.int .i64 width), .raw (.int .i64 f)] [(0, .ext 1 (xs.map cInt))] (aRun (takeF xs sp width f)) [] := by
  by_cases h : f < 0 ∨ (xs.length : Int) ≤ f
  · refine fn_of_awp Try.func49 rfl (by kernel_rfl) (by kernel_rfl) (Nat.le_of_ble_eq_true rfl) Try.results49 ?_
    simp only [go_sem, Nat.reduceAdd, Nat.reduceMul, Nat.reduceSub, Nat.reduceEqDiff, Nat.reduceDiv, Nat.reduceLT, Nat.reduceLeDiff, reduceCtorEq, decide_true, Int.natCast_add, Int.cast_ofNat_Int, List.length_map]
    refine acall [0] (far_ok xs sp f) (fit_of rfl rfl (by simp only [go_sem, Nat.reduceAdd, Nat.reduceMul, Nat.reduceSub, Nat.reduceEqDiff, Nat.reduceDiv, Nat.reduceLT, Nat.reduceLeDiff, reduceCtorEq, decide_true, Int.natCast_add, Int.cast_ofNat_Int]) (by simp only [go_sem, Nat.reduceAdd, Nat.reduceMul, Nat.reduceSub, Nat.reduceEqDiff, Nat.reduceDiv, Nat.reduceLT, Nat.reduceLeDiff, reduceCtorEq, decide_true, Int.natCast_add, Int.cast_ofNat_Int]) (by simp only [go_sem, Nat.reduceAdd, Nat.reduceMul, Nat.reduceSub, Nat.reduceEqDiff, Nat.reduceDiv, Nat.reduceLT, Nat.reduceLeDiff, reduceCtorEq, decide_true, Int.natCast_add, Int.cast_ofNat_Int]) (by simp only [go_sem, Nat.reduceAdd, Nat.reduceMul, Nat.reduceSub, Nat.reduceEqDiff, Nat.reduceDiv, Nat.reduceLT, Nat.reduceLeDiff, reduceCtorEq, decide_true, Int.natCast_add, Int.cast_ofNat_Int])) ?_
    have hd : decide (f < 0 ∨ (xs.length : Int) ≤ f) = true := by simpa using h
    simp only [go_sem, Nat.reduceAdd, Nat.reduceMul, Nat.reduceSub, Nat.reduceEqDiff, Nat.reduceDiv, Nat.reduceLT, Nat.reduceLeDiff, reduceCtorEq, decide_true, Int.natCast_add, Int.cast_ofNat_Int, hd]
    unfold takeF
    rw [if_pos h]
    exact ⟨rfl, rfl, rfl⟩
  · obtain ⟨f', rfl⟩ := Int.eq_ofNat_of_zero_le (show 0 ≤ f by omega)
    refine fn_ext1 (rest := [.int .i64 sp, .int .i64 width, .int .i64 f']) (u := .agg (runV (takeF xs sp width f'))) (by kernel_rfl) (fun _ => by simp only [aRun, runV, Rep]; exact ⟨_, rfl, by simp [RepL, Rep]⟩) (fun A c w hr _ => ?_)
    have hi := rows_ints hr
    obtain ⟨b, off, rfl, hb, -⟩ := hi f' (by omega)
    have := callsIn_wide.1 (take_in b off c xs sp width f' w hi hl hxs hsp (by omega) hb)
    simpa using this

set_option maxRecDepth 100000 in
theorem clip_ok (rows : List (List Value)) : FnOk Try.prog 66 [.hdr 0] [(0, .row 56 3 rows)] (.hdr 8) [(8, .ext 3 rows)] := by
  refine fn_of_awp Try.func66 rfl (by kernel_rfl) (by kernel_rfl) (Nat.le_of_ble_eq_true rfl) Try.results66 ?_
  simp only [go_sem, Nat.reduceAdd, Nat.reduceMul, Nat.reduceSub, Nat.reduceEqDiff, Nat.reduceDiv, Nat.reduceLT, Nat.reduceLeDiff, reduceCtorEq, decide_true, Int.natCast_add, Int.cast_ofNat_Int]
  refine ⟨by omega, by omega, ret_ent [(8, 56)] ?_⟩
  simp only [go_sem, Nat.reduceAdd, Nat.reduceMul, Nat.reduceSub, Nat.reduceEqDiff, Nat.reduceDiv, Nat.reduceLT, Nat.reduceLeDiff, reduceCtorEq, decide_true, Int.natCast_add, Int.cast_ofNat_Int]
  simp

theorem allG_some {xs : List Int} {sp width : Int} {n f : Nat} (h : f < xs.length) : allG xs sp width (n + 1) f = takeF xs sp width f :: allG xs sp width n (takeT xs sp width f) := by
  show (if _ then _ else _) = _
  rw [if_pos h]
theorem allG_none {xs : List Int} {sp width : Int} {n f : Nat} (h : xs.length ≤ f) : allG xs sp width n f = [] := by
  cases n with
  | zero => rfl
  | succ n => show (if _ then _ else _) = _; rw [if_neg (by omega)]
theorem takeF_nat {xs : List Int} {sp width : Int} {f : Nat} (h : f < xs.length) : takeF xs sp width f = ⟨f, (takeT xs sp width f : Nat), wideN sp (seg xs f (takeT xs sp width f))⟩ := by
  unfold takeF
  rw [if_neg (by omega)]
  simp
structure AllX where
  n : Nat
  f : Nat
  l : List WRun
def AllInv (xs : List Int) (sp width : Int) (x : AllX) : Prop := x.l ++ allG xs sp width x.n x.f = allF xs sp width ∧ xs.length ≤ x.f + x.n ∧ x.l.length ≤ x.f ∧ x.f ≤ xs.length

set_option maxRecDepth 100000 in
theorem rall_ok (xs : List Int) (sp width : Int) (hl : xs.length ≤ 200) (hxs : xs.all nr9 = true) (hsp : 0 ≤ sp ∧ sp ≤ 35184372088832) : FnOk Try.prog 53 [.hdr 0, .raw (.int .i64 sp), .raw (.int .i64 width)] [(0, .ext 1 (xs.map cInt))] (.hdr 8) [(8, .row 56 3 ((allF xs sp width).map cRun))] := by
  refine fn_of_awp Try.func53 rfl (by kernel_rfl) (by kernel_rfl) (Nat.le_of_ble_eq_true rfl) Try.results53 ?_
  simp only [go_sem, Nat.reduceAdd, Nat.reduceMul, Nat.reduceSub, Nat.reduceEqDiff, Nat.reduceDiv, Nat.reduceLT, Nat.reduceLeDiff, reduceCtorEq, decide_true, Int.natCast_add, Int.cast_ofNat_Int, List.length_map]
  refine aloop (fun x : AllX => ⟨[(0, .hdr 0), (1, .raw (.int .i64 sp)), (2, .raw (.int .i64 width)), (7, .hdr 8), (8, .raw (.int .i64 x.f))], [(0, some (.ext 1 (xs.map cInt))), (8, some (.row 56 3 (x.l.map cRun)))], none⟩)
    (AllInv xs sp width) (fun x => xs.length - x.f) 2 ⟨xs.length, 0, []⟩ [(8, 16)] ⟨rfl, by simp, by simp, by simp⟩ ?_ ?_
  · simp only [go_sem, Nat.reduceAdd, Nat.reduceMul, Nat.reduceSub, Nat.reduceEqDiff, Nat.reduceDiv, Nat.reduceLT, Nat.reduceLeDiff, reduceCtorEq, decide_true, Int.natCast_add, Int.cast_ofNat_Int]
  · rintro ⟨n, f, l⟩ ⟨h1, h2, h3, h4⟩
    simp only at h1 h2 h3 h4
    simp only [go_sem, Nat.reduceAdd, Nat.reduceMul, Nat.reduceSub, Nat.reduceEqDiff, Nat.reduceDiv, Nat.reduceLT, Nat.reduceLeDiff, reduceCtorEq, decide_true, Int.natCast_add, Int.cast_ofNat_Int, List.length_map]
    refine ⟨fun h5 => ?_, fun h5 => ?_⟩
    · refine acall [0] (rtake_ok xs sp width f hl hxs hsp) (fit_of rfl rfl (by simp only [go_sem, Nat.reduceAdd, Nat.reduceMul, Nat.reduceSub, Nat.reduceEqDiff, Nat.reduceDiv, Nat.reduceLT, Nat.reduceLeDiff, reduceCtorEq, decide_true, Int.natCast_add, Int.cast_ofNat_Int]) (by simp only [go_sem, Nat.reduceAdd, Nat.reduceMul, Nat.reduceSub, Nat.reduceEqDiff, Nat.reduceDiv, Nat.reduceLT, Nat.reduceLeDiff, reduceCtorEq, decide_true, Int.natCast_add, Int.cast_ofNat_Int]) (by simp only [go_sem, Nat.reduceAdd, Nat.reduceMul, Nat.reduceSub, Nat.reduceEqDiff, Nat.reduceDiv, Nat.reduceLT, Nat.reduceLeDiff, reduceCtorEq, decide_true, Int.natCast_add, Int.cast_ofNat_Int]) (by simp only [go_sem, Nat.reduceAdd, Nat.reduceMul, Nat.reduceSub, Nat.reduceEqDiff, Nat.reduceDiv, Nat.reduceLT, Nat.reduceLeDiff, reduceCtorEq, decide_true, Int.natCast_add, Int.cast_ofNat_Int])) ?_
      simp only [go_sem, Nat.reduceAdd, Nat.reduceMul, Nat.reduceSub, Nat.reduceEqDiff, Nat.reduceDiv, Nat.reduceLT, Nat.reduceLeDiff, reduceCtorEq, decide_true, Int.natCast_add, Int.cast_ofNat_Int, List.length_map]
      obtain ⟨n, rfl⟩ : ∃ m, n = m + 1 := ⟨n - 1, by omega⟩
      have hb := takeT_bd xs sp width f (by omega)
      rw [allG_some (by omega)] at h1
      refine ⟨by omega, ⟨n, takeT xs sp width f, l ++ [takeF xs sp width f]⟩, [(8, 128)], ⟨by simpa using h1, by simp only; omega, by simp; omega, hb.2⟩, by simp only; omega, ?_⟩
      simp only [go_sem, Nat.reduceAdd, Nat.reduceMul, Nat.reduceSub, Nat.reduceEqDiff, Nat.reduceDiv, Nat.reduceLT, Nat.reduceLeDiff, reduceCtorEq, decide_true, Int.natCast_add, Int.cast_ofNat_Int, takeF_nat (show f < xs.length by omega), List.map_append]
    · have e : l = allF xs sp width := by rw [← h1, allG_none (by omega)]; simp
      refine ret_ent [(8, 8)] ?_
      simp only [go_sem, Nat.reduceAdd, Nat.reduceMul, Nat.reduceSub, Nat.reduceEqDiff, Nat.reduceDiv, Nat.reduceLT, Nat.reduceLeDiff, reduceCtorEq, decide_true, Int.natCast_add, Int.cast_ofNat_Int, e]
set_option maxRecDepth 100000 in
theorem all_ok (xs : List Int) (sp width : Int) (hl : xs.length ≤ 200) (hxs : xs.all nr9 = true) (hsp : 0 ≤ sp ∧ sp ≤ 35184372088832) : FnOk Try.prog 52 [.hdr 0, .raw (.int .i64 sp), .raw (.int .i64 width)] [(0, .ext 1 (xs.map cInt))] (.hdr 8) [(8, .ext 3 ((allF xs sp width).map cRun))] := by
  refine fn_of_awp Try.func52 rfl (by kernel_rfl) (by kernel_rfl) (Nat.le_of_ble_eq_true rfl) Try.results52 ?_
  simp only [go_sem, Nat.reduceAdd, Nat.reduceMul, Nat.reduceSub, Nat.reduceEqDiff, Nat.reduceDiv, Nat.reduceLT, Nat.reduceLeDiff, reduceCtorEq, decide_true, Int.natCast_add, Int.cast_ofNat_Int, List.length_map]
  refine aloop (fun x : AllX => ⟨[(0, .hdr 0), (1, .raw (.int .i64 sp)), (2, .raw (.int .i64 width)), (7, .hdr 8), (8, .raw (.int .i64 x.f))], [(0, some (.ext 1 (xs.map cInt))), (8, some (.row 56 3 (x.l.map cRun)))], none⟩)
    (AllInv xs sp width) (fun x => xs.length - x.f) 2 ⟨xs.length, 0, []⟩ [(8, 16)] ⟨rfl, by simp, by simp, by simp⟩ ?_ ?_
  · simp only [go_sem, Nat.reduceAdd, Nat.reduceMul, Nat.reduceSub, Nat.reduceEqDiff, Nat.reduceDiv, Nat.reduceLT, Nat.reduceLeDiff, reduceCtorEq, decide_true, Int.natCast_add, Int.cast_ofNat_Int]
  · rintro ⟨n, f, l⟩ ⟨h1, h2, h3, h4⟩
    simp only at h1 h2 h3 h4
    simp only [go_sem, Nat.reduceAdd, Nat.reduceMul, Nat.reduceSub, Nat.reduceEqDiff, Nat.reduceDiv, Nat.reduceLT, Nat.reduceLeDiff, reduceCtorEq, decide_true, Int.natCast_add, Int.cast_ofNat_Int, List.length_map]
    refine ⟨fun h5 => ?_, fun h5 => ?_⟩
    · refine acall [0] (take_ok xs sp width f hl hxs hsp) (fit_of rfl rfl (by simp only [go_sem, Nat.reduceAdd, Nat.reduceMul, Nat.reduceSub, Nat.reduceEqDiff, Nat.reduceDiv, Nat.reduceLT, Nat.reduceLeDiff, reduceCtorEq, decide_true, Int.natCast_add, Int.cast_ofNat_Int]) (by simp only [go_sem, Nat.reduceAdd, Nat.reduceMul, Nat.reduceSub, Nat.reduceEqDiff, Nat.reduceDiv, Nat.reduceLT, Nat.reduceLeDiff, reduceCtorEq, decide_true, Int.natCast_add, Int.cast_ofNat_Int]) (by simp only [go_sem, Nat.reduceAdd, Nat.reduceMul, Nat.reduceSub, Nat.reduceEqDiff, Nat.reduceDiv, Nat.reduceLT, Nat.reduceLeDiff, reduceCtorEq, decide_true, Int.natCast_add, Int.cast_ofNat_Int]) (by simp only [go_sem, Nat.reduceAdd, Nat.reduceMul, Nat.reduceSub, Nat.reduceEqDiff, Nat.reduceDiv, Nat.reduceLT, Nat.reduceLeDiff, reduceCtorEq, decide_true, Int.natCast_add, Int.cast_ofNat_Int])) ?_
      simp only [go_sem, Nat.reduceAdd, Nat.reduceMul, Nat.reduceSub, Nat.reduceEqDiff, Nat.reduceDiv, Nat.reduceLT, Nat.reduceLeDiff, reduceCtorEq, decide_true, Int.natCast_add, Int.cast_ofNat_Int, List.length_map, List.length_append]
      obtain ⟨n, rfl⟩ : ∃ m, n = m + 1 := ⟨n - 1, by omega⟩
      have hb := takeT_bd xs sp width f (by omega)
      rw [allG_some (by omega)] at h1
      refine ⟨by omega, by omega, by omega, cRun (takeF xs sp width f), by simp [cRun], ?_⟩
      simp only [go_sem, Nat.reduceAdd, Nat.reduceMul, Nat.reduceSub, Nat.reduceEqDiff, Nat.reduceDiv, Nat.reduceLT, Nat.reduceLeDiff, reduceCtorEq, decide_true, Int.natCast_add, Int.cast_ofNat_Int]
      refine ⟨⟨n, takeT xs sp width f, l ++ [takeF xs sp width f]⟩, [(8, 104)], ⟨by simpa using h1, by simp only; omega, by simp; omega, hb.2⟩, by simp only; omega, ?_⟩
      simp only [go_sem, Nat.reduceAdd, Nat.reduceMul, Nat.reduceSub, Nat.reduceEqDiff, Nat.reduceDiv, Nat.reduceLT, Nat.reduceLeDiff, reduceCtorEq, decide_true, Int.natCast_add, Int.cast_ofNat_Int, takeF_nat (show f < xs.length by omega), List.map_append]
    · have e : l = allF xs sp width := by rw [← h1, allG_none (by omega)]; simp
      refine acall [8] (clip_ok (l.map cRun)) (fit_of rfl rfl (by simp only [go_sem, Nat.reduceAdd, Nat.reduceMul, Nat.reduceSub, Nat.reduceEqDiff, Nat.reduceDiv, Nat.reduceLT, Nat.reduceLeDiff, reduceCtorEq, decide_true, Int.natCast_add, Int.cast_ofNat_Int]) (by simp only [go_sem, Nat.reduceAdd, Nat.reduceMul, Nat.reduceSub, Nat.reduceEqDiff, Nat.reduceDiv, Nat.reduceLT, Nat.reduceLeDiff, reduceCtorEq, decide_true, Int.natCast_add, Int.cast_ofNat_Int]) (by simp only [go_sem, Nat.reduceAdd, Nat.reduceMul, Nat.reduceSub, Nat.reduceEqDiff, Nat.reduceDiv, Nat.reduceLT, Nat.reduceLeDiff, reduceCtorEq, decide_true, Int.natCast_add, Int.cast_ofNat_Int]) (by simp only [go_sem, Nat.reduceAdd, Nat.reduceMul, Nat.reduceSub, Nat.reduceEqDiff, Nat.reduceDiv, Nat.reduceLT, Nat.reduceLeDiff, reduceCtorEq, decide_true, Int.natCast_add, Int.cast_ofNat_Int])) ?_
      simp only [go_sem, Nat.reduceAdd, Nat.reduceMul, Nat.reduceSub, Nat.reduceEqDiff, Nat.reduceDiv, Nat.reduceLT, Nat.reduceLeDiff, reduceCtorEq, decide_true, Int.natCast_add, Int.cast_ofNat_Int]
      refine ret_ent [(8, 56)] ?_
      simp only [go_sem, Nat.reduceAdd, Nat.reduceMul, Nat.reduceSub, Nat.reduceEqDiff, Nat.reduceDiv, Nat.reduceLT, Nat.reduceLeDiff, reduceCtorEq, decide_true, Int.natCast_add, Int.cast_ofNat_Int, e]
end Go.Proofs.Ytbbnfenlpfoaiaa
