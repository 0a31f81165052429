/- CHAPTER 3: the law RectSlices. -/
import Derived.Test.YtdpaflhlgaffdaaRecD
set_option linter.unusedSimpArgs false
set_option linter.unusedVariables false
namespace Go.Proofs.Ytdpaflhlgaffdaa
open Go.RowKit

def hasS (s : LSpan) (at' : Int) : Bool := decide (s.a ≤ at' ∧ at' < s.b)
def hasR (r : LRect) (x y : Int) : Bool := !noneR r && hasS (acr r) x && hasS (dwn r) y
set_option maxRecDepth 100000 in
theorem shas_ok (s : LSpan) (k : Int) : FnOk Try.prog 64 [aSpan s, .raw (.int .i64 k)] [] (.raw (.bool (hasS s k))) [] := by
  refine fn_of_awp Try.func64 rfl (by kernel_rfl) (by kernel_rfl) (Nat.le_of_ble_eq_true rfl) Try.results64 ?_
  simp only [go_sem, Nat.reduceAdd, Nat.reduceMul, Nat.reduceSub, Nat.reduceEqDiff, Nat.reduceDiv, Nat.reduceLT, Nat.reduceLeDiff, reduceCtorEq, decide_true, Int.natCast_add, Int.cast_ofNat_Int]
  repeat' first | intro _ | refine And.intro ?_ ?_ | refine ex_get (by omega) ?_
  all_goals (unfold hasS; first | (simp; omega) | (simp [*]; try omega))
set_option maxRecDepth 100000 in
theorem rhas_ok (r : LRect) (x y : Int) (hr : nearR r = true) : FnOk Try.prog 29 [aRect r, .raw (.int .i64 x), .raw (.int .i64 y)] [] (.raw (.bool (hasR r x y))) [] := by
  refine fn_of_awp Try.func29 rfl (by kernel_rfl) (by kernel_rfl) (Nat.le_of_ble_eq_true rfl) Try.results29 ?_
  simp only [go_sem, Nat.reduceAdd, Nat.reduceMul, Nat.reduceSub, Nat.reduceEqDiff, Nat.reduceDiv, Nat.reduceLT, Nat.reduceLeDiff, reduceCtorEq, decide_true, Int.natCast_add, Int.cast_ofNat_Int]
  (refine acall2 (rnone_ok r) (by simp only [go_sem, Nat.reduceAdd, Nat.reduceMul, Nat.reduceSub, Nat.reduceEqDiff, Nat.reduceDiv, Nat.reduceLT, Nat.reduceLeDiff, reduceCtorEq, decide_true, Int.natCast_add, Int.cast_ofNat_Int]; rfl) (fit_of rfl rfl (by simp only [go_sem, Nat.reduceAdd, Nat.reduceMul, Nat.reduceSub, Nat.reduceEqDiff, Nat.reduceDiv, Nat.reduceLT, Nat.reduceLeDiff, reduceCtorEq, decide_true, Int.natCast_add, Int.cast_ofNat_Int]) (by simp only [go_sem, Nat.reduceAdd, Nat.reduceMul, Nat.reduceSub, Nat.reduceEqDiff, Nat.reduceDiv, Nat.reduceLT, Nat.reduceLeDiff, reduceCtorEq, decide_true, Int.natCast_add, Int.cast_ofNat_Int]) (by simp only [go_sem, Nat.reduceAdd, Nat.reduceMul, Nat.reduceSub, Nat.reduceEqDiff, Nat.reduceDiv, Nat.reduceLT, Nat.reduceLeDiff, reduceCtorEq, decide_true, Int.natCast_add, Int.cast_ofNat_Int]) (by simp only [go_sem, Nat.reduceAdd, Nat.reduceMul, Nat.reduceSub, Nat.reduceEqDiff, Nat.reduceDiv, Nat.reduceLT, Nat.reduceLeDiff, reduceCtorEq, decide_true, Int.natCast_add, Int.cast_ofNat_Int])) ?_; simp only [go_sem, Nat.reduceAdd, Nat.reduceMul, Nat.reduceSub, Nat.reduceEqDiff, Nat.reduceDiv, Nat.reduceLT, Nat.reduceLeDiff, reduceCtorEq, decide_true, Int.natCast_add, Int.cast_ofNat_Int])
  refine ⟨fun h1 => ?_, fun h1 => ?_⟩
  · have h1' : noneR r = false := by simpa using h1
    (refine acall2 (across_ok r hr) (by simp only [go_sem, Nat.reduceAdd, Nat.reduceMul, Nat.reduceSub, Nat.reduceEqDiff, Nat.reduceDiv, Nat.reduceLT, Nat.reduceLeDiff, reduceCtorEq, decide_true, Int.natCast_add, Int.cast_ofNat_Int]; rfl) (fit_of rfl rfl (by simp only [go_sem, Nat.reduceAdd, Nat.reduceMul, Nat.reduceSub, Nat.reduceEqDiff, Nat.reduceDiv, Nat.reduceLT, Nat.reduceLeDiff, reduceCtorEq, decide_true, Int.natCast_add, Int.cast_ofNat_Int]) (by simp only [go_sem, Nat.reduceAdd, Nat.reduceMul, Nat.reduceSub, Nat.reduceEqDiff, Nat.reduceDiv, Nat.reduceLT, Nat.reduceLeDiff, reduceCtorEq, decide_true, Int.natCast_add, Int.cast_ofNat_Int]) (by simp only [go_sem, Nat.reduceAdd, Nat.reduceMul, Nat.reduceSub, Nat.reduceEqDiff, Nat.reduceDiv, Nat.reduceLT, Nat.reduceLeDiff, reduceCtorEq, decide_true, Int.natCast_add, Int.cast_ofNat_Int]) (by simp only [go_sem, Nat.reduceAdd, Nat.reduceMul, Nat.reduceSub, Nat.reduceEqDiff, Nat.reduceDiv, Nat.reduceLT, Nat.reduceLeDiff, reduceCtorEq, decide_true, Int.natCast_add, Int.cast_ofNat_Int])) ?_; simp only [go_sem, Nat.reduceAdd, Nat.reduceMul, Nat.reduceSub, Nat.reduceEqDiff, Nat.reduceDiv, Nat.reduceLT, Nat.reduceLeDiff, reduceCtorEq, decide_true, Int.natCast_add, Int.cast_ofNat_Int])
    (refine acall2 (shas_ok (acr r) x) (by simp only [go_sem, Nat.reduceAdd, Nat.reduceMul, Nat.reduceSub, Nat.reduceEqDiff, Nat.reduceDiv, Nat.reduceLT, Nat.reduceLeDiff, reduceCtorEq, decide_true, Int.natCast_add, Int.cast_ofNat_Int]; rfl) (fit_of rfl rfl (by simp only [go_sem, Nat.reduceAdd, Nat.reduceMul, Nat.reduceSub, Nat.reduceEqDiff, Nat.reduceDiv, Nat.reduceLT, Nat.reduceLeDiff, reduceCtorEq, decide_true, Int.natCast_add, Int.cast_ofNat_Int]) (by simp only [go_sem, Nat.reduceAdd, Nat.reduceMul, Nat.reduceSub, Nat.reduceEqDiff, Nat.reduceDiv, Nat.reduceLT, Nat.reduceLeDiff, reduceCtorEq, decide_true, Int.natCast_add, Int.cast_ofNat_Int]) (by simp only [go_sem, Nat.reduceAdd, Nat.reduceMul, Nat.reduceSub, Nat.reduceEqDiff, Nat.reduceDiv, Nat.reduceLT, Nat.reduceLeDiff, reduceCtorEq, decide_true, Int.natCast_add, Int.cast_ofNat_Int]) (by simp only [go_sem, Nat.reduceAdd, Nat.reduceMul, Nat.reduceSub, Nat.reduceEqDiff, Nat.reduceDiv, Nat.reduceLT, Nat.reduceLeDiff, reduceCtorEq, decide_true, Int.natCast_add, Int.cast_ofNat_Int])) ?_; simp only [go_sem, Nat.reduceAdd, Nat.reduceMul, Nat.reduceSub, Nat.reduceEqDiff, Nat.reduceDiv, Nat.reduceLT, Nat.reduceLeDiff, reduceCtorEq, decide_true, Int.natCast_add, Int.cast_ofNat_Int])
    refine ⟨fun h2 => ?_, fun h2 => ?_⟩
    · (refine acall2 (down_ok r hr) (by simp only [go_sem, Nat.reduceAdd, Nat.reduceMul, Nat.reduceSub, Nat.reduceEqDiff, Nat.reduceDiv, Nat.reduceLT, Nat.reduceLeDiff, reduceCtorEq, decide_true, Int.natCast_add, Int.cast_ofNat_Int]; rfl) (fit_of rfl rfl (by simp only [go_sem, Nat.reduceAdd, Nat.reduceMul, Nat.reduceSub, Nat.reduceEqDiff, Nat.reduceDiv, Nat.reduceLT, Nat.reduceLeDiff, reduceCtorEq, decide_true, Int.natCast_add, Int.cast_ofNat_Int]) (by simp only [go_sem, Nat.reduceAdd, Nat.reduceMul, Nat.reduceSub, Nat.reduceEqDiff, Nat.reduceDiv, Nat.reduceLT, Nat.reduceLeDiff, reduceCtorEq, decide_true, Int.natCast_add, Int.cast_ofNat_Int]) (by simp only [go_sem, Nat.reduceAdd, Nat.reduceMul, Nat.reduceSub, Nat.reduceEqDiff, Nat.reduceDiv, Nat.reduceLT, Nat.reduceLeDiff, reduceCtorEq, decide_true, Int.natCast_add, Int.cast_ofNat_Int]) (by simp only [go_sem, Nat.reduceAdd, Nat.reduceMul, Nat.reduceSub, Nat.reduceEqDiff, Nat.reduceDiv, Nat.reduceLT, Nat.reduceLeDiff, reduceCtorEq, decide_true, Int.natCast_add, Int.cast_ofNat_Int])) ?_; simp only [go_sem, Nat.reduceAdd, Nat.reduceMul, Nat.reduceSub, Nat.reduceEqDiff, Nat.reduceDiv, Nat.reduceLT, Nat.reduceLeDiff, reduceCtorEq, decide_true, Int.natCast_add, Int.cast_ofNat_Int])
      (refine acall2 (shas_ok (dwn r) y) (by simp only [go_sem, Nat.reduceAdd, Nat.reduceMul, Nat.reduceSub, Nat.reduceEqDiff, Nat.reduceDiv, Nat.reduceLT, Nat.reduceLeDiff, reduceCtorEq, decide_true, Int.natCast_add, Int.cast_ofNat_Int]; rfl) (fit_of rfl rfl (by simp only [go_sem, Nat.reduceAdd, Nat.reduceMul, Nat.reduceSub, Nat.reduceEqDiff, Nat.reduceDiv, Nat.reduceLT, Nat.reduceLeDiff, reduceCtorEq, decide_true, Int.natCast_add, Int.cast_ofNat_Int]) (by simp only [go_sem, Nat.reduceAdd, Nat.reduceMul, Nat.reduceSub, Nat.reduceEqDiff, Nat.reduceDiv, Nat.reduceLT, Nat.reduceLeDiff, reduceCtorEq, decide_true, Int.natCast_add, Int.cast_ofNat_Int]) (by simp only [go_sem, Nat.reduceAdd, Nat.reduceMul, Nat.reduceSub, Nat.reduceEqDiff, Nat.reduceDiv, Nat.reduceLT, Nat.reduceLeDiff, reduceCtorEq, decide_true, Int.natCast_add, Int.cast_ofNat_Int]) (by simp only [go_sem, Nat.reduceAdd, Nat.reduceMul, Nat.reduceSub, Nat.reduceEqDiff, Nat.reduceDiv, Nat.reduceLT, Nat.reduceLeDiff, reduceCtorEq, decide_true, Int.natCast_add, Int.cast_ofNat_Int])) ?_; simp only [go_sem, Nat.reduceAdd, Nat.reduceMul, Nat.reduceSub, Nat.reduceEqDiff, Nat.reduceDiv, Nat.reduceLT, Nat.reduceLeDiff, reduceCtorEq, decide_true, Int.natCast_add, Int.cast_ofNat_Int])
      simp [hasR, h1', h2]
    · simp [hasR, h2]
  · have h1' : noneR r = true := by simpa using h1
    simp [hasR, h1']
theorem hasS_iff (s : LSpan) (k : Int) : hasS s k = true ↔ s.a ≤ k ∧ k < s.b := decide_eq_true_iff
theorem has_eq (r : LRect) (x y : Int) : hasR r x y = true ↔ 1 ≤ r.w ∧ 1 ≤ r.h ∧ r.x ≤ x ∧ x < r.x + r.w ∧ r.y ≤ y ∧ y < r.y + r.h := by
  simp only [hasR, noneR, hasS_iff, acr, dwn, Bool.and_eq_true, Bool.not_eq_true', decide_eq_false_iff_not]
  omega
theorem has_count {r : LRect} {a c m : Int} {b : Bool} (x y : Int) (h1 : 1 ≤ r.w) (h2 : 1 ≤ c) (h3 : r.y ≤ a) (i4 : m = (if (r.x ≤ x ∧ x < r.x + r.w) ∧ r.y ≤ y ∧ y < a then 1 else 0)) (hb : b = hasR ⟨r.x, a, r.w, c⟩ x y) : m + (if b then 1 else 0) = (if (r.x ≤ x ∧ x < r.x + r.w) ∧ r.y ≤ y ∧ y < a + c then 1 else 0) := by
  have e := has_eq ⟨r.x, a, r.w, c⟩ x y
  simp only at e
  subst hb
  subst i4
  simp only [e]
  by_cases q1 : r.x ≤ x ∧ x < r.x + r.w <;> by_cases q2 : r.y ≤ y <;> by_cases q3 : y < a <;> by_cases q4 : a ≤ y <;> by_cases q5 : y < a + c <;> first | omega | (simp only [q1, q2, q3, q4, q5, h1, h2, and_self, and_true, true_and, and_false, false_and, if_true, if_false] <;> omega)
structure RsX where
  k : Nat
  a : Int
  m : Int
def RsInv (r : LRect) (high x y : Int) (z : RsX) : Prop := z.k ≤ sliceN r high ∧ (z.k < sliceN r high → z.a = r.y + z.k * high) ∧ (z.k = sliceN r high → z.a = r.y + r.h) ∧ z.m = (if (r.x ≤ x ∧ x < r.x + r.w) ∧ r.y ≤ y ∧ y < z.a then 1 else 0)
set_option maxRecDepth 100000 in
set_option maxHeartbeats 4000000 in
theorem rectSlices_ok (r : LRect) (high x y : Int) (hi : (-9223372036854775808 ≤ r.x ∧ r.x ≤ 9223372036854775807) ∧ (-9223372036854775808 ≤ r.y ∧ r.y ≤ 9223372036854775807) ∧ (-9223372036854775808 ≤ r.w ∧ r.w ≤ 9223372036854775807) ∧ (-9223372036854775808 ≤ r.h ∧ r.h ≤ 9223372036854775807)) : FnOk Try.prog 5 [aRect r, .raw (.int .i64 high), .raw (.int .i64 x), .raw (.int .i64 y)] [] (.raw (.bool true)) [] := by
  refine fn_of_awp Try.func5 rfl (by kernel_rfl) (by kernel_rfl) (Nat.le_of_ble_eq_true rfl) Try.results5 ?_
  simp only [go_sem, Nat.reduceAdd, Nat.reduceMul, Nat.reduceSub, Nat.reduceEqDiff, Nat.reduceDiv, Nat.reduceLT, Nat.reduceLeDiff, reduceCtorEq, decide_true, Int.natCast_add, Int.cast_ofNat_Int]
  have ht := fun h => tdiv_bd (high := high) h hi.2.2.2
  have hend : ∀ h : nearR r = true, high ≤ 288230376151711744 → True := fun _ _ => trivial
  repeat' first | intro _ | refine And.intro ?_ ?_ | refine ex_get (by omega) ?_
  all_goals try omega
  all_goals try (have := ht (by omega); omega)
  all_goals try ((refine acall2 (awake03) (by simp only [go_sem, Nat.reduceAdd, Nat.reduceMul, Nat.reduceSub, Nat.reduceEqDiff, Nat.reduceDiv, Nat.reduceLT, Nat.reduceLeDiff, reduceCtorEq, decide_true, Int.natCast_add, Int.cast_ofNat_Int]; rfl) (fit_of rfl rfl (by simp only [go_sem, Nat.reduceAdd, Nat.reduceMul, Nat.reduceSub, Nat.reduceEqDiff, Nat.reduceDiv, Nat.reduceLT, Nat.reduceLeDiff, reduceCtorEq, decide_true, Int.natCast_add, Int.cast_ofNat_Int]) (by simp only [go_sem, Nat.reduceAdd, Nat.reduceMul, Nat.reduceSub, Nat.reduceEqDiff, Nat.reduceDiv, Nat.reduceLT, Nat.reduceLeDiff, reduceCtorEq, decide_true, Int.natCast_add, Int.cast_ofNat_Int]) (by simp only [go_sem, Nat.reduceAdd, Nat.reduceMul, Nat.reduceSub, Nat.reduceEqDiff, Nat.reduceDiv, Nat.reduceLT, Nat.reduceLeDiff, reduceCtorEq, decide_true, Int.natCast_add, Int.cast_ofNat_Int]) (by simp only [go_sem, Nat.reduceAdd, Nat.reduceMul, Nat.reduceSub, Nat.reduceEqDiff, Nat.reduceDiv, Nat.reduceLT, Nat.reduceLeDiff, reduceCtorEq, decide_true, Int.natCast_add, Int.cast_ofNat_Int])) ?_; simp only [go_sem, Nat.reduceAdd, Nat.reduceMul, Nat.reduceSub, Nat.reduceEqDiff, Nat.reduceDiv, Nat.reduceLT, Nat.reduceLeDiff, reduceCtorEq, decide_true, Int.natCast_add, Int.cast_ofNat_Int]); done)
  all_goals (have hr : nearR r = true := nearR_iff.2 (by omega))
  all_goals ((refine acall2 (slices_ok r high hr (by omega)) (by simp only [go_sem, Nat.reduceAdd, Nat.reduceMul, Nat.reduceSub, Nat.reduceEqDiff, Nat.reduceDiv, Nat.reduceLT, Nat.reduceLeDiff, reduceCtorEq, decide_true, Int.natCast_add, Int.cast_ofNat_Int]; rfl) (fit_of rfl rfl (by simp only [go_sem, Nat.reduceAdd, Nat.reduceMul, Nat.reduceSub, Nat.reduceEqDiff, Nat.reduceDiv, Nat.reduceLT, Nat.reduceLeDiff, reduceCtorEq, decide_true, Int.natCast_add, Int.cast_ofNat_Int]) (by simp only [go_sem, Nat.reduceAdd, Nat.reduceMul, Nat.reduceSub, Nat.reduceEqDiff, Nat.reduceDiv, Nat.reduceLT, Nat.reduceLeDiff, reduceCtorEq, decide_true, Int.natCast_add, Int.cast_ofNat_Int]) (by simp only [go_sem, Nat.reduceAdd, Nat.reduceMul, Nat.reduceSub, Nat.reduceEqDiff, Nat.reduceDiv, Nat.reduceLT, Nat.reduceLeDiff, reduceCtorEq, decide_true, Int.natCast_add, Int.cast_ofNat_Int]) (by simp only [go_sem, Nat.reduceAdd, Nat.reduceMul, Nat.reduceSub, Nat.reduceEqDiff, Nat.reduceDiv, Nat.reduceLT, Nat.reduceLeDiff, reduceCtorEq, decide_true, Int.natCast_add, Int.cast_ofNat_Int])) ?_; simp only [go_sem, Nat.reduceAdd, Nat.reduceMul, Nat.reduceSub, Nat.reduceEqDiff, Nat.reduceDiv, Nat.reduceLT, Nat.reduceLeDiff, reduceCtorEq, decide_true, Int.natCast_add, Int.cast_ofNat_Int, List.length_map]))
  all_goals (
    have hz : noneR r = true ∨ high < 1 ∨ 32768 ≤ (r.h - 1) / high → (slicesR r high).length = 0 := fun h => by rw [sliceN_none h]; rfl
    have hz1 : r.w < 1 ∨ r.h < 1 → (slicesR r high).length = 0 := fun h => hz (.inl (by simp only [noneR, decide_eq_true_eq]; exact h))
    have hdv : 1 ≤ r.h → 1 ≤ high → (r.h - 1).tdiv high = (r.h - 1) / high ∧ 0 ≤ (r.h - 1) / high ∧ (r.h - 1) / high ≤ 1152921504606846976 := fun a b => div_facts a b (by omega)
    repeat' first | intro _ | refine And.intro ?_ ?_ | refine ex_get (by omega) ?_
    all_goals try omega
    all_goals try (have := hdv (by omega) (by omega); omega)
    all_goals try (have := hdv (by omega) (by omega); have := hz (by omega); omega)
    all_goals try (have := hz1 (by omega); omega)
    all_goals try ((refine acall2 (awake03) (by simp only [go_sem, Nat.reduceAdd, Nat.reduceMul, Nat.reduceSub, Nat.reduceEqDiff, Nat.reduceDiv, Nat.reduceLT, Nat.reduceLeDiff, reduceCtorEq, decide_true, Int.natCast_add, Int.cast_ofNat_Int]; rfl) (fit_of rfl rfl (by simp only [go_sem, Nat.reduceAdd, Nat.reduceMul, Nat.reduceSub, Nat.reduceEqDiff, Nat.reduceDiv, Nat.reduceLT, Nat.reduceLeDiff, reduceCtorEq, decide_true, Int.natCast_add, Int.cast_ofNat_Int]) (by simp only [go_sem, Nat.reduceAdd, Nat.reduceMul, Nat.reduceSub, Nat.reduceEqDiff, Nat.reduceDiv, Nat.reduceLT, Nat.reduceLeDiff, reduceCtorEq, decide_true, Int.natCast_add, Int.cast_ofNat_Int]) (by simp only [go_sem, Nat.reduceAdd, Nat.reduceMul, Nat.reduceSub, Nat.reduceEqDiff, Nat.reduceDiv, Nat.reduceLT, Nat.reduceLeDiff, reduceCtorEq, decide_true, Int.natCast_add, Int.cast_ofNat_Int]) (by simp only [go_sem, Nat.reduceAdd, Nat.reduceMul, Nat.reduceSub, Nat.reduceEqDiff, Nat.reduceDiv, Nat.reduceLT, Nat.reduceLeDiff, reduceCtorEq, decide_true, Int.natCast_add, Int.cast_ofNat_Int])) ?_; simp only [go_sem, Nat.reduceAdd, Nat.reduceMul, Nat.reduceSub, Nat.reduceEqDiff, Nat.reduceDiv, Nat.reduceLT, Nat.reduceLeDiff, reduceCtorEq, decide_true, Int.natCast_add, Int.cast_ofNat_Int]); done))
  all_goals (
    have h1 : noneR r = false := by simp only [noneR, decide_eq_false_iff_not]; omega
    have hd := div_facts (h := r.h) (high := high) (by omega) (by omega) (by omega)
    have hlim : (r.h - 1) / high < 32768 := by omega
    have hn := sliceN_le (r := r) (high := high)
    have hlen : (slicesR r high).length = sliceN r high := by simp [slicesR]
    have h0 : 0 < sliceN r high := (sliceN_lt (high := high) h1 (by omega) hlim 0).2 (by simp; omega)
    have hf : 1 ≤ r.w ∧ r.w ≤ 288230376151711744 ∧ 1 ≤ r.h ∧ r.h ≤ 288230376151711744 ∧ 1 ≤ high ∧ high ≤ 288230376151711744 ∧ -288230376151711744 ≤ r.x ∧ r.x ≤ 288230376151711744 ∧ -288230376151711744 ≤ r.y ∧ r.y ≤ 288230376151711744 := by omega
    repeat (rename_i q__; clear q__)
    clear ht hend hz hz1 hdv
    refine aloop2 (fun z : RsX => ⟨[(1, .raw (.int .i64 high)), (2, .raw (.int .i64 x)), (3, .raw (.int .i64 y)), (4, .hdr 8), (9, .hdr 16), (10, .raw (.int .i64 z.a)), (11, .raw (.int .i64 z.m)), (12, .raw (.int .i64 z.k))], [(8, some (.cells 24 [.raw (.int .i64 r.x), .raw (.int .i64 r.y), .raw (.int .i64 r.w), .raw (.int .i64 r.h)])), (16, some (.row 24 4 ((slicesR r high).map cRect)))], none⟩) (RsInv r high x y) (fun z => sliceN r high - z.k) 3 ⟨0, r.y, 0⟩ (by simp only [go_sem, Nat.reduceAdd, Nat.reduceMul, Nat.reduceSub, Nat.reduceEqDiff, Nat.reduceDiv, Nat.reduceLT, Nat.reduceLeDiff, reduceCtorEq, decide_true, Int.natCast_add, Int.cast_ofNat_Int]; rfl) (by simp only [go_sem, Nat.reduceAdd, Nat.reduceMul, Nat.reduceSub, Nat.reduceEqDiff, Nat.reduceDiv, Nat.reduceLT, Nat.reduceLeDiff, reduceCtorEq, decide_true, Int.natCast_add, Int.cast_ofNat_Int]) ?_ ?_
    · exact ⟨Nat.zero_le _, fun _ => by simp, fun h => by simp only at h; omega, by rw [if_neg (by simp only; omega)]⟩
    · rintro ⟨k, a, m⟩ ⟨i1, i2, i3, i4⟩
      simp only at i1 i2 i3 i4
      simp only [go_sem, Nat.reduceAdd, Nat.reduceMul, Nat.reduceSub, Nat.reduceEqDiff, Nat.reduceDiv, Nat.reduceLT, Nat.reduceLeDiff, reduceCtorEq, decide_true, Int.natCast_add, Int.cast_ofNat_Int, List.length_map]
      refine ⟨fun h5 => ?_, fun h5 => ?_⟩
      · have hk : k < sliceN r high := by omega
        have ha := i2 hk
        have hlt := (sliceN_lt (high := high) h1 (by omega) hlim k).1 hk
        have hlt' := sliceN_lt (high := high) h1 (by omega) hlim (k + 1)
        rw [Int.natCast_add, Int.add_mul] at hlt'
        have hp := Int.mul_nonneg (show 0 ≤ (k : Int) by omega) (show 0 ≤ high by omega)
        have hg : (slicesR r high)[k]? = some ⟨r.x, a, r.w, min high (r.h - k * high)⟩ := by simp [slicesR, hk, sliceR, ha]
        refine ⟨by omega, ⟨r.x, a, r.w, min high (r.h - k * high)⟩, hg, ?_⟩
        have hsn : nearR ⟨r.x, a, r.w, min high (r.h - k * high)⟩ = true := nearR_iff.2 (by simp only; omega)
        simp only
        have hh := fun b hb => has_count (r := r) (a := a) (c := min high (r.h - k * high)) (m := m) (b := b) x y (by omega) (by omega) (by omega) i4 hb
        have hsn : nearR ⟨r.x, a, r.w, min high (r.h - k * high)⟩ = true := nearR_iff.2 (by simp only; omega)
        simp only [decide_true, Bool.not_true, Bool.not_false, true_implies, false_implies, and_true, true_and, reduceCtorEq]
        repeat' first | intro _ | refine And.intro ?_ ?_ | refine ex_get (by omega) ?_
        all_goals try omega
        all_goals (
          (refine acall2 (rhas_ok ⟨r.x, a, r.w, min high (r.h - k * high)⟩ x y hsn) (by simp only [go_sem, Nat.reduceAdd, Nat.reduceMul, Nat.reduceSub, Nat.reduceEqDiff, Nat.reduceDiv, Nat.reduceLT, Nat.reduceLeDiff, reduceCtorEq, decide_true, Int.natCast_add, Int.cast_ofNat_Int]; rfl) (fit_of rfl rfl (by simp only [go_sem, Nat.reduceAdd, Nat.reduceMul, Nat.reduceSub, Nat.reduceEqDiff, Nat.reduceDiv, Nat.reduceLT, Nat.reduceLeDiff, reduceCtorEq, decide_true, Int.natCast_add, Int.cast_ofNat_Int]) (by simp only [go_sem, Nat.reduceAdd, Nat.reduceMul, Nat.reduceSub, Nat.reduceEqDiff, Nat.reduceDiv, Nat.reduceLT, Nat.reduceLeDiff, reduceCtorEq, decide_true, Int.natCast_add, Int.cast_ofNat_Int]) (by simp only [go_sem, Nat.reduceAdd, Nat.reduceMul, Nat.reduceSub, Nat.reduceEqDiff, Nat.reduceDiv, Nat.reduceLT, Nat.reduceLeDiff, reduceCtorEq, decide_true, Int.natCast_add, Int.cast_ofNat_Int]) (by simp only [go_sem, Nat.reduceAdd, Nat.reduceMul, Nat.reduceSub, Nat.reduceEqDiff, Nat.reduceDiv, Nat.reduceLT, Nat.reduceLeDiff, reduceCtorEq, decide_true, Int.natCast_add, Int.cast_ofNat_Int])) ?_; simp only [go_sem, Nat.reduceAdd, Nat.reduceMul, Nat.reduceSub, Nat.reduceEqDiff, Nat.reduceDiv, Nat.reduceLT, Nat.reduceLeDiff, reduceCtorEq, decide_true, Int.natCast_add, Int.cast_ofNat_Int])
          repeat' first | intro _ | refine And.intro ?_ ?_ | refine ex_get (by omega) ?_
          all_goals try omega
          all_goals (first | (have hq := hh true (Eq.symm (by assumption)); rw [if_pos rfl] at hq; refine loop_end (⟨k + 1, a + min high (r.h - k * high), m + 1⟩) (by simp only [go_sem, Nat.reduceAdd, Nat.reduceMul, Nat.reduceSub, Nat.reduceEqDiff, Nat.reduceDiv, Nat.reduceLT, Nat.reduceLeDiff, reduceCtorEq, decide_true, Int.natCast_add, Int.cast_ofNat_Int]; rfl) (by first | omega | (simp only; omega)) (by simp only [go_sem, Nat.reduceAdd, Nat.reduceMul, Nat.reduceSub, Nat.reduceEqDiff, Nat.reduceDiv, Nat.reduceLT, Nat.reduceLeDiff, reduceCtorEq, decide_true, Int.natCast_add, Int.cast_ofNat_Int]) ?_) | (have hq := hh false (Eq.symm (by assumption)); rw [if_neg (by decide), Int.add_zero] at hq; refine loop_end (⟨k + 1, a + min high (r.h - k * high), m⟩) (by simp only [go_sem, Nat.reduceAdd, Nat.reduceMul, Nat.reduceSub, Nat.reduceEqDiff, Nat.reduceDiv, Nat.reduceLT, Nat.reduceLeDiff, reduceCtorEq, decide_true, Int.natCast_add, Int.cast_ofNat_Int]; rfl) (by first | omega | (simp only; omega)) (by simp only [go_sem, Nat.reduceAdd, Nat.reduceMul, Nat.reduceSub, Nat.reduceEqDiff, Nat.reduceDiv, Nat.reduceLT, Nat.reduceLeDiff, reduceCtorEq, decide_true, Int.natCast_add, Int.cast_ofNat_Int]) ?_))
          all_goals (
            refine ⟨Nat.succ_le_of_lt hk, fun h6 => ?_, fun h6 => ?_, hq⟩
            · try simp only at h6 ⊢
              have := hlt'.1 h6
              rw [Int.natCast_add, Int.add_mul]
              try simp only [Int.cast_ofNat_Int] at this ⊢
              omega
            · try simp only at h6 ⊢
              have : ¬ (k + 1 < sliceN r high) := by omega
              rw [hlt'] at this
              try simp only [Int.cast_ofNat_Int] at this
              omega))
      · obtain rfl : k = sliceN r high := by omega
        have ha := i3 rfl
        have hm : m = 0 ∨ m = 1 := by rw [i4]; split <;> simp
        refine ⟨by omega, ?_⟩
        have hr2 := has_eq r x y
        have hm1 : (decide (m = 1) == hasR r x y) = true := by
          rw [beq_iff_eq, Bool.eq_iff_iff, hr2, decide_eq_true_eq, i4, ha]
          split <;> simp only [true_iff, false_iff, Int.zero_ne_one] <;> omega
        repeat' first | intro _ | refine And.intro ?_ ?_ | refine ex_get (by omega) ?_
        all_goals try omega
        all_goals (
          (refine acall2 (rhas_ok r x y hr) (by simp only [go_sem, Nat.reduceAdd, Nat.reduceMul, Nat.reduceSub, Nat.reduceEqDiff, Nat.reduceDiv, Nat.reduceLT, Nat.reduceLeDiff, reduceCtorEq, decide_true, Int.natCast_add, Int.cast_ofNat_Int]; rfl) (fit_of rfl rfl (by simp only [go_sem, Nat.reduceAdd, Nat.reduceMul, Nat.reduceSub, Nat.reduceEqDiff, Nat.reduceDiv, Nat.reduceLT, Nat.reduceLeDiff, reduceCtorEq, decide_true, Int.natCast_add, Int.cast_ofNat_Int]) (by simp only [go_sem, Nat.reduceAdd, Nat.reduceMul, Nat.reduceSub, Nat.reduceEqDiff, Nat.reduceDiv, Nat.reduceLT, Nat.reduceLeDiff, reduceCtorEq, decide_true, Int.natCast_add, Int.cast_ofNat_Int]) (by simp only [go_sem, Nat.reduceAdd, Nat.reduceMul, Nat.reduceSub, Nat.reduceEqDiff, Nat.reduceDiv, Nat.reduceLT, Nat.reduceLeDiff, reduceCtorEq, decide_true, Int.natCast_add, Int.cast_ofNat_Int]) (by simp only [go_sem, Nat.reduceAdd, Nat.reduceMul, Nat.reduceSub, Nat.reduceEqDiff, Nat.reduceDiv, Nat.reduceLT, Nat.reduceLeDiff, reduceCtorEq, decide_true, Int.natCast_add, Int.cast_ofNat_Int])) ?_; simp only [go_sem, Nat.reduceAdd, Nat.reduceMul, Nat.reduceSub, Nat.reduceEqDiff, Nat.reduceDiv, Nat.reduceLT, Nat.reduceLeDiff, reduceCtorEq, decide_true, Int.natCast_add, Int.cast_ofNat_Int])
          repeat' first | intro _ | refine And.intro ?_ ?_ | refine ex_get (by omega) ?_
          all_goals try omega
          all_goals try ((refine acall2 (awake03) (by simp only [go_sem, Nat.reduceAdd, Nat.reduceMul, Nat.reduceSub, Nat.reduceEqDiff, Nat.reduceDiv, Nat.reduceLT, Nat.reduceLeDiff, reduceCtorEq, decide_true, Int.natCast_add, Int.cast_ofNat_Int]; rfl) (fit_of rfl rfl (by simp only [go_sem, Nat.reduceAdd, Nat.reduceMul, Nat.reduceSub, Nat.reduceEqDiff, Nat.reduceDiv, Nat.reduceLT, Nat.reduceLeDiff, reduceCtorEq, decide_true, Int.natCast_add, Int.cast_ofNat_Int]) (by simp only [go_sem, Nat.reduceAdd, Nat.reduceMul, Nat.reduceSub, Nat.reduceEqDiff, Nat.reduceDiv, Nat.reduceLT, Nat.reduceLeDiff, reduceCtorEq, decide_true, Int.natCast_add, Int.cast_ofNat_Int]) (by simp only [go_sem, Nat.reduceAdd, Nat.reduceMul, Nat.reduceSub, Nat.reduceEqDiff, Nat.reduceDiv, Nat.reduceLT, Nat.reduceLeDiff, reduceCtorEq, decide_true, Int.natCast_add, Int.cast_ofNat_Int]) (by simp only [go_sem, Nat.reduceAdd, Nat.reduceMul, Nat.reduceSub, Nat.reduceEqDiff, Nat.reduceDiv, Nat.reduceLT, Nat.reduceLeDiff, reduceCtorEq, decide_true, Int.natCast_add, Int.cast_ofNat_Int])) ?_; simp only [go_sem, Nat.reduceAdd, Nat.reduceMul, Nat.reduceSub, Nat.reduceEqDiff, Nat.reduceDiv, Nat.reduceLT, Nat.reduceLeDiff, reduceCtorEq, decide_true, Int.natCast_add, Int.cast_ofNat_Int]); done)
          all_goals exact absurd ((by assumption : (decide (m = 1) == hasR r x y) = false).symm.trans hm1) (by decide)))
end Go.Proofs.Ytdpaflhlgaffdaa
