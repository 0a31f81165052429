/- WALKS: the law UnitWithin of chapter 1. -/
import Derived.Test.YtbbnfenlpfoaiaaWithin
namespace Go.Proofs.Ytbbnfenlpfoaiaa
open Go.RowKit Go.Shelf

set_option maxRecDepth 100000 in
set_option maxHeartbeats 1000000 in
theorem within_00 (a b c : Int) (w : World) (_hi : -9223372036854775808 ≤ a ∧ a ≤ 9223372036854775807) (hbc : c < b) (hb : ¬ (-1099511627776 ≤ b ∧ b ≤ 1099511627776)) (ha : ¬ (-1099511627776 ≤ a ∧ a ≤ 1099511627776)) :
    Calls Try.prog 7 #[.int .i64 a, .int .i64 b, .int .i64 c] w (RetB (.bool true) w) := by
  have k1 : withinF (addF [a, b]) = true := withinF_yes (addF_bd _)
  have k2 : withinF (mulF a b) = true := withinF_yes (clampF_bd _)
  have k3 : withinF (clampF (clampF a - clampF b)) = true := withinF_yes (clampF_bd _)
  have k4 : withinF (clampF a) = true := withinF_yes (clampF_bd _)
  have k5 : withinF (addF [a, b, c]) = true := withinF_yes (addF_bd _)
  have g1 := addF_comm a b
  have g2 := mulF_comm b a
  have m1 := mulF_one a
  have m0 := mulF_zero a
  have t1 := tmod_bd a
  have t2 := tmod_bd b
  have t3 := mul_bd t1 t2
  have t4 := mulF_small t1 t2
  have g4 : withinF b = false := withinF_no hb
  have g5 : withinF a = false := withinF_no ha
  clear ha hb
  · go_enter Try.func7, Try.ntmps7
    go_wp2_with (first
      | (go_at_call 31; refine (clamp_any _ _).mono ?_; rintro e w' ⟨rfl, rfl⟩)
      | (go_at_call 44; refine (within_any _ _).mono ?_; rintro e w' ⟨rfl, rfl⟩)
      | (go_at_call 36; refine (sub_any _ _ _).mono ?_; rintro e w' ⟨rfl, rfl⟩)
      | (go_at_call 37; refine (mul_any _ _ _).mono ?_; rintro e w' ⟨rfl, rfl⟩)
      | (go_at_call 34; (with_reducible refine (add2 _ _ _ _ (IntsAt.new2 _ _ _ _ _ (by simp))).mono ?_); rintro e w' ⟨rfl, rfl⟩)
      | (go_at_call 34; (with_reducible refine (add3' _ _ _ _ _ (IntsAt.new3 _ _ _ _ _ _ (by simp))).mono ?_); rintro e w' ⟨rfl, rfl⟩)
      | (go_at_call 34; (with_reducible refine (add1 _ _ _ (IntsAt.new1 _ _ _ _ (by simp))).mono ?_); rintro e w' ⟨rfl, rfl⟩)
      | (go_at_call 39; refine (awake01_any _).mono ?_; rintro e w' ⟨rfl, hb⟩))
    go_ret
    refine RetB.bool (by first | rfl | (simp; omega)) ?_
    refine Below.trans ?_ (hb.mono (by simp; omega))
    repeat with_reducible (first | exact below_alloc _ _ | refine below_step ?_ _)

set_option maxRecDepth 100000 in
set_option maxHeartbeats 1000000 in
theorem within_01 (a b c : Int) (w : World) (_hi : -9223372036854775808 ≤ a ∧ a ≤ 9223372036854775807) (hbc : c < b) (hb : ¬ (-1099511627776 ≤ b ∧ b ≤ 1099511627776)) (ha : (-1099511627776 ≤ a ∧ a ≤ 1099511627776)) :
    Calls Try.prog 7 #[.int .i64 a, .int .i64 b, .int .i64 c] w (RetB (.bool true) w) := by
  have k1 : withinF (addF [a, b]) = true := withinF_yes (addF_bd _)
  have k2 : withinF (mulF a b) = true := withinF_yes (clampF_bd _)
  have k3 : withinF (clampF (clampF a - clampF b)) = true := withinF_yes (clampF_bd _)
  have k4 : withinF (clampF a) = true := withinF_yes (clampF_bd _)
  have k5 : withinF (addF [a, b, c]) = true := withinF_yes (addF_bd _)
  have g1 := addF_comm a b
  have g2 := mulF_comm b a
  have m1 := mulF_one a
  have m0 := mulF_zero a
  have t1 := tmod_bd a
  have t2 := tmod_bd b
  have t3 := mul_bd t1 t2
  have t4 := mulF_small t1 t2
  have g4 : withinF b = false := withinF_no hb
  have g5 : withinF a = true := withinF_yes ha
  have ha1 := ha.1
  have ha2 := ha.2
  clear ha hb
  · go_enter Try.func7, Try.ntmps7
    go_wp2_with (first
      | (go_at_call 31; refine (clamp_any _ _).mono ?_; rintro e w' ⟨rfl, rfl⟩)
      | (go_at_call 44; refine (within_any _ _).mono ?_; rintro e w' ⟨rfl, rfl⟩)
      | (go_at_call 36; refine (sub_any _ _ _).mono ?_; rintro e w' ⟨rfl, rfl⟩)
      | (go_at_call 37; refine (mul_any _ _ _).mono ?_; rintro e w' ⟨rfl, rfl⟩)
      | (go_at_call 34; (with_reducible refine (add2 _ _ _ _ (IntsAt.new2 _ _ _ _ _ (by simp))).mono ?_); rintro e w' ⟨rfl, rfl⟩)
      | (go_at_call 34; (with_reducible refine (add3' _ _ _ _ _ (IntsAt.new3 _ _ _ _ _ _ (by simp))).mono ?_); rintro e w' ⟨rfl, rfl⟩)
      | (go_at_call 34; (with_reducible refine (add1 _ _ _ (IntsAt.new1 _ _ _ _ (by simp))).mono ?_); rintro e w' ⟨rfl, rfl⟩)
      | (go_at_call 39; refine (awake01_any _).mono ?_; rintro e w' ⟨rfl, hb⟩))
    go_ret
    refine RetB.bool (by first | rfl | (simp; omega)) ?_
    refine Below.trans ?_ (hb.mono (by simp; omega))
    repeat with_reducible (first | exact below_alloc _ _ | refine below_step ?_ _)

set_option maxRecDepth 100000 in
set_option maxHeartbeats 1000000 in
theorem within_02 (a b c : Int) (w : World) (_hi : -9223372036854775808 ≤ a ∧ a ≤ 9223372036854775807) (hbc : c < b) (hb : (-1099511627776 ≤ b ∧ b ≤ 1099511627776)) (ha : ¬ (-1099511627776 ≤ a ∧ a ≤ 1099511627776)) :
    Calls Try.prog 7 #[.int .i64 a, .int .i64 b, .int .i64 c] w (RetB (.bool true) w) := by
  have k1 : withinF (addF [a, b]) = true := withinF_yes (addF_bd _)
  have k2 : withinF (mulF a b) = true := withinF_yes (clampF_bd _)
  have k3 : withinF (clampF (clampF a - clampF b)) = true := withinF_yes (clampF_bd _)
  have k4 : withinF (clampF a) = true := withinF_yes (clampF_bd _)
  have k5 : withinF (addF [a, b, c]) = true := withinF_yes (addF_bd _)
  have g1 := addF_comm a b
  have g2 := mulF_comm b a
  have m1 := mulF_one a
  have m0 := mulF_zero a
  have t1 := tmod_bd a
  have t2 := tmod_bd b
  have t3 := mul_bd t1 t2
  have t4 := mulF_small t1 t2
  have g4 : withinF b = true := withinF_yes hb
  have g5 : withinF a = false := withinF_no ha
  have g6 := addF_neg a b
  have hb1 := hb.1
  have hb2 := hb.2
  clear ha hb
  · go_enter Try.func7, Try.ntmps7
    go_wp2_with (first
      | (go_at_call 31; refine (clamp_any _ _).mono ?_; rintro e w' ⟨rfl, rfl⟩)
      | (go_at_call 44; refine (within_any _ _).mono ?_; rintro e w' ⟨rfl, rfl⟩)
      | (go_at_call 36; refine (sub_any _ _ _).mono ?_; rintro e w' ⟨rfl, rfl⟩)
      | (go_at_call 37; refine (mul_any _ _ _).mono ?_; rintro e w' ⟨rfl, rfl⟩)
      | (go_at_call 34; (with_reducible refine (add2 _ _ _ _ (IntsAt.new2 _ _ _ _ _ (by simp))).mono ?_); rintro e w' ⟨rfl, rfl⟩)
      | (go_at_call 34; (with_reducible refine (add3' _ _ _ _ _ (IntsAt.new3 _ _ _ _ _ _ (by simp))).mono ?_); rintro e w' ⟨rfl, rfl⟩)
      | (go_at_call 34; (with_reducible refine (add1 _ _ _ (IntsAt.new1 _ _ _ _ (by simp))).mono ?_); rintro e w' ⟨rfl, rfl⟩)
      | (go_at_call 39; refine (awake01_any _).mono ?_; rintro e w' ⟨rfl, hb⟩))
    go_ret
    refine RetB.bool (by first | rfl | (simp; omega)) ?_
    refine Below.trans ?_ (hb.mono (by simp; omega))
    repeat with_reducible (first | exact below_alloc _ _ | refine below_step ?_ _)

set_option maxRecDepth 100000 in
set_option maxHeartbeats 1000000 in
theorem within_03 (a b c : Int) (w : World) (_hi : -9223372036854775808 ≤ a ∧ a ≤ 9223372036854775807) (hbc : c < b) (hb : (-1099511627776 ≤ b ∧ b ≤ 1099511627776)) (ha : (-1099511627776 ≤ a ∧ a ≤ 1099511627776)) (hab : (-1099511627776 ≤ a + b ∧ a + b ≤ 1099511627776)) :
    Calls Try.prog 7 #[.int .i64 a, .int .i64 b, .int .i64 c] w (RetB (.bool true) w) := by
  have k1 : withinF (addF [a, b]) = true := withinF_yes (addF_bd _)
  have k2 : withinF (mulF a b) = true := withinF_yes (clampF_bd _)
  have k3 : withinF (clampF (clampF a - clampF b)) = true := withinF_yes (clampF_bd _)
  have k4 : withinF (clampF a) = true := withinF_yes (clampF_bd _)
  have k5 : withinF (addF [a, b, c]) = true := withinF_yes (addF_bd _)
  have g1 := addF_comm a b
  have g2 := mulF_comm b a
  have m1 := mulF_one a
  have m0 := mulF_zero a
  have t1 := tmod_bd a
  have t2 := tmod_bd b
  have t3 := mul_bd t1 t2
  have t4 := mulF_small t1 t2
  have g4 : withinF b = true := withinF_yes hb
  have g5 : withinF a = true := withinF_yes ha
  have g6 := addF_neg a b
  have g7 : withinF (a + b) = true := withinF_yes hab
  have g8 : (addF [a, b] != a + b) = false := by rw [addF_in a b ha hb hab]; simp
  have hb1 := hb.1
  have hb2 := hb.2
  have ha1 := ha.1
  have ha2 := ha.2
  clear hab
  clear ha hb
  · go_enter Try.func7, Try.ntmps7
    go_wp2_with (first
      | (go_at_call 31; refine (clamp_any _ _).mono ?_; rintro e w' ⟨rfl, rfl⟩)
      | (go_at_call 44; refine (within_any _ _).mono ?_; rintro e w' ⟨rfl, rfl⟩)
      | (go_at_call 36; refine (sub_any _ _ _).mono ?_; rintro e w' ⟨rfl, rfl⟩)
      | (go_at_call 37; refine (mul_any _ _ _).mono ?_; rintro e w' ⟨rfl, rfl⟩)
      | (go_at_call 34; (with_reducible refine (add2 _ _ _ _ (IntsAt.new2 _ _ _ _ _ (by simp))).mono ?_); rintro e w' ⟨rfl, rfl⟩)
      | (go_at_call 34; (with_reducible refine (add3' _ _ _ _ _ (IntsAt.new3 _ _ _ _ _ _ (by simp))).mono ?_); rintro e w' ⟨rfl, rfl⟩)
      | (go_at_call 34; (with_reducible refine (add1 _ _ _ (IntsAt.new1 _ _ _ _ (by simp))).mono ?_); rintro e w' ⟨rfl, rfl⟩)
      | (go_at_call 39; refine (awake01_any _).mono ?_; rintro e w' ⟨rfl, hb⟩))
    go_ret
    refine RetB.bool (by first | rfl | (simp; omega)) ?_
    refine Below.trans ?_ (hb.mono (by simp; omega))
    repeat with_reducible (first | exact below_alloc _ _ | refine below_step ?_ _)

set_option maxRecDepth 100000 in
set_option maxHeartbeats 1000000 in
theorem within_04 (a b c : Int) (w : World) (_hi : -9223372036854775808 ≤ a ∧ a ≤ 9223372036854775807) (hbc : c < b) (hb : (-1099511627776 ≤ b ∧ b ≤ 1099511627776)) (ha : (-1099511627776 ≤ a ∧ a ≤ 1099511627776)) (hab : ¬ (-1099511627776 ≤ a + b ∧ a + b ≤ 1099511627776)) :
    Calls Try.prog 7 #[.int .i64 a, .int .i64 b, .int .i64 c] w (RetB (.bool true) w) := by
  have k1 : withinF (addF [a, b]) = true := withinF_yes (addF_bd _)
  have k2 : withinF (mulF a b) = true := withinF_yes (clampF_bd _)
  have k3 : withinF (clampF (clampF a - clampF b)) = true := withinF_yes (clampF_bd _)
  have k4 : withinF (clampF a) = true := withinF_yes (clampF_bd _)
  have k5 : withinF (addF [a, b, c]) = true := withinF_yes (addF_bd _)
  have g1 := addF_comm a b
  have g2 := mulF_comm b a
  have m1 := mulF_one a
  have m0 := mulF_zero a
  have t1 := tmod_bd a
  have t2 := tmod_bd b
  have t3 := mul_bd t1 t2
  have t4 := mulF_small t1 t2
  have g4 : withinF b = true := withinF_yes hb
  have g5 : withinF a = true := withinF_yes ha
  have g6 := addF_neg a b
  have g7 : withinF (a + b) = false := withinF_no hab
  have hb1 := hb.1
  have hb2 := hb.2
  have ha1 := ha.1
  have ha2 := ha.2
  clear hab
  clear ha hb
  · go_enter Try.func7, Try.ntmps7
    go_wp2_with (first
      | (go_at_call 31; refine (clamp_any _ _).mono ?_; rintro e w' ⟨rfl, rfl⟩)
      | (go_at_call 44; refine (within_any _ _).mono ?_; rintro e w' ⟨rfl, rfl⟩)
      | (go_at_call 36; refine (sub_any _ _ _).mono ?_; rintro e w' ⟨rfl, rfl⟩)
      | (go_at_call 37; refine (mul_any _ _ _).mono ?_; rintro e w' ⟨rfl, rfl⟩)
      | (go_at_call 34; (with_reducible refine (add2 _ _ _ _ (IntsAt.new2 _ _ _ _ _ (by simp))).mono ?_); rintro e w' ⟨rfl, rfl⟩)
      | (go_at_call 34; (with_reducible refine (add3' _ _ _ _ _ (IntsAt.new3 _ _ _ _ _ _ (by simp))).mono ?_); rintro e w' ⟨rfl, rfl⟩)
      | (go_at_call 34; (with_reducible refine (add1 _ _ _ (IntsAt.new1 _ _ _ _ (by simp))).mono ?_); rintro e w' ⟨rfl, rfl⟩)
      | (go_at_call 39; refine (awake01_any _).mono ?_; rintro e w' ⟨rfl, hb⟩))
    go_ret
    refine RetB.bool (by first | rfl | (simp; omega)) ?_
    refine Below.trans ?_ (hb.mono (by simp; omega))
    repeat with_reducible (first | exact below_alloc _ _ | refine below_step ?_ _)

end Go.Proofs.Ytbbnfenlpfoaiaa
