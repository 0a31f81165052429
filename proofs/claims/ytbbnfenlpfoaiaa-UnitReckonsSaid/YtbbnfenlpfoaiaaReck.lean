/- WALKS: the law UnitReckons of chapter 1. -/
import Derived.Test.YtbbnfenlpfoaiaaLaw01
namespace Go.Proofs.Ytbbnfenlpfoaiaa
open Go.RowKit Go.Shelf

set_option maxHeartbeats 1000000 in
theorem reckons_core (a b : Int) (w : World) (h : (mayF a = true ∧ 1 ≤ a ∧ a ≤ 1099511627776) ∨ (mayF a = false ∧ a < 1) ∨ (mayF a = false ∧ 1 ≤ a ∧ 1099511627776 < a)) :
    Calls Try.prog 5 #[.int .i64 a, .int .i64 b] w (RetB (.bool true) w) := by
  have h1 := clampF_bd a
  have h2 := clampF_bd b
  rcases h with ⟨m, l1, l2⟩ | ⟨m, l1⟩ | ⟨m, l1, l2⟩
  all_goals
    go_enter Try.func5, Try.ntmps5
    go_wp2_with (first
      | (go_at_call 27; refine (parts_any _ _ _).mono ?_; rintro e w' ⟨rfl, rfl⟩)
      | (go_at_call 29; refine (pixels_any _ _).mono ?_; rintro e w' ⟨rfl, rfl⟩)
      | (go_at_call 31; refine (clamp_any _ _).mono ?_; rintro e w' ⟨rfl, rfl⟩)
      | (go_at_call 33; refine (may_any _ _).mono ?_; rintro e w' ⟨rfl, rfl⟩)
      | (go_at_call 36; refine (sub_any _ _ _).mono ?_; rintro e w' ⟨rfl, rfl⟩)
      | (go_at_call 37; refine (mul_any _ _ _).mono ?_; rintro e w' ⟨rfl, rfl⟩)
      | (go_at_call 34; refine (add2 _ _ _ _ (IntsAt.new2 _ _ _ _ _ (by simp))).mono ?_; rintro e w' ⟨rfl, rfl⟩)
      | (go_at_call 28; refine (rparts_any _ _ _).mono ?_; rintro e w' ⟨rfl, rfl⟩)
      | (go_at_call 30; refine (rpixels_any _ _).mono ?_; rintro e w' ⟨rfl, rfl⟩)
      | (go_at_call 32; refine (rclamp_any _ _).mono ?_; rintro e w' ⟨rfl, rfl⟩)
      | (go_at_call 38; refine (rmul_any _ _ _).mono ?_; rintro e w' ⟨rfl, rfl⟩)
      | (go_at_call 35; refine (radd2 _ _ _ _ (IntsAt.new2 _ _ _ _ _ (by simp))).mono ?_; rintro e w' ⟨rfl, rfl⟩)
      | (go_at_call 39; refine (awake01_any _).mono ?_; rintro e w' ⟨rfl, hb⟩))
    go_ret
    exact RetB.bool (by first | rfl | (simp; omega)) (((below_alloc _ _).alloc (by simp) _).trans (hb.mono (by simp; omega)))

theorem reckons_any (a b : Int) (w : World) : Calls Try.prog 5 #[.int .i64 a, .int .i64 b] w (RetB (.bool true) w) := by
  refine reckons_core a b w ?_
  unfold mayF
  by_cases h1 : 1 ≤ a
  · by_cases h2 : a ≤ 1099511627776
    · exact .inl ⟨by simp [h1, h2], h1, h2⟩
    · exact .inr (.inr ⟨by simp [h2], h1, by omega⟩)
  · exact .inr (.inl ⟨by simp [h1], by omega⟩)

theorem reckons_law (w : World) (a b : Int) (_ : -9223372036854775808 ≤ a ∧ a ≤ 9223372036854775807) (_ : -9223372036854775808 ≤ b ∧ b ≤ 9223372036854775807) :
    Calls Try.prog 5 #[.int .i64 a, .int .i64 b] w (RetB (.bool true) w) := reckons_any a b w
end Go.Proofs.Ytbbnfenlpfoaiaa
