/- WALKS: the law UnitParts of chapter 1. -/
import Derived.Test.YtbbnfenlpfoaiaaLaw01
namespace Go.Proofs.Ytbbnfenlpfoaiaa
open Go.RowKit Go.Shelf

theorem parts_facts {a b : Int} (h1 : 0 ≤ clampF a) (h2 : 1 ≤ clampF b) :
    0 ≤ partsF a b ∧ partsF a b ≤ 1099511627776 ∧ (partsF a b - 1) * clampF b < clampF a ∧ clampF a ≤ partsF a b * clampF b ∧ partsF a b * clampF b ≤ 2199023255552 ∧ (0 < partsF a b → 0 ≤ (partsF a b - 1) * clampF b) := by
  have hx := clampF_bd a
  have hy := clampF_bd b
  have e : partsF a b = (clampF a + clampF b - 1) / clampF b := by unfold partsF; rw [if_neg (by omega)]
  rw [e]
  generalize clampF a = x at *
  generalize clampF b = y at *
  have k1 := Int.ediv_mul_le (x + y - 1) (show y ≠ 0 by omega)
  have k2 := Int.lt_ediv_add_one_mul_self (x + y - 1) (show 0 < y by omega)
  have k3 : 0 ≤ (x + y - 1) / y := Int.ediv_nonneg (by omega) (by omega)
  have k4 := Int.ediv_le_self y (show 0 ≤ x + y - 1 by omega)
  generalize hq : (x + y - 1) / y = q at *
  have e1 : (q - 1) * y = q * y - y := by rw [Int.sub_mul, Int.one_mul]
  have e2 : (q + 1) * y = q * y + y := by rw [Int.add_mul, Int.one_mul]
  refine ⟨k3, ?_, by omega, by omega, by omega, fun h => Int.mul_nonneg (by omega) (by omega)⟩
  by_cases hx0 : x = 0
  · have : q ≤ 0 := by
      rcases Int.lt_or_le 0 q with h | h
      · have : 1 * y ≤ q * y := Int.mul_le_mul_of_nonneg_right (by omega) (by omega)
        omega
      · exact h
    omega
  · have : q ≤ x := by
      rcases Int.lt_or_le x q with h | h
      · have h3 : (x + 1) * y ≤ q * y := Int.mul_le_mul_of_nonneg_right (by omega) (by omega)
        have h4 : (x + 1) * y = x * y + y := by rw [Int.add_mul, Int.one_mul]
        have h5 : x * 1 ≤ x * y := Int.mul_le_mul_of_nonneg_left h2 (by omega)
        omega
      · exact h
    omega

set_option maxHeartbeats 1000000 in
theorem unitParts_1 (a b : Int) (w : World) (h1 : clampF a < 0) :
    Calls Try.prog 8 #[.int .i64 a, .int .i64 b] w (RetB (.bool true) w) := by
  have hx := clampF_bd a
  have hy := clampF_bd b
  have B : partsB a b = false := by unfold partsB; simp; omega
  have Z : partsF a b = 0 := by unfold partsF; rw [if_pos (by omega)]
  · go_enter Try.func8, Try.ntmps8
    go_wp2_with (first
      | (go_at_call 27; refine (parts_any _ _ _).mono ?_; rintro e w' ⟨rfl, rfl⟩)
      | (go_at_call 29; refine (pixels_any _ _).mono ?_; rintro e w' ⟨rfl, rfl⟩)
      | (go_at_call 31; refine (clamp_any _ _).mono ?_; rintro e w' ⟨rfl, rfl⟩)
      | (go_at_call 39; refine (awake01_any _).mono ?_; rintro e w' ⟨rfl, hb⟩))
    go_ret
    exact RetB.bool (by first | rfl | (simp; omega)) hb

set_option maxHeartbeats 1000000 in
theorem unitParts_2 (a b : Int) (w : World) (h1 : 0 ≤ clampF a) (h2 : clampF b < 1) :
    Calls Try.prog 8 #[.int .i64 a, .int .i64 b] w (RetB (.bool true) w) := by
  have hx := clampF_bd a
  have hy := clampF_bd b
  have B : partsB a b = false := by unfold partsB; simp; omega
  have Z : partsF a b = 0 := by unfold partsF; rw [if_pos (by omega)]
  · go_enter Try.func8, Try.ntmps8
    go_wp2_with (first
      | (go_at_call 27; refine (parts_any _ _ _).mono ?_; rintro e w' ⟨rfl, rfl⟩)
      | (go_at_call 29; refine (pixels_any _ _).mono ?_; rintro e w' ⟨rfl, rfl⟩)
      | (go_at_call 31; refine (clamp_any _ _).mono ?_; rintro e w' ⟨rfl, rfl⟩)
      | (go_at_call 39; refine (awake01_any _).mono ?_; rintro e w' ⟨rfl, hb⟩))
    go_ret
    exact RetB.bool (by first | rfl | (simp; omega)) hb

set_option maxHeartbeats 1000000 in
theorem unitParts_3 (a b : Int) (w : World) (h1 : 0 ≤ clampF a) (h2 : 1 ≤ clampF b) (h3 : partsF a b ≤ 0) :
    Calls Try.prog 8 #[.int .i64 a, .int .i64 b] w (RetB (.bool true) w) := by
  have hx := clampF_bd a
  have hy := clampF_bd b
  have B : partsB a b = true := by unfold partsB; simp; omega
  obtain ⟨p0, p1, p2, p3, p4, p5⟩ := parts_facts h1 h2
  clear p5
  · go_enter Try.func8, Try.ntmps8
    go_wp2_with (first
      | (go_at_call 27; refine (parts_any _ _ _).mono ?_; rintro e w' ⟨rfl, rfl⟩)
      | (go_at_call 29; refine (pixels_any _ _).mono ?_; rintro e w' ⟨rfl, rfl⟩)
      | (go_at_call 31; refine (clamp_any _ _).mono ?_; rintro e w' ⟨rfl, rfl⟩)
      | (go_at_call 39; refine (awake01_any _).mono ?_; rintro e w' ⟨rfl, hb⟩))
    go_ret
    exact RetB.bool (by first | rfl | (simp; omega)) hb

set_option maxHeartbeats 1000000 in
theorem unitParts_4 (a b : Int) (w : World) (h1 : 0 ≤ clampF a) (h2 : 1 ≤ clampF b) (h3 : 0 < partsF a b) (h4 : partsF a b ≤ clampF a) :
    Calls Try.prog 8 #[.int .i64 a, .int .i64 b] w (RetB (.bool true) w) := by
  have hx := clampF_bd a
  have hy := clampF_bd b
  have B : partsB a b = true := by unfold partsB; simp; omega
  obtain ⟨p0, p1, p2, p3, p4, p5⟩ := parts_facts h1 h2
  have p6 := p5 h3
  clear p5
  · go_enter Try.func8, Try.ntmps8
    go_wp2_with (first
      | (go_at_call 27; refine (parts_any _ _ _).mono ?_; rintro e w' ⟨rfl, rfl⟩)
      | (go_at_call 29; refine (pixels_any _ _).mono ?_; rintro e w' ⟨rfl, rfl⟩)
      | (go_at_call 31; refine (clamp_any _ _).mono ?_; rintro e w' ⟨rfl, rfl⟩)
      | (go_at_call 39; refine (awake01_any _).mono ?_; rintro e w' ⟨rfl, hb⟩))
    go_ret
    exact RetB.bool (by first | rfl | (simp; omega)) hb

set_option maxHeartbeats 1000000 in
theorem unitParts_5 (a b : Int) (w : World) (h1 : 0 ≤ clampF a) (h2 : 1 ≤ clampF b) (h3 : 0 < partsF a b) (h4 : clampF a < partsF a b) :
    Calls Try.prog 8 #[.int .i64 a, .int .i64 b] w (RetB (.bool true) w) := by
  have hx := clampF_bd a
  have hy := clampF_bd b
  have B : partsB a b = true := by unfold partsB; simp; omega
  obtain ⟨p0, p1, p2, p3, p4, p5⟩ := parts_facts h1 h2
  have p6 := p5 h3
  clear p5
  · go_enter Try.func8, Try.ntmps8
    go_wp2_with (first
      | (go_at_call 27; refine (parts_any _ _ _).mono ?_; rintro e w' ⟨rfl, rfl⟩)
      | (go_at_call 29; refine (pixels_any _ _).mono ?_; rintro e w' ⟨rfl, rfl⟩)
      | (go_at_call 31; refine (clamp_any _ _).mono ?_; rintro e w' ⟨rfl, rfl⟩)
      | (go_at_call 39; refine (awake01_any _).mono ?_; rintro e w' ⟨rfl, hb⟩))
    go_ret
    exact RetB.bool (by first | rfl | (simp; omega)) hb

theorem unitParts_law (w : World) (a b : Int) (_ : -9223372036854775808 ≤ a ∧ a ≤ 9223372036854775807) (_ : -9223372036854775808 ≤ b ∧ b ≤ 9223372036854775807) :
    Calls Try.prog 8 #[.int .i64 a, .int .i64 b] w (RetB (.bool true) w) := by
  by_cases h1 : 0 ≤ clampF a
  · by_cases h2 : 1 ≤ clampF b
    · by_cases h3 : 0 < partsF a b
      · by_cases h4 : partsF a b ≤ clampF a
        · exact unitParts_4 a b w h1 h2 h3 h4
        · exact unitParts_5 a b w h1 h2 h3 (by omega)
      · exact unitParts_3 a b w h1 h2 (by omega)
    · exact unitParts_2 a b w h1 (by omega)
  · exact unitParts_1 a b w (by omega)
end Go.Proofs.Ytbbnfenlpfoaiaa
