/- WALKS: the laws of chapter 1. -/
import Derived.Test.YtbbnfenlpfoaiaaUnit3
namespace Go.Proofs.Ytbbnfenlpfoaiaa
open Go.RowKit Go.Shelf

theorem add3 (A : Option Addr) (m a b c : Int) (w : World) (h : IntsAt w A [a, b, c]) (he : addF [a, b, c] = m) : Calls Try.prog 34 #[.slice A 3 3] w (Ret (.int .i64 m) w) := by
  rw [← he]; exact add_any A 3 [a, b, c] w h (by simp)
theorem least3 (A : Option Addr) (m a b c : Int) (w : World) (h : IntsAt w A [a, b, c]) (he : clampF (bestF ltF [a, b, c]) = m) : Calls Try.prog 40 #[.slice A 3 3] w (Ret (.int .i64 m) w) := by
  rw [← he]; exact least_any A 3 [a, b, c] w h (by simp)
theorem greatest0 (w : World) : Calls Try.prog 42 #[.slice none 0 0] w (Ret (.int .i64 0) w) := greatest_any none 0 [] w IntsAt.nil (by simp)

set_option maxHeartbeats 400000 in
theorem awake01_any (w : World) : Calls Try.prog 39 #[] w (RetB (.bool true) w) := by
  have f1 : clampF 2199023255552 = 1099511627776 := rfl
  have f2 : clampF (-2199023255552) = -1099511627776 := rfl
  have f3 : mayF 0 = false := rfl
  have f4 : mayF 1099511627776 = true := rfl
  have f6 : clampF (clampF (-1099511627776) - clampF 1) = -1099511627776 := rfl
  have f7 : mulF 1073741824 1073741824 = 1099511627776 := rfl
  have f8 : partsF 10 3 = 4 := rfl
  have f9 : partsB 10 3 = true := rfl
  have f10 : partsF 0 3 = 0 := rfl
  have f11 : partsB 0 3 = true := rfl
  have f12 : partsB 3 0 = false := rfl
  have f13 : clampF 130 / 64 = 2 := rfl
  have f14 : clampF 130 % 64 = 2 := rfl
  have f15 : clampF (-1) / 64 = -1 := rfl
  have f16 : clampF (-1) % 64 = 63 := rfl
  go_enter Try.func39, Try.ntmps39
  go_wp2_with (first
    | (go_at_call 27; refine (parts_any _ _ _).mono ?_; rintro e w' ⟨rfl, rfl⟩)
    | (go_at_call 29; refine (pixels_any _ _).mono ?_; rintro e w' ⟨rfl, rfl⟩)
    | (go_at_call 31; refine (clamp_any _ _).mono ?_; rintro e w' ⟨rfl, rfl⟩)
    | (go_at_call 33; refine (may_any _ _).mono ?_; rintro e w' ⟨rfl, rfl⟩)
    | (go_at_call 36; refine (sub_any _ _ _).mono ?_; rintro e w' ⟨rfl, rfl⟩)
    | (go_at_call 37; refine (mul_any _ _ _).mono ?_; rintro e w' ⟨rfl, rfl⟩)
    | (go_at_call 34; refine (add3 _ 1099511627775 1099511627776 1 (-1) _ (IntsAt.new3 _ _ _ _ _ _ (by simp)) rfl).mono ?_; rintro e w' ⟨rfl, rfl⟩)
    | (go_at_call 40; refine (least3 _ 1 3 1 2 _ (IntsAt.new3 _ _ _ _ _ _ (by simp)) rfl).mono ?_; rintro e w' ⟨rfl, rfl⟩)
    | (go_at_call 42; refine (greatest0 _).mono ?_; rintro e w' ⟨rfl, rfl⟩))
  go_ret
  exact RetB.bool rfl ((below_alloc _ _).alloc (by simp) _)

theorem add2 (A : Option Addr) (a b : Int) (w : World) (h : IntsAt w A [a, b]) : Calls Try.prog 34 #[.slice A 2 2] w (Ret (.int .i64 (addF [a, b])) w) := add_any A 2 [a, b] w h (by simp)
theorem radd2 (A : Option Addr) (a b : Int) (w : World) (h : IntsAt w A [a, b]) : Calls Try.prog 35 #[.slice A 2 2] w (Ret (.int .i64 (addF [a, b])) w) := radd_any A 2 [a, b] w h (by simp)

end Go.Proofs.Ytbbnfenlpfoaiaa
