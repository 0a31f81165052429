/- WALKS: the law UnitWithin of chapter 1. -/
import Derived.Test.YtbbnfenlpfoaiaaLaw01
namespace Go.Proofs.Ytbbnfenlpfoaiaa
open Go.RowKit Go.Shelf

def withinF (n : Int) : Bool := decide (-1099511627776 ≤ n ∧ n ≤ 1099511627776)
theorem withinF_yes {n : Int} (h : -1099511627776 ≤ n ∧ n ≤ 1099511627776) : withinF n = true := by simp [withinF, h]
theorem withinF_no {n : Int} (h : ¬ (-1099511627776 ≤ n ∧ n ≤ 1099511627776)) : withinF n = false := by simp only [withinF, decide_eq_false_iff_not]; exact h

set_option maxHeartbeats 400000 in
theorem within_any (n : Int) (w : World) :
    Calls Try.prog 44 #[.int .i64 n] w (Ret (.bool (withinF n)) w) := by
  go_enter Try.func44, Try.ntmps44
  go_wp2
  all_goals go_ret
  all_goals refine Ret.bool ?_
  all_goals (unfold withinF; simp; omega)

theorem addF2 (a b : Int) : addF [a, b] = clampF (clampF a + clampF b) := by
  show clampF (clampF (0 + clampF a) + clampF b) = _
  rw [Int.zero_add, clampF_clampF]
theorem addF_comm (a b : Int) : addF [b, a] = addF [a, b] := by rw [addF2, addF2, Int.add_comm]
theorem addF_mono (a b c : Int) (h : b ≤ c) : addF [a, b] ≤ addF [a, c] := by
  rw [addF2, addF2]; have := clampF_mono h; exact clampF_mono (by omega)
theorem addF_one (a : Int) : addF [a] = clampF a := by
  show clampF (0 + clampF a) = _
  rw [Int.zero_add, clampF_clampF]
theorem addF_neg (a b : Int) : addF [a, -b] = clampF (clampF a - clampF b) := by rw [addF2, clampF_neg]; congr 1
theorem mulF_one (a : Int) : mulF a 1 = clampF a := by
  unfold mulF; rw [show clampF 1 = 1 from rfl, Int.mul_one, clampF_clampF]
theorem mulF_zero (a : Int) : mulF a 0 = 0 := by
  unfold mulF; rw [show clampF 0 = 0 from rfl, Int.mul_zero]; rfl
theorem addF_in (a b : Int) (ha : -1099511627776 ≤ a ∧ a ≤ 1099511627776) (hb : -1099511627776 ≤ b ∧ b ≤ 1099511627776) (hc : -1099511627776 ≤ a + b ∧ a + b ≤ 1099511627776) : addF [a, b] = a + b := by
  rw [addF2, clampF_id ha.1 ha.2, clampF_id hb.1 hb.2, clampF_id hc.1 hc.2]
theorem tmod_bd (n : Int) : -1048576 < n.tmod 1048576 ∧ n.tmod 1048576 < 1048576 := by
  rcases tdm n 1048576 (by omega) with ⟨a, b, c⟩ | ⟨a, b, c⟩ <;> omega
theorem mul_bd {x y : Int} (hx : -1048576 < x ∧ x < 1048576) (hy : -1048576 < y ∧ y < 1048576) : -1099511627776 ≤ x * y ∧ x * y ≤ 1099511627776 := by
  have h1 : (x * y).natAbs ≤ 1048576 * 1048576 := by
    rw [Int.natAbs_mul]; exact Nat.mul_le_mul (by omega) (by omega)
  omega
theorem mulF_small {x y : Int} (hx : -1048576 < x ∧ x < 1048576) (hy : -1048576 < y ∧ y < 1048576) : mulF x y = x * y := by
  have := mul_bd hx hy
  unfold mulF; rw [clampF_id (n := x) (by omega) (by omega), clampF_id (n := y) (by omega) (by omega), clampF_id this.1 this.2]
theorem add1 (A : Option Addr) (a : Int) (w : World) (h : IntsAt w A [a]) : Calls Try.prog 34 #[.slice A 1 1] w (Ret (.int .i64 (clampF a)) w) := by
  rw [← addF_one]; exact add_any A 1 [a] w h (by simp)
theorem add3' (A : Option Addr) (a b c : Int) (w : World) (h : IntsAt w A [a, b, c]) : Calls Try.prog 34 #[.slice A 3 3] w (Ret (.int .i64 (addF [a, b, c])) w) := add_any A 3 [a, b, c] w h (by simp)
end Go.Proofs.Ytbbnfenlpfoaiaa
