/- WALKS: the law MarginSteps of chapter 13, all its inputs. -/
import Derived.Test.YtbbnfenlpfoaiaaMarO
namespace Go.Proofs.Ytbbnfenlpfoaiaa
open Go.RowKit

set_option maxRecDepth 100000 in
set_option maxHeartbeats 1000000 in
theorem steps13_far (y m a b : Int) (A : Option Addr) (c : Nat) (xs : List Step) (w : World) (hx : StepsAt w A xs) (hl : xs.length ≤ 9223372036854775807) (hn : (decide (xs.length ≤ 200) && (nearF [y, m] && nearS xs)) = false) :
    Calls Try.prog 3 #[.agg #[.int .i64 y, .int .i64 m], .slice A xs.length c, .int .i64 a, .int .i64 b] w (RetB (.bool true) w) := by
  have hB0 := Blk.new w 23 #[.int .i64 y, .int .i64 m]
  have hxa := hx.below (below_alloc w (.cells #[.int .i64 y, .int .i64 m] 23))
  have c0 := hB0.f2
  clear hx
  go_enter Try.func3, Try.ntmps3
  go_wp2_with fail
  refine (nearL_any y m A c xs _ hxa hl).mono ?_
  rintro e w1 ⟨rfl, hb1⟩
  rw [hn]
  have hbw1 := below_then (below_alloc w (.cells #[.int .i64 y, .int .i64 m] 23)) hb1
  clear hB0 hxa c0 hb1
  go_wp2_with fail
  refine (awake13 _).mono ?_
  rintro e w2 ⟨rfl, hb2⟩
  go_wp2
  go_ret
  exact RetB.bool rfl (below_then hbw1 hb2)

set_option maxRecDepth 100000 in
set_option maxHeartbeats 1000000 in
theorem steps13_far2 (y m a b : Int) (A : Option Addr) (c : Nat) (xs : List Step) (w : World) (hx : StepsAt w A xs) (hl : xs.length ≤ 9223372036854775807) (hn : (decide (xs.length ≤ 200) && (nearF [y, m] && nearS xs)) = true) (hab : nearF [a, b] = false) :
    Calls Try.prog 3 #[.agg #[.int .i64 y, .int .i64 m], .slice A xs.length c, .int .i64 a, .int .i64 b] w (RetB (.bool true) w) := by
  have hB0 := Blk.new w 23 #[.int .i64 y, .int .i64 m]
  have hxa := hx.below (below_alloc w (.cells #[.int .i64 y, .int .i64 m] 23))
  have c0 := hB0.f2
  clear hx
  go_enter Try.func3, Try.ntmps3
  go_wp2_with fail
  refine (nearL_any y m A c xs _ hxa hl).mono ?_
  rintro e w1 ⟨rfl, hb1⟩
  rw [hn]
  have hbw1 := below_then (below_alloc w (.cells #[.int .i64 y, .int .i64 m] 23)) hb1
  clear hB0 hxa c0 hb1
  have hi1 := IntsAt.new2 w1 w1.heap.size a b 3 rfl
  go_wp2_with fail
  refine (near2 _ a b _ hi1).mono ?_
  rintro e w' ⟨rfl, rfl⟩
  rw [hab]
  have hbw2 := below_step hbw1 (.cells #[.int .i64 a, .int .i64 b] 3)
  clear hi1 hbw1
  go_wp2_with fail
  refine (awake13 _).mono ?_
  rintro e w2 ⟨rfl, hb2⟩
  go_wp2
  go_ret
  exact RetB.bool rfl (below_then hbw2 hb2)

theorem steps13_law (w : World) (x : Pen) (A : Option Addr) (c : Nat) (xs : List Step) (a b : Int) (_ : penIn x) (hl : xs.length ≤ 9223372036854775807) (_ : ∀ x ∈ xs, stepIn x) (hx : RowAt w A 3 stepCells xs) (_ : -9223372036854775808 ≤ a ∧ a ≤ 9223372036854775807) (_ : -9223372036854775808 ≤ b ∧ b ≤ 9223372036854775807) :
    Calls Try.prog 3 #[.agg (penCells x).toArray, .slice A xs.length c, .int .i64 a, .int .i64 b] w (RetB (.bool true) w) := by
  obtain ⟨y, m⟩ := x
  have hx' := hx.steps
  cases hn : (decide (xs.length ≤ 200) && (nearF [y, m] && nearS xs)) with
  | false => exact steps13_far y m a b A c xs w hx' hl hn
  | true =>
    cases hab : nearF [a, b] with
    | false => exact steps13_far2 y m a b A c xs w hx' hl hn hab
    | true =>
      simp only [Bool.and_eq_true, decide_eq_true_eq] at hn
      exact steps13_near y m a b A c xs w hx' hn.1 hn.2.1 hn.2.2 hab
end Go.Proofs.Ytbbnfenlpfoaiaa
