/- WALKS: the law MarginCollapsed of chapter 13, all its inputs. -/
import Derived.Test.YtbbnfenlpfoaiaaMarCol
namespace Go.Proofs.Ytbbnfenlpfoaiaa
open Go.RowKit

set_option maxRecDepth 100000 in
set_option maxHeartbeats 1000000 in
theorem collapsed_long (y m high : Int) (A : Option Addr) (c : Nat) (xs : List Int) (w : World) (hl : 200 < xs.length) :
    Calls Try.prog 4 #[.agg #[.int .i64 y, .int .i64 m], .slice A xs.length c, .int .i64 high] w (RetB (.bool true) w) := by
  have t1 : decide (200 < (xs.length : Int)) = true := by simp; omega
  have hW := below_alloc w (.cells #[.int .i64 y, .int .i64 m] 23)
  go_enter Try.func4, Try.ntmps4
  go_wp2_with fail
  refine (awake13 _).mono ?_
  rintro e w2 ⟨rfl, hb2⟩
  go_wp2
  go_ret
  exact RetB.bool rfl (below_then hW hb2)

set_option maxRecDepth 100000 in
set_option maxHeartbeats 1000000 in
theorem collapsed_far (y m high : Int) (A : Option Addr) (c : Nat) (xs : List Int) (w : World) (hl : xs.length ≤ 200) (hn : nearF [y, m, high] = false) :
    Calls Try.prog 4 #[.agg #[.int .i64 y, .int .i64 m], .slice A xs.length c, .int .i64 high] w (RetB (.bool true) w) := by
  have hB0 := Blk.new w 23 #[.int .i64 y, .int .i64 m]
  have c0 := hB0.f2
  have hi3 := IntsAt.new3 (w.alloc (.cells #[.int .i64 y, .int .i64 m] 23)) (w.heap.size + 1) y m high 3 (by simp)
  have hW := below_step (below_alloc w (.cells #[.int .i64 y, .int .i64 m] 23)) (.cells #[.int .i64 y, .int .i64 m, .int .i64 high] 3)
  have t1 : decide (200 < (xs.length : Int)) = false := by simp; omega
  clear hB0
  go_enter Try.func4, Try.ntmps4
  go_wp2_with (first
    | (go_at_call 13; (with_reducible refine (near3c _ y m high _ hi3).mono ?_); rintro e w' ⟨rfl, rfl⟩; rw [hn])
    | (go_at_call 14; refine (awake13 _).mono ?_; rintro e w2 ⟨rfl, hb2⟩))
  go_ret
  exact RetB.bool rfl (below_then hW hb2)

set_option maxRecDepth 100000 in
set_option maxHeartbeats 1000000 in
theorem collapsed_far2 (y m high : Int) (A : Option Addr) (c : Nat) (xs : List Int) (w : World) (hx : IntsAt w A xs) (hl : xs.length ≤ 200) (hn : nearF [y, m, high] = true) (hs : nearF xs = false) :
    Calls Try.prog 4 #[.agg #[.int .i64 y, .int .i64 m], .slice A xs.length c, .int .i64 high] w (RetB (.bool true) w) := by
  have hB0 := Blk.new w 23 #[.int .i64 y, .int .i64 m]
  have c0 := hB0.f2
  have hi3 := IntsAt.new3 (w.alloc (.cells #[.int .i64 y, .int .i64 m] 23)) (w.heap.size + 1) y m high 3 (by simp)
  have hW := below_step (below_alloc w (.cells #[.int .i64 y, .int .i64 m] 23)) (.cells #[.int .i64 y, .int .i64 m, .int .i64 high] 3)
  have hx1 := hx.below hW
  have t1 : decide (200 < (xs.length : Int)) = false := by simp; omega
  clear hB0
  go_enter Try.func4, Try.ntmps4
  go_wp2_with (first
    | (go_at_call 13; (with_reducible refine (near3c _ y m high _ hi3).mono ?_); rintro e w' ⟨rfl, rfl⟩; rw [hn])
    | (go_at_call 13; (with_reducible refine (near13_any A c xs _ hx1 (by omega)).mono ?_); rintro e w' ⟨rfl, rfl⟩; rw [hs])
    | (go_at_call 14; refine (awake13 _).mono ?_; rintro e w2 ⟨rfl, hb2⟩))
  go_ret
  exact RetB.bool rfl (below_then hW hb2)

theorem collapsed_law (w : World) (x : Pen) (A : Option Addr) (c : Nat) (xs : List Int) (high : Int) (_ : penIn x) (_ : xs.length ≤ 9223372036854775807) (_ : ∀ x ∈ xs, -9223372036854775808 ≤ x ∧ x ≤ 9223372036854775807) (hx : IntsAt w A xs) (_ : -9223372036854775808 ≤ high ∧ high ≤ 9223372036854775807) :
    Calls Try.prog 4 #[.agg (penCells x).toArray, .slice A xs.length c, .int .i64 high] w (RetB (.bool true) w) := by
  obtain ⟨y, m⟩ := x
  by_cases hl : xs.length ≤ 200
  · cases hn : nearF [y, m, high] with
    | false => exact collapsed_far y m high A c xs w hl hn
    | true =>
      cases hs : nearF xs with
      | false => exact collapsed_far2 y m high A c xs w hx hl hn hs
      | true => exact collapsed_near y m high A c xs w hx hl hn hs
  · exact collapsed_long y m high A c xs w (by omega)
end Go.Proofs.Ytbbnfenlpfoaiaa
