/- WALKS: the law UnitRows of chapter 1. -/
import Derived.Test.YtbbnfenlpfoaiaaLaw01
import Derived.BigQuiet
namespace Go.Proofs.Ytbbnfenlpfoaiaa
open Go.RowKit Go.Shelf

theorem int_info : (Try.prog.info? 3).map (fun i => (i.zero, i.size, i.bytes)) = some (some (.int .i64 0), 1, 8) := by kernel_rfl

set_option maxRecDepth 100000 in
set_option maxHeartbeats 1000000 in
theorem rows01_few (A : Option Addr) (c : Nat) (xs : List Int) (w : World) (hx : IntsAt w A xs) (hl : xs.length ≤ 100) :
    Calls Try.prog 6 #[.slice A xs.length c] w (RetB (.bool true) w) := by
  obtain ⟨i0, hi0, hz0, hz1, hz2⟩ := info_parts int_info
  have h1 : ∀ u ∈ xs.map (Value.int .i64), u.oneCell' = true := by simp [Value.oneCell']
  have hr := ((hx.below (below_alloc w (.cells #[] 3))).cells).reads (size := 1) (n := xs.length) (by simp) (by omega)
  have ho := own_made0 w w.heap.size w.heap.size 3 1 (Nat.le_refl _) rfl
  go_enter Try.func6, Try.ntmps6
  go_wp2_with (at_builtin; refine wpList_append_any _ rfl (.tmp 9) (.tmp 10) 28 rfl w.heap.size 3 i0 (.int .i64 0) 1 8 Try.underlying28 hi0 hz0 hz1 hz2 rfl (by omega) (.slice (some ⟨w.heap.size, 0, none⟩) 0 0) 0 [] rfl ho _ A xs.length c (xs.map (Value.int .i64)) rfl hr h1 (by simp only [maxLen]; omega) (by omega) (by simp) ?_)
  intro v1 w1 hown hg _
  have hb1 : Below w.heap.size w w1 := (below_alloc w _).grown hg (by simp) (fun k hk => by simp [Value.ownBlock] at hk; omega)
  obtain ⟨A1, c1, rfl, _, _, hc1⟩ := own_cells hown
  have hx1 := hc1.ints
  have hxw := hx.below hb1
  clear hown hg hr ho h1 hc1 hx hi0 hz0 hz1 hz2
  go_wp2_with (first
    | (go_at_call 34; refine (add_any A1 c1 xs _ hx1 (by omega)).mono ?_; rintro e w' ⟨rfl, rfl⟩)
    | (go_at_call 40; refine (least_any A1 c1 xs _ hx1 (by omega)).mono ?_; rintro e w' ⟨rfl, rfl⟩)
    | (go_at_call 42; refine (greatest_any A1 c1 xs _ hx1 (by omega)).mono ?_; rintro e w' ⟨rfl, rfl⟩)
    | (go_at_call 35; refine (radd_any A c xs _ hxw (by omega)).mono ?_; rintro e w' ⟨rfl, rfl⟩)
    | (go_at_call 41; refine (rleast_any A c xs _ hxw (by omega)).mono ?_; rintro e w' ⟨rfl, rfl⟩)
    | (go_at_call 43; refine (rgreatest_any A c xs _ hxw (by omega)).mono ?_; rintro e w' ⟨rfl, rfl⟩))
  go_loopw [4] (fun i wr => ∃ k m : Nat, k ≤ xs.length ∧ i = .int .i64 k ∧ wr = w1.drewN m) (fun i _ => xs.length - (intOf i).toNat)
  case atStart => exact ⟨0, 0, Nat.zero_le _, rfl, rfl⟩
  case round =>
    obtain ⟨k, m, hk, rfl, rfl⟩ := hrel
    by_cases hlt : k < xs.length
    · obtain ⟨b, off, rfl, hb, hc⟩ := hxw k hlt
      obtain ⟨b1, off1, rfl, hb', hc1⟩ := hx1 k hlt
      clear hxw hx1
      go_wp2
      go_quiet (fail)
      go_wp2
      go_roundw
      case rel => exact ⟨k + 1, m + nq, by omega, by go_num, rfl⟩
      case measure => simp [intOf]; omega
    · have hbm := below_drewN hb1 m
      go_wp2_with (go_at_call 39; refine (awake01_any _).mono ?_; rintro e w' ⟨rfl, hb⟩)
      go_ret
      exact RetB.bool rfl (below_then hbm hb)

set_option maxHeartbeats 400000 in
theorem rows01_law (w : World) (A : Option Addr) (c : Nat) (xs : List Int) (hl : xs.length ≤ 9223372036854775807) (_ : ∀ x ∈ xs, -9223372036854775808 ≤ x ∧ x ≤ 9223372036854775807) (hx : IntsAt w A xs) :
    Calls Try.prog 6 #[.slice A xs.length c] w (RetB (.bool true) w) := by
  by_cases h : xs.length ≤ 100
  · exact rows01_few A c xs w hx h
  · clear hx
    go_enter Try.func6, Try.ntmps6
    go_wp2_with (go_at_call 39; refine (awake01_any _).mono ?_; rintro e w' ⟨rfl, hb⟩)
    go_ret
    exact RetB.bool rfl hb
end Go.Proofs.Ytbbnfenlpfoaiaa
