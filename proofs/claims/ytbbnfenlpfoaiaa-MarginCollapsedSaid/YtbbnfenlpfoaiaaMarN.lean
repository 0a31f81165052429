/- WALKS: chapter 13: near. -/
import Derived.Test.YtbbnfenlpfoaiaaMarR
import Derived.StillTailTactics
namespace Go.Proofs.Ytbbnfenlpfoaiaa
open Go.RowKit

def StepsAt (w : World) (A : Option Addr) (xs : List Step) : Prop :=
  ∀ k (h : k < xs.length), ∃ b off, A = some ⟨b, off, none⟩ ∧ b < w.heap.size ∧ w.cell? ⟨b, off + k * 3, none⟩ = some (.int .i64 xs[k].kind) ∧
    w.cell? ⟨b, off + k * 3 + 1, none⟩ = some (.int .i64 xs[k].a) ∧ w.cell? ⟨b, off + k * 3 + 2, none⟩ = some (.int .i64 xs[k].b)
theorem StepsAt.below {w w' : World} {A : Option Addr} {xs : List Step} (h : StepsAt w A xs) (hb : Below w.heap.size w w') : StepsAt w' A xs := fun k hk => by
  obtain ⟨b, off, e, hlt, h1, h2, h3⟩ := h k hk
  exact ⟨b, off, e, Nat.lt_of_lt_of_le hlt hb.size, (hb.cell (p := ⟨b, _, none⟩) hlt).trans h1, (hb.cell (p := ⟨b, _, none⟩) hlt).trans h2, (hb.cell (p := ⟨b, _, none⟩) hlt).trans h3⟩

theorem near2 (A : Option Addr) (a b : Int) (w : World) (h : IntsAt w A [a, b]) : Calls Try.prog 13 #[.slice A 2 2] w (Ret (.bool (nearF [a, b])) w) := near13_any A 2 [a, b] w h (by simp)

set_option maxHeartbeats 400000 in
theorem nearL_few (y m : Int) (A : Option Addr) (c : Nat) (xs : List Step) (w : World) (hx : StepsAt w A xs) (hl : xs.length ≤ 200) (hn : nearF [y, m] = true) :
    Calls Try.prog 12 #[.agg #[.int .i64 y, .int .i64 m], .slice A xs.length c] w (RetB (.bool (nearS xs)) w) := by
  go_enter Try.func12, Try.ntmps12
  go_wp2_with (go_at_call 13; refine (near2 _ _ _ _ (IntsAt.new2 _ _ _ _ _ (by simp))).mono ?_; rintro e w' ⟨rfl, rfl⟩)
  go_loopw [5] (fun i wr => ∃ k : Nat, k ≤ xs.length ∧ i = .int .i64 k ∧ nearS (xs.take k) = true ∧ Below w.heap.size w wr) (fun i _ => xs.length - (intOf i).toNat)
  case atStart => exact ⟨0, Nat.zero_le _, rfl, rfl, below_step (below_alloc _ _) _⟩
  case round =>
    obtain ⟨k, hk, rfl, hs, hbw⟩ := hrel
    have Hs := Lib.hid hs
    clear hs
    by_cases hlt : k < xs.length
    · obtain ⟨b, off, rfl, hb, h1, h2, h3⟩ := hx.below hbw k hlt
      clear hx
      have ht := Lib.hid (nearS_take xs k hlt)
      cases hxn : nearF [xs[k].a, xs[k].b]
      · go_wp2
        go_still_tail 10, (by kernel_rfl)
        go_wp2_with (go_at_call 13; refine (near2 _ _ _ _ (IntsAt.new2 _ _ _ _ _ (by simp)).drew).mono ?_; rintro e w' ⟨rfl, rfl⟩)
        go_ret
        refine RetB.bool (nearS_no xs k hlt hxn).symm ?_
        exact (by (repeat with_reducible (first | exact Below.refl _ _ | exact below_alloc _ _ | refine below_step ?_ _ | refine below_set ?_ ?_ | refine below_drew ?_ | refine below_drewN' ?_ | refine below_then ?_ (by assumption) | refine below_only' ?_ ?_ (by assumption))) <;> (first | omega | (simp; done) | (simp; omega)))
      · go_wp2
        go_still_tail 10, (by kernel_rfl)
        go_wp2_with (go_at_call 13; refine (near2 _ _ _ _ (IntsAt.new2 _ _ _ _ _ (by simp)).drew).mono ?_; rintro e w' ⟨rfl, rfl⟩)
        go_roundw
        case rel =>
          refine ⟨k + 1, by omega, by go_num, by rw [ht.out, Hs.out, hxn]; rfl, ?_⟩
          exact (by (repeat with_reducible (first | exact Below.refl _ _ | exact below_alloc _ _ | refine below_step ?_ _ | refine below_set ?_ ?_ | refine below_drew ?_ | refine below_drewN' ?_ | refine below_then ?_ (by assumption) | refine below_only' ?_ ?_ (by assumption))) <;> (first | omega | (simp; done) | (simp; omega)))
        case measure => simp [intOf]; omega
    · go_wp2
      go_ret
      exact RetB.bool (by rw [← Hs.out, List.take_of_length_le (by omega)]) hbw

set_option maxHeartbeats 400000 in
theorem nearL_any (y m : Int) (A : Option Addr) (c : Nat) (xs : List Step) (w : World) (hx : StepsAt w A xs) (hl : xs.length ≤ 9223372036854775807) :
    Calls Try.prog 12 #[.agg #[.int .i64 y, .int .i64 m], .slice A xs.length c] w (RetB (.bool (decide (xs.length ≤ 200) && (nearF [y, m] && nearS xs))) w) := by
  by_cases h2 : xs.length ≤ 200
  · cases hn : nearF [y, m]
    · have e : (decide (xs.length ≤ 200) && (false && nearS xs)) = false := by simp
      rw [e]
      clear e hx
      go_enter Try.func12, Try.ntmps12
      go_wp2_with (go_at_call 13; refine (near2 _ _ _ _ (IntsAt.new2 _ _ _ _ _ (by simp))).mono ?_; rintro e w' ⟨rfl, rfl⟩)
      go_ret
      refine RetB.bool rfl ?_
      exact (by (repeat with_reducible (first | exact Below.refl _ _ | exact below_alloc _ _ | refine below_step ?_ _ | refine below_set ?_ ?_ | refine below_drew ?_ | refine below_drewN' ?_ | refine below_then ?_ (by assumption) | refine below_only' ?_ ?_ (by assumption))) <;> (first | omega | (simp; done) | (simp; omega)))
    · have e : (decide (xs.length ≤ 200) && (true && nearS xs)) = nearS xs := by simp [h2]
      rw [e]
      exact nearL_few y m A c xs w hx h2 hn
  · have e : (decide (xs.length ≤ 200) && (nearF [y, m] && nearS xs)) = false := by simp [h2]
    rw [e]
    clear e hx
    go_enter Try.func12, Try.ntmps12
    go_wp2
    go_ret
    refine RetB.bool rfl ?_
    exact (by (repeat with_reducible (first | exact Below.refl _ _ | exact below_alloc _ _ | refine below_step ?_ _ | refine below_set ?_ ?_ | refine below_drew ?_ | refine below_drewN' ?_ | refine below_then ?_ (by assumption) | refine below_only' ?_ ?_ (by assumption))) <;> (first | omega | (simp; done) | (simp; omega)))
end Go.Proofs.Ytbbnfenlpfoaiaa
