/- WALKS: package unit. -/
import Derived.Test.YtbbnfenlpfoaiaaUnitP
import Derived.Test.YtbbnfenlpfoaiaaMem
namespace Go.Proofs.Ytbbnfenlpfoaiaa
open Go.RowKit

set_option maxHeartbeats 400000 in
theorem clamp_any (n : Int) (w : World) :
    Calls Try.prog 31 #[.int .i64 n] w (Ret (.int .i64 (clampF n)) w) := by
  go_enter Try.func31, Try.ntmps31
  go_wp2
  all_goals go_ret
  all_goals refine Ret.int ?_
  all_goals unfold clampF
  all_goals repeat split
  all_goals omega

set_option maxHeartbeats 400000 in
theorem may_any (n : Int) (w : World) :
    Calls Try.prog 33 #[.int .i64 n] w (Ret (.bool (mayF n)) w) := by
  go_enter Try.func33, Try.ntmps33
  go_wp2
  all_goals go_ret
  all_goals refine Ret.bool ?_
  all_goals (unfold mayF; simp; omega)

set_option maxHeartbeats 400000 in
theorem sub_any (a b : Int) (w : World) :
    Calls Try.prog 36 #[.int .i64 a, .int .i64 b] w (Ret (.int .i64 (clampF (clampF a - clampF b))) w) := by
  have h1 := clampF_bd a
  have h2 := clampF_bd b
  go_enter Try.func36, Try.ntmps36
  go_wp2_with (go_at_call 31; refine (clamp_any _ _).mono ?_; rintro e w' ⟨rfl, rfl⟩)
  go_ret
  exact ⟨rfl, rfl⟩

set_option maxHeartbeats 400000 in
theorem parts_any (a b : Int) (w : World) :
    Calls Try.prog 27 #[.int .i64 a, .int .i64 b] w (Ret (.tuple #[.int .i64 (partsF a b), .bool (partsB a b)]) w) := by
  have h1 := clampF_bd a
  have h2 := clampF_bd b
  by_cases ha : clampF a < 0
  · go_enter Try.func27, Try.ntmps27
    go_wp2_with (go_at_call 31; refine (clamp_any _ _).mono ?_; rintro e w' ⟨rfl, rfl⟩)
    go_ret2
    exact Ret.intBool (by rw [partsF, if_pos (.inl ha)]) (by unfold partsB; simp; omega)
  · by_cases hb : clampF b < 1
    · go_enter Try.func27, Try.ntmps27
      go_wp2_with (go_at_call 31; refine (clamp_any _ _).mono ?_; rintro e w' ⟨rfl, rfl⟩)
      go_ret2
      exact Ret.intBool (by rw [partsF, if_pos (.inr hb)]) (by unfold partsB; simp; omega)
    · go_enter Try.func27, Try.ntmps27
      go_wp2_with (go_at_call 31; refine (clamp_any _ _).mono ?_; rintro e w' ⟨rfl, rfl⟩)
      go_ret2
      exact Ret.intBool (by rw [partsF, if_neg (by omega)]) (by unfold partsB; simp; omega)

set_option maxHeartbeats 400000 in
theorem add_any (A : Option Addr) (c : Nat) (xs : List Int) (w : World) (hx : IntsAt w A xs) (hl : xs.length ≤ 9223372036854775807) :
    Calls Try.prog 34 #[.slice A xs.length c] w (Ret (.int .i64 (addF xs)) w) := by
  go_enter Try.func34, Try.ntmps34
  go_wp2
  go_loop [3, 8] (fun s i => ∃ k : Nat, k ≤ xs.length ∧ i = .int .i64 k ∧ s = .int .i64 (addF (xs.take k))) (fun _ i => xs.length - (intOf i).toNat)
  case atStart => exact ⟨0, Nat.zero_le _, rfl, rfl⟩
  case round =>
    obtain ⟨k, hk, rfl, rfl⟩ := hrel
    by_cases hlt : k < xs.length
    · obtain ⟨b, off, rfl, hb, hc⟩ := hx k hlt
      have hs := Lib.hid (addF_take xs k hlt)
      have h1 := addF_bd (xs.take k)
      have h2 := clampF_bd xs[k]
      clear hx
      go_wp2_with (go_at_call 31; refine (clamp_any _ _).mono ?_; rintro e w' ⟨rfl, rfl⟩)
      go_round
      case rel => exact ⟨k + 1, by omega, by go_num, by rw [hs.out]⟩
      case measure => simp [intOf]; omega
    · go_wp2
      go_ret
      exact Ret.int (by rw [List.take_of_length_le (by omega)])
end Go.Proofs.Ytbbnfenlpfoaiaa
