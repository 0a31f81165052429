/- WALKS: package unit: Mul, Least, Greatest, Pixels. -/
import Derived.Test.YtbbnfenlpfoaiaaUnit
import Derived.BigQuiet
import Derived.Shelf.Abstract
namespace Go.Proofs.Ytbbnfenlpfoaiaa
open Go.RowKit Go.Shelf

set_option maxHeartbeats 400000 in
theorem pixels_any (n : Int) (w : World) :
    Calls Try.prog 29 #[.int .i64 n] w (Ret (.tuple #[.int .i64 (clampF n / 64), .int .i64 (clampF n % 64)]) w) := by
  have h1 := clampF_bd n
  go_enter Try.func29, Try.ntmps29
  go_wp2_with (go_at_call 31; refine (clamp_any _ _).mono ?_; rintro e w' ⟨rfl, rfl⟩)
  go_ret2
  exact Ret.intInt rfl (by omega)

set_option maxHeartbeats 400000 in
theorem best_any (g : Nat) (lt : Int → Int → Bool) (hg : ∀ a b w, Calls Try.prog g #[.int .i64 a, .int .i64 b] w (Ret (.bool (lt a b)) w))
    (he : ∀ (args : Array Value) (w : World), (callFunc g args).run Try.prog w = .ok (.enter g args) w)
    (A : Option Addr) (c : Nat) (xs : List Int) (w : World) (hx : IntsAt w A xs) (hl : xs.length ≤ 9223372036854775807) :
    Calls Try.prog 60 #[.slice A xs.length c, .func (.func g) #[] #[]] w (Ret (.int .i64 (bestF lt xs)) w) := by
  have Hg := Lib.hid hg
  clear hg
  go_enter Try.func60, Try.ntmps60
  go_wp2
  go_loop [5, 10] (fun s i => ∃ k : Nat, k ≤ xs.length ∧ i = .int .i64 k ∧ s = .int .i64 (bestF lt (xs.take k))) (fun _ i => xs.length - (intOf i).toNat)
  case atStart => exact ⟨0, Nat.zero_le _, rfl, rfl⟩
  case round =>
    obtain ⟨k, hk, rfl, rfl⟩ := hrel
    by_cases hlt : k < xs.length
    · obtain ⟨b, off, rfl, hb, hc⟩ := hx k hlt
      clear hx
      by_cases h0 : k = 0
      · subst h0
        have hs := Lib.hid (bestF_take0 lt xs hlt)
        simp only [Nat.add_zero] at hc
        go_wp2
        go_round
        case rel => exact ⟨0 + 1, by omega, by go_num, by rw [hs.out]⟩
        case measure => simp [intOf]; omega
      · have hs := Lib.hid (bestF_take lt xs k hlt (by omega))
        by_cases hlx : lt xs[k] (bestF lt (xs.take k)) = true
        · go_wp2_with fail
          refine (Hg.out _ _ _).mono ?_
          rintro e w' ⟨rfl, rfl⟩
          go_wp2
          go_round
          case rel => exact ⟨k + 1, by omega, by go_num, by rw [hs.out, if_pos hlx]⟩
          case measure => simp [intOf]; omega
        · have hlx' : lt xs[k] (bestF lt (xs.take k)) = false := by simpa using hlx
          clear hlx
          go_wp2_with fail
          refine (Hg.out _ _ _).mono ?_
          rintro e w' ⟨rfl, rfl⟩
          go_wp2
          go_round
          case rel => exact ⟨k + 1, by omega, by go_num, by rw [hs.out, hlx']; rfl⟩
          case measure => simp [intOf]; omega
    · go_wp2
      go_ret
      exact Ret.int (by rw [List.take_of_length_le (by omega)])

set_option maxHeartbeats 400000 in
theorem least1_any (a b : Int) (w : World) : Calls Try.prog 61 #[.int .i64 a, .int .i64 b] w (Ret (.bool (ltF a b)) w) := by
  go_enter Try.func61, Try.ntmps61
  go_wp2
  go_ret
  exact Ret.bool rfl
set_option maxHeartbeats 400000 in
theorem greatest1_any (a b : Int) (w : World) : Calls Try.prog 62 #[.int .i64 a, .int .i64 b] w (Ret (.bool (gtF a b)) w) := by
  go_enter Try.func62, Try.ntmps62
  go_wp2
  go_ret
  exact Ret.bool rfl
set_option maxHeartbeats 400000 in
theorem least_any (A : Option Addr) (c : Nat) (xs : List Int) (w : World) (hx : IntsAt w A xs) (hl : xs.length ≤ 9223372036854775807) :
    Calls Try.prog 40 #[.slice A xs.length c] w (Ret (.int .i64 (clampF (bestF ltF xs))) w) := by
  go_enter Try.func40, Try.ntmps40
  go_wp2_with (first
    | (go_at_call 60; refine (best_any _ _ least1_any (enters_of Try.func61 (by kernel_rfl) rfl) _ _ _ _ hx hl).mono ?_; rintro e w' ⟨rfl, rfl⟩)
    | (go_at_call 31; refine (clamp_any _ _).mono ?_; rintro e w' ⟨rfl, rfl⟩))
  go_ret
  exact Ret.int rfl
set_option maxHeartbeats 400000 in
theorem greatest_any (A : Option Addr) (c : Nat) (xs : List Int) (w : World) (hx : IntsAt w A xs) (hl : xs.length ≤ 9223372036854775807) :
    Calls Try.prog 42 #[.slice A xs.length c] w (Ret (.int .i64 (clampF (bestF gtF xs))) w) := by
  go_enter Try.func42, Try.ntmps42
  go_wp2_with (first
    | (go_at_call 60; refine (best_any _ _ greatest1_any (enters_of Try.func62 (by kernel_rfl) rfl) _ _ _ _ hx hl).mono ?_; rintro e w' ⟨rfl, rfl⟩)
    | (go_at_call 31; refine (clamp_any _ _).mono ?_; rintro e w' ⟨rfl, rfl⟩))
  go_ret
  exact Ret.int rfl

set_option maxHeartbeats 400000 in
theorem mul_z (a n : Int) (w : World) (h0 : clampF n = 0) :
    Calls Try.prog 37 #[.int .i64 a, .int .i64 n] w (Ret (.int .i64 (clampF a * clampF n)) w) := by
  have ha := clampF_bd a
  have hb := clampF_bd n
  have z : (clampF n != 0) = false := by rw [h0]; rfl
  have HZ := Lib.hid h0
  clear h0
  have m0 : 0 ≤ clampF a * clampF n := by rw [HZ.out]; simp
  have m1 : clampF a * clampF n ≤ 0 := by rw [HZ.out]; simp
  go_enter Try.func37, Try.ntmps37
  go_wp2_with (go_at_call 31; refine (clamp_any _ _).mono ?_; rintro e w' ⟨rfl, rfl⟩)
  go_ret
  exact Ret.int rfl

set_option maxHeartbeats 400000 in
theorem mul_p1 (a n : Int) (w : World) (hn : 0 < clampF n) (h1 : 1099511627776 / clampF n < clampF a) (ha0 : 0 < clampF a) :
    Calls Try.prog 37 #[.int .i64 a, .int .i64 n] w (Ret (.int .i64 (1099511627776)) w) := by
  have ha := clampF_bd a
  have hb := clampF_bd n
  have s1 : decide (clampF a < 0) = false := by simp; omega
  have s2 : decide (clampF n < 0) = false := by simp; omega
  have z : (clampF n != 0) = true := by simp; omega
  go_enter Try.func37, Try.ntmps37
  go_wp2_with (go_at_call 31; refine (clamp_any _ _).mono ?_; rintro e w' ⟨rfl, rfl⟩)
  go_ret
  exact Ret.int rfl

set_option maxHeartbeats 400000 in
theorem mul_p2 (a n : Int) (w : World) (hn : 0 < clampF n) (h1 : ¬ 1099511627776 / clampF n < clampF a) (h2 : clampF a < wrap64 (-Int.tdiv 1099511627776 (clampF n))) (ha0 : clampF a < 0) :
    Calls Try.prog 37 #[.int .i64 a, .int .i64 n] w (Ret (.int .i64 (-1099511627776)) w) := by
  have ha := clampF_bd a
  have hb := clampF_bd n
  have s1 : decide (clampF a < 0) = true := by simp; omega
  have s2 : decide (clampF n < 0) = false := by simp; omega
  have z : (clampF n != 0) = true := by simp; omega
  go_enter Try.func37, Try.ntmps37
  go_wp2_with (go_at_call 31; refine (clamp_any _ _).mono ?_; rintro e w' ⟨rfl, rfl⟩)
  go_ret
  exact Ret.int rfl

set_option maxHeartbeats 400000 in
theorem mul_p3 (a n : Int) (w : World) (hn : 0 < clampF n) (h1 : ¬ 1099511627776 / clampF n < clampF a) (h2 : ¬ clampF a < wrap64 (-Int.tdiv 1099511627776 (clampF n))) (m0 : -1099511627776 ≤ clampF a * clampF n) (m1 : clampF a * clampF n ≤ 1099511627776) :
    Calls Try.prog 37 #[.int .i64 a, .int .i64 n] w (Ret (.int .i64 (clampF a * clampF n)) w) := by
  have ha := clampF_bd a
  have hb := clampF_bd n
  have z : (clampF n != 0) = true := by simp; omega
  go_enter Try.func37, Try.ntmps37
  go_wp2_with (go_at_call 31; refine (clamp_any _ _).mono ?_; rintro e w' ⟨rfl, rfl⟩)
  go_ret
  exact Ret.int rfl

set_option maxHeartbeats 400000 in
theorem mul_n1 (a n : Int) (w : World) (hn : clampF n < 0) (h1 : wrap64 (-Int.tdiv 1099511627776 (clampF n)) < clampF a) (ha0 : 0 < clampF a) :
    Calls Try.prog 37 #[.int .i64 a, .int .i64 n] w (Ret (.int .i64 (-1099511627776)) w) := by
  have ha := clampF_bd a
  have hb := clampF_bd n
  have s1 : decide (clampF a < 0) = false := by simp; omega
  have s2 : decide (clampF n < 0) = true := by simp; omega
  have z : (clampF n != 0) = true := by simp; omega
  go_enter Try.func37, Try.ntmps37
  go_wp2_with (go_at_call 31; refine (clamp_any _ _).mono ?_; rintro e w' ⟨rfl, rfl⟩)
  go_ret
  exact Ret.int rfl

set_option maxHeartbeats 400000 in
theorem mul_n2 (a n : Int) (w : World) (hn : clampF n < 0) (h1 : ¬ wrap64 (-Int.tdiv 1099511627776 (clampF n)) < clampF a) (h2 : clampF a < wrap64 (Int.tdiv 1099511627776 (clampF n))) (ha0 : clampF a < 0) :
    Calls Try.prog 37 #[.int .i64 a, .int .i64 n] w (Ret (.int .i64 (1099511627776)) w) := by
  have ha := clampF_bd a
  have hb := clampF_bd n
  have s1 : decide (clampF a < 0) = true := by simp; omega
  have s2 : decide (clampF n < 0) = true := by simp; omega
  have z : (clampF n != 0) = true := by simp; omega
  go_enter Try.func37, Try.ntmps37
  go_wp2_with (go_at_call 31; refine (clamp_any _ _).mono ?_; rintro e w' ⟨rfl, rfl⟩)
  go_ret
  exact Ret.int rfl

set_option maxHeartbeats 400000 in
theorem mul_n3 (a n : Int) (w : World) (hn : clampF n < 0) (h1 : ¬ wrap64 (-Int.tdiv 1099511627776 (clampF n)) < clampF a) (h2 : ¬ clampF a < wrap64 (Int.tdiv 1099511627776 (clampF n))) (m0 : -1099511627776 ≤ clampF a * clampF n) (m1 : clampF a * clampF n ≤ 1099511627776) :
    Calls Try.prog 37 #[.int .i64 a, .int .i64 n] w (Ret (.int .i64 (clampF a * clampF n)) w) := by
  have ha := clampF_bd a
  have hb := clampF_bd n
  have z : (clampF n != 0) = true := by simp; omega
  go_enter Try.func37, Try.ntmps37
  go_wp2_with (go_at_call 31; refine (clamp_any _ _).mono ?_; rintro e w' ⟨rfl, rfl⟩)
  go_ret
  exact Ret.int rfl

end Go.Proofs.Ytbbnfenlpfoaiaa
