/- WALKS: package unit: Mul, whole; the reference's functions of chapter 1. -/
import Derived.Test.YtbbnfenlpfoaiaaUnit2
namespace Go.Proofs.Ytbbnfenlpfoaiaa
open Go.RowKit Go.Shelf

theorem mul_over' {a m : Int} (hm : 0 < m) : (1099511627776 / m < a) ↔ 1099511627776 < a * m := by
  rw [Int.ediv_lt_iff_lt_mul hm]

theorem mul_any (a n : Int) (w : World) :
    Calls Try.prog 37 #[.int .i64 a, .int .i64 n] w (Ret (.int .i64 (mulF a n)) w) := by
  have ha := clampF_bd a
  have hb := clampF_bd n
  rcases Int.lt_trichotomy (clampF n) 0 with hn | hn | hn
  · -- below 0
    have hm : 0 < -clampF n := by omega
    have eD : Int.tdiv 1099511627776 (clampF n) = -(1099511627776 / -clampF n) := by
      have h1 : clampF n = -(-clampF n) := by omega
      rw [h1, Int.tdiv_neg, Int.tdiv_eq_ediv_of_nonneg (by omega), ← h1]
    have hq0 : 0 ≤ 1099511627776 / -clampF n := Int.ediv_nonneg (by omega) (by omega)
    have hq1 : 1099511627776 / -clampF n ≤ 1099511627776 := Int.ediv_le_self _ (by omega)
    have w1 : wrap64 (-Int.tdiv 1099511627776 (clampF n)) = 1099511627776 / -clampF n := by rw [eD, Int.neg_neg]; exact IntWalk.wrap64_in _ ⟨by omega, by omega⟩
    have w2 : wrap64 (Int.tdiv 1099511627776 (clampF n)) = -(1099511627776 / -clampF n) := by rw [eD]; exact IntWalk.wrap64_in _ ⟨by omega, by omega⟩
    have o1 := mul_over' (a := clampF a) hm
    have o2 := mul_over' (a := -clampF a) hm
    have e1 : clampF a * -clampF n = -(clampF a * clampF n) := Int.mul_neg _ _
    have e2 : -clampF a * -clampF n = clampF a * clampF n := Int.neg_mul_neg _ _
    by_cases h1 : 1099511627776 / -clampF n < clampF a
    · have := o1.1 h1
      have e : mulF a n = -1099511627776 := clampF_lo (by omega)
      rw [e]
      exact mul_n1 a n w hn (by rw [w1]; exact h1) (by omega)
    · have h1' : ¬ 1099511627776 < clampF a * -clampF n := fun h => h1 (o1.2 h)
      by_cases h2 : clampF a < -(1099511627776 / -clampF n)
      · have := o2.1 (by omega)
        have e : mulF a n = 1099511627776 := clampF_hi (by omega)
        rw [e]
        exact mul_n2 a n w hn (by rw [w1]; exact h1) (by rw [w2]; exact h2) (by omega)
      · have h2' : ¬ 1099511627776 < -clampF a * -clampF n := fun h => h2 (by have := o2.2 h; omega)
        have e : mulF a n = clampF a * clampF n := clampF_id (by omega) (by omega)
        rw [e]
        exact mul_n3 a n w hn (by rw [w1]; exact h1) (by rw [w2]; exact h2) (by omega) (by omega)
  · have e : mulF a n = clampF a * clampF n := clampF_id (by rw [hn]; simp) (by rw [hn]; simp)
    rw [e]
    exact mul_z a n w hn
  · have eD : Int.tdiv 1099511627776 (clampF n) = 1099511627776 / clampF n := Int.tdiv_eq_ediv_of_nonneg (by omega)
    have hq0 : 0 ≤ 1099511627776 / clampF n := Int.ediv_nonneg (by omega) (by omega)
    have hq1 : 1099511627776 / clampF n ≤ 1099511627776 := Int.ediv_le_self _ (by omega)
    have w1 : wrap64 (-Int.tdiv 1099511627776 (clampF n)) = -(1099511627776 / clampF n) := by rw [eD]; exact IntWalk.wrap64_in _ ⟨by omega, by omega⟩
    have o1 := mul_over' (a := clampF a) hn
    have o2 := mul_over' (a := -clampF a) hn
    have e1 : -clampF a * clampF n = -(clampF a * clampF n) := Int.neg_mul _ _
    by_cases h1 : 1099511627776 / clampF n < clampF a
    · have := o1.1 h1
      have e : mulF a n = 1099511627776 := clampF_hi (by omega)
      rw [e]
      exact mul_p1 a n w hn h1 (by omega)
    · have h1' : ¬ 1099511627776 < clampF a * clampF n := fun h => h1 (o1.2 h)
      by_cases h2 : clampF a < -(1099511627776 / clampF n)
      · have := o2.1 (by omega)
        have e : mulF a n = -1099511627776 := clampF_lo (by omega)
        rw [e]
        exact mul_p2 a n w hn h1 (by rw [w1]; exact h2) (by omega)
      · have h2' : ¬ 1099511627776 < -clampF a * clampF n := fun h => h2 (by have := o2.2 h; omega)
        have e : mulF a n = clampF a * clampF n := clampF_id (by omega) (by omega)
        rw [e]
        exact mul_p3 a n w hn h1 (by rw [w1]; exact h2) (by omega) (by omega)

/-! the reference -/
set_option maxHeartbeats 400000 in
theorem rclamp_any (n : Int) (w : World) :
    Calls Try.prog 32 #[.int .i64 n] w (Ret (.int .i64 (clampF n)) w) := by
  go_enter Try.func32, Try.ntmps32
  go_wp2
  all_goals go_ret
  all_goals refine Ret.int ?_
  all_goals unfold clampF
  all_goals repeat split
  all_goals omega

set_option maxHeartbeats 400000 in
theorem radd_any (A : Option Addr) (c : Nat) (xs : List Int) (w : World) (hx : IntsAt w A xs) (hl : xs.length ≤ 9223372036854775807) :
    Calls Try.prog 35 #[.slice A xs.length c] w (Ret (.int .i64 (addF xs)) w) := by
  go_enter Try.func35, Try.ntmps35
  go_wp2
  go_loop [3, 4] (fun s i => ∃ k : Nat, k ≤ xs.length ∧ i = .int .i64 k ∧ s = .int .i64 (addF (xs.take k))) (fun _ i => xs.length - (intOf i).toNat)
  case atStart => exact ⟨0, Nat.zero_le _, rfl, rfl⟩
  case round =>
    obtain ⟨k, hk, rfl, rfl⟩ := hrel
    by_cases hlt : k < xs.length
    · obtain ⟨b, off, rfl, hb, hc⟩ := hx k hlt
      have hs := Lib.hid (addF_take xs k hlt)
      have h1 := addF_bd (xs.take k)
      have h2 := clampF_bd xs[k]
      clear hx
      go_wp2_with (go_at_call 32; refine (rclamp_any _ _).mono ?_; rintro e w' ⟨rfl, rfl⟩)
      go_round
      case rel => exact ⟨k + 1, by omega, by go_num, by rw [hs.out]⟩
      case measure => simp [intOf]; omega
    · go_wp2
      go_ret
      exact Ret.int (by rw [List.take_of_length_le (by omega)])

set_option maxHeartbeats 400000 in
theorem rleast_any (A : Option Addr) (c : Nat) (xs : List Int) (w : World) (hx : IntsAt w A xs) (hl : xs.length ≤ 9223372036854775807) :
    Calls Try.prog 41 #[.slice A xs.length c] w (Ret (.int .i64 (clampF (bestF ltF xs))) w) := by
  go_enter Try.func41, Try.ntmps41
  go_wp2
  go_loop [3, 4] (fun s i => ∃ k : Nat, k ≤ xs.length ∧ i = .int .i64 k ∧ s = .int .i64 (bestF ltF (xs.take k))) (fun _ i => xs.length - (intOf i).toNat)
  case atStart => exact ⟨0, Nat.zero_le _, rfl, rfl⟩
  case round =>
    obtain ⟨k, hk, rfl, rfl⟩ := hrel
    by_cases hlt : k < xs.length
    · obtain ⟨b, off, rfl, hb, hc⟩ := hx k hlt
      clear hx
      by_cases h0 : k = 0
      · subst h0
        have hs := Lib.hid (bestF_take0 ltF xs hlt)
        simp only [Nat.add_zero] at hc
        go_wp2
        go_round
        case rel => exact ⟨0 + 1, by omega, by go_num, by rw [hs.out]⟩
        case measure => simp [intOf]; omega
      · have hs := Lib.hid (bestF_take ltF xs k hlt (by omega))
        have hz : ((k : Int) == 0) = false := by simp; omega
        by_cases hlx : decide (xs[k] < bestF ltF (xs.take k)) = true
        · have hlx' : ltF xs[k] (bestF ltF (xs.take k)) = true := hlx
          have Hx := Lib.hid hlx'
          clear hlx'
          go_wp2
          go_round
          case rel => exact ⟨k + 1, by omega, by go_num, by rw [hs.out, if_pos Hx.out]⟩
          case measure => simp [intOf]; omega
        · have hlx' : decide (xs[k] < bestF ltF (xs.take k)) = false := by simpa using hlx
          have Hx := Lib.hid (show ltF xs[k] (bestF ltF (xs.take k)) = false from hlx')
          clear hlx
          go_wp2
          go_round
          case rel => exact ⟨k + 1, by omega, by go_num, by rw [hs.out, Hx.out]; rfl⟩
          case measure => simp [intOf]; omega
    · go_wp2_with (go_at_call 32; refine (rclamp_any _ _).mono ?_; rintro e w' ⟨rfl, rfl⟩)
      go_ret
      exact Ret.int (by rw [List.take_of_length_le (by omega)])

set_option maxHeartbeats 400000 in
theorem rgreatest_any (A : Option Addr) (c : Nat) (xs : List Int) (w : World) (hx : IntsAt w A xs) (hl : xs.length ≤ 9223372036854775807) :
    Calls Try.prog 43 #[.slice A xs.length c] w (Ret (.int .i64 (clampF (bestF gtF xs))) w) := by
  go_enter Try.func43, Try.ntmps43
  go_wp2
  go_loop [3, 4] (fun s i => ∃ k : Nat, k ≤ xs.length ∧ i = .int .i64 k ∧ s = .int .i64 (bestF gtF (xs.take k))) (fun _ i => xs.length - (intOf i).toNat)
  case atStart => exact ⟨0, Nat.zero_le _, rfl, rfl⟩
  case round =>
    obtain ⟨k, hk, rfl, rfl⟩ := hrel
    by_cases hlt : k < xs.length
    · obtain ⟨b, off, rfl, hb, hc⟩ := hx k hlt
      clear hx
      by_cases h0 : k = 0
      · subst h0
        have hs := Lib.hid (bestF_take0 gtF xs hlt)
        simp only [Nat.add_zero] at hc
        go_wp2
        go_round
        case rel => exact ⟨0 + 1, by omega, by go_num, by rw [hs.out]⟩
        case measure => simp [intOf]; omega
      · have hs := Lib.hid (bestF_take gtF xs k hlt (by omega))
        have hz : ((k : Int) == 0) = false := by simp; omega
        by_cases hlx : decide (bestF gtF (xs.take k) < xs[k]) = true
        · have hlx' : gtF xs[k] (bestF gtF (xs.take k)) = true := hlx
          have Hx := Lib.hid hlx'
          clear hlx'
          go_wp2
          go_round
          case rel => exact ⟨k + 1, by omega, by go_num, by rw [hs.out, if_pos Hx.out]⟩
          case measure => simp [intOf]; omega
        · have hlx' : decide (bestF gtF (xs.take k) < xs[k]) = false := by simpa using hlx
          have Hx := Lib.hid (show gtF xs[k] (bestF gtF (xs.take k)) = false from hlx')
          clear hlx
          go_wp2
          go_round
          case rel => exact ⟨k + 1, by omega, by go_num, by rw [hs.out, Hx.out]; rfl⟩
          case measure => simp [intOf]; omega
    · go_wp2_with (go_at_call 32; refine (rclamp_any _ _).mono ?_; rintro e w' ⟨rfl, rfl⟩)
      go_ret
      exact Ret.int (by rw [List.take_of_length_le (by omega)])


theorem ceil_one {a b : Int} (hb : 1 ≤ b) : (a + b - 1) / b = if a / b * b < a then a / b + 1 else a / b := by
  have h1 := Int.emod_add_mul_ediv a b
  have h2 := Int.emod_nonneg a (show b ≠ 0 by omega)
  have h3 := Int.emod_lt_of_pos a (show 0 < b by omega)
  have h4 : b * (a / b) = a / b * b := Int.mul_comm _ _
  split
  · have h5 : b * (a / b + 1) = b * (a / b) + b := by rw [Int.mul_add, Int.mul_one]
    exact ((Int.ediv_emod_unique (a := a + b - 1) (q := a / b + 1) (r := a % b - 1) (show 0 < b by omega)).2 ⟨by omega, by omega, by omega⟩).1
  · exact ((Int.ediv_emod_unique (a := a + b - 1) (q := a / b) (r := b - 1) (show 0 < b by omega)).2 ⟨by omega, by omega, by omega⟩).1
theorem tdm (n m : Int) (_hm : 0 < m) : (0 ≤ n ∧ n.tdiv m = n / m ∧ n.tmod m = n % m) ∨ (n < 0 ∧ n.tdiv m = -((-n) / m) ∧ n.tmod m = -((-n) % m)) := by
  rcases Int.lt_or_le n 0 with h | h
  · refine .inr ⟨h, ?_, ?_⟩
    · have : n.tdiv m = (-(-n)).tdiv m := by rw [Int.neg_neg]
      rw [this, Int.neg_tdiv, Int.tdiv_eq_ediv_of_nonneg (by omega)]
    · have : n.tmod m = (-(-n)).tmod m := by rw [Int.neg_neg]
      rw [this, Int.neg_tmod, Int.tmod_eq_emod_of_nonneg (by omega)]
  · exact .inl ⟨h, Int.tdiv_eq_ediv_of_nonneg h, Int.tmod_eq_emod_of_nonneg h⟩
theorem px1 (n : Int) (h : n.tmod 64 < 0) : n.tdiv 64 - 1 = n / 64 ∧ n.tmod 64 + 64 = n % 64 := by
  rcases tdm n 64 (by omega) with ⟨a, b, c⟩ | ⟨a, b, c⟩ <;> omega
theorem px2 (n : Int) (h : ¬ n.tmod 64 < 0) : n.tdiv 64 = n / 64 ∧ n.tmod 64 = n % 64 := by
  rcases tdm n 64 (by omega) with ⟨a, b, c⟩ | ⟨a, b, c⟩ <;> omega
theorem tdiv_bd {n m : Int} (hm : 0 < m) {B : Int} (h : -B ≤ n) (h2 : n ≤ B) : -B ≤ n.tdiv m ∧ n.tdiv m ≤ B := by
  rcases tdm n m hm with ⟨a, b, c⟩ | ⟨a, b, c⟩
  · have h1 := Int.ediv_nonneg a (show 0 ≤ m by omega)
    have h3 := Int.ediv_le_self m a
    omega
  · have h1 := Int.ediv_nonneg (show 0 ≤ -n by omega) (show 0 ≤ m by omega)
    have h3 := Int.ediv_le_self m (show 0 ≤ -n by omega)
    omega

set_option maxHeartbeats 400000 in
theorem rpixels_any (n : Int) (w : World) :
    Calls Try.prog 30 #[.int .i64 n] w (Ret (.tuple #[.int .i64 (clampF n / 64), .int .i64 (clampF n % 64)]) w) := by
  have h1 := clampF_bd n
  have h2 := tdiv_bd (n := clampF n) (show (0 : Int) < 64 by omega) h1.1 h1.2
  have h3 : -64 ≤ (clampF n).tmod 64 ∧ (clampF n).tmod 64 ≤ 64 := by rcases tdm (clampF n) 64 (by omega) with ⟨a, b, c⟩ | ⟨a, b, c⟩ <;> omega
  by_cases hc : (clampF n).tmod 64 < 0
  · have e := Lib.hid (px1 _ hc)
    go_enter Try.func30, Try.ntmps30
    go_wp2_with (go_at_call 32; refine (rclamp_any _ _).mono ?_; rintro e w' ⟨rfl, rfl⟩)
    go_ret2
    exact Ret.intInt e.out.1 e.out.2
  · have e := Lib.hid (px2 _ hc)
    go_enter Try.func30, Try.ntmps30
    go_wp2_with (go_at_call 32; refine (rclamp_any _ _).mono ?_; rintro e w' ⟨rfl, rfl⟩)
    go_ret2
    exact Ret.intInt e.out.1 e.out.2

set_option maxHeartbeats 400000 in
theorem rparts_any (a b : Int) (w : World) :
    Calls Try.prog 28 #[.int .i64 a, .int .i64 b] w (Ret (.tuple #[.int .i64 (partsF a b), .bool (partsB a b)]) w) := by
  have h1 := clampF_bd a
  have h2 := clampF_bd b
  by_cases ha : clampF a < 0
  · go_enter Try.func28, Try.ntmps28
    go_wp2_with (go_at_call 32; refine (rclamp_any _ _).mono ?_; rintro e w' ⟨rfl, rfl⟩)
    go_ret2
    exact Ret.intBool (by rw [partsF, if_pos (.inl ha)]) (by unfold partsB; simp; omega)
  · by_cases hb : clampF b < 1
    · go_enter Try.func28, Try.ntmps28
      go_wp2_with (go_at_call 32; refine (rclamp_any _ _).mono ?_; rintro e w' ⟨rfl, rfl⟩)
      go_ret2
      exact Ret.intBool (by rw [partsF, if_pos (.inr hb)]) (by unfold partsB; simp; omega)
    · have q0 : 0 ≤ clampF a / clampF b := Int.ediv_nonneg (by omega) (by omega)
      have q1 : clampF a / clampF b ≤ clampF a := Int.ediv_le_self _ (by omega)
      have q2 : clampF a / clampF b * clampF b ≤ clampF a := Int.ediv_mul_le _ (by omega)
      have q3 : 0 ≤ clampF a / clampF b * clampF b := Int.mul_nonneg q0 (by omega)
      have hcl := Lib.hid (ceil_one (a := clampF a) (b := clampF b) (by omega))
      by_cases hlt : clampF a / clampF b * clampF b < clampF a
      · go_enter Try.func28, Try.ntmps28
        go_wp2_with (go_at_call 32; refine (rclamp_any _ _).mono ?_; rintro e w' ⟨rfl, rfl⟩)
        go_ret2
        exact Ret.intBool (by rw [partsF, if_neg (by omega), hcl.out, if_pos hlt]) (by unfold partsB; simp; omega)
      · go_enter Try.func28, Try.ntmps28
        go_wp2_with (go_at_call 32; refine (rclamp_any _ _).mono ?_; rintro e w' ⟨rfl, rfl⟩)
        go_ret2
        exact Ret.intBool (by rw [partsF, if_neg (by omega), hcl.out, if_neg (by omega)]) (by unfold partsB; simp; omega)

theorem mul_odd (s a n : Int) (hs : 0 ≤ s) (ha : 0 ≤ a) (hn : 0 ≤ n) (ho : n % 2 = 1) : clampF (clampF (s + a) + clampF (2 * a) * (n / 2)) = clampF (s + a * n) := by
  rw [clampF_step _ _ _ (by omega) (by omega) (by omega)]
  have e : n = 2 * (n / 2) + 1 := by omega
  have e2 : a * n = 2 * a * (n / 2) + a := by
    conv => lhs; rw [e]
    rw [Int.mul_add, Int.mul_one, ← Int.mul_assoc, Int.mul_comm a 2]
  rw [e2]; congr 1; omega
theorem mul_even (s a n : Int) (hs : 0 ≤ s) (hs2 : s ≤ 1099511627776) (ha : 0 ≤ a) (hn : 0 ≤ n) (ho : ¬ n % 2 = 1) : clampF (s + clampF (2 * a) * (n / 2)) = clampF (s + a * n) := by
  have h := clampF_step s (2 * a) (n / 2) hs (by omega) (by omega)
  rw [clampF_id (n := s) (by omega) hs2] at h
  rw [h]
  have e : n = 2 * (n / 2) := by omega
  have e2 : a * n = 2 * a * (n / 2) := by
    conv => lhs; rw [e]
    rw [← Int.mul_assoc, Int.mul_comm a 2]
  rw [e2]

set_option maxHeartbeats 400000 in
theorem rmul_nn (a n : Int) (w : World) (ha : 0 ≤ clampF a) (hn : 0 ≤ clampF n) :
    Calls Try.prog 38 #[.int .i64 a, .int .i64 n] w (Ret (.int .i64 (mulF a n)) w) := by
  have h1 := clampF_bd a
  have h2 := clampF_bd n
  go_enter Try.func38, Try.ntmps38
  go_wp2_with (go_at_call 32; refine (rclamp_any _ _).mono ?_; rintro e w' ⟨rfl, rfl⟩)
  go_loop [5, 0, 1] (fun vs va vn => ∃ s a' n' : Int, vs = .int .i64 s ∧ va = .int .i64 a' ∧ vn = .int .i64 n' ∧ 0 ≤ s ∧ s ≤ 1099511627776 ∧ 0 ≤ a' ∧ a' ≤ 1099511627776 ∧ 0 ≤ n' ∧ n' ≤ 1099511627776 ∧ clampF (s + a' * n') = mulF a n) (fun _ _ vn => (intOf vn).toNat)
  case atStart => exact ⟨0, _, _, rfl, rfl, rfl, by omega, by omega, ha, h1.2, hn, h2.2, by rw [Int.zero_add]; rfl⟩
  case round =>
    obtain ⟨s, a', n', rfl, rfl, rfl, b1, b2, b3, b4, b5, b6, he⟩ := hrel
    have He := Lib.hid he
    clear he
    by_cases hp : 0 < n'
    · have c1 := clampF_bd (2 * a')
      have c2 := clampF_nn (n := 2 * a') (by omega)
      have c3 := clampF_bd (s + a')
      have c4 := clampF_nn (n := s + a') (by omega)
      by_cases ho : n' % 2 = 1
      · have hm := Lib.hid (mul_odd s a' n' b1 b3 b5 ho)
        have hb : (n' % 2 == 1) = true := by simp [ho]
        clear ho
        go_wp2_with (go_at_call 32; refine (rclamp_any _ _).mono ?_; rintro e w' ⟨rfl, rfl⟩)
        go_round
        case rel => exact ⟨_, _, _, rfl, rfl, rfl, c4, c3.2, c2, c1.2, by omega, by omega, by rw [hm.out, He.out]⟩
        case measure => simp [intOf]; omega
      · have hm := Lib.hid (mul_even s a' n' b1 b2 b3 b5 ho)
        have hb : (n' % 2 == 1) = false := by simp [ho]
        clear ho
        go_wp2_with (go_at_call 32; refine (rclamp_any _ _).mono ?_; rintro e w' ⟨rfl, rfl⟩)
        go_round
        case rel => exact ⟨_, _, _, rfl, rfl, rfl, b1, b2, c2, c1.2, by omega, by omega, by rw [hm.out, He.out]⟩
        case measure => simp [intOf]; omega
    · have hz : n' = 0 := by omega
      have hv : s = mulF a n := by rw [← He.out, hz, Int.mul_zero, Int.add_zero, clampF_id (by omega) b2]
      have Hv := Lib.hid hv
      clear hz hv He
      go_wp2
      go_ret
      exact Ret.int Hv.out

set_option maxHeartbeats 400000 in
theorem rmul_n (a n : Int) (w : World) (ha : 0 ≤ clampF a) (hn : clampF n < 0) :
    Calls Try.prog 38 #[.int .i64 a, .int .i64 n] w (Ret (.int .i64 (mulF a n)) w) := by
  have h1 := clampF_bd a
  have h2 := clampF_bd n
  have e1 := clampF_clampF a
  have e2 : clampF (-clampF n) = -clampF n := clampF_id (by omega) (by omega)
  have e3 : mulF (clampF a) (-clampF n) = -mulF a n := by unfold mulF; rw [e1, e2, Int.mul_neg, clampF_neg]
  have hb : -1099511627776 ≤ mulF a n ∧ mulF a n ≤ 1099511627776 := clampF_bd _
  have H := fun w => rmul_nn (clampF a) (-clampF n) w (by omega) (by omega)
  rw [e3] at H
  have H' := Lib.hid H
  clear H e1 e2 e3
  go_enter Try.func38, Try.ntmps38
  go_wp2_with (first
    | (go_at_call 32; refine (rclamp_any _ _).mono ?_; rintro e w' ⟨rfl, rfl⟩)
    | (go_at_call 38; refine (H'.out _).mono ?_; rintro e w' ⟨rfl, rfl⟩))
  go_ret
  exact Ret.int (by omega)

set_option maxHeartbeats 400000 in
theorem rmul_a (a n : Int) (w : World) (ha : clampF a < 0) :
    Calls Try.prog 38 #[.int .i64 a, .int .i64 n] w (Ret (.int .i64 (mulF a n)) w) := by
  have h1 := clampF_bd a
  have h2 := clampF_bd n
  have e1 := clampF_clampF n
  have e2 : clampF (-clampF a) = -clampF a := clampF_id (by omega) (by omega)
  have e3 : mulF (-clampF a) (clampF n) = -mulF a n := by unfold mulF; rw [e1, e2, Int.neg_mul, clampF_neg]
  have hb : -1099511627776 ≤ mulF a n ∧ mulF a n ≤ 1099511627776 := clampF_bd _
  have H : ∀ w, Calls Try.prog 38 #[.int .i64 (-clampF a), .int .i64 (clampF n)] w (Ret (.int .i64 (mulF (-clampF a) (clampF n))) w) := fun w => by
    by_cases hn : 0 ≤ clampF n
    · exact rmul_nn _ _ w (by omega) (by omega)
    · exact rmul_n _ _ w (by omega) (by omega)
  rw [e3] at H
  have H' := Lib.hid H
  clear H e1 e2 e3
  go_enter Try.func38, Try.ntmps38
  go_wp2_with (first
    | (go_at_call 32; refine (rclamp_any _ _).mono ?_; rintro e w' ⟨rfl, rfl⟩)
    | (go_at_call 38; refine (H'.out _).mono ?_; rintro e w' ⟨rfl, rfl⟩))
  go_ret
  exact Ret.int (by omega)

theorem rmul_any (a n : Int) (w : World) :
    Calls Try.prog 38 #[.int .i64 a, .int .i64 n] w (Ret (.int .i64 (mulF a n)) w) := by
  by_cases ha : clampF a < 0
  · exact rmul_a a n w ha
  · by_cases hn : clampF n < 0
    · exact rmul_n a n w (by omega) hn
    · exact rmul_nn a n w (by omega) (by omega)
end Go.Proofs.Ytbbnfenlpfoaiaa
