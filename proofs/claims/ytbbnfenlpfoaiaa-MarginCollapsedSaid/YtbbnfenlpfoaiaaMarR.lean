/- WALKS: the reference's functions of chapter 13. -/
import Derived.Test.YtbbnfenlpfoaiaaMar
namespace Go.Proofs.Ytbbnfenlpfoaiaa
open Go.RowKit

set_option maxHeartbeats 400000 in
theorem renter_any (y m a n : Int) (w : World) (hy : Bd y) (hm : Bd m) (ha : Bd a) (hn : Bd n) :
    Calls Try.prog 20 #[.agg #[.int .i64 y, .int .i64 m], .int .i64 a, .int .i64 n] w (RetB (.agg #[.int .i64 (enterF ⟨y, m⟩ a n).y, .int .i64 (enterF ⟨y, m⟩ a n).m]) w) := by
  obtain ⟨y1, y2⟩ := hy
  obtain ⟨m1, m2⟩ := hm
  obtain ⟨a1, a2⟩ := ha
  obtain ⟨n1, n2⟩ := hn
  have hcs : (m < a ∧ 0 < n) ∨ (m < a ∧ n ≤ 0) ∨ (a ≤ m ∧ 0 < n) ∨ (a ≤ m ∧ n ≤ 0) := by omega
  rcases hcs with ⟨h1, h2⟩ | ⟨h1, h2⟩ | ⟨h1, h2⟩ | ⟨h1, h2⟩
  · have e : enterF ⟨y, m⟩ a n = ⟨y + a + n, 0⟩ := by
      simp only [enterF, padF, widenF, if_pos h2]
      rw [Pen.mk.injEq]
      refine ⟨?_, ?_⟩ <;> (try dsimp only) <;> omega
    rw [e]
    go_enter Try.func20, Try.ntmps20
    go_wp2
    refine bodyPost_ret (v := .agg #[.int .i64 (y + a + n), .int .i64 (0)]) (by simp [results, Try.results20, go_sem]) rfl (RetB.of rfl ?_)
    exact (by (repeat with_reducible (first | exact Below.refl _ _ | exact below_alloc _ _ | refine below_step ?_ _ | refine below_set ?_ ?_ | refine below_drew ?_ | refine below_drewN' ?_ | refine below_then ?_ (by assumption) | refine below_only' ?_ ?_ (by assumption))) <;> (first | omega | (simp; done) | (simp; omega)))
  · have e : enterF ⟨y, m⟩ a n = ⟨y, a⟩ := by
      simp only [enterF, padF, widenF, if_neg (show ¬ 0 < n by omega)]
      rw [Pen.mk.injEq]
      refine ⟨?_, ?_⟩ <;> (try dsimp only) <;> omega
    rw [e]
    go_enter Try.func20, Try.ntmps20
    go_wp2
    refine bodyPost_ret (v := .agg #[.int .i64 (y), .int .i64 (a)]) (by simp [results, Try.results20, go_sem]) rfl (RetB.of rfl ?_)
    exact (by (repeat with_reducible (first | exact Below.refl _ _ | exact below_alloc _ _ | refine below_step ?_ _ | refine below_set ?_ ?_ | refine below_drew ?_ | refine below_drewN' ?_ | refine below_then ?_ (by assumption) | refine below_only' ?_ ?_ (by assumption))) <;> (first | omega | (simp; done) | (simp; omega)))
  · have e : enterF ⟨y, m⟩ a n = ⟨y + m + n, 0⟩ := by
      simp only [enterF, padF, widenF, if_pos h2]
      rw [Pen.mk.injEq]
      refine ⟨?_, ?_⟩ <;> (try dsimp only) <;> omega
    rw [e]
    go_enter Try.func20, Try.ntmps20
    go_wp2
    refine bodyPost_ret (v := .agg #[.int .i64 (y + m + n), .int .i64 (0)]) (by simp [results, Try.results20, go_sem]) rfl (RetB.of rfl ?_)
    exact (by (repeat with_reducible (first | exact Below.refl _ _ | exact below_alloc _ _ | refine below_step ?_ _ | refine below_set ?_ ?_ | refine below_drew ?_ | refine below_drewN' ?_ | refine below_then ?_ (by assumption) | refine below_only' ?_ ?_ (by assumption))) <;> (first | omega | (simp; done) | (simp; omega)))
  · have e : enterF ⟨y, m⟩ a n = ⟨y, m⟩ := by
      simp only [enterF, padF, widenF, if_neg (show ¬ 0 < n by omega)]
      rw [Pen.mk.injEq]
      refine ⟨?_, ?_⟩ <;> (try dsimp only) <;> omega
    rw [e]
    go_enter Try.func20, Try.ntmps20
    go_wp2
    refine bodyPost_ret (v := .agg #[.int .i64 (y), .int .i64 (m)]) (by simp [results, Try.results20, go_sem]) rfl (RetB.of rfl ?_)
    exact (by (repeat with_reducible (first | exact Below.refl _ _ | exact below_alloc _ _ | refine below_step ?_ _ | refine below_set ?_ ?_ | refine below_drew ?_ | refine below_drewN' ?_ | refine below_then ?_ (by assumption) | refine below_only' ?_ ?_ (by assumption))) <;> (first | omega | (simp; done) | (simp; omega)))

set_option maxHeartbeats 400000 in
theorem rleave_any (y m a n : Int) (w : World) (hy : Bd y) (hm : Bd m) (ha : Bd a) (hn : Bd n) :
    Calls Try.prog 22 #[.agg #[.int .i64 y, .int .i64 m], .int .i64 a, .int .i64 n] w (RetB (.agg #[.int .i64 (leaveF ⟨y, m⟩ a n).y, .int .i64 (leaveF ⟨y, m⟩ a n).m]) w) := by
  obtain ⟨y1, y2⟩ := hy
  obtain ⟨m1, m2⟩ := hm
  obtain ⟨a1, a2⟩ := ha
  obtain ⟨n1, n2⟩ := hn
  have hcs : (0 < n ∧ 0 < a) ∨ (0 < n ∧ a ≤ 0) ∨ (n ≤ 0 ∧ m < a) ∨ (n ≤ 0 ∧ a ≤ m) := by omega
  rcases hcs with ⟨h1, h2⟩ | ⟨h1, h2⟩ | ⟨h1, h2⟩ | ⟨h1, h2⟩
  · have e : leaveF ⟨y, m⟩ a n = ⟨y + m + n, a⟩ := by
      simp only [leaveF, padF, widenF, if_pos h1]
      rw [Pen.mk.injEq]
      refine ⟨?_, ?_⟩ <;> (try dsimp only) <;> omega
    rw [e]
    go_enter Try.func22, Try.ntmps22
    go_wp2
    refine bodyPost_ret (v := .agg #[.int .i64 (y + m + n), .int .i64 (a)]) (by simp [results, Try.results22, go_sem]) rfl (RetB.of rfl ?_)
    exact (by (repeat with_reducible (first | exact Below.refl _ _ | exact below_alloc _ _ | refine below_step ?_ _ | refine below_set ?_ ?_ | refine below_drew ?_ | refine below_drewN' ?_ | refine below_then ?_ (by assumption) | refine below_only' ?_ ?_ (by assumption))) <;> (first | omega | (simp; done) | (simp; omega)))
  · have e : leaveF ⟨y, m⟩ a n = ⟨y + m + n, 0⟩ := by
      simp only [leaveF, padF, widenF, if_pos h1]
      rw [Pen.mk.injEq]
      refine ⟨?_, ?_⟩ <;> (try dsimp only) <;> omega
    rw [e]
    go_enter Try.func22, Try.ntmps22
    go_wp2
    refine bodyPost_ret (v := .agg #[.int .i64 (y + m + n), .int .i64 (0)]) (by simp [results, Try.results22, go_sem]) rfl (RetB.of rfl ?_)
    exact (by (repeat with_reducible (first | exact Below.refl _ _ | exact below_alloc _ _ | refine below_step ?_ _ | refine below_set ?_ ?_ | refine below_drew ?_ | refine below_drewN' ?_ | refine below_then ?_ (by assumption) | refine below_only' ?_ ?_ (by assumption))) <;> (first | omega | (simp; done) | (simp; omega)))
  · have e : leaveF ⟨y, m⟩ a n = ⟨y, a⟩ := by
      simp only [leaveF, padF, widenF, if_neg (show ¬ 0 < n by omega)]
      rw [Pen.mk.injEq]
      refine ⟨?_, ?_⟩ <;> (try dsimp only) <;> omega
    rw [e]
    go_enter Try.func22, Try.ntmps22
    go_wp2
    refine bodyPost_ret (v := .agg #[.int .i64 (y), .int .i64 (a)]) (by simp [results, Try.results22, go_sem]) rfl (RetB.of rfl ?_)
    exact (by (repeat with_reducible (first | exact Below.refl _ _ | exact below_alloc _ _ | refine below_step ?_ _ | refine below_set ?_ ?_ | refine below_drew ?_ | refine below_drewN' ?_ | refine below_then ?_ (by assumption) | refine below_only' ?_ ?_ (by assumption))) <;> (first | omega | (simp; done) | (simp; omega)))
  · have e : leaveF ⟨y, m⟩ a n = ⟨y, m⟩ := by
      simp only [leaveF, padF, widenF, if_neg (show ¬ 0 < n by omega)]
      rw [Pen.mk.injEq]
      refine ⟨?_, ?_⟩ <;> (try dsimp only) <;> omega
    rw [e]
    go_enter Try.func22, Try.ntmps22
    go_wp2
    refine bodyPost_ret (v := .agg #[.int .i64 (y), .int .i64 (m)]) (by simp [results, Try.results22, go_sem]) rfl (RetB.of rfl ?_)
    exact (by (repeat with_reducible (first | exact Below.refl _ _ | exact below_alloc _ _ | refine below_step ?_ _ | refine below_set ?_ ?_ | refine below_drew ?_ | refine below_drewN' ?_ | refine below_then ?_ (by assumption) | refine below_only' ?_ ?_ (by assumption))) <;> (first | omega | (simp; done) | (simp; omega)))

set_option maxHeartbeats 400000 in
theorem rclear_any (y m a : Int) (w : World) (hy : Bd y) (hm : Bd m) :
    Calls Try.prog 24 #[.agg #[.int .i64 y, .int .i64 m], .int .i64 a] w (RetB (.agg #[.int .i64 (clearF ⟨y, m⟩ a).y, .int .i64 (clearF ⟨y, m⟩ a).m]) w) := by
  obtain ⟨y1, y2⟩ := hy
  obtain ⟨m1, m2⟩ := hm
  by_cases h : y + m < a
  · have e : clearF ⟨y, m⟩ a = ⟨a, 0⟩ := by unfold clearF; rw [if_pos h]
    rw [e]
    go_enter Try.func24, Try.ntmps24
    go_wp2
    refine bodyPost_ret (v := .agg #[.int .i64 a, .int .i64 0]) (by simp [results, Try.results24, go_sem]) rfl (RetB.of rfl ?_)
    exact (by (repeat with_reducible (first | exact Below.refl _ _ | exact below_alloc _ _ | refine below_step ?_ _ | refine below_set ?_ ?_ | refine below_drew ?_ | refine below_drewN' ?_ | refine below_then ?_ (by assumption) | refine below_only' ?_ ?_ (by assumption))) <;> (first | omega | (simp; done) | (simp; omega)))
  · have e : clearF ⟨y, m⟩ a = ⟨y, m⟩ := by unfold clearF; rw [if_neg h]
    rw [e]
    go_enter Try.func24, Try.ntmps24
    go_wp2
    refine bodyPost_ret (v := .agg #[.int .i64 y, .int .i64 m]) (by simp [results, Try.results24, go_sem]) rfl (RetB.of rfl ?_)
    exact (by (repeat with_reducible (first | exact Below.refl _ _ | exact below_alloc _ _ | refine below_step ?_ _ | refine below_set ?_ ?_ | refine below_drew ?_ | refine below_drewN' ?_ | refine below_then ?_ (by assumption) | refine below_only' ?_ ?_ (by assumption))) <;> (first | omega | (simp; done) | (simp; omega)))

theorem IntsAt.old {w : World} {A : Option Addr} {xs : List Int} {k : Nat} (h : IntsAt w A xs) (hk : k < xs.length) : ∃ b off, A = some ⟨b, off, none⟩ ∧ b < w.heap.size ∧ w.cell? ⟨b, off + k, none⟩ = some (.int .i64 xs[k]) := h k hk

set_option maxHeartbeats 400000 in
theorem near13_any (A : Option Addr) (c : Nat) (xs : List Int) (w : World) (hx : IntsAt w A xs) (hl : xs.length ≤ 9223372036854775807) :
    Calls Try.prog 13 #[.slice A xs.length c] w (Ret (.bool (nearF xs)) w) := by
  go_enter Try.func13, Try.ntmps13
  go_wp2
  go_loop [3] (fun i => ∃ k : Nat, k ≤ xs.length ∧ i = .int .i64 k ∧ nearF (xs.take k) = true) (fun i => xs.length - (intOf i).toNat)
  case atStart => exact ⟨0, Nat.zero_le _, rfl, rfl⟩
  case round =>
    obtain ⟨k, hk, rfl, hn⟩ := hrel
    by_cases hlt : k < xs.length
    · obtain ⟨b, off, rfl, hb, hc⟩ := hx k hlt
      have ht := Lib.hid (nearF_take xs k hlt)
      have hn' := Lib.hid hn
      clear hn hx
      by_cases hnr : -1125899906842624 ≤ xs[k] ∧ xs[k] ≤ 1125899906842624
      · have h1 := hnr.1
        have h2 := hnr.2
        go_wp2
        go_round
        case rel => exact ⟨k + 1, by omega, by go_num, by rw [ht.out, hn'.out, nr_iff.2 hnr]; rfl⟩
        case measure => simp [intOf]; omega
      · go_wp2
        all_goals try (exfalso; omega)
        all_goals go_ret
        all_goals exact Ret.bool (nearF_no xs k hlt (by rw [← Bool.not_eq_true, nr_iff]; exact hnr)).symm
    · go_wp2
      go_ret
      exact Ret.bool (by rw [← hn, List.take_of_length_le (by omega)])

/-- two rows of numbers. -/
def sameI : List Int → List Int → Bool := fun a b => decide (a = b)
theorem sameI_len {a b : List Int} (h : a.length ≠ b.length) : sameI a b = false := by
  unfold sameI; simp; intro e; exact h (by rw [e])
theorem sameI_at {a b : List Int} {k : Nat} (h1 : k < a.length) (h2 : k < b.length) (h : a[k] ≠ b[k]) : sameI a b = false := by
  unfold sameI; simp; rintro rfl; exact h rfl
theorem sameI_all {a b : List Int} (h1 : a.length = b.length) (h : ∀ k (h1 : k < a.length) (h2 : k < b.length), a[k] = b[k]) : sameI a b = true := by
  unfold sameI; simp; exact List.ext_getElem h1 h

set_option maxHeartbeats 400000 in
theorem numbers13_any (A B : Option Addr) (c d : Nat) (xs ys : List Int) (w : World) (hx : IntsAt w A xs) (hy : IntsAt w B ys) (hl : xs.length ≤ 9223372036854775807) (_hl2 : ys.length ≤ 9223372036854775807) :
    Calls Try.prog 17 #[.slice A xs.length c, .slice B ys.length d] w (RetB (.bool (sameI xs ys)) w) := by
  by_cases he : xs.length = ys.length
  · have hz : ((xs.length : Int) != (ys.length : Int)) = false := by simp [he]
    have He := Lib.hid he
    clear he
    go_enter Try.func17, Try.ntmps17
    go_wp2
    go_loopw [5] (fun i wr => ∃ k m : Nat, k ≤ xs.length ∧ i = .int .i64 k ∧ wr = w.drewN m ∧ ∀ j (h1 : j < xs.length) (h2 : j < ys.length), j < k → xs[j] = ys[j]) (fun i _ => xs.length - (intOf i).toNat)
    case atStart => exact ⟨0, 0, Nat.zero_le _, rfl, rfl, fun _ _ _ h => absurd h (by omega)⟩
    case round =>
      obtain ⟨k, m, hk, rfl, rfl, hs⟩ := hrel
      have Hs := Lib.hid hs
      clear hs
      by_cases hlt : k < xs.length
      · have hlt2 : k < ys.length := by have := He.out; omega
        obtain ⟨b, off, rfl, hb, hc⟩ := hx k hlt
        obtain ⟨b1, off1, rfl, hb', hc1⟩ := hy k hlt2
        clear hx hy
        by_cases hv : xs[k] = ys[k]
        · have Hv := Lib.hid hv
          have hn : (xs[k] != ys[k]) = false := by simp [hv]
          clear hv
          go_wp2
          go_quiet (fail)
          go_wp2
          go_roundw
          case rel =>
            refine ⟨k + 1, m + nq, by omega, by go_num, rfl, fun j h1 h2 hj => ?_⟩
            by_cases hjk : j = k
            · subst hjk; exact Hv.out
            · exact Hs.out j h1 h2 (by omega)
          case measure => simp [intOf]; omega
        · have Hv := Lib.hid hv
          have hn : (xs[k] != ys[k]) = true := by simp [hv]
          clear hv
          go_wp2
          go_quiet (fail)
          go_wp2
          go_ret
          refine RetB.bool ?_ ?_
          · exact (sameI_at hlt hlt2 Hv.out).symm
          · repeat with_reducible (first | exact Below.refl _ _ | refine below_drewN' ?_)
      · go_wp2
        go_ret
        refine RetB.bool ?_ ?_
        · exact (sameI_all He.out fun j h1 h2 => Hs.out j h1 h2 (by omega)).symm
        · repeat with_reducible (first | exact Below.refl _ _ | refine below_drewN' ?_)
  · have hz : ((xs.length : Int) != (ys.length : Int)) = true := by simp; omega
    have He := Lib.hid he
    clear he
    go_enter Try.func17, Try.ntmps17
    go_wp2
    go_ret
    refine RetB.bool ?_ (Below.refl _ _)
    exact (sameI_len He.out).symm
end Go.Proofs.Ytbbnfenlpfoaiaa
