/- WALKS: the law MarginSteps of chapter 13. -/
import Derived.Test.YtbbnfenlpfoaiaaMarA
import Derived.Test.YtbbnfenlpfoaiaaMem3
import Derived.BigQuiet
namespace Go.Proofs.Ytbbnfenlpfoaiaa
open Go.RowKit

theorem step_info : (Try.prog.info? 33).map (fun i => (i.zero, i.size, i.bytes)) = some (some (.agg #[.int .i64 0, .int .i64 0, .int .i64 0]), 3, 24) := by kernel_rfl
def stepCells (x : Step) : List Value := [.int .i64 x.kind, .int .i64 x.a, .int .i64 x.b]
theorem step_len (x : Step) : (stepCells x).length = 3 := rfl
theorem step_one (xs : List Step) : ∀ u ∈ xs.flatMap stepCells, u.oneCell' = true := flat_one (fun x u hu => by simp [stepCells] at hu; rcases hu with rfl | rfl | rfl <;> rfl) xs
theorem StepsAt.row {w : World} {A : Option Addr} {xs : List Step} (h : StepsAt w A xs) : RowAt w A 3 stepCells xs := fun k hk => by
  obtain ⟨b, off, e, hlt, h1, h2, h3⟩ := h k hk
  refine ⟨b, off, e, hlt, fun i hi => ?_⟩
  have : i = 0 ∨ i = 1 ∨ i = 2 := by omega
  rcases this with rfl | rfl | rfl <;> assumption
theorem RowAt.steps {w : World} {A : Option Addr} {xs : List Step} (h : RowAt w A 3 stepCells xs) : StepsAt w A xs := fun k hk => by
  obtain ⟨b, off, e, hlt, hc⟩ := h k hk
  exact ⟨b, off, e, hlt, hc 0 (by omega), hc 1 (by omega), hc 2 (by omega)⟩

theorem bd_add {a b : Int} (ha : Bd a) (hb : Bd b) : -9223372036854775808 ≤ a + b ∧ a + b ≤ 9223372036854775807 := by
  obtain ⟨a1, a2⟩ := ha; obtain ⟨b1, b2⟩ := hb; omega
theorem same13 (A B : Option Addr) (c d : Nat) (xs : List Int) (w : World) (hx : IntsAt w A xs) (hy : IntsAt w B xs) (hl : xs.length ≤ 200) :
    Calls Try.prog 17 #[.slice A xs.length c, .slice B xs.length d] w (RetB (.bool true) w) := by
  have h := numbers13_any A B c d xs xs w hx hy (by omega) (by omega)
  rwa [show sameI xs xs = true from by simp [sameI]] at h

set_option maxRecDepth 100000 in
set_option maxHeartbeats 2000000 in
theorem steps13_near (y m a b : Int) (A : Option Addr) (c : Nat) (xs : List Step) (w : World) (hx : StepsAt w A xs) (hl : xs.length ≤ 200) (hn : nearF [y, m] = true) (hs : nearS xs = true) (hab : nearF [a, b] = true) :
    Calls Try.prog 3 #[.agg #[.int .i64 y, .int .i64 m], .slice A xs.length c, .int .i64 a, .int .i64 b] w (RetB (.bool true) w) := by
  obtain ⟨i0, hi0, hz0, hz1, hz2⟩ := info_parts step_info
  have h1 := step_one xs
  have hB0 := Blk.new w 23 #[.int .i64 y, .int .i64 m]
  have hxa := hx.below (below_alloc w (.cells #[.int .i64 y, .int .i64 m] 23))
  have c0 := hB0.f2
  go_enter Try.func3, Try.ntmps3
  go_wp2_with fail
  refine (nearL_any y m A c xs _ hxa (by omega)).mono ?_
  rintro e w1 ⟨rfl, hb1⟩
  rw [decide_eq_true hl, hn, hs]
  have hbw1 := below_then (below_alloc w (.cells #[.int .i64 y, .int .i64 m] 23)) hb1
  have hB1 := hB0.belowB hb1
  have hx1 := hx.below hbw1
  clear hB0 hxa c0 hx hb1
  have hi1 := IntsAt.new2 w1 w1.heap.size a b 3 rfl
  go_wp2_with fail
  refine (near2 _ a b _ hi1).mono ?_
  rintro e w' ⟨rfl, rfl⟩
  rw [hab]
  have hb2 := below_step (below_alloc w1 (.cells #[.int .i64 a, .int .i64 b] 3)) (.cells #[] 33)
  have hr := ((hx1.below hb2).row.cells step_len (by omega)).reads (size := 3) (n := xs.length) (flat_len step_len xs) (by omega)
  have ho := own_made0 (w1.alloc (.cells #[.int .i64 a, .int .i64 b] 3)) (w1.heap.size + 1) (w1.heap.size + 1) 33 3 (by simp) (by simp)
  go_wp2_with (at_builtin; refine wpList_append_any _ rfl (.tmp 27) (.tmp 28) 24 rfl (w1.heap.size + 1) 33 i0 (.agg #[.int .i64 0, .int .i64 0, .int .i64 0]) 3 24 Try.underlying24 hi0 hz0 hz1 hz2 rfl (by omega) (.slice (some ⟨w1.heap.size + 1, 0, none⟩) 0 0) 0 [] rfl ho _ A xs.length c (xs.flatMap stepCells) rfl hr h1 (by simp only [maxLen]; omega) (by omega) (by simp) ?_)
  intro v2 w2 hown hg _
  have hb3 : Below w1.heap.size w1 w2 := hb2.grown hg (by simp; omega) (fun k hk => by simp [Value.ownBlock] at hk; omega)
  obtain ⟨A2, c2, rfl, _, _, hc2⟩ := own_cells hown
  have hs2 := (hc2.row step_len (by omega)).steps
  have hB2 := hB1.belowB hb3
  have hx2 := hx1.below hb3
  have hbw2 := below_then hbw1 hb3
  clear hown hg hr ho h1 hc2 hb2 hb3 hi0 hz0 hz1 hz2 hB1 hx1 hbw1 hi1
  have c0 := hB2.f2
  go_wp2_with fail
  refine (run_any y m A2 c2 xs _ hs2 (by omega) hn hs).mono ?_
  rintro e w3 ⟨A3, c3, rfl, hi3, hc3, hb3, -⟩
  have hrl := rrun_any y m A c xs
  have hlen := len_run ⟨y, m⟩ xs xs.length (Nat.le_refl _)
  rw [List.take_length] at hlen
  generalize runF ⟨y, m⟩ xs = sf at *
  obtain ⟨⟨ey, em⟩, l⟩ := sf
  dsimp only at hi3 hrl hlen ⊢
  have hb4 := below_then hb3 (below_alloc w3 (.cells #[.int .i64 ey, .int .i64 em] 23))
  have hE4 := Blk.new w3 23 #[.int .i64 ey, .int .i64 em]
  have hB4 := hB2.belowB hb4
  have hx4 := hx2.below hb4
  have hs4 := hs2.below hb4
  have hi4 := hi3.below (below_alloc w3 (.cells #[.int .i64 ey, .int .i64 em] 23))
  have hbw4 := below_then hbw2 hb4
  clear hb3 hb4 hB2 hx2 hs2 hi3 hbw2 c0
  have c0 := hB4.f2
  go_wp2_with fail
  refine (hrl _ hx4 hl hn hs).mono ?_
  rintro e w5 ⟨A5, c5, rfl, hi5, hc5, hb5, -⟩
  dsimp only at hi5 ⊢
  have hb6 := below_then hb5 (below_alloc w5 (.cells #[.int .i64 ey, .int .i64 em] 23))
  have hF6 := Blk.new w5 23 #[.int .i64 ey, .int .i64 em]
  have hE6 := hE4.belowB hb6
  have hB6 := hB4.belowB hb6
  have hx6 := hx4.below hb6
  have hs6 := hs4.below hb6
  have hi6 := hi4.below hb6
  have hj6 := hi5.below (below_alloc w5 (.cells #[.int .i64 ey, .int .i64 em] 23))
  have hbw6 := below_then hbw4 hb6
  clear hb5 hb6 hE4 hB4 hx4 hs4 hi4 hi5 hbw4 c0 hrl
  have hnn := Lib.hid hn
  clear hn hs
  go_wp2_with fail
  go_loopw [14] (fun i wr => ∃ k m' : Nat, k ≤ xs.length ∧ i = .int .i64 k ∧ wr = (w5.alloc (.cells #[.int .i64 ey, .int .i64 em] 23)).drewN m') (fun i _ => xs.length - (intOf i).toNat)
  case atStart => exact ⟨0, 0, Nat.zero_le _, rfl, rfl⟩
  case round =>
    obtain ⟨k, m', hk, rfl, rfl⟩ := hrel
    by_cases hlt : k < xs.length
    · obtain ⟨b0, off, rfl, hb, h1, h2, h3⟩ := hx6 k hlt
      obtain ⟨b1, off1, rfl, hb', h4, h5, h6⟩ := hs6 k hlt
      clear hx6 hs6
      go_wp2
      go_quiet (fail)
      go_wp2
      go_roundw
      case rel => exact ⟨k + 1, m' + nq, by omega, by go_num, rfl⟩
      case measure => simp [intOf]; omega
    · clear hx6 hs6
      obtain ⟨y0, m0⟩ := near_bd hnn.out
      obtain ⟨a0, b0⟩ := near_bd hab
      go_wp2_with fail
      have hB7 := hB6.drewN m'
      have hE7 := hE6.drewN m'
      have hF7 := hF6.drewN m'
      have hi7 := hi6.drewN m'
      have hj7 := hj6.drewN m'
      have hbw7 := below_drewN hbw6 m'
      clear hB6 hE6 hF6 hi6 hj6 hbw6
      refine wp_region_below 64 120 (fun j v w' => match j with
            | 0 => v = .agg #[.int .i64 ey, .int .i64 em]
            | 1 => v = .agg #[.int .i64 ey, .int .i64 em]
            | 2 => v = .bool true
            | 3 => v = .bool true
            | 4 => v = .slice A3 l.length c3
            | 5 => v = .slice A5 l.length c5
            | 6 => v = .bool true
            | 7 => v = .bool true
            | 8 => v = .bool true
            | 9 => v = .agg #[.int .i64 y, .int .i64 m]
            | 10 => v = .int .i64 (y + m)
            | 11 => v = .pointer (some ⟨w.heap.size, 0, none⟩)
            | 12 => v = .int .i64 y
            | 13 => v = .pointer (some ⟨w.heap.size, 1, none⟩)
            | 14 => v = .int .i64 m
            | 15 => v = .int .i64 (y + m)
            | 16 => v = .bool true
            | 17 => v = .bool true
            | 18 => v = .bool true
            | 19 => v = .agg #[.int .i64 y, .int .i64 m]
            | 20 => v = .int .i64 a
            | 21 => v = .int .i64 b
            | 22 => v = .agg #[.int .i64 (enterF ⟨y, m⟩ a b).y, .int .i64 (enterF ⟨y, m⟩ a b).m]
            | 23 => v = .agg #[.int .i64 y, .int .i64 m]
            | 24 => v = .int .i64 a
            | 25 => v = .int .i64 b
            | 26 => v = .agg #[.int .i64 (enterF ⟨y, m⟩ a b).y, .int .i64 (enterF ⟨y, m⟩ a b).m]
            | 27 => v = .bool true
            | 28 => v = .bool true
            | 29 => v = .bool true
            | 30 => v = .agg #[.int .i64 y, .int .i64 m]
            | 31 => v = .int .i64 a
            | 32 => v = .int .i64 b
            | 33 => v = .agg #[.int .i64 (leaveF ⟨y, m⟩ a b).y, .int .i64 (leaveF ⟨y, m⟩ a b).m]
            | 34 => v = .agg #[.int .i64 y, .int .i64 m]
            | 35 => v = .int .i64 a
            | 36 => v = .int .i64 b
            | 37 => v = .agg #[.int .i64 (leaveF ⟨y, m⟩ a b).y, .int .i64 (leaveF ⟨y, m⟩ a b).m]
            | 38 => v = .bool true
            | 39 => v = .bool true
            | 40 => v = .bool true
            | 41 => v = .agg #[.int .i64 y, .int .i64 m]
            | 42 => v = .int .i64 a
            | 43 => v = .agg #[.int .i64 (clearF ⟨y, m⟩ a).y, .int .i64 (clearF ⟨y, m⟩ a).m]
            | 44 => v = .agg #[.int .i64 y, .int .i64 m]
            | 45 => v = .int .i64 a
            | 46 => v = .agg #[.int .i64 (clearF ⟨y, m⟩ a).y, .int .i64 (clearF ⟨y, m⟩ a).m]
            | 47 => v = .bool true
            | 48 => v = .bool true
            | 49 => v = .bool true
            | 50 => v = .agg #[.int .i64 y, .int .i64 m]
            | 51 => v = .int .i64 a
            | 52 => v = .int .i64 b
            | 53 => v = .agg #[.int .i64 (a + b), .int .i64 0]
            | 54 => v = .int .i64 a
            | 55 => v = .int .i64 b
            | 56 => v = .int .i64 (a + b)
            | 57 => v = .agg #[.int .i64 (a + b), .int .i64 0]
            | 58 => v = .bool true
            | 59 => v = .bool true
            | 60 => v = .bool true
            | 61 => v = .bool true
            | 62 => v = .bool true
            | _ => v = .bool true)
        [⟨[], [10]⟩, ⟨[], [12]⟩, ⟨[(57, 0), (58, 1)], []⟩, ⟨[(59, 2)], []⟩, ⟨[(60, 3)], [11]⟩, ⟨[(60, 3)], [13]⟩, ⟨[(61, 4), (62, 5), (60, 3)], []⟩, ⟨[(60, 3), (63, 6)], []⟩, ⟨[(64, 7)], []⟩, ⟨[(65, 8)], [4]⟩, ⟨[(66, 9), (65, 8)], []⟩, ⟨[(65, 8)], [4]⟩, ⟨[(68, 11), (65, 8)], []⟩, ⟨[(65, 8)], [4]⟩, ⟨[(70, 13), (65, 8)], []⟩, ⟨[(69, 12), (71, 14), (65, 8)], []⟩, ⟨[(67, 10), (72, 15), (65, 8)], []⟩, ⟨[(65, 8), (73, 16)], []⟩, ⟨[(74, 17)], []⟩, ⟨[(75, 18)], [4]⟩, ⟨[(75, 18)], [2]⟩, ⟨[(75, 18)], [3]⟩, ⟨[(76, 19), (77, 20), (78, 21), (75, 18)], []⟩, ⟨[(75, 18)], [4]⟩, ⟨[(75, 18)], [2]⟩, ⟨[(75, 18)], [3]⟩, ⟨[(80, 23), (81, 24), (82, 25), (75, 18)], []⟩, ⟨[(79, 22), (83, 26), (75, 18)], []⟩, ⟨[(75, 18), (84, 27)], []⟩, ⟨[(85, 28)], []⟩, ⟨[(86, 29)], [4]⟩, ⟨[(86, 29)], [2]⟩, ⟨[(86, 29)], [3]⟩, ⟨[(87, 30), (88, 31), (89, 32), (86, 29)], []⟩, ⟨[(86, 29)], [4]⟩, ⟨[(86, 29)], [2]⟩, ⟨[(86, 29)], [3]⟩, ⟨[(91, 34), (92, 35), (93, 36), (86, 29)], []⟩, ⟨[(90, 33), (94, 37), (86, 29)], []⟩, ⟨[(86, 29), (95, 38)], []⟩, ⟨[(96, 39)], []⟩, ⟨[(97, 40)], [4]⟩, ⟨[(97, 40)], [2]⟩, ⟨[(98, 41), (99, 42), (97, 40)], []⟩, ⟨[(97, 40)], [4]⟩, ⟨[(97, 40)], [2]⟩, ⟨[(101, 44), (102, 45), (97, 40)], []⟩, ⟨[(100, 43), (103, 46), (97, 40)], []⟩, ⟨[(97, 40), (104, 47)], []⟩, ⟨[(105, 48)], []⟩, ⟨[(106, 49)], [4]⟩, ⟨[(106, 49)], [2]⟩, ⟨[(106, 49)], [3]⟩, ⟨[(107, 50), (108, 51), (109, 52), (106, 49)], []⟩, ⟨[(106, 49)], [2]⟩, ⟨[(106, 49)], [3]⟩, ⟨[(111, 54), (112, 55), (106, 49)], []⟩, ⟨[(113, 56), (106, 49)], []⟩, ⟨[(110, 53), (114, 57), (106, 49)], []⟩, ⟨[(106, 49), (115, 58)], []⟩, ⟨[(116, 59)], []⟩, ⟨[(117, 60)], []⟩, ⟨[(117, 60), (118, 61)], []⟩, ⟨[(119, 62)], []⟩] (by kernel_rfl) (by kernel_rfl) (by kernel_rfl) (by kernel_rfl) rfl ?_ ?_ ?_
      · intro j v w1 w2 h _
        match j, h with
        | 0, h => exact h
        | 1, h => exact h
        | 2, h => exact h
        | 3, h => exact h
        | 4, h => exact h
        | 5, h => exact h
        | 6, h => exact h
        | 7, h => exact h
        | 8, h => exact h
        | 9, h => exact h
        | 10, h => exact h
        | 11, h => exact h
        | 12, h => exact h
        | 13, h => exact h
        | 14, h => exact h
        | 15, h => exact h
        | 16, h => exact h
        | 17, h => exact h
        | 18, h => exact h
        | 19, h => exact h
        | 20, h => exact h
        | 21, h => exact h
        | 22, h => exact h
        | 23, h => exact h
        | 24, h => exact h
        | 25, h => exact h
        | 26, h => exact h
        | 27, h => exact h
        | 28, h => exact h
        | 29, h => exact h
        | 30, h => exact h
        | 31, h => exact h
        | 32, h => exact h
        | 33, h => exact h
        | 34, h => exact h
        | 35, h => exact h
        | 36, h => exact h
        | 37, h => exact h
        | 38, h => exact h
        | 39, h => exact h
        | 40, h => exact h
        | 41, h => exact h
        | 42, h => exact h
        | 43, h => exact h
        | 44, h => exact h
        | 45, h => exact h
        | 46, h => exact h
        | 47, h => exact h
        | 48, h => exact h
        | 49, h => exact h
        | 50, h => exact h
        | 51, h => exact h
        | 52, h => exact h
        | 53, h => exact h
        | 54, h => exact h
        | 55, h => exact h
        | 56, h => exact h
        | 57, h => exact h
        | 58, h => exact h
        | 59, h => exact h
        | 60, h => exact h
        | 61, h => exact h
        | 62, h => exact h
        | _ + 63, h => exact h
      · refine ⟨?_, ?_, ?_, ?_, ?_, ?_, ?_, ?_, ?_, ?_, ?_, ?_, ?_, ?_, ?_, ?_, ?_, ?_, ?_, ?_, ?_, ?_, ?_, ?_, ?_, ?_, ?_, ?_, ?_, ?_, ?_, ?_, ?_, ?_, ?_, ?_, ?_, ?_, ?_, ?_, ?_, ?_, ?_, ?_, ?_, ?_, ?_, ?_, ?_, ?_, ?_, ?_, ?_, ?_, ?_, ?_, ?_, ?_, ?_, ?_, ?_, ?_, ?_, ?_, trivial⟩
        · refine step_plain rfl ?_
          rintro fa w1 K hC - ⟨h10, -⟩ hK
          have e10 := evg h10
          have c1 := (hE7.belowB hC).f2
          have hK' := Lib.hid hK
          clear hK h10 hB7 hE7 hF7 hi7 hj7 hbw7
          go_simp
          exact hK'.out _ _ rfl hC (Below.refl _ _)
        · refine step_plain rfl ?_
          rintro fa w1 K hC - ⟨h12, -⟩ hK
          have e12 := evg h12
          have c1 := (hF7.belowB hC).f2
          have hK' := Lib.hid hK
          clear hK h12 hB7 hE7 hF7 hi7 hj7 hbw7
          go_simp
          exact hK'.out _ _ rfl hC (Below.refl _ _)
        · refine step_plain rfl ?_
          rintro fa w1 K hC ⟨h57, h58, -⟩ - hK
          have e57 : fa.tmps[57]?.getD undef = .agg #[.int .i64 ey, .int .i64 em] := evg h57
          have e58 : fa.tmps[58]?.getD undef = .agg #[.int .i64 ey, .int .i64 em] := evg h58
          have hK' := Lib.hid hK
          clear hK h57 h58 hB7 hE7 hF7 hi7 hj7 hbw7
          go_simp
          exact hK'.out _ _ rfl hC (Below.refl _ _)
        · refine step_plain rfl ?_
          rintro fa w1 K hC ⟨h59, -⟩ - hK
          have e59 : fa.tmps[59]?.getD undef = .bool true := evg h59
          have hK' := Lib.hid hK
          clear hK h59 hB7 hE7 hF7 hi7 hj7 hbw7
          go_simp
          exact hK'.out _ _ rfl hC (Below.refl _ _)
        · refine step_want (t := 60) rfl rfl (by simp) (fun v w h => h) ?_
          rintro fa w1 K hC ⟨-, -⟩ ⟨h11, -⟩ hK
          have e11 := evg h11
          have hK' := Lib.hid hK
          clear hK h11 hB7 hE7 hF7 hi7 hj7 hbw7
          go_simp
          exact hK'.out _ _ rfl hC (Below.refl _ _)
        · refine step_want (t := 60) rfl rfl (by simp) (fun v w h => h) ?_
          rintro fa w1 K hC ⟨-, -⟩ ⟨h13, -⟩ hK
          have e13 := evg h13
          have hK' := Lib.hid hK
          clear hK h13 hB7 hE7 hF7 hi7 hj7 hbw7
          go_simp
          exact hK'.out _ _ rfl hC (Below.refl _ _)
        · refine step_want (t := 60) rfl rfl (by simp) (fun v w h => h) ?_
          rintro fa w1 K hC ⟨h61, h62, -, -⟩ - hK
          have e61 : fa.tmps[61]?.getD undef = .slice A3 l.length c3 := evg h61
          have e62 : fa.tmps[62]?.getD undef = .slice A5 l.length c5 := evg h62
          have hi8 := hi7.below hC
          have hj8 := hj7.below hC
          have hK' := Lib.hid hK
          clear hK h61 h62 hB7 hE7 hF7 hi7 hj7 hbw7
          go_simp
          refine (same13 A3 A5 c3 c5 l _ hi8 hj8 (by omega)).mono ?_
          rintro e w2 ⟨rfl, hb⟩
          exact hK'.out _ _ rfl (below_then hC hb) hb
        · refine step_plain rfl ?_
          rintro fa w1 K hC ⟨h60, h63, -⟩ - hK
          have e60 : fa.tmps[60]?.getD undef = .bool true := evg h60
          have e63 : fa.tmps[63]?.getD undef = .bool true := evg h63
          have hK' := Lib.hid hK
          clear hK h60 h63 hB7 hE7 hF7 hi7 hj7 hbw7
          go_simp
          exact hK'.out _ _ rfl hC (Below.refl _ _)
        · refine step_plain rfl ?_
          rintro fa w1 K hC ⟨h64, -⟩ - hK
          have e64 : fa.tmps[64]?.getD undef = .bool true := evg h64
          have hK' := Lib.hid hK
          clear hK h64 hB7 hE7 hF7 hi7 hj7 hbw7
          go_simp
          exact hK'.out _ _ rfl hC (Below.refl _ _)
        · refine step_want (t := 65) rfl rfl (by simp) (fun v w h => h) ?_
          rintro fa w1 K hC ⟨-, -⟩ ⟨h4, -⟩ hK
          have e4 := evg h4
          have c1 := (hB7.belowB hC).f2
          have hK' := Lib.hid hK
          clear hK h4 hB7 hE7 hF7 hi7 hj7 hbw7
          go_simp
          exact hK'.out _ _ rfl hC (Below.refl _ _)
        · refine step_want (t := 65) rfl rfl (by simp) (fun v w h => h) ?_
          rintro fa w1 K hC ⟨h66, -, -⟩ - hK
          have e66 : fa.tmps[66]?.getD undef = .agg #[.int .i64 y, .int .i64 m] := evg h66
          have hK' := Lib.hid hK
          clear hK h66 hB7 hE7 hF7 hi7 hj7 hbw7
          go_simp
          refine (at_any y m _ y0 m0).mono ?_
          rintro e w2 ⟨rfl, hb⟩
          exact hK'.out _ _ rfl (below_then hC hb) hb
        · refine step_want (t := 65) rfl rfl (by simp) (fun v w h => h) ?_
          rintro fa w1 K hC ⟨-, -⟩ ⟨h4, -⟩ hK
          have e4 := evg h4
          have hK' := Lib.hid hK
          clear hK h4 hB7 hE7 hF7 hi7 hj7 hbw7
          go_simp
          exact hK'.out _ _ rfl hC (Below.refl _ _)
        · refine step_want (t := 65) rfl rfl (by simp) (fun v w h => h) ?_
          rintro fa w1 K hC ⟨h68, -, -⟩ - hK
          have e68 : fa.tmps[68]?.getD undef = .pointer (some ⟨w.heap.size, 0, none⟩) := evg h68
          have c1 := (hB7.belowB hC).f2
          have hK' := Lib.hid hK
          clear hK h68 hB7 hE7 hF7 hi7 hj7 hbw7
          go_simp
          exact hK'.out _ _ rfl hC (Below.refl _ _)
        · refine step_want (t := 65) rfl rfl (by simp) (fun v w h => h) ?_
          rintro fa w1 K hC ⟨-, -⟩ ⟨h4, -⟩ hK
          have e4 := evg h4
          have hK' := Lib.hid hK
          clear hK h4 hB7 hE7 hF7 hi7 hj7 hbw7
          go_simp
          exact hK'.out _ _ rfl hC (Below.refl _ _)
        · refine step_want (t := 65) rfl rfl (by simp) (fun v w h => h) ?_
          rintro fa w1 K hC ⟨h70, -, -⟩ - hK
          have e70 : fa.tmps[70]?.getD undef = .pointer (some ⟨w.heap.size, 1, none⟩) := evg h70
          have c1 := (hB7.belowB hC).f2
          have hK' := Lib.hid hK
          clear hK h70 hB7 hE7 hF7 hi7 hj7 hbw7
          go_simp
          exact hK'.out _ _ rfl hC (Below.refl _ _)
        · refine step_want (t := 65) rfl rfl (by simp) (fun v w h => h) ?_
          rintro fa w1 K hC ⟨h69, h71, -, -⟩ - hK
          have e69 : fa.tmps[69]?.getD undef = .int .i64 y := evg h69
          have e71 : fa.tmps[71]?.getD undef = .int .i64 m := evg h71
          have hK' := Lib.hid hK
          clear hK h69 h71 hB7 hE7 hF7 hi7 hj7 hbw7
          go_simp
          rw [IntWalk.i64_in _ (bd_add y0 m0)]
          exact hK'.out _ _ rfl hC (Below.refl _ _)
        · refine step_want (t := 65) rfl rfl (by simp) (fun v w h => h) ?_
          rintro fa w1 K hC ⟨h67, h72, -, -⟩ - hK
          have e67 : fa.tmps[67]?.getD undef = .int .i64 (y + m) := evg h67
          have e72 : fa.tmps[72]?.getD undef = .int .i64 (y + m) := evg h72
          have hK' := Lib.hid hK
          clear hK h67 h72 hB7 hE7 hF7 hi7 hj7 hbw7
          go_simp
          exact hK'.out _ _ rfl hC (Below.refl _ _)
        · refine step_plain rfl ?_
          rintro fa w1 K hC ⟨h65, h73, -⟩ - hK
          have e65 : fa.tmps[65]?.getD undef = .bool true := evg h65
          have e73 : fa.tmps[73]?.getD undef = .bool true := evg h73
          have hK' := Lib.hid hK
          clear hK h65 h73 hB7 hE7 hF7 hi7 hj7 hbw7
          go_simp
          exact hK'.out _ _ rfl hC (Below.refl _ _)
        · refine step_plain rfl ?_
          rintro fa w1 K hC ⟨h74, -⟩ - hK
          have e74 : fa.tmps[74]?.getD undef = .bool true := evg h74
          have hK' := Lib.hid hK
          clear hK h74 hB7 hE7 hF7 hi7 hj7 hbw7
          go_simp
          exact hK'.out _ _ rfl hC (Below.refl _ _)
        · refine step_want (t := 75) rfl rfl (by simp) (fun v w h => h) ?_
          rintro fa w1 K hC ⟨-, -⟩ ⟨h4, -⟩ hK
          have e4 := evg h4
          have c1 := (hB7.belowB hC).f2
          have hK' := Lib.hid hK
          clear hK h4 hB7 hE7 hF7 hi7 hj7 hbw7
          go_simp
          exact hK'.out _ _ rfl hC (Below.refl _ _)
        · refine step_want (t := 75) rfl rfl (by simp) (fun v w h => h) ?_
          rintro fa w1 K hC ⟨-, -⟩ ⟨h2, -⟩ hK
          have e2 := evg h2
          have hK' := Lib.hid hK
          clear hK h2 hB7 hE7 hF7 hi7 hj7 hbw7
          go_simp
          exact hK'.out _ _ rfl hC (Below.refl _ _)
        · refine step_want (t := 75) rfl rfl (by simp) (fun v w h => h) ?_
          rintro fa w1 K hC ⟨-, -⟩ ⟨h3, -⟩ hK
          have e3 := evg h3
          have hK' := Lib.hid hK
          clear hK h3 hB7 hE7 hF7 hi7 hj7 hbw7
          go_simp
          exact hK'.out _ _ rfl hC (Below.refl _ _)
        · refine step_want (t := 75) rfl rfl (by simp) (fun v w h => h) ?_
          rintro fa w1 K hC ⟨h76, h77, h78, -, -⟩ - hK
          have e76 : fa.tmps[76]?.getD undef = .agg #[.int .i64 y, .int .i64 m] := evg h76
          have e77 : fa.tmps[77]?.getD undef = .int .i64 a := evg h77
          have e78 : fa.tmps[78]?.getD undef = .int .i64 b := evg h78
          have hK' := Lib.hid hK
          clear hK h76 h77 h78 hB7 hE7 hF7 hi7 hj7 hbw7
          go_simp
          refine (enter_any y m a b _ y0 m0 a0 b0).mono ?_
          rintro e w2 ⟨rfl, hb⟩
          exact hK'.out _ _ rfl (below_then hC hb) hb
        · refine step_want (t := 75) rfl rfl (by simp) (fun v w h => h) ?_
          rintro fa w1 K hC ⟨-, -⟩ ⟨h4, -⟩ hK
          have e4 := evg h4
          have c1 := (hB7.belowB hC).f2
          have hK' := Lib.hid hK
          clear hK h4 hB7 hE7 hF7 hi7 hj7 hbw7
          go_simp
          exact hK'.out _ _ rfl hC (Below.refl _ _)
        · refine step_want (t := 75) rfl rfl (by simp) (fun v w h => h) ?_
          rintro fa w1 K hC ⟨-, -⟩ ⟨h2, -⟩ hK
          have e2 := evg h2
          have hK' := Lib.hid hK
          clear hK h2 hB7 hE7 hF7 hi7 hj7 hbw7
          go_simp
          exact hK'.out _ _ rfl hC (Below.refl _ _)
        · refine step_want (t := 75) rfl rfl (by simp) (fun v w h => h) ?_
          rintro fa w1 K hC ⟨-, -⟩ ⟨h3, -⟩ hK
          have e3 := evg h3
          have hK' := Lib.hid hK
          clear hK h3 hB7 hE7 hF7 hi7 hj7 hbw7
          go_simp
          exact hK'.out _ _ rfl hC (Below.refl _ _)
        · refine step_want (t := 75) rfl rfl (by simp) (fun v w h => h) ?_
          rintro fa w1 K hC ⟨h80, h81, h82, -, -⟩ - hK
          have e80 : fa.tmps[80]?.getD undef = .agg #[.int .i64 y, .int .i64 m] := evg h80
          have e81 : fa.tmps[81]?.getD undef = .int .i64 a := evg h81
          have e82 : fa.tmps[82]?.getD undef = .int .i64 b := evg h82
          have hK' := Lib.hid hK
          clear hK h80 h81 h82 hB7 hE7 hF7 hi7 hj7 hbw7
          go_simp
          refine (renter_any y m a b _ y0 m0 a0 b0).mono ?_
          rintro e w2 ⟨rfl, hb⟩
          exact hK'.out _ _ rfl (below_then hC hb) hb
        · refine step_want (t := 75) rfl rfl (by simp) (fun v w h => h) ?_
          rintro fa w1 K hC ⟨h79, h83, -, -⟩ - hK
          have e79 : fa.tmps[79]?.getD undef = .agg #[.int .i64 (enterF ⟨y, m⟩ a b).y, .int .i64 (enterF ⟨y, m⟩ a b).m] := evg h79
          have e83 : fa.tmps[83]?.getD undef = .agg #[.int .i64 (enterF ⟨y, m⟩ a b).y, .int .i64 (enterF ⟨y, m⟩ a b).m] := evg h83
          have hK' := Lib.hid hK
          clear hK h79 h83 hB7 hE7 hF7 hi7 hj7 hbw7
          go_simp
          exact hK'.out _ _ rfl hC (Below.refl _ _)
        · refine step_plain rfl ?_
          rintro fa w1 K hC ⟨h75, h84, -⟩ - hK
          have e75 : fa.tmps[75]?.getD undef = .bool true := evg h75
          have e84 : fa.tmps[84]?.getD undef = .bool true := evg h84
          have hK' := Lib.hid hK
          clear hK h75 h84 hB7 hE7 hF7 hi7 hj7 hbw7
          go_simp
          exact hK'.out _ _ rfl hC (Below.refl _ _)
        · refine step_plain rfl ?_
          rintro fa w1 K hC ⟨h85, -⟩ - hK
          have e85 : fa.tmps[85]?.getD undef = .bool true := evg h85
          have hK' := Lib.hid hK
          clear hK h85 hB7 hE7 hF7 hi7 hj7 hbw7
          go_simp
          exact hK'.out _ _ rfl hC (Below.refl _ _)
        · refine step_want (t := 86) rfl rfl (by simp) (fun v w h => h) ?_
          rintro fa w1 K hC ⟨-, -⟩ ⟨h4, -⟩ hK
          have e4 := evg h4
          have c1 := (hB7.belowB hC).f2
          have hK' := Lib.hid hK
          clear hK h4 hB7 hE7 hF7 hi7 hj7 hbw7
          go_simp
          exact hK'.out _ _ rfl hC (Below.refl _ _)
        · refine step_want (t := 86) rfl rfl (by simp) (fun v w h => h) ?_
          rintro fa w1 K hC ⟨-, -⟩ ⟨h2, -⟩ hK
          have e2 := evg h2
          have hK' := Lib.hid hK
          clear hK h2 hB7 hE7 hF7 hi7 hj7 hbw7
          go_simp
          exact hK'.out _ _ rfl hC (Below.refl _ _)
        · refine step_want (t := 86) rfl rfl (by simp) (fun v w h => h) ?_
          rintro fa w1 K hC ⟨-, -⟩ ⟨h3, -⟩ hK
          have e3 := evg h3
          have hK' := Lib.hid hK
          clear hK h3 hB7 hE7 hF7 hi7 hj7 hbw7
          go_simp
          exact hK'.out _ _ rfl hC (Below.refl _ _)
        · refine step_want (t := 86) rfl rfl (by simp) (fun v w h => h) ?_
          rintro fa w1 K hC ⟨h87, h88, h89, -, -⟩ - hK
          have e87 : fa.tmps[87]?.getD undef = .agg #[.int .i64 y, .int .i64 m] := evg h87
          have e88 : fa.tmps[88]?.getD undef = .int .i64 a := evg h88
          have e89 : fa.tmps[89]?.getD undef = .int .i64 b := evg h89
          have hK' := Lib.hid hK
          clear hK h87 h88 h89 hB7 hE7 hF7 hi7 hj7 hbw7
          go_simp
          refine (leave_any y m a b _ y0 m0 a0 b0).mono ?_
          rintro e w2 ⟨rfl, hb⟩
          exact hK'.out _ _ rfl (below_then hC hb) hb
        · refine step_want (t := 86) rfl rfl (by simp) (fun v w h => h) ?_
          rintro fa w1 K hC ⟨-, -⟩ ⟨h4, -⟩ hK
          have e4 := evg h4
          have c1 := (hB7.belowB hC).f2
          have hK' := Lib.hid hK
          clear hK h4 hB7 hE7 hF7 hi7 hj7 hbw7
          go_simp
          exact hK'.out _ _ rfl hC (Below.refl _ _)
        · refine step_want (t := 86) rfl rfl (by simp) (fun v w h => h) ?_
          rintro fa w1 K hC ⟨-, -⟩ ⟨h2, -⟩ hK
          have e2 := evg h2
          have hK' := Lib.hid hK
          clear hK h2 hB7 hE7 hF7 hi7 hj7 hbw7
          go_simp
          exact hK'.out _ _ rfl hC (Below.refl _ _)
        · refine step_want (t := 86) rfl rfl (by simp) (fun v w h => h) ?_
          rintro fa w1 K hC ⟨-, -⟩ ⟨h3, -⟩ hK
          have e3 := evg h3
          have hK' := Lib.hid hK
          clear hK h3 hB7 hE7 hF7 hi7 hj7 hbw7
          go_simp
          exact hK'.out _ _ rfl hC (Below.refl _ _)
        · refine step_want (t := 86) rfl rfl (by simp) (fun v w h => h) ?_
          rintro fa w1 K hC ⟨h91, h92, h93, -, -⟩ - hK
          have e91 : fa.tmps[91]?.getD undef = .agg #[.int .i64 y, .int .i64 m] := evg h91
          have e92 : fa.tmps[92]?.getD undef = .int .i64 a := evg h92
          have e93 : fa.tmps[93]?.getD undef = .int .i64 b := evg h93
          have hK' := Lib.hid hK
          clear hK h91 h92 h93 hB7 hE7 hF7 hi7 hj7 hbw7
          go_simp
          refine (rleave_any y m a b _ y0 m0 a0 b0).mono ?_
          rintro e w2 ⟨rfl, hb⟩
          exact hK'.out _ _ rfl (below_then hC hb) hb
        · refine step_want (t := 86) rfl rfl (by simp) (fun v w h => h) ?_
          rintro fa w1 K hC ⟨h90, h94, -, -⟩ - hK
          have e90 : fa.tmps[90]?.getD undef = .agg #[.int .i64 (leaveF ⟨y, m⟩ a b).y, .int .i64 (leaveF ⟨y, m⟩ a b).m] := evg h90
          have e94 : fa.tmps[94]?.getD undef = .agg #[.int .i64 (leaveF ⟨y, m⟩ a b).y, .int .i64 (leaveF ⟨y, m⟩ a b).m] := evg h94
          have hK' := Lib.hid hK
          clear hK h90 h94 hB7 hE7 hF7 hi7 hj7 hbw7
          go_simp
          exact hK'.out _ _ rfl hC (Below.refl _ _)
        · refine step_plain rfl ?_
          rintro fa w1 K hC ⟨h86, h95, -⟩ - hK
          have e86 : fa.tmps[86]?.getD undef = .bool true := evg h86
          have e95 : fa.tmps[95]?.getD undef = .bool true := evg h95
          have hK' := Lib.hid hK
          clear hK h86 h95 hB7 hE7 hF7 hi7 hj7 hbw7
          go_simp
          exact hK'.out _ _ rfl hC (Below.refl _ _)
        · refine step_plain rfl ?_
          rintro fa w1 K hC ⟨h96, -⟩ - hK
          have e96 : fa.tmps[96]?.getD undef = .bool true := evg h96
          have hK' := Lib.hid hK
          clear hK h96 hB7 hE7 hF7 hi7 hj7 hbw7
          go_simp
          exact hK'.out _ _ rfl hC (Below.refl _ _)
        · refine step_want (t := 97) rfl rfl (by simp) (fun v w h => h) ?_
          rintro fa w1 K hC ⟨-, -⟩ ⟨h4, -⟩ hK
          have e4 := evg h4
          have c1 := (hB7.belowB hC).f2
          have hK' := Lib.hid hK
          clear hK h4 hB7 hE7 hF7 hi7 hj7 hbw7
          go_simp
          exact hK'.out _ _ rfl hC (Below.refl _ _)
        · refine step_want (t := 97) rfl rfl (by simp) (fun v w h => h) ?_
          rintro fa w1 K hC ⟨-, -⟩ ⟨h2, -⟩ hK
          have e2 := evg h2
          have hK' := Lib.hid hK
          clear hK h2 hB7 hE7 hF7 hi7 hj7 hbw7
          go_simp
          exact hK'.out _ _ rfl hC (Below.refl _ _)
        · refine step_want (t := 97) rfl rfl (by simp) (fun v w h => h) ?_
          rintro fa w1 K hC ⟨h98, h99, -, -⟩ - hK
          have e98 : fa.tmps[98]?.getD undef = .agg #[.int .i64 y, .int .i64 m] := evg h98
          have e99 : fa.tmps[99]?.getD undef = .int .i64 a := evg h99
          have hK' := Lib.hid hK
          clear hK h98 h99 hB7 hE7 hF7 hi7 hj7 hbw7
          go_simp
          refine (clear_any y m a _ y0 m0).mono ?_
          rintro e w2 ⟨rfl, hb⟩
          exact hK'.out _ _ rfl (below_then hC hb) hb
        · refine step_want (t := 97) rfl rfl (by simp) (fun v w h => h) ?_
          rintro fa w1 K hC ⟨-, -⟩ ⟨h4, -⟩ hK
          have e4 := evg h4
          have c1 := (hB7.belowB hC).f2
          have hK' := Lib.hid hK
          clear hK h4 hB7 hE7 hF7 hi7 hj7 hbw7
          go_simp
          exact hK'.out _ _ rfl hC (Below.refl _ _)
        · refine step_want (t := 97) rfl rfl (by simp) (fun v w h => h) ?_
          rintro fa w1 K hC ⟨-, -⟩ ⟨h2, -⟩ hK
          have e2 := evg h2
          have hK' := Lib.hid hK
          clear hK h2 hB7 hE7 hF7 hi7 hj7 hbw7
          go_simp
          exact hK'.out _ _ rfl hC (Below.refl _ _)
        · refine step_want (t := 97) rfl rfl (by simp) (fun v w h => h) ?_
          rintro fa w1 K hC ⟨h101, h102, -, -⟩ - hK
          have e101 : fa.tmps[101]?.getD undef = .agg #[.int .i64 y, .int .i64 m] := evg h101
          have e102 : fa.tmps[102]?.getD undef = .int .i64 a := evg h102
          have hK' := Lib.hid hK
          clear hK h101 h102 hB7 hE7 hF7 hi7 hj7 hbw7
          go_simp
          refine (rclear_any y m a _ y0 m0).mono ?_
          rintro e w2 ⟨rfl, hb⟩
          exact hK'.out _ _ rfl (below_then hC hb) hb
        · refine step_want (t := 97) rfl rfl (by simp) (fun v w h => h) ?_
          rintro fa w1 K hC ⟨h100, h103, -, -⟩ - hK
          have e100 : fa.tmps[100]?.getD undef = .agg #[.int .i64 (clearF ⟨y, m⟩ a).y, .int .i64 (clearF ⟨y, m⟩ a).m] := evg h100
          have e103 : fa.tmps[103]?.getD undef = .agg #[.int .i64 (clearF ⟨y, m⟩ a).y, .int .i64 (clearF ⟨y, m⟩ a).m] := evg h103
          have hK' := Lib.hid hK
          clear hK h100 h103 hB7 hE7 hF7 hi7 hj7 hbw7
          go_simp
          exact hK'.out _ _ rfl hC (Below.refl _ _)
        · refine step_plain rfl ?_
          rintro fa w1 K hC ⟨h97, h104, -⟩ - hK
          have e97 : fa.tmps[97]?.getD undef = .bool true := evg h97
          have e104 : fa.tmps[104]?.getD undef = .bool true := evg h104
          have hK' := Lib.hid hK
          clear hK h97 h104 hB7 hE7 hF7 hi7 hj7 hbw7
          go_simp
          exact hK'.out _ _ rfl hC (Below.refl _ _)
        · refine step_plain rfl ?_
          rintro fa w1 K hC ⟨h105, -⟩ - hK
          have e105 : fa.tmps[105]?.getD undef = .bool true := evg h105
          have hK' := Lib.hid hK
          clear hK h105 hB7 hE7 hF7 hi7 hj7 hbw7
          go_simp
          exact hK'.out _ _ rfl hC (Below.refl _ _)
        · refine step_want (t := 106) rfl rfl (by simp) (fun v w h => h) ?_
          rintro fa w1 K hC ⟨-, -⟩ ⟨h4, -⟩ hK
          have e4 := evg h4
          have c1 := (hB7.belowB hC).f2
          have hK' := Lib.hid hK
          clear hK h4 hB7 hE7 hF7 hi7 hj7 hbw7
          go_simp
          exact hK'.out _ _ rfl hC (Below.refl _ _)
        · refine step_want (t := 106) rfl rfl (by simp) (fun v w h => h) ?_
          rintro fa w1 K hC ⟨-, -⟩ ⟨h2, -⟩ hK
          have e2 := evg h2
          have hK' := Lib.hid hK
          clear hK h2 hB7 hE7 hF7 hi7 hj7 hbw7
          go_simp
          exact hK'.out _ _ rfl hC (Below.refl _ _)
        · refine step_want (t := 106) rfl rfl (by simp) (fun v w h => h) ?_
          rintro fa w1 K hC ⟨-, -⟩ ⟨h3, -⟩ hK
          have e3 := evg h3
          have hK' := Lib.hid hK
          clear hK h3 hB7 hE7 hF7 hi7 hj7 hbw7
          go_simp
          exact hK'.out _ _ rfl hC (Below.refl _ _)
        · refine step_want (t := 106) rfl rfl (by simp) (fun v w h => h) ?_
          rintro fa w1 K hC ⟨h107, h108, h109, -, -⟩ - hK
          have e107 : fa.tmps[107]?.getD undef = .agg #[.int .i64 y, .int .i64 m] := evg h107
          have e108 : fa.tmps[108]?.getD undef = .int .i64 a := evg h108
          have e109 : fa.tmps[109]?.getD undef = .int .i64 b := evg h109
          have hK' := Lib.hid hK
          clear hK h107 h108 h109 hB7 hE7 hF7 hi7 hj7 hbw7
          go_simp
          refine (put_any y m a b _ (bd_add a0 b0)).mono ?_
          rintro e w2 ⟨rfl, hb⟩
          exact hK'.out _ _ rfl (below_then hC hb) hb
        · refine step_want (t := 106) rfl rfl (by simp) (fun v w h => h) ?_
          rintro fa w1 K hC ⟨-, -⟩ ⟨h2, -⟩ hK
          have e2 := evg h2
          have hK' := Lib.hid hK
          clear hK h2 hB7 hE7 hF7 hi7 hj7 hbw7
          go_simp
          exact hK'.out _ _ rfl hC (Below.refl _ _)
        · refine step_want (t := 106) rfl rfl (by simp) (fun v w h => h) ?_
          rintro fa w1 K hC ⟨-, -⟩ ⟨h3, -⟩ hK
          have e3 := evg h3
          have hK' := Lib.hid hK
          clear hK h3 hB7 hE7 hF7 hi7 hj7 hbw7
          go_simp
          exact hK'.out _ _ rfl hC (Below.refl _ _)
        · refine step_want (t := 106) rfl rfl (by simp) (fun v w h => h) ?_
          rintro fa w1 K hC ⟨h111, h112, -, -⟩ - hK
          have e111 : fa.tmps[111]?.getD undef = .int .i64 a := evg h111
          have e112 : fa.tmps[112]?.getD undef = .int .i64 b := evg h112
          have hK' := Lib.hid hK
          clear hK h111 h112 hB7 hE7 hF7 hi7 hj7 hbw7
          go_simp
          rw [IntWalk.i64_in _ (bd_add a0 b0)]
          exact hK'.out _ _ rfl hC (Below.refl _ _)
        · refine step_want (t := 106) rfl rfl (by simp) (fun v w h => h) ?_
          rintro fa w1 K hC ⟨h113, -, -⟩ - hK
          have e113 : fa.tmps[113]?.getD undef = .int .i64 (a + b) := evg h113
          have hK' := Lib.hid hK
          clear hK h113 hB7 hE7 hF7 hi7 hj7 hbw7
          go_simp
          refine (pen_any (a + b) 0 _).mono ?_
          rintro e w2 ⟨rfl, hb⟩
          exact hK'.out _ _ rfl (below_then hC hb) hb
        · refine step_want (t := 106) rfl rfl (by simp) (fun v w h => h) ?_
          rintro fa w1 K hC ⟨h110, h114, -, -⟩ - hK
          have e110 : fa.tmps[110]?.getD undef = .agg #[.int .i64 (a + b), .int .i64 0] := evg h110
          have e114 : fa.tmps[114]?.getD undef = .agg #[.int .i64 (a + b), .int .i64 0] := evg h114
          have hK' := Lib.hid hK
          clear hK h110 h114 hB7 hE7 hF7 hi7 hj7 hbw7
          go_simp
          exact hK'.out _ _ rfl hC (Below.refl _ _)
        · refine step_plain rfl ?_
          rintro fa w1 K hC ⟨h106, h115, -⟩ - hK
          have e106 : fa.tmps[106]?.getD undef = .bool true := evg h106
          have e115 : fa.tmps[115]?.getD undef = .bool true := evg h115
          have hK' := Lib.hid hK
          clear hK h106 h115 hB7 hE7 hF7 hi7 hj7 hbw7
          go_simp
          exact hK'.out _ _ rfl hC (Below.refl _ _)
        · refine step_plain rfl ?_
          rintro fa w1 K hC ⟨h116, -⟩ - hK
          have e116 : fa.tmps[116]?.getD undef = .bool true := evg h116
          have hK' := Lib.hid hK
          clear hK h116 hB7 hE7 hF7 hi7 hj7 hbw7
          go_simp
          exact hK'.out _ _ rfl hC (Below.refl _ _)
        · refine step_want (t := 117) rfl rfl (by simp) (fun v w h => h) ?_
          rintro fa w1 K hC ⟨-, -⟩ - hK
          have hK' := Lib.hid hK
          clear hK  hB7 hE7 hF7 hi7 hj7 hbw7
          go_simp
          refine (awake13 _).mono ?_
          rintro e w2 ⟨rfl, hb⟩
          exact hK'.out _ _ rfl (below_then hC hb) hb
        · refine step_plain rfl ?_
          rintro fa w1 K hC ⟨h117, h118, -⟩ - hK
          have e117 : fa.tmps[117]?.getD undef = .bool true := evg h117
          have e118 : fa.tmps[118]?.getD undef = .bool true := evg h118
          have hK' := Lib.hid hK
          clear hK h117 h118 hB7 hE7 hF7 hi7 hj7 hbw7
          go_simp
          exact hK'.out _ _ rfl hC (Below.refl _ _)
        · refine step_plain rfl ?_
          rintro fa w1 K hC ⟨h119, -⟩ - hK
          have e119 : fa.tmps[119]?.getD undef = .bool true := evg h119
          have hK' := Lib.hid hK
          clear hK h119 hB7 hE7 hF7 hi7 hj7 hbw7
          go_simp
          exact hK'.out _ _ rfl hC (Below.refl _ _)
      · intro vs w1 hC hv
        have e0 : vs 0 = .agg #[.int .i64 ey, .int .i64 em] := hv 0 (by omega)
        have e1 : vs 1 = .agg #[.int .i64 ey, .int .i64 em] := hv 1 (by omega)
        have e2 : vs 2 = .bool true := hv 2 (by omega)
        have e3 : vs 3 = .bool true := hv 3 (by omega)
        have e4 : vs 4 = .slice A3 l.length c3 := hv 4 (by omega)
        have e5 : vs 5 = .slice A5 l.length c5 := hv 5 (by omega)
        have e6 : vs 6 = .bool true := hv 6 (by omega)
        have e7 : vs 7 = .bool true := hv 7 (by omega)
        have e8 : vs 8 = .bool true := hv 8 (by omega)
        have e9 : vs 9 = .agg #[.int .i64 y, .int .i64 m] := hv 9 (by omega)
        have e10 : vs 10 = .int .i64 (y + m) := hv 10 (by omega)
        have e11 : vs 11 = .pointer (some ⟨w.heap.size, 0, none⟩) := hv 11 (by omega)
        have e12 : vs 12 = .int .i64 y := hv 12 (by omega)
        have e13 : vs 13 = .pointer (some ⟨w.heap.size, 1, none⟩) := hv 13 (by omega)
        have e14 : vs 14 = .int .i64 m := hv 14 (by omega)
        have e15 : vs 15 = .int .i64 (y + m) := hv 15 (by omega)
        have e16 : vs 16 = .bool true := hv 16 (by omega)
        have e17 : vs 17 = .bool true := hv 17 (by omega)
        have e18 : vs 18 = .bool true := hv 18 (by omega)
        have e19 : vs 19 = .agg #[.int .i64 y, .int .i64 m] := hv 19 (by omega)
        have e20 : vs 20 = .int .i64 a := hv 20 (by omega)
        have e21 : vs 21 = .int .i64 b := hv 21 (by omega)
        have e22 : vs 22 = .agg #[.int .i64 (enterF ⟨y, m⟩ a b).y, .int .i64 (enterF ⟨y, m⟩ a b).m] := hv 22 (by omega)
        have e23 : vs 23 = .agg #[.int .i64 y, .int .i64 m] := hv 23 (by omega)
        have e24 : vs 24 = .int .i64 a := hv 24 (by omega)
        have e25 : vs 25 = .int .i64 b := hv 25 (by omega)
        have e26 : vs 26 = .agg #[.int .i64 (enterF ⟨y, m⟩ a b).y, .int .i64 (enterF ⟨y, m⟩ a b).m] := hv 26 (by omega)
        have e27 : vs 27 = .bool true := hv 27 (by omega)
        have e28 : vs 28 = .bool true := hv 28 (by omega)
        have e29 : vs 29 = .bool true := hv 29 (by omega)
        have e30 : vs 30 = .agg #[.int .i64 y, .int .i64 m] := hv 30 (by omega)
        have e31 : vs 31 = .int .i64 a := hv 31 (by omega)
        have e32 : vs 32 = .int .i64 b := hv 32 (by omega)
        have e33 : vs 33 = .agg #[.int .i64 (leaveF ⟨y, m⟩ a b).y, .int .i64 (leaveF ⟨y, m⟩ a b).m] := hv 33 (by omega)
        have e34 : vs 34 = .agg #[.int .i64 y, .int .i64 m] := hv 34 (by omega)
        have e35 : vs 35 = .int .i64 a := hv 35 (by omega)
        have e36 : vs 36 = .int .i64 b := hv 36 (by omega)
        have e37 : vs 37 = .agg #[.int .i64 (leaveF ⟨y, m⟩ a b).y, .int .i64 (leaveF ⟨y, m⟩ a b).m] := hv 37 (by omega)
        have e38 : vs 38 = .bool true := hv 38 (by omega)
        have e39 : vs 39 = .bool true := hv 39 (by omega)
        have e40 : vs 40 = .bool true := hv 40 (by omega)
        have e41 : vs 41 = .agg #[.int .i64 y, .int .i64 m] := hv 41 (by omega)
        have e42 : vs 42 = .int .i64 a := hv 42 (by omega)
        have e43 : vs 43 = .agg #[.int .i64 (clearF ⟨y, m⟩ a).y, .int .i64 (clearF ⟨y, m⟩ a).m] := hv 43 (by omega)
        have e44 : vs 44 = .agg #[.int .i64 y, .int .i64 m] := hv 44 (by omega)
        have e45 : vs 45 = .int .i64 a := hv 45 (by omega)
        have e46 : vs 46 = .agg #[.int .i64 (clearF ⟨y, m⟩ a).y, .int .i64 (clearF ⟨y, m⟩ a).m] := hv 46 (by omega)
        have e47 : vs 47 = .bool true := hv 47 (by omega)
        have e48 : vs 48 = .bool true := hv 48 (by omega)
        have e49 : vs 49 = .bool true := hv 49 (by omega)
        have e50 : vs 50 = .agg #[.int .i64 y, .int .i64 m] := hv 50 (by omega)
        have e51 : vs 51 = .int .i64 a := hv 51 (by omega)
        have e52 : vs 52 = .int .i64 b := hv 52 (by omega)
        have e53 : vs 53 = .agg #[.int .i64 (a + b), .int .i64 0] := hv 53 (by omega)
        have e54 : vs 54 = .int .i64 a := hv 54 (by omega)
        have e55 : vs 55 = .int .i64 b := hv 55 (by omega)
        have e56 : vs 56 = .int .i64 (a + b) := hv 56 (by omega)
        have e57 : vs 57 = .agg #[.int .i64 (a + b), .int .i64 0] := hv 57 (by omega)
        have e58 : vs 58 = .bool true := hv 58 (by omega)
        have e59 : vs 59 = .bool true := hv 59 (by omega)
        have e60 : vs 60 = .bool true := hv 60 (by omega)
        have e61 : vs 61 = .bool true := hv 61 (by omega)
        have e62 : vs 62 = .bool true := hv 62 (by omega)
        have e63 : vs 63 = .bool true := hv 63 (by omega)
        simp only [fill, dstOf, Act.put, List.drop_succ_cons, List.drop_zero, if_true, List.getElem?_toArray, List.getElem?_cons_zero, List.getElem?_cons_succ, Option.bind_some, List.setIfInBounds_toArray, List.set_cons_succ, List.set_cons_zero, e0, e1, e2, e3, e4, e5, e6, e7, e8, e9, e10, e11, e12, e13, e14, e15, e16, e17, e18, e19, e20, e21, e22, e23, e24, e25, e26, e27, e28, e29, e30, e31, e32, e33, e34, e35, e36, e37, e38, e39, e40, e41, e42, e43, e44, e45, e46, e47, e48, e49, e50, e51, e52, e53, e54, e55, e56, e57, e58, e59, e60, e61, e62, e63]
        clear hv e0 e1 e2 e3 e4 e5 e6 e7 e8 e9 e10 e11 e12 e13 e14 e15 e16 e17 e18 e19 e20 e21 e22 e23 e24 e25 e26 e27 e28 e29 e30 e31 e32 e33 e34 e35 e36 e37 e38 e39 e40 e41 e42 e43 e44 e45 e46 e47 e48 e49 e50 e51 e52 e53 e54 e55 e56 e57 e58 e59 e60 e61 e62 e63 hB7 hE7 hF7 hi7 hj7
        go_wp2
        refine bodyPost_ret (v := .bool true) (by simp [results, Try.results3, go_sem]) rfl ?_
        exact ⟨rfl, below_then hbw7 hC⟩
end Go.Proofs.Ytbbnfenlpfoaiaa
