/- WALKS: chapter 13: the chapter's examples. -/
import Derived.Test.YtbbnfenlpfoaiaaMarRun2
import Derived.Test.YtbbnfenlpfoaiaaMarN
namespace Go.Proofs.Ytbbnfenlpfoaiaa
open Go.RowKit

theorem bd_few {a : Int} (h1 : -1000 ≤ a) (h2 : a ≤ 1000) : Bd a := by unfold Bd; omega
def fiveSteps : List Step := [⟨1, 5, 0⟩, ⟨4, 10, 0⟩, ⟨2, 7, 0⟩, ⟨1, 3, 0⟩, ⟨4, 1, 0⟩]

theorem five_at (w : World) (B : Nat) (hB : B = w.heap.size) : StepsAt (w.alloc (.cells #[.int .i64 1, .int .i64 5, .int .i64 0, .int .i64 4, .int .i64 10, .int .i64 0, .int .i64 2, .int .i64 7, .int .i64 0, .int .i64 1, .int .i64 3, .int .i64 0, .int .i64 4, .int .i64 1, .int .i64 0] 33)) (some ⟨B, 0, none⟩) fiveSteps := by
  subst hB
  intro k hk
  refine ⟨w.heap.size, 0, rfl, by simp, ?_⟩
  have h : k = 0 ∨ k = 1 ∨ k = 2 ∨ k = 3 ∨ k = 4 := by simp [fiveSteps] at hk; omega
  rcases h with rfl | rfl | rfl | rfl | rfl <;> exact ⟨cell_new _ _ _ _, cell_new _ _ _ _, cell_new _ _ _ _⟩

theorem five_run {w : World} (B : Nat) (h : StepsAt w (some ⟨B, 0, none⟩) fiveSteps) : Calls Try.prog 15 #[.agg #[.int .i64 0, .int .i64 0], .slice (some ⟨B, 0, none⟩) 5 5] w (RunPost ⟨23, 0⟩ [5, 22] w) :=
  run_any 0 0 _ 5 fiveSteps w h (by decide) (by decide) (by decide)

set_option maxRecDepth 100000 in
set_option maxHeartbeats 2000000 in
theorem awake13 (w : World) : Calls Try.prog 14 #[] w (RetB (.bool true) w) := by
  go_enter Try.func14, Try.ntmps14
  go_wp2_with fail
  refine (pen_any 0 0 _).mono ?_
  rintro e w1 ⟨rfl, hb1⟩
  have h5 := five_at w1 w1.heap.size rfl
  go_wp2_with fail
  refine Calls.mono (five_run w1.heap.size h5) ?_
  rintro e w2 ⟨A1, c1, rfl, hI1, -, hb2, -⟩
  have hb2' := below_then (below_step hb1 (.cells #[.int .i64 1, .int .i64 5, .int .i64 0, .int .i64 4, .int .i64 10, .int .i64 0, .int .i64 2, .int .i64 7, .int .i64 0, .int .i64 1, .int .i64 3, .int .i64 0, .int .i64 4, .int .i64 1, .int .i64 0] 33)) hb2
  clear hb1 hb2 h5
  have hW := below_alloc w2 (.cells #[.int .i64 23, .int .i64 0] 23)
  have hB1 := Blk.new w2 23 #[.int .i64 23, .int .i64 0]
  have hI2 := hI1.below hW
  have hbw := below_then hb2' hW
  clear hI1 hb2' hW
  go_wp2_with fail
  refine wp_region_below 39 52 (fun j v w' => match j with
        | 0 => v = .agg #[.int .i64 23, .int .i64 0]
        | 1 => v = .agg #[.int .i64 23, .int .i64 0]
        | 2 => v = .bool true
        | 3 => v = .bool true
        | 4 => v = .slice A1 2 c1
        | 5 => ∃ A, v = .slice A 2 2 ∧ IntsAt w' A [5, 22]
        | 6 => v = .bool true
        | 7 => v = .bool true
        | 8 => v = .bool true
        | 9 => v = .agg #[.int .i64 0, .int .i64 4]
        | 10 => v = .agg #[.int .i64 6, .int .i64 0]
        | 11 => v = .agg #[.int .i64 6, .int .i64 0]
        | 12 => v = .bool true
        | 13 => v = .bool true
        | 14 => v = .bool true
        | 15 => v = .agg #[.int .i64 0, .int .i64 4]
        | 16 => v = .agg #[.int .i64 0, .int .i64 9]
        | 17 => v = .agg #[.int .i64 0, .int .i64 9]
        | 18 => v = .bool true
        | 19 => v = .bool true
        | 20 => v = .bool true
        | 21 => v = .agg #[.int .i64 10, .int .i64 4]
        | 22 => v = .agg #[.int .i64 16, .int .i64 3]
        | 23 => v = .agg #[.int .i64 16, .int .i64 3]
        | 24 => v = .bool true
        | 25 => v = .bool true
        | 26 => v = .bool true
        | 27 => v = .agg #[.int .i64 10, .int .i64 4]
        | 28 => v = .agg #[.int .i64 10, .int .i64 4]
        | 29 => v = .agg #[.int .i64 10, .int .i64 4]
        | 30 => v = .bool true
        | 31 => v = .bool true
        | 32 => v = .bool true
        | 33 => v = .agg #[.int .i64 10, .int .i64 4]
        | 34 => v = .agg #[.int .i64 15, .int .i64 0]
        | 35 => v = .agg #[.int .i64 15, .int .i64 0]
        | 36 => v = .bool true
        | 37 => v = .bool true
        | _ => v = .bool true)
    [⟨[], [1]⟩, ⟨[], []⟩, ⟨[(14, 0), (15, 1)], []⟩, ⟨[(16, 2)], []⟩, ⟨[(17, 3)], [2]⟩, ⟨[(17, 3)], []⟩, ⟨[(18, 4), (19, 5), (17, 3)], []⟩, ⟨[(17, 3), (20, 6)], []⟩, ⟨[(21, 7)], []⟩, ⟨[(22, 8)], []⟩, ⟨[(23, 9), (22, 8)], []⟩, ⟨[(22, 8)], []⟩, ⟨[(24, 10), (25, 11), (22, 8)], []⟩, ⟨[(22, 8), (26, 12)], []⟩, ⟨[(27, 13)], []⟩, ⟨[(28, 14)], []⟩, ⟨[(29, 15), (28, 14)], []⟩, ⟨[(28, 14)], []⟩, ⟨[(30, 16), (31, 17), (28, 14)], []⟩, ⟨[(28, 14), (32, 18)], []⟩, ⟨[(33, 19)], []⟩, ⟨[(34, 20)], []⟩, ⟨[(35, 21), (34, 20)], []⟩, ⟨[(34, 20)], []⟩, ⟨[(36, 22), (37, 23), (34, 20)], []⟩, ⟨[(34, 20), (38, 24)], []⟩, ⟨[(39, 25)], []⟩, ⟨[(40, 26)], []⟩, ⟨[(41, 27), (40, 26)], []⟩, ⟨[(40, 26)], []⟩, ⟨[(42, 28), (43, 29), (40, 26)], []⟩, ⟨[(40, 26), (44, 30)], []⟩, ⟨[(45, 31)], []⟩, ⟨[(46, 32)], []⟩, ⟨[(47, 33), (46, 32)], []⟩, ⟨[(46, 32)], []⟩, ⟨[(48, 34), (49, 35), (46, 32)], []⟩, ⟨[(46, 32), (50, 36)], []⟩, ⟨[(51, 37)], []⟩] (by kernel_rfl) (by kernel_rfl) (by kernel_rfl) (by kernel_rfl) rfl ?_ ?_ ?_
  · intro j v w1 w2 h hE
    match j, h with
    | 0, h => exact h
    | 1, h => exact h
    | 2, h => exact h
    | 3, h => exact h
    | 4, h => exact h
    | 5, h => obtain ⟨A, e, h⟩ := h; exact ⟨A, e, h.below hE⟩
    | 6, h => exact h
    | 7, h => exact h
    | 8, h => exact h
    | 9, h => exact h
    | 10, h => exact h
    | 11, h => exact h
    | 12, h => exact h
    | 13, h => exact h
    | 14, h => exact h
    | 15, h => exact h
    | 16, h => exact h
    | 17, h => exact h
    | 18, h => exact h
    | 19, h => exact h
    | 20, h => exact h
    | 21, h => exact h
    | 22, h => exact h
    | 23, h => exact h
    | 24, h => exact h
    | 25, h => exact h
    | 26, h => exact h
    | 27, h => exact h
    | 28, h => exact h
    | 29, h => exact h
    | 30, h => exact h
    | 31, h => exact h
    | 32, h => exact h
    | 33, h => exact h
    | 34, h => exact h
    | 35, h => exact h
    | 36, h => exact h
    | 37, h => exact h
    | _ + 38, h => exact h
  · refine ⟨?_, ?_, ?_, ?_, ?_, ?_, ?_, ?_, ?_, ?_, ?_, ?_, ?_, ?_, ?_, ?_, ?_, ?_, ?_, ?_, ?_, ?_, ?_, ?_, ?_, ?_, ?_, ?_, ?_, ?_, ?_, ?_, ?_, ?_, ?_, ?_, ?_, ?_, ?_, trivial⟩
    · refine step_plain rfl ?_
      rintro fa w1 K hC - ⟨h1, -⟩ hK
      have e1 := evg h1
      have c1 := (hB1.belowB hC).f2
      have hK' := Lib.hid hK
      clear hK h1 hB1 hI2 hbw
      go_simp
      exact hK'.out _ _ rfl hC (Below.refl _ _)
    · refine step_plain rfl ?_
      rintro fa w1 K hC - - hK
      have hK' := Lib.hid hK
      clear hK  hB1 hI2 hbw
      go_simp
      refine (pen_any 23 0 _).mono ?_
      rintro e w2 ⟨rfl, hb⟩
      exact hK'.out _ _ rfl (below_then hC hb) hb
    · refine step_plain rfl ?_
      rintro fa w1 K hC ⟨h14, h15, -⟩ - hK
      have e14 : fa.tmps[14]?.getD undef = .agg #[.int .i64 23, .int .i64 0] := evg h14
      have e15 : fa.tmps[15]?.getD undef = .agg #[.int .i64 23, .int .i64 0] := evg h15
      have hK' := Lib.hid hK
      clear hK h14 h15 hB1 hI2 hbw
      go_simp
      exact hK'.out _ _ rfl hC (Below.refl _ _)
    · refine step_plain rfl ?_
      rintro fa w1 K hC ⟨h16, -⟩ - hK
      have e16 : fa.tmps[16]?.getD undef = .bool true := evg h16
      have hK' := Lib.hid hK
      clear hK h16 hB1 hI2 hbw
      go_simp
      exact hK'.out _ _ rfl hC (Below.refl _ _)
    · refine step_want (t := 17) rfl rfl (by simp) (fun v w h => h) ?_
      rintro fa w1 K hC ⟨-, -⟩ ⟨h2, -⟩ hK
      have e2 := evg h2
      have hK' := Lib.hid hK
      clear hK h2 hB1 hI2 hbw
      go_simp
      exact hK'.out _ _ rfl hC (Below.refl _ _)
    · refine step_want (t := 17) rfl rfl (by simp) (fun v w h => h) ?_
      rintro fa w1 K hC ⟨-, -⟩ - hK
      have hK' := Lib.hid hK
      clear hK  hB1 hI2 hbw
      go_simp
      exact hK'.out _ _ ⟨_, rfl, IntsAt.new2 _ _ _ _ _ rfl⟩ (below_step hC _) (below_alloc _ _)
    · refine step_want (t := 17) rfl rfl (by simp) (fun v w h => h) ?_
      rintro fa w1 K hC ⟨h18, h19, -, -⟩ - hK
      have e18 : fa.tmps[18]?.getD undef = .slice A1 2 c1 := evg h18
      obtain ⟨A9, e19, hA9⟩ := h19
      have e19 := evg e19
      have hA1 := hI2.below hC
      have hK' := Lib.hid hK
      clear hK h18  hB1 hI2 hbw
      go_simp
      refine (numbers13_any A1 A9 c1 2 [5, 22] [5, 22] _ hA1 hA9 (by simp) (by simp)).mono ?_
      rintro e w2 ⟨rfl, hb⟩
      exact hK'.out _ _ rfl (below_then hC hb) hb
    · refine step_plain rfl ?_
      rintro fa w1 K hC ⟨h17, h20, -⟩ - hK
      have e17 : fa.tmps[17]?.getD undef = .bool true := evg h17
      have e20 : fa.tmps[20]?.getD undef = .bool true := evg h20
      have hK' := Lib.hid hK
      clear hK h17 h20 hB1 hI2 hbw
      go_simp
      exact hK'.out _ _ rfl hC (Below.refl _ _)
    · refine step_plain rfl ?_
      rintro fa w1 K hC ⟨h21, -⟩ - hK
      have e21 : fa.tmps[21]?.getD undef = .bool true := evg h21
      have hK' := Lib.hid hK
      clear hK h21 hB1 hI2 hbw
      go_simp
      exact hK'.out _ _ rfl hC (Below.refl _ _)
    · refine step_want (t := 22) rfl rfl (by simp) (fun v w h => h) ?_
      rintro fa w1 K hC ⟨-, -⟩ - hK
      have hK' := Lib.hid hK
      clear hK  hB1 hI2 hbw
      go_simp
      refine (pen_any 0 4 _).mono ?_
      rintro e w2 ⟨rfl, hb⟩
      exact hK'.out _ _ rfl (below_then hC hb) hb
    · refine step_want (t := 22) rfl rfl (by simp) (fun v w h => h) ?_
      rintro fa w1 K hC ⟨h23, -, -⟩ - hK
      have e23 : fa.tmps[23]?.getD undef = .agg #[.int .i64 0, .int .i64 4] := evg h23
      have hK' := Lib.hid hK
      clear hK h23 hB1 hI2 hbw
      go_simp
      refine (enter_any 0 4 3 2 _ (bd_few (by omega) (by omega)) (bd_few (by omega) (by omega)) (bd_few (by omega) (by omega)) (bd_few (by omega) (by omega))).mono ?_
      rintro e w2 ⟨rfl, hb⟩
      exact hK'.out _ _ rfl (below_then hC hb) hb
    · refine step_want (t := 22) rfl rfl (by simp) (fun v w h => h) ?_
      rintro fa w1 K hC ⟨-, -⟩ - hK
      have hK' := Lib.hid hK
      clear hK  hB1 hI2 hbw
      go_simp
      refine (pen_any 6 0 _).mono ?_
      rintro e w2 ⟨rfl, hb⟩
      exact hK'.out _ _ rfl (below_then hC hb) hb
    · refine step_want (t := 22) rfl rfl (by simp) (fun v w h => h) ?_
      rintro fa w1 K hC ⟨h24, h25, -, -⟩ - hK
      have e24 : fa.tmps[24]?.getD undef = .agg #[.int .i64 6, .int .i64 0] := evg h24
      have e25 : fa.tmps[25]?.getD undef = .agg #[.int .i64 6, .int .i64 0] := evg h25
      have hK' := Lib.hid hK
      clear hK h24 h25 hB1 hI2 hbw
      go_simp
      exact hK'.out _ _ rfl hC (Below.refl _ _)
    · refine step_plain rfl ?_
      rintro fa w1 K hC ⟨h22, h26, -⟩ - hK
      have e22 : fa.tmps[22]?.getD undef = .bool true := evg h22
      have e26 : fa.tmps[26]?.getD undef = .bool true := evg h26
      have hK' := Lib.hid hK
      clear hK h22 h26 hB1 hI2 hbw
      go_simp
      exact hK'.out _ _ rfl hC (Below.refl _ _)
    · refine step_plain rfl ?_
      rintro fa w1 K hC ⟨h27, -⟩ - hK
      have e27 : fa.tmps[27]?.getD undef = .bool true := evg h27
      have hK' := Lib.hid hK
      clear hK h27 hB1 hI2 hbw
      go_simp
      exact hK'.out _ _ rfl hC (Below.refl _ _)
    · refine step_want (t := 28) rfl rfl (by simp) (fun v w h => h) ?_
      rintro fa w1 K hC ⟨-, -⟩ - hK
      have hK' := Lib.hid hK
      clear hK  hB1 hI2 hbw
      go_simp
      refine (pen_any 0 4 _).mono ?_
      rintro e w2 ⟨rfl, hb⟩
      exact hK'.out _ _ rfl (below_then hC hb) hb
    · refine step_want (t := 28) rfl rfl (by simp) (fun v w h => h) ?_
      rintro fa w1 K hC ⟨h29, -, -⟩ - hK
      have e29 : fa.tmps[29]?.getD undef = .agg #[.int .i64 0, .int .i64 4] := evg h29
      have hK' := Lib.hid hK
      clear hK h29 hB1 hI2 hbw
      go_simp
      refine (enter_any 0 4 9 0 _ (bd_few (by omega) (by omega)) (bd_few (by omega) (by omega)) (bd_few (by omega) (by omega)) (bd_few (by omega) (by omega))).mono ?_
      rintro e w2 ⟨rfl, hb⟩
      exact hK'.out _ _ rfl (below_then hC hb) hb
    · refine step_want (t := 28) rfl rfl (by simp) (fun v w h => h) ?_
      rintro fa w1 K hC ⟨-, -⟩ - hK
      have hK' := Lib.hid hK
      clear hK  hB1 hI2 hbw
      go_simp
      refine (pen_any 0 9 _).mono ?_
      rintro e w2 ⟨rfl, hb⟩
      exact hK'.out _ _ rfl (below_then hC hb) hb
    · refine step_want (t := 28) rfl rfl (by simp) (fun v w h => h) ?_
      rintro fa w1 K hC ⟨h30, h31, -, -⟩ - hK
      have e30 : fa.tmps[30]?.getD undef = .agg #[.int .i64 0, .int .i64 9] := evg h30
      have e31 : fa.tmps[31]?.getD undef = .agg #[.int .i64 0, .int .i64 9] := evg h31
      have hK' := Lib.hid hK
      clear hK h30 h31 hB1 hI2 hbw
      go_simp
      exact hK'.out _ _ rfl hC (Below.refl _ _)
    · refine step_plain rfl ?_
      rintro fa w1 K hC ⟨h28, h32, -⟩ - hK
      have e28 : fa.tmps[28]?.getD undef = .bool true := evg h28
      have e32 : fa.tmps[32]?.getD undef = .bool true := evg h32
      have hK' := Lib.hid hK
      clear hK h28 h32 hB1 hI2 hbw
      go_simp
      exact hK'.out _ _ rfl hC (Below.refl _ _)
    · refine step_plain rfl ?_
      rintro fa w1 K hC ⟨h33, -⟩ - hK
      have e33 : fa.tmps[33]?.getD undef = .bool true := evg h33
      have hK' := Lib.hid hK
      clear hK h33 hB1 hI2 hbw
      go_simp
      exact hK'.out _ _ rfl hC (Below.refl _ _)
    · refine step_want (t := 34) rfl rfl (by simp) (fun v w h => h) ?_
      rintro fa w1 K hC ⟨-, -⟩ - hK
      have hK' := Lib.hid hK
      clear hK  hB1 hI2 hbw
      go_simp
      refine (pen_any 10 4 _).mono ?_
      rintro e w2 ⟨rfl, hb⟩
      exact hK'.out _ _ rfl (below_then hC hb) hb
    · refine step_want (t := 34) rfl rfl (by simp) (fun v w h => h) ?_
      rintro fa w1 K hC ⟨h35, -, -⟩ - hK
      have e35 : fa.tmps[35]?.getD undef = .agg #[.int .i64 10, .int .i64 4] := evg h35
      have hK' := Lib.hid hK
      clear hK h35 hB1 hI2 hbw
      go_simp
      refine (leave_any 10 4 3 2 _ (bd_few (by omega) (by omega)) (bd_few (by omega) (by omega)) (bd_few (by omega) (by omega)) (bd_few (by omega) (by omega))).mono ?_
      rintro e w2 ⟨rfl, hb⟩
      exact hK'.out _ _ rfl (below_then hC hb) hb
    · refine step_want (t := 34) rfl rfl (by simp) (fun v w h => h) ?_
      rintro fa w1 K hC ⟨-, -⟩ - hK
      have hK' := Lib.hid hK
      clear hK  hB1 hI2 hbw
      go_simp
      refine (pen_any 16 3 _).mono ?_
      rintro e w2 ⟨rfl, hb⟩
      exact hK'.out _ _ rfl (below_then hC hb) hb
    · refine step_want (t := 34) rfl rfl (by simp) (fun v w h => h) ?_
      rintro fa w1 K hC ⟨h36, h37, -, -⟩ - hK
      have e36 : fa.tmps[36]?.getD undef = .agg #[.int .i64 16, .int .i64 3] := evg h36
      have e37 : fa.tmps[37]?.getD undef = .agg #[.int .i64 16, .int .i64 3] := evg h37
      have hK' := Lib.hid hK
      clear hK h36 h37 hB1 hI2 hbw
      go_simp
      exact hK'.out _ _ rfl hC (Below.refl _ _)
    · refine step_plain rfl ?_
      rintro fa w1 K hC ⟨h34, h38, -⟩ - hK
      have e34 : fa.tmps[34]?.getD undef = .bool true := evg h34
      have e38 : fa.tmps[38]?.getD undef = .bool true := evg h38
      have hK' := Lib.hid hK
      clear hK h34 h38 hB1 hI2 hbw
      go_simp
      exact hK'.out _ _ rfl hC (Below.refl _ _)
    · refine step_plain rfl ?_
      rintro fa w1 K hC ⟨h39, -⟩ - hK
      have e39 : fa.tmps[39]?.getD undef = .bool true := evg h39
      have hK' := Lib.hid hK
      clear hK h39 hB1 hI2 hbw
      go_simp
      exact hK'.out _ _ rfl hC (Below.refl _ _)
    · refine step_want (t := 40) rfl rfl (by simp) (fun v w h => h) ?_
      rintro fa w1 K hC ⟨-, -⟩ - hK
      have hK' := Lib.hid hK
      clear hK  hB1 hI2 hbw
      go_simp
      refine (pen_any 10 4 _).mono ?_
      rintro e w2 ⟨rfl, hb⟩
      exact hK'.out _ _ rfl (below_then hC hb) hb
    · refine step_want (t := 40) rfl rfl (by simp) (fun v w h => h) ?_
      rintro fa w1 K hC ⟨h41, -, -⟩ - hK
      have e41 : fa.tmps[41]?.getD undef = .agg #[.int .i64 10, .int .i64 4] := evg h41
      have hK' := Lib.hid hK
      clear hK h41 hB1 hI2 hbw
      go_simp
      refine (clear_any 10 4 14 _ (bd_few (by omega) (by omega)) (bd_few (by omega) (by omega))).mono ?_
      rintro e w2 ⟨rfl, hb⟩
      exact hK'.out _ _ rfl (below_then hC hb) hb
    · refine step_want (t := 40) rfl rfl (by simp) (fun v w h => h) ?_
      rintro fa w1 K hC ⟨-, -⟩ - hK
      have hK' := Lib.hid hK
      clear hK  hB1 hI2 hbw
      go_simp
      refine (pen_any 10 4 _).mono ?_
      rintro e w2 ⟨rfl, hb⟩
      exact hK'.out _ _ rfl (below_then hC hb) hb
    · refine step_want (t := 40) rfl rfl (by simp) (fun v w h => h) ?_
      rintro fa w1 K hC ⟨h42, h43, -, -⟩ - hK
      have e42 : fa.tmps[42]?.getD undef = .agg #[.int .i64 10, .int .i64 4] := evg h42
      have e43 : fa.tmps[43]?.getD undef = .agg #[.int .i64 10, .int .i64 4] := evg h43
      have hK' := Lib.hid hK
      clear hK h42 h43 hB1 hI2 hbw
      go_simp
      exact hK'.out _ _ rfl hC (Below.refl _ _)
    · refine step_plain rfl ?_
      rintro fa w1 K hC ⟨h40, h44, -⟩ - hK
      have e40 : fa.tmps[40]?.getD undef = .bool true := evg h40
      have e44 : fa.tmps[44]?.getD undef = .bool true := evg h44
      have hK' := Lib.hid hK
      clear hK h40 h44 hB1 hI2 hbw
      go_simp
      exact hK'.out _ _ rfl hC (Below.refl _ _)
    · refine step_plain rfl ?_
      rintro fa w1 K hC ⟨h45, -⟩ - hK
      have e45 : fa.tmps[45]?.getD undef = .bool true := evg h45
      have hK' := Lib.hid hK
      clear hK h45 hB1 hI2 hbw
      go_simp
      exact hK'.out _ _ rfl hC (Below.refl _ _)
    · refine step_want (t := 46) rfl rfl (by simp) (fun v w h => h) ?_
      rintro fa w1 K hC ⟨-, -⟩ - hK
      have hK' := Lib.hid hK
      clear hK  hB1 hI2 hbw
      go_simp
      refine (pen_any 10 4 _).mono ?_
      rintro e w2 ⟨rfl, hb⟩
      exact hK'.out _ _ rfl (below_then hC hb) hb
    · refine step_want (t := 46) rfl rfl (by simp) (fun v w h => h) ?_
      rintro fa w1 K hC ⟨h47, -, -⟩ - hK
      have e47 : fa.tmps[47]?.getD undef = .agg #[.int .i64 10, .int .i64 4] := evg h47
      have hK' := Lib.hid hK
      clear hK h47 hB1 hI2 hbw
      go_simp
      refine (clear_any 10 4 15 _ (bd_few (by omega) (by omega)) (bd_few (by omega) (by omega))).mono ?_
      rintro e w2 ⟨rfl, hb⟩
      exact hK'.out _ _ rfl (below_then hC hb) hb
    · refine step_want (t := 46) rfl rfl (by simp) (fun v w h => h) ?_
      rintro fa w1 K hC ⟨-, -⟩ - hK
      have hK' := Lib.hid hK
      clear hK  hB1 hI2 hbw
      go_simp
      refine (pen_any 15 0 _).mono ?_
      rintro e w2 ⟨rfl, hb⟩
      exact hK'.out _ _ rfl (below_then hC hb) hb
    · refine step_want (t := 46) rfl rfl (by simp) (fun v w h => h) ?_
      rintro fa w1 K hC ⟨h48, h49, -, -⟩ - hK
      have e48 : fa.tmps[48]?.getD undef = .agg #[.int .i64 15, .int .i64 0] := evg h48
      have e49 : fa.tmps[49]?.getD undef = .agg #[.int .i64 15, .int .i64 0] := evg h49
      have hK' := Lib.hid hK
      clear hK h48 h49 hB1 hI2 hbw
      go_simp
      exact hK'.out _ _ rfl hC (Below.refl _ _)
    · refine step_plain rfl ?_
      rintro fa w1 K hC ⟨h46, h50, -⟩ - hK
      have e46 : fa.tmps[46]?.getD undef = .bool true := evg h46
      have e50 : fa.tmps[50]?.getD undef = .bool true := evg h50
      have hK' := Lib.hid hK
      clear hK h46 h50 hB1 hI2 hbw
      go_simp
      exact hK'.out _ _ rfl hC (Below.refl _ _)
    · refine step_plain rfl ?_
      rintro fa w1 K hC ⟨h51, -⟩ - hK
      have e51 : fa.tmps[51]?.getD undef = .bool true := evg h51
      have hK' := Lib.hid hK
      clear hK h51 hB1 hI2 hbw
      go_simp
      exact hK'.out _ _ rfl hC (Below.refl _ _)
  · intro vs w1 hC hv
    have e0 : vs 0 = .agg #[.int .i64 23, .int .i64 0] := hv 0 (by omega)
    have e1 : vs 1 = .agg #[.int .i64 23, .int .i64 0] := hv 1 (by omega)
    have e2 : vs 2 = .bool true := hv 2 (by omega)
    have e3 : vs 3 = .bool true := hv 3 (by omega)
    have e4 : vs 4 = .slice A1 2 c1 := hv 4 (by omega)
    obtain ⟨A9, e5, hA9⟩ := hv 5 (by omega)
    have e6 : vs 6 = .bool true := hv 6 (by omega)
    have e7 : vs 7 = .bool true := hv 7 (by omega)
    have e8 : vs 8 = .bool true := hv 8 (by omega)
    have e9 : vs 9 = .agg #[.int .i64 0, .int .i64 4] := hv 9 (by omega)
    have e10 : vs 10 = .agg #[.int .i64 6, .int .i64 0] := hv 10 (by omega)
    have e11 : vs 11 = .agg #[.int .i64 6, .int .i64 0] := hv 11 (by omega)
    have e12 : vs 12 = .bool true := hv 12 (by omega)
    have e13 : vs 13 = .bool true := hv 13 (by omega)
    have e14 : vs 14 = .bool true := hv 14 (by omega)
    have e15 : vs 15 = .agg #[.int .i64 0, .int .i64 4] := hv 15 (by omega)
    have e16 : vs 16 = .agg #[.int .i64 0, .int .i64 9] := hv 16 (by omega)
    have e17 : vs 17 = .agg #[.int .i64 0, .int .i64 9] := hv 17 (by omega)
    have e18 : vs 18 = .bool true := hv 18 (by omega)
    have e19 : vs 19 = .bool true := hv 19 (by omega)
    have e20 : vs 20 = .bool true := hv 20 (by omega)
    have e21 : vs 21 = .agg #[.int .i64 10, .int .i64 4] := hv 21 (by omega)
    have e22 : vs 22 = .agg #[.int .i64 16, .int .i64 3] := hv 22 (by omega)
    have e23 : vs 23 = .agg #[.int .i64 16, .int .i64 3] := hv 23 (by omega)
    have e24 : vs 24 = .bool true := hv 24 (by omega)
    have e25 : vs 25 = .bool true := hv 25 (by omega)
    have e26 : vs 26 = .bool true := hv 26 (by omega)
    have e27 : vs 27 = .agg #[.int .i64 10, .int .i64 4] := hv 27 (by omega)
    have e28 : vs 28 = .agg #[.int .i64 10, .int .i64 4] := hv 28 (by omega)
    have e29 : vs 29 = .agg #[.int .i64 10, .int .i64 4] := hv 29 (by omega)
    have e30 : vs 30 = .bool true := hv 30 (by omega)
    have e31 : vs 31 = .bool true := hv 31 (by omega)
    have e32 : vs 32 = .bool true := hv 32 (by omega)
    have e33 : vs 33 = .agg #[.int .i64 10, .int .i64 4] := hv 33 (by omega)
    have e34 : vs 34 = .agg #[.int .i64 15, .int .i64 0] := hv 34 (by omega)
    have e35 : vs 35 = .agg #[.int .i64 15, .int .i64 0] := hv 35 (by omega)
    have e36 : vs 36 = .bool true := hv 36 (by omega)
    have e37 : vs 37 = .bool true := hv 37 (by omega)
    have e38 : vs 38 = .bool true := hv 38 (by omega)
    simp only [fill, dstOf, Act.put, List.drop_succ_cons, List.drop_zero, if_true, List.getElem?_toArray, List.getElem?_cons_zero, List.getElem?_cons_succ, Option.bind_some, List.setIfInBounds_toArray, List.set_cons_succ, List.set_cons_zero, e0, e1, e2, e3, e4, e5, e6, e7, e8, e9, e10, e11, e12, e13, e14, e15, e16, e17, e18, e19, e20, e21, e22, e23, e24, e25, e26, e27, e28, e29, e30, e31, e32, e33, e34, e35, e36, e37, e38]
    clear hv e0 e1 e2 e3 e4 e5 e6 e7 e8 e9 e10 e11 e12 e13 e14 e15 e16 e17 e18 e19 e20 e21 e22 e23 e24 e25 e26 e27 e28 e29 e30 e31 e32 e33 e34 e35 e36 e37 e38 hB1 hI2
    go_wp2
    refine bodyPost_ret (v := .bool true) (by simp [results, Try.results14, go_sem]) rfl ?_
    exact ⟨rfl, below_then hbw hC⟩
end Go.Proofs.Ytbbnfenlpfoaiaa
