/- WALKS: chapter 13: the reference's Run. -/
import Derived.Test.YtbbnfenlpfoaiaaMarN
namespace Go.Proofs.Ytbbnfenlpfoaiaa
open Go.RowKit

theorem int_info13 : (Try.prog.info? 3).map (fun i => (i.zero, i.size, i.bytes)) = some (some (.int .i64 0), 1, 8) := by kernel_rfl

/-- what a round of a pen's run leaves: a pen in a block of its own, the places in a row of its own. -/
def PenAt (w : World) (P : Nat) (p : Pen) : Prop := Blk w P 23 #[.int .i64 p.y, .int .i64 p.m]

theorem step_1 {s : Pen × List Int} {x : Step} (h : x.kind = 1) : stepF s x = (enterF s.1 x.a x.b, s.2) := by unfold stepF; rw [if_pos h]
theorem step_2 {s : Pen × List Int} {x : Step} (h : x.kind = 2) : stepF s x = (leaveF s.1 x.a x.b, s.2) := by unfold stepF; rw [if_neg (by omega), if_pos h]
theorem step_3 {s : Pen × List Int} {x : Step} (h : x.kind = 3) : stepF s x = (clearF s.1 x.a, s.2) := by unfold stepF; rw [if_neg (by omega), if_neg (by omega), if_pos h]
theorem step_4 {s : Pen × List Int} {x : Step} (h : x.kind = 4) : stepF s x = (⟨s.1.y + s.1.m + x.a, 0⟩, s.2 ++ [s.1.y + s.1.m]) := by unfold stepF; rw [if_neg (by omega), if_neg (by omega), if_neg (by omega), if_pos h]
theorem step_0 {s : Pen × List Int} {x : Step} (h1 : x.kind ≠ 1) (h2 : x.kind ≠ 2) (h3 : x.kind ≠ 3) (h4 : x.kind ≠ 4) : stepF s x = s := by unfold stepF; rw [if_neg h1, if_neg h2, if_neg h3, if_neg h4]

/-- the relation of the run's loop. -/
def RunRel (w : World) (base : Nat) (P R : Nat) (p0 : Pen) (xs : List Step) (k : Nat) (v : Value) (wr : World) : Prop :=
  PenAt wr P (runF p0 (xs.take k)).1 ∧ PenAt wr R ⟨0, 0⟩ ∧ wr.ownsRow base 3 1 v (runF p0 (xs.take k)).2.length ((runF p0 (xs.take k)).2.map (Value.int .i64)) ∧ Below w.heap.size w wr

theorem cell_one_at (w : World) (B : Nat) (v : Value) (t : TypeId) (hB : B = w.heap.size) : ∀ j u, [v][j]? = some u → (w.alloc (.cells #[v] t)).cell? ((⟨B, 0, none⟩ : Addr).add j) = some u := by
  subst hB; exact cell_one_new _ _ _
theorem own_below {w w' : World} {base : Nat} {e : TypeId} {size n : Nat} {v : Value} {xs : List Value} (h : w.ownsRow base e size v n xs) (hb : Below w.heap.size w w') : w'.ownsRow base e size v n xs :=
  h.kept (only_of_below hb none) (Classical.em _)
theorem own_base {w : World} {base base' : Nat} {e : TypeId} {size n : Nat} {v : Value} {xs : List Value} (h : w.ownsRow base e size v n xs) (hb : base' ≤ base) : w.ownsRow base' e size v n xs := by
  obtain ⟨h1, h2 | ⟨g, cap, cur, e1, h2, h3⟩⟩ := h
  · exact ⟨h1, .inl h2⟩
  · exact ⟨h1, .inr ⟨g, cap, cur, e1, by omega, h3⟩⟩
/-- what a run hands back. -/
def RunPost (p : Pen) (l : List Int) (w : World) (e : Ending) (w' : World) : Prop :=
  ∃ A c, e = .returned (.tuple #[.agg #[.int .i64 p.y, .int .i64 p.m], .slice A l.length c]) ∧ IntsAt w' A l ∧ c ≤ maxLen ∧ Below w.heap.size w w' ∧ w'.ownsRow w.heap.size 3 1 (.slice A l.length c) l.length (l.map (Value.int .i64))
theorem far_bd {k : Nat} {y m : Int} (h : Far k ⟨y, m⟩) (hk : k ≤ 200) : Bd y ∧ Bd m := by
  obtain ⟨h1, h2, h3, h4⟩ := h
  dsimp only at h1 h2 h3 h4
  unfold Bd; omega
theorem near_bd {a b : Int} (h : nearF [a, b] = true) : Bd a ∧ Bd b := by
  have := nearF2 h
  unfold Bd; omega

set_option maxRecDepth 100000 in
set_option maxHeartbeats 1000000 in
theorem rrun_any (y m : Int) (A : Option Addr) (c : Nat) (xs : List Step) (w : World) (hx : StepsAt w A xs) (hl : xs.length ≤ 200) (hn : nearF [y, m] = true) (hs : nearS xs = true) :
    Calls Try.prog 16 #[.agg #[.int .i64 y, .int .i64 m], .slice A xs.length c] w (RunPost (runF ⟨y, m⟩ xs).1 (runF ⟨y, m⟩ xs).2 w) := by
  obtain ⟨i0, hi0, hz0, hz1, hz2⟩ := info_parts int_info13
  have hfar := Lib.hid (far_run ⟨y, m⟩ xs hn hs)
  have hlen := Lib.hid (len_run ⟨y, m⟩ xs)
  have hst := Lib.hid hs
  clear hs hn
  go_enter Try.func16, Try.ntmps16
  go_wp2
  go_loopw [6, 7] (fun v i wr => ∃ k : Nat, k ≤ xs.length ∧ i = .int .i64 k ∧ RunRel w (w.heap.size + 2) w.heap.size (w.heap.size + 1) ⟨y, m⟩ xs k v wr) (fun _ i _ => xs.length - (intOf i).toNat)
  case atStart =>
    refine ⟨0, Nat.zero_le _, rfl, (Blk.newB w _ _ _ rfl).alloc _, Blk.newB _ _ _ _ (by simp), World.ownsRow_nil _ _ _ _, ?_⟩
    exact (by (repeat with_reducible (first | exact Below.refl _ _ | exact below_alloc _ _ | refine below_step ?_ _ | refine below_set ?_ ?_ | refine below_drew ?_ | refine below_drewN' ?_ | refine below_then ?_ (by assumption) | refine below_only' ?_ ?_ (by assumption))) <;> (first | omega | (simp; done) | (simp; omega)))
  case round =>
    obtain ⟨k, hk, rfl, hP, hR, hown, hbw⟩ := hrel
    by_cases hlt : k < xs.length
    · obtain ⟨b, off, rfl, hb, h1, h2, h3⟩ := hx.below hbw k hlt
      clear hx
      have hstep := runF_take ⟨y, m⟩ xs k hlt
      have hfk := hfar.out k (by omega)
      have hlk := hlen.out k (by omega)
      generalize runF ⟨y, m⟩ (xs.take k) = s at *
      obtain ⟨⟨py, pm⟩, l⟩ := s
      dsimp only at hP hown hlk hfk
      obtain ⟨by1, bm1⟩ := far_bd hfk (by omega)
      obtain ⟨ba, bb⟩ := near_bd (nearS_at xs hst.out k hlt)
      have hzs : w.heap.size + 1 < wr.heap.size := hR.lt
      have hzp : w.heap.size < wr.heap.size := by omega
      have hcs : xs[k].kind = 1 ∨ xs[k].kind = 2 ∨ xs[k].kind = 3 ∨ xs[k].kind = 4 ∨ (xs[k].kind ≠ 1 ∧ xs[k].kind ≠ 2 ∧ xs[k].kind ≠ 3 ∧ xs[k].kind ≠ 4) := by omega
      clear hfk
      rcases hcs with hk1 | hk2 | hk3 | hk4 | ⟨hk1, hk2, hk3, hk4⟩
      · -- a step of kind 1
        have hst' := Lib.hid (hstep.trans (step_1 hk1))
        have t1 : (xs[k].kind == 1) = true := by simp [hk1]
        have t2 : (xs[k].kind == 2) = false := by simp; omega
        have t3 : (xs[k].kind == 3) = false := by simp; omega
        have t4 : (xs[k].kind == 4) = false := by simp; omega
        clear hstep hk1
        have hX0 := Blk.newB wr wr.heap.size 33 #[.int .i64 xs[k].kind, .int .i64 xs[k].a, .int .i64 xs[k].b] rfl
        have hP0 := hP.alloc (.cells #[.int .i64 xs[k].kind, .int .i64 xs[k].a, .int .i64 xs[k].b] 33)
        have hR0 := hR.alloc (.cells #[.int .i64 xs[k].kind, .int .i64 xs[k].a, .int .i64 xs[k].b] 33)
        have hO0 := hown.alloc (.cells #[.int .i64 xs[k].kind, .int .i64 xs[k].a, .int .i64 xs[k].b] 33)
        have hB0 := below_step hbw (.cells #[.int .i64 xs[k].kind, .int .i64 xs[k].a, .int .i64 xs[k].b] 33)
        have cP := hP.f2
        clear hP hR hown hbw
        go_wp2_with fail
        refine (renter_any _ _ _ _ _ by1 bm1 ba bb).mono ?_
        rintro e w1 ⟨rfl, hb1⟩
        have hP1 := hP0.belowB hb1
        have hR1 := hR0.belowB hb1
        have hO1 := own_below hO0 hb1
        have hB1 := below_then hB0 hb1
        have cX1 := (hX0.belowB hb1).f3
        have cP1 := hP1.f2
        clear hP0 hR0 hO0 hB0 hX0 hb1
        go_wp2
        go_roundw
        case rel =>
          refine ⟨k + 1, by omega, by go_num, ?_⟩
          unfold RunRel
          rw [hst'.out]
          refine ⟨?_, ?_, ?_, ?_⟩
          · exact (hP1.set0 _).set1 _
          · exact (hR1.far (p := ⟨w.heap.size, 0, none⟩) (by simp) _).far (p := ⟨w.heap.size, 1, none⟩) (by simp) _
          · exact ownsRow_setCell_below (ownsRow_setCell_below hO1 (a := ⟨w.heap.size, 0, none⟩) (by simp) _) (a := ⟨w.heap.size, 1, none⟩) (by simp) _
          · exact below_set (below_set hB1 (Nat.le_refl _)) (Nat.le_refl _)
        case measure => simp [intOf]; omega
      · -- a step of kind 2
        have hst' := Lib.hid (hstep.trans (step_2 hk2))
        have t1 : (xs[k].kind == 1) = false := by simp; omega
        have t2 : (xs[k].kind == 2) = true := by simp [hk2]
        have t3 : (xs[k].kind == 3) = false := by simp; omega
        have t4 : (xs[k].kind == 4) = false := by simp; omega
        clear hstep hk2
        have hX0 := Blk.newB wr wr.heap.size 33 #[.int .i64 xs[k].kind, .int .i64 xs[k].a, .int .i64 xs[k].b] rfl
        have hP0 := hP.alloc (.cells #[.int .i64 xs[k].kind, .int .i64 xs[k].a, .int .i64 xs[k].b] 33)
        have hR0 := hR.alloc (.cells #[.int .i64 xs[k].kind, .int .i64 xs[k].a, .int .i64 xs[k].b] 33)
        have hO0 := hown.alloc (.cells #[.int .i64 xs[k].kind, .int .i64 xs[k].a, .int .i64 xs[k].b] 33)
        have hB0 := below_step hbw (.cells #[.int .i64 xs[k].kind, .int .i64 xs[k].a, .int .i64 xs[k].b] 33)
        have cP := hP.f2
        clear hP hR hown hbw
        go_wp2_with fail
        refine (rleave_any _ _ _ _ _ by1 bm1 ba bb).mono ?_
        rintro e w1 ⟨rfl, hb1⟩
        have hP1 := hP0.belowB hb1
        have hR1 := hR0.belowB hb1
        have hO1 := own_below hO0 hb1
        have hB1 := below_then hB0 hb1
        have cX1 := (hX0.belowB hb1).f3
        have cP1 := hP1.f2
        clear hP0 hR0 hO0 hB0 hX0 hb1
        go_wp2
        go_roundw
        case rel =>
          refine ⟨k + 1, by omega, by go_num, ?_⟩
          unfold RunRel
          rw [hst'.out]
          refine ⟨?_, ?_, ?_, ?_⟩
          · exact (hP1.set0 _).set1 _
          · exact (hR1.far (p := ⟨w.heap.size, 0, none⟩) (by simp) _).far (p := ⟨w.heap.size, 1, none⟩) (by simp) _
          · exact ownsRow_setCell_below (ownsRow_setCell_below hO1 (a := ⟨w.heap.size, 0, none⟩) (by simp) _) (a := ⟨w.heap.size, 1, none⟩) (by simp) _
          · exact below_set (below_set hB1 (Nat.le_refl _)) (Nat.le_refl _)
        case measure => simp [intOf]; omega
      · -- a step of kind 3
        have hst' := Lib.hid (hstep.trans (step_3 hk3))
        have t1 : (xs[k].kind == 1) = false := by simp; omega
        have t2 : (xs[k].kind == 2) = false := by simp; omega
        have t3 : (xs[k].kind == 3) = true := by simp [hk3]
        have t4 : (xs[k].kind == 4) = false := by simp; omega
        clear hstep hk3
        have hX0 := Blk.newB wr wr.heap.size 33 #[.int .i64 xs[k].kind, .int .i64 xs[k].a, .int .i64 xs[k].b] rfl
        have hP0 := hP.alloc (.cells #[.int .i64 xs[k].kind, .int .i64 xs[k].a, .int .i64 xs[k].b] 33)
        have hR0 := hR.alloc (.cells #[.int .i64 xs[k].kind, .int .i64 xs[k].a, .int .i64 xs[k].b] 33)
        have hO0 := hown.alloc (.cells #[.int .i64 xs[k].kind, .int .i64 xs[k].a, .int .i64 xs[k].b] 33)
        have hB0 := below_step hbw (.cells #[.int .i64 xs[k].kind, .int .i64 xs[k].a, .int .i64 xs[k].b] 33)
        have cP := hP.f2
        clear hP hR hown hbw
        go_wp2_with fail
        refine (rclear_any _ _ _ _ by1 bm1).mono ?_
        rintro e w1 ⟨rfl, hb1⟩
        have hP1 := hP0.belowB hb1
        have hR1 := hR0.belowB hb1
        have hO1 := own_below hO0 hb1
        have hB1 := below_then hB0 hb1
        have cX1 := (hX0.belowB hb1).f3
        have cP1 := hP1.f2
        clear hP0 hR0 hO0 hB0 hX0 hb1
        go_wp2
        go_roundw
        case rel =>
          refine ⟨k + 1, by omega, by go_num, ?_⟩
          unfold RunRel
          rw [hst'.out]
          refine ⟨?_, ?_, ?_, ?_⟩
          · exact (hP1.set0 _).set1 _
          · exact (hR1.far (p := ⟨w.heap.size, 0, none⟩) (by simp) _).far (p := ⟨w.heap.size, 1, none⟩) (by simp) _
          · exact ownsRow_setCell_below (ownsRow_setCell_below hO1 (a := ⟨w.heap.size, 0, none⟩) (by simp) _) (a := ⟨w.heap.size, 1, none⟩) (by simp) _
          · exact below_set (below_set hB1 (Nat.le_refl _)) (Nat.le_refl _)
        case measure => simp [intOf]; omega
      · -- something is put
        have hst' := Lib.hid (hstep.trans (step_4 hk4))
        have t1 : (xs[k].kind == 1) = false := by simp; omega
        have t2 : (xs[k].kind == 2) = false := by simp; omega
        have t3 : (xs[k].kind == 3) = false := by simp; omega
        have t4 : (xs[k].kind == 4) = true := by simp [hk4]
        clear hstep hk4
        have hX0 := Blk.newB wr wr.heap.size 33 #[.int .i64 xs[k].kind, .int .i64 xs[k].a, .int .i64 xs[k].b] rfl
        have hP0 := hP.alloc (.cells #[.int .i64 xs[k].kind, .int .i64 xs[k].a, .int .i64 xs[k].b] 33)
        have hR0 := hR.alloc (.cells #[.int .i64 xs[k].kind, .int .i64 xs[k].a, .int .i64 xs[k].b] 33)
        have hO0 := hown.alloc (.cells #[.int .i64 xs[k].kind, .int .i64 xs[k].a, .int .i64 xs[k].b] 33)
        have hB0 := below_step hbw (.cells #[.int .i64 xs[k].kind, .int .i64 xs[k].a, .int .i64 xs[k].b] 33)
        have cP := hP.f2
        obtain ⟨y1, y2⟩ := by1
        obtain ⟨m1, m2⟩ := bm1
        obtain ⟨a1, a2⟩ := ba
        have hlto := hown.lt
        clear hP hR hown hbw
        go_wp2_with (at_builtin; refine wpList_append_own _ rfl (.tmp 47) (.tmp 53) 28 rfl (w.heap.size + 2) 3 i0 (.int .i64 0) 1 8 Try.underlying28 hi0 hz0 hz1 hz2 rfl (by decide) _ _ _ rfl (hO0.alloc _) ⟨wr.heap.size + 1, 0, none⟩ 1 1 [.int .i64 (py + pm)] rfl rfl (cell_one_at _ _ _ _ (by simp)) (by simp [Value.oneCell']) (by simp only [maxLen]; omega) (by omega) (by simp; omega) ?_)
        intro v1 w1 hown1 hg1 _
        have nP : some w.heap.size ≠ u6.ownBlock := fun e => by have := hlto _ e.symm; omega
        have nR : some (w.heap.size + 1) ≠ u6.ownBlock := fun e => by have := hlto _ e.symm; omega
        have nX : some wr.heap.size ≠ u6.ownBlock := fun e => by have := hlto _ e.symm; omega
        have hP1 := (hP0.alloc (.cells #[.int .i64 (py + pm)] 3)).grown hg1 nP
        have hR1 := (hR0.alloc (.cells #[.int .i64 (py + pm)] 3)).grown hg1 nR
        have cX1 := ((hX0.alloc (.cells #[.int .i64 (py + pm)] 3)).grown hg1 nX).f3
        have hB1 := (below_step hB0 (.cells #[.int .i64 (py + pm)] 3)).grown hg1 (by simp; omega) (fun k e => by have := hlto _ e; omega)
        have cP1 := hP1.f2
        clear hP0 hR0 hO0 hB0 hX0 hg1 hlto nP nR nX
        go_wp2
        go_roundw
        case rel =>
          refine ⟨k + 1, by omega, by go_num, ?_⟩
          unfold RunRel
          rw [hst'.out]
          refine ⟨?_, ?_, ?_, ?_⟩
          · exact (hP1.set0 _).set1 _
          · exact (hR1.far (p := ⟨w.heap.size, 0, none⟩) (by simp) _).far (p := ⟨w.heap.size, 1, none⟩) (by simp) _
          · rw [List.map_append, List.length_append]
            exact ownsRow_setCell_below (ownsRow_setCell_below hown1 (a := ⟨w.heap.size, 0, none⟩) (by simp) _) (a := ⟨w.heap.size, 1, none⟩) (by simp) _
          · exact below_set (below_set hB1 (Nat.le_refl _)) (Nat.le_refl _)
        case measure => simp [intOf]; omega
      · -- no step
        have hst' := Lib.hid (hstep.trans (step_0 hk1 hk2 hk3 hk4))
        have t1 : (xs[k].kind == 1) = false := by simp; omega
        have t2 : (xs[k].kind == 2) = false := by simp; omega
        have t3 : (xs[k].kind == 3) = false := by simp; omega
        have t4 : (xs[k].kind == 4) = false := by simp; omega
        clear hstep hk1 hk2 hk3 hk4
        have hX0 := Blk.newB wr wr.heap.size 33 #[.int .i64 xs[k].kind, .int .i64 xs[k].a, .int .i64 xs[k].b] rfl
        have hP0 := hP.alloc (.cells #[.int .i64 xs[k].kind, .int .i64 xs[k].a, .int .i64 xs[k].b] 33)
        have hR0 := hR.alloc (.cells #[.int .i64 xs[k].kind, .int .i64 xs[k].a, .int .i64 xs[k].b] 33)
        have hO0 := hown.alloc (.cells #[.int .i64 xs[k].kind, .int .i64 xs[k].a, .int .i64 xs[k].b] 33)
        have hB0 := below_step hbw (.cells #[.int .i64 xs[k].kind, .int .i64 xs[k].a, .int .i64 xs[k].b] 33)
        clear hP hR hown hbw
        go_wp2
        go_roundw
        case rel =>
          refine ⟨k + 1, by omega, by go_num, ?_⟩
          unfold RunRel
          rw [hst'.out]
          exact ⟨hP0, hR0, hO0, hB0⟩
        case measure => simp [intOf]; omega
    · obtain rfl : k = xs.length := by omega
      rw [List.take_length] at hP hown
      have hzs : w.heap.size + 1 < wr.heap.size := hR.lt
      have hzp : w.heap.size < wr.heap.size := by omega
      generalize runF ⟨y, m⟩ xs = s at *
      obtain ⟨⟨py, pm⟩, l⟩ := s
      dsimp only at hP hown
      have cP := hP.f2
      have cR := hR.f2
      have hO2 := ownsRow_setCell_below (ownsRow_setCell_below hown (a := ⟨w.heap.size + 1, 0, none⟩) (by simp) (.int .i64 py)) (a := ⟨w.heap.size + 1, 1, none⟩) (by simp) (.int .i64 pm)
      obtain ⟨A1, c1, rfl, _, hc2, hc3⟩ := own_cells hO2
      have hB2 := below_set (o := 1) (v := .int .i64 pm) (below_set (o := 0) (v := .int .i64 py) hbw (Nat.le_succ w.heap.size)) (Nat.le_succ w.heap.size)
      have hO3 := own_base hO2 (base' := w.heap.size) (by omega)
      clear hP hR hown hO2 hbw hi0 hz0 hz1 hz2 hx
      go_wp2
      refine bodyPost_ret (v := .tuple #[.agg #[.int .i64 py, .int .i64 pm], .slice A1 l.length c1]) (by simp [results, Try.results16, go_sem, cR]) rfl ?_
      exact ⟨A1, c1, rfl, hc3.ints, hc2, hB2, hO3⟩
end Go.Proofs.Ytbbnfenlpfoaiaa
