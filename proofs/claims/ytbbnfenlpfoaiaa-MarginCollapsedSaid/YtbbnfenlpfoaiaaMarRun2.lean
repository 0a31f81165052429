/- WALKS: chapter 13: margin.Run. -/
import Derived.Test.YtbbnfenlpfoaiaaMarC
import Derived.Test.YtbbnfenlpfoaiaaMapFn
namespace Go.Proofs.Ytbbnfenlpfoaiaa
open Go.RowKit

/-- the map of a run's functions. -/
def stepsMap (w : World) : Array MapEntry := #[{ key := .int .i64 1, val := .func (.func 54) #[] #[.pointer (some ⟨w.heap.size, 0, none⟩)], born := 0 }, { key := .int .i64 2, val := .func (.func 55) #[] #[.pointer (some ⟨w.heap.size, 0, none⟩)], born := 1 }, { key := .int .i64 3, val := .func (.func 56) #[] #[.pointer (some ⟨w.heap.size, 0, none⟩)], born := 2 }, { key := .int .i64 4, val := .func (.func 57) #[] #[.pointer (some ⟨w.heap.size + 1 + 1, 0, none⟩), .pointer (some ⟨w.heap.size, 0, none⟩)], born := 3 }]

theorem look_none {w : World} {k : Int} (h1 : k ≠ 1) (h2 : k ≠ 2) (h3 : k ≠ 3) (h4 : k ≠ 4) : Instr.findNow (.int .i64) (.int .i64 k) (stepsMap w).toList 0 = some none := by
  have e1 : (k == 1) = false := by simp [h1]
  have e2 : (k == 2) = false := by simp [h2]
  have e3 : (k == 3) = false := by simp [h3]
  have e4 : (k == 4) = false := by simp [h4]
  simp [stepsMap, Instr.findNow, Instr.sameNow, e1, e2, e3, e4]
theorem own_ge {w : World} {base : Nat} {e : TypeId} {size n : Nat} {v : Value} {xs : List Value} (h : w.ownsRow base e size v n xs) : ∀ g, v.ownBlock = some g → base ≤ g := by
  obtain ⟨-, (⟨rfl, -⟩ | ⟨g, cap, cur, rfl, hg, -⟩)⟩ := h
  · intro g h; simp [Value.ownBlock] at h
  · intro g' h; simp [Value.ownBlock] at h; omega

/-- the relation of the run's loop. -/
def Run2Rel (w : World) (p0 : Pen) (xs : List Step) (k : Nat) (wr : World) : Prop :=
  PenAt wr w.heap.size (runF p0 (xs.take k)).1 ∧ PenAt wr (w.heap.size + 1) ⟨0, 0⟩ ∧ (∃ v, Blk wr (w.heap.size + 1 + 1) 28 #[v] ∧ wr.ownsRow (w.heap.size + 1 + 1 + 1 + 1) 3 1 v (runF p0 (xs.take k)).2.length ((runF p0 (xs.take k)).2.map (Value.int .i64))) ∧
    wr.heap[w.heap.size + 1 + 1 + 1]? = some (.map (stepsMap w) 4) ∧ Below w.heap.size w wr

set_option maxRecDepth 100000 in
set_option maxHeartbeats 2000000 in
theorem run_any (y m : Int) (A : Option Addr) (c : Nat) (xs : List Step) (w : World) (hx : StepsAt w A xs) (hl : xs.length ≤ 201) (hn : nearF [y, m] = true) (hs : nearS xs = true) :
    Calls Try.prog 15 #[.agg #[.int .i64 y, .int .i64 m], .slice A xs.length c] w (RunPost (runF ⟨y, m⟩ xs).1 (runF ⟨y, m⟩ xs).2 w) := by
  have hmm := @run_makeMap Try.prog
  have hp0 := run_put_new Try.underlying64 Try.underlying3 (((w.alloc (.cells #[.int .i64 y, .int .i64 m] 23)).alloc (.cells #[.int .i64 0, .int .i64 0] 23)).alloc (.cells #[.slice none 0 0] 28)) (w.heap.size + 1 + 1 + 1) #[] 0 1 (.func (.func 54) #[] #[.pointer (some ⟨w.heap.size, 0, none⟩)]) (by simp) rfl
  have hp1 := run_put_new Try.underlying64 Try.underlying3 (((w.alloc (.cells #[.int .i64 y, .int .i64 m] 23)).alloc (.cells #[.int .i64 0, .int .i64 0] 23)).alloc (.cells #[.slice none 0 0] 28)) (w.heap.size + 1 + 1 + 1) #[{ key := .int .i64 1, val := .func (.func 54) #[] #[.pointer (some ⟨w.heap.size, 0, none⟩)], born := 0 }] 1 2 (.func (.func 55) #[] #[.pointer (some ⟨w.heap.size, 0, none⟩)]) (by simp) rfl
  have hp2 := run_put_new Try.underlying64 Try.underlying3 (((w.alloc (.cells #[.int .i64 y, .int .i64 m] 23)).alloc (.cells #[.int .i64 0, .int .i64 0] 23)).alloc (.cells #[.slice none 0 0] 28)) (w.heap.size + 1 + 1 + 1) #[{ key := .int .i64 1, val := .func (.func 54) #[] #[.pointer (some ⟨w.heap.size, 0, none⟩)], born := 0 }, { key := .int .i64 2, val := .func (.func 55) #[] #[.pointer (some ⟨w.heap.size, 0, none⟩)], born := 1 }] 2 3 (.func (.func 56) #[] #[.pointer (some ⟨w.heap.size, 0, none⟩)]) (by simp) rfl
  have hp3 := run_put_new Try.underlying64 Try.underlying3 (((w.alloc (.cells #[.int .i64 y, .int .i64 m] 23)).alloc (.cells #[.int .i64 0, .int .i64 0] 23)).alloc (.cells #[.slice none 0 0] 28)) (w.heap.size + 1 + 1 + 1) #[{ key := .int .i64 1, val := .func (.func 54) #[] #[.pointer (some ⟨w.heap.size, 0, none⟩)], born := 0 }, { key := .int .i64 2, val := .func (.func 55) #[] #[.pointer (some ⟨w.heap.size, 0, none⟩)], born := 1 }, { key := .int .i64 3, val := .func (.func 56) #[] #[.pointer (some ⟨w.heap.size, 0, none⟩)], born := 2 }] 3 4 (.func (.func 57) #[] #[.pointer (some ⟨w.heap.size + 1 + 1, 0, none⟩), .pointer (some ⟨w.heap.size, 0, none⟩)]) (by simp) rfl
  simp only [List.push_toArray, List.cons_append, List.nil_append, Nat.reduceAdd] at hp0 hp1 hp2 hp3
  have hfar := Lib.hid (far_run ⟨y, m⟩ xs hn hs)
  have hlen := Lib.hid (len_run ⟨y, m⟩ xs)
  have hst := Lib.hid hs
  clear hs hn
  go_enter Try.func15, Try.ntmps15
  go_wp2
  clear hp0 hp1 hp2 hp3 hmm
  go_loopw [18] (fun i wr => ∃ k : Nat, k ≤ xs.length ∧ i = .int .i64 k ∧ Run2Rel w ⟨y, m⟩ xs k wr) (fun i _ => xs.length - (intOf i).toNat)
  case atStart =>
    refine ⟨0, Nat.zero_le _, rfl, ?_, ?_, ⟨.slice none 0 0, ?_, World.ownsRow_nil _ _ _ _⟩, ?_, ?_⟩
    · exact (((Blk.newB w _ _ _ rfl).alloc _).alloc _).alloc _
    · exact ((Blk.newB _ _ _ _ (by simp)).alloc _).alloc _
    · exact (Blk.newB _ _ _ _ (by simp)).alloc _
    · have : w.heap.size + 1 + 1 + 1 = (((w.alloc (.cells #[.int .i64 y, .int .i64 m] 23)).alloc (.cells #[.int .i64 0, .int .i64 0] 23)).alloc (.cells #[.slice none 0 0] 28)).heap.size := by simp
      rw [this]
      exact (MapKept.heap_alloc _ _).1
    · exact (by (repeat with_reducible (first | exact Below.refl _ _ | exact below_alloc _ _ | refine below_step ?_ _ | refine below_set ?_ ?_ | refine below_drew ?_ | refine below_drewN' ?_ | refine below_then ?_ (by assumption) | refine below_only' ?_ ?_ (by assumption))) <;> (first | omega | (simp; done) | (simp; omega)))
  case round =>
    obtain ⟨k, hk, rfl, hP, hR, ⟨v, hT, hown⟩, hM, hbw⟩ := hrel
    by_cases hlt : k < xs.length
    · obtain ⟨b, off, rfl, hb, h1, h2, h3⟩ := hx.below hbw k hlt
      clear hx
      have hstep := runF_take ⟨y, m⟩ xs k hlt
      have hfk := hfar.out k (by omega)
      have hlk := hlen.out k (by omega)
      generalize runF ⟨y, m⟩ (xs.take k) = s at *
      obtain ⟨⟨py, pm⟩, l⟩ := s
      dsimp only at hP hown hlk hfk
      obtain ⟨by1, bm1⟩ := far_bd hfk (by omega)
      obtain ⟨ba, bb⟩ := near_bd (nearS_at xs hst.out k hlt)
      have hzs : w.heap.size + 1 + 1 + 1 < wr.heap.size := (Array.getElem?_eq_some_iff.1 hM).1
      have hX0 := Blk.newB wr wr.heap.size 33 #[.int .i64 xs[k].kind, .int .i64 xs[k].a, .int .i64 xs[k].b] rfl
      have hP0 := hP.alloc (.cells #[.int .i64 xs[k].kind, .int .i64 xs[k].a, .int .i64 xs[k].b] 33)
      have hR0 := hR.alloc (.cells #[.int .i64 xs[k].kind, .int .i64 xs[k].a, .int .i64 xs[k].b] 33)
      have hT0 := hT.alloc (.cells #[.int .i64 xs[k].kind, .int .i64 xs[k].a, .int .i64 xs[k].b] 33)
      have hO0 := hown.alloc (.cells #[.int .i64 xs[k].kind, .int .i64 xs[k].a, .int .i64 xs[k].b] 33)
      have hB0 := below_step hbw (.cells #[.int .i64 xs[k].kind, .int .i64 xs[k].a, .int .i64 xs[k].b] 33)
      have hM0 : (wr.alloc (.cells #[.int .i64 xs[k].kind, .int .i64 xs[k].a, .int .i64 xs[k].b] 33)).heap[w.heap.size + 1 + 1 + 1]? = some (.map (stepsMap w) 4) := (Below.heap_alloc _ _ _ hzs).trans hM
      have hcs : xs[k].kind = 1 ∨ xs[k].kind = 2 ∨ xs[k].kind = 3 ∨ xs[k].kind = 4 ∨ (xs[k].kind ≠ 1 ∧ xs[k].kind ≠ 2 ∧ xs[k].kind ≠ 3 ∧ xs[k].kind ≠ 4) := by omega
      clear hfk hP hR hT hbw hM
      rcases hcs with hk1 | hk2 | hk3 | hk4 | ⟨hk1, hk2, hk3, hk4⟩
      · have hst' := Lib.hid (hstep.trans (step_1 hk1))
        have hlook := run_look_some Try.underlying64 Try.underlying3 hM0 (k := xs[k].kind) (i := 0) (v := .func (.func 54) #[] #[.pointer (some ⟨w.heap.size, 0, none⟩)]) (by rw [hk1]; rfl)
        have hneq := @run_neq_fn Try.prog 63 _ _ _ (.func 54) #[] #[.pointer (some ⟨w.heap.size, 0, none⟩)] (wr.alloc (.cells #[.int .i64 xs[k].kind, .int .i64 xs[k].a, .int .i64 xs[k].b] 33)) Try.underlying63
        have cX := hX0.f3
        clear hstep hk1 hown
        go_wp2_with fail
        refine (run1_any w.heap.size py pm _ _ _ _ hP0 by1 bm1 ba bb).mono ?_
        rintro e w1 ⟨rfl, hP1, hg⟩
        have hR1 := hR0.only hg (by omega)
        have hT1 := hT0.only hg (by omega)
        have hO1 := hO0.kept hg (.inr (own_blk_ne hO0 hP0 (by decide)))
        have hM1 := (hg.block (w.heap.size + 1 + 1 + 1) (by simp; omega) (by simp; omega)).trans hM0
        have hB1 := below_only' hB0 (Nat.le_refl _) hg
        clear hlook hneq cX hP0 hR0 hT0 hO0 hM0 hB0 hX0
        go_wp2
        go_roundw
        case rel =>
          refine ⟨k + 1, by omega, by go_num, ?_⟩
          unfold Run2Rel
          rw [hst'.out]
          exact ⟨hP1, hR1, ⟨v, hT1, hO1⟩, hM1, hB1⟩
        case measure => simp [intOf]; omega
      · have hst' := Lib.hid (hstep.trans (step_2 hk2))
        have hlook := run_look_some Try.underlying64 Try.underlying3 hM0 (k := xs[k].kind) (i := 1) (v := .func (.func 55) #[] #[.pointer (some ⟨w.heap.size, 0, none⟩)]) (by rw [hk2]; rfl)
        have hneq := @run_neq_fn Try.prog 63 _ _ _ (.func 55) #[] #[.pointer (some ⟨w.heap.size, 0, none⟩)] (wr.alloc (.cells #[.int .i64 xs[k].kind, .int .i64 xs[k].a, .int .i64 xs[k].b] 33)) Try.underlying63
        have cX := hX0.f3
        clear hstep hk2 hown
        go_wp2_with fail
        refine (run2_any w.heap.size py pm _ _ _ _ hP0 by1 bm1 ba bb).mono ?_
        rintro e w1 ⟨rfl, hP1, hg⟩
        have hR1 := hR0.only hg (by omega)
        have hT1 := hT0.only hg (by omega)
        have hO1 := hO0.kept hg (.inr (own_blk_ne hO0 hP0 (by decide)))
        have hM1 := (hg.block (w.heap.size + 1 + 1 + 1) (by simp; omega) (by simp; omega)).trans hM0
        have hB1 := below_only' hB0 (Nat.le_refl _) hg
        clear hlook hneq cX hP0 hR0 hT0 hO0 hM0 hB0 hX0
        go_wp2
        go_roundw
        case rel =>
          refine ⟨k + 1, by omega, by go_num, ?_⟩
          unfold Run2Rel
          rw [hst'.out]
          exact ⟨hP1, hR1, ⟨v, hT1, hO1⟩, hM1, hB1⟩
        case measure => simp [intOf]; omega
      · have hst' := Lib.hid (hstep.trans (step_3 hk3))
        have hlook := run_look_some Try.underlying64 Try.underlying3 hM0 (k := xs[k].kind) (i := 2) (v := .func (.func 56) #[] #[.pointer (some ⟨w.heap.size, 0, none⟩)]) (by rw [hk3]; rfl)
        have hneq := @run_neq_fn Try.prog 63 _ _ _ (.func 56) #[] #[.pointer (some ⟨w.heap.size, 0, none⟩)] (wr.alloc (.cells #[.int .i64 xs[k].kind, .int .i64 xs[k].a, .int .i64 xs[k].b] 33)) Try.underlying63
        have cX := hX0.f3
        clear hstep hk3 hown
        go_wp2_with fail
        refine (run3_any w.heap.size py pm _ _ _ _ hP0 by1 bm1 ba bb).mono ?_
        rintro e w1 ⟨rfl, hP1, hg⟩
        have hR1 := hR0.only hg (by omega)
        have hT1 := hT0.only hg (by omega)
        have hO1 := hO0.kept hg (.inr (own_blk_ne hO0 hP0 (by decide)))
        have hM1 := (hg.block (w.heap.size + 1 + 1 + 1) (by simp; omega) (by simp; omega)).trans hM0
        have hB1 := below_only' hB0 (Nat.le_refl _) hg
        clear hlook hneq cX hP0 hR0 hT0 hO0 hM0 hB0 hX0
        go_wp2
        go_roundw
        case rel =>
          refine ⟨k + 1, by omega, by go_num, ?_⟩
          unfold Run2Rel
          rw [hst'.out]
          exact ⟨hP1, hR1, ⟨v, hT1, hO1⟩, hM1, hB1⟩
        case measure => simp [intOf]; omega
      · have hst' := Lib.hid (hstep.trans (step_4 hk4))
        have hlook := run_look_some Try.underlying64 Try.underlying3 hM0 (k := xs[k].kind) (i := 3) (v := .func (.func 57) #[] #[.pointer (some ⟨w.heap.size + 1 + 1, 0, none⟩), .pointer (some ⟨w.heap.size, 0, none⟩)]) (by rw [hk4]; rfl)
        have hneq := @run_neq_fn Try.prog 63 _ _ _ (.func 57) #[] #[.pointer (some ⟨w.heap.size + 1 + 1, 0, none⟩), .pointer (some ⟨w.heap.size, 0, none⟩)] (wr.alloc (.cells #[.int .i64 xs[k].kind, .int .i64 xs[k].a, .int .i64 xs[k].b] 33)) Try.underlying63
        have cX := hX0.f3
        clear hstep hk4 hown
        go_wp2_with fail
        refine (run4_any (w.heap.size + 1 + 1) w.heap.size py pm _ _ _ v l _ (w.heap.size + 1 + 1 + 1 + 1) hT0 hP0 hO0 by1 bm1 (by omega) (by simp; omega) (by omega) (by omega) (by omega) ba).mono ?_
        rintro e w1 ⟨rfl, hP1, ⟨v2, hT1, hO1⟩, hkp, hbl⟩
        have hge : ∀ g, v.ownBlock = some g → w.heap.size + 1 + 1 + 1 + 1 ≤ g := own_ge hO0
        have hR1 := (hkp (w.heap.size + 1) (by simp; omega) (by omega) (by omega) (fun e => by have := hge _ e.symm; omega)).trans hR0
        have hM1 := (hkp (w.heap.size + 1 + 1 + 1) (by simp; omega) (by omega) (by omega) (fun e => by have := hge _ e.symm; omega)).trans hM0
        have hB1 := hB0.trans (hbl w.heap.size (by omega) (by omega) (fun g e => by have := hge _ e; omega))
        clear hlook hneq cX hP0 hR0 hT0 hO0 hM0 hB0 hX0 hge hkp hbl
        go_wp2
        go_roundw
        case rel =>
          refine ⟨k + 1, by omega, by go_num, ?_⟩
          unfold Run2Rel
          rw [hst'.out]
          refine ⟨hP1, hR1, ⟨v2, hT1, ?_⟩, hM1, hB1⟩
          rw [List.length_append]
          exact hO1
        case measure => simp [intOf]; omega
      · have hst' := Lib.hid (hstep.trans (step_0 hk1 hk2 hk3 hk4))
        have hlook := run_look_none Try.underlying64 Try.underlying3 hM0 (k := xs[k].kind) (z := .nilFunc) (by simp [go_sem]) (look_none (w := w) hk1 hk2 hk3 hk4)
        have hneq := @run_neq_fn0 Try.prog 63 _ _ _ (wr.alloc (.cells #[.int .i64 xs[k].kind, .int .i64 xs[k].a, .int .i64 xs[k].b] 33)) Try.underlying63
        have cX := hX0.f3
        clear hstep hk1 hk2 hk3 hk4 hown
        go_wp2
        go_roundw
        case rel =>
          refine ⟨k + 1, by omega, by go_num, ?_⟩
          unfold Run2Rel
          rw [hst'.out]
          exact ⟨hP0, hR0, ⟨v, hT0, hO0⟩, hM0, hB0⟩
        case measure => simp [intOf]; omega
    · obtain rfl : k = xs.length := by omega
      rw [List.take_length] at hP hown
      have hzs : w.heap.size + 1 < wr.heap.size := hR.lt
      have hzp : w.heap.size < wr.heap.size := by omega
      generalize runF ⟨y, m⟩ xs = s at *
      obtain ⟨⟨py, pm⟩, l⟩ := s
      dsimp only at hP hown
      have cP := hP.f2
      have cR := hR.f2
      obtain ⟨A1, c1, rfl, _, hc2, _⟩ := own_cells hown
      have hO2 := ownsRow_setCell_below (ownsRow_setCell_below (ownsRow_setCell_below hown (a := ⟨w.heap.size + 1, 0, none⟩) (by simp) (.int .i64 py)) (a := ⟨w.heap.size + 1, 1, none⟩) (by simp) (.int .i64 pm)) (a := ⟨w.heap.size + 1 + 1, 0, none⟩) (by simp) (.slice A1 l.length c1)
      obtain ⟨A2, c2, e2, _, _, hc3⟩ := own_cells hO2
      obtain ⟨rfl, -, rfl⟩ : A1 = A2 ∧ l.length = l.length ∧ c1 = c2 := by injection e2 with e3 e4 e5; exact ⟨e3, rfl, e5⟩
      clear e2
      have cT := hT.f1
      have hB2 := below_drew (below_set (o := 0) (v := .slice A1 l.length c1) (below_set (o := 1) (v := .int .i64 pm) (below_set (o := 0) (v := .int .i64 py) hbw (Nat.le_succ w.heap.size)) (Nat.le_succ w.heap.size)) (b := w.heap.size + 1 + 1) (by omega))
      have cR2 := (((hR.set0 (.int .i64 py)).set1 (.int .i64 pm)).far (p := ⟨w.heap.size + 1 + 1, 0, none⟩) (by simp) (.slice A1 l.length c1)).drew.f2
      have cT2 := (((hT.far (p := ⟨w.heap.size + 1, 0, none⟩) (by simp) (.int .i64 py)).far (p := ⟨w.heap.size + 1, 1, none⟩) (by simp) (.int .i64 pm)).set_ 0 (.slice A1 l.length c1)).drew.f1
      have hO3 := own_base hO2 (base' := w.heap.size) (by omega)
      clear hx hP hR hT hown hO2 hbw hM
      go_wp2_with fail
      go_region
      go_wp2
      refine bodyPost_ret (v := .tuple #[.agg #[.int .i64 py, .int .i64 pm], .slice A1 l.length c1]) (by simp [results, Try.results15, go_sem, cR2, cT2]) rfl ?_
      exact ⟨A1, c1, rfl, hc3.ints, hc2, hB2, hO3⟩
end Go.Proofs.Ytbbnfenlpfoaiaa
