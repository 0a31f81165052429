/- WALKS: chapter 13: the functions that margin.Run makes. -/
import Derived.Test.YtbbnfenlpfoaiaaMarRun
import Derived.Test.YtbbnfenlpfoaiaaLoose
namespace Go.Proofs.Ytbbnfenlpfoaiaa
open Go.RowKit

/-- a step's function: nothing comes back, the pen's block holds another pen, nothing else has turned. -/
def ClPost (P : Nat) (p : Pen) (w : World) (e : Ending) (w' : World) : Prop := e = .returned (.tuple #[]) ∧ PenAt w' P p ∧ w.grownBy w' (some P)

set_option maxHeartbeats 400000 in
theorem run1_any (P : Nat) (y m kd a b : Int) (w : World) (hP : PenAt w P ⟨y, m⟩) (hy : Bd y) (hm : Bd m) (ha : Bd a) (hb0 : Bd b) :
    Calls Try.prog 54 #[.agg #[.int .i64 kd, .int .i64 a, .int .i64 b], .pointer (some ⟨P, 0, none⟩)] w (ClPost P (enterF ⟨y, m⟩ a b) w) := by
  have hP0 := hP.alloc (.cells #[.int .i64 kd, .int .i64 a, .int .i64 b] 33)
  have cP := hP0.f2
  have hzp := hP.lt
  have hX0 := Blk.newB w w.heap.size 33 #[.int .i64 kd, .int .i64 a, .int .i64 b] rfl
  clear hP
  have cP2 := cP
  go_enter Try.func54, Try.ntmps54
  go_wp2_with fail
  refine (enter_any _ _ _ _ _ hy hm ha hb0).mono ?_
  rintro e w1 ⟨rfl, hb1⟩
  have hP1 := hP0.belowB hb1
  have hg : w.grownBy w1 (some P) := only_of_below (below_then (below_alloc w _) hb1) (some P)
  have cP1 := hP1.f2
  clear hP0 hX0 hb1 cP cP2
  go_wp2
  go_end0
  refine ⟨rfl, ?_, ?_⟩
  · exact (hP1.set0 _).set1 _
  · refine only_setCell ?_ (.inl rfl) _
    exact only_setCell hg (.inl rfl) _

set_option maxHeartbeats 400000 in
theorem run2_any (P : Nat) (y m kd a b : Int) (w : World) (hP : PenAt w P ⟨y, m⟩) (hy : Bd y) (hm : Bd m) (ha : Bd a) (hb0 : Bd b) :
    Calls Try.prog 55 #[.agg #[.int .i64 kd, .int .i64 a, .int .i64 b], .pointer (some ⟨P, 0, none⟩)] w (ClPost P (leaveF ⟨y, m⟩ a b) w) := by
  have hP0 := hP.alloc (.cells #[.int .i64 kd, .int .i64 a, .int .i64 b] 33)
  have cP := hP0.f2
  have hzp := hP.lt
  have hX0 := Blk.newB w w.heap.size 33 #[.int .i64 kd, .int .i64 a, .int .i64 b] rfl
  clear hP
  have cP2 := cP
  go_enter Try.func55, Try.ntmps55
  go_wp2_with fail
  refine (leave_any _ _ _ _ _ hy hm ha hb0).mono ?_
  rintro e w1 ⟨rfl, hb1⟩
  have hP1 := hP0.belowB hb1
  have hg : w.grownBy w1 (some P) := only_of_below (below_then (below_alloc w _) hb1) (some P)
  have cP1 := hP1.f2
  clear hP0 hX0 hb1 cP cP2
  go_wp2
  go_end0
  refine ⟨rfl, ?_, ?_⟩
  · exact (hP1.set0 _).set1 _
  · refine only_setCell ?_ (.inl rfl) _
    exact only_setCell hg (.inl rfl) _

set_option maxHeartbeats 400000 in
theorem run3_any (P : Nat) (y m kd a b : Int) (w : World) (hP : PenAt w P ⟨y, m⟩) (hy : Bd y) (hm : Bd m) (_ : Bd a) (_ : Bd b) :
    Calls Try.prog 56 #[.agg #[.int .i64 kd, .int .i64 a, .int .i64 b], .pointer (some ⟨P, 0, none⟩)] w (ClPost P (clearF ⟨y, m⟩ a) w) := by
  have hP0 := hP.alloc (.cells #[.int .i64 kd, .int .i64 a, .int .i64 b] 33)
  have cP := hP0.f2
  have hzp := hP.lt
  have hX0 := Blk.newB w w.heap.size 33 #[.int .i64 kd, .int .i64 a, .int .i64 b] rfl
  clear hP
  have cP2 := cP
  go_enter Try.func56, Try.ntmps56
  go_wp2_with fail
  refine (clear_any _ _ _ _ hy hm).mono ?_
  rintro e w1 ⟨rfl, hb1⟩
  have hP1 := hP0.belowB hb1
  have hg : w.grownBy w1 (some P) := only_of_below (below_then (below_alloc w _) hb1) (some P)
  have cP1 := hP1.f2
  clear hP0 hX0 hb1 cP cP2
  go_wp2
  go_end0
  refine ⟨rfl, ?_, ?_⟩
  · exact (hP1.set0 _).set1 _
  · refine only_setCell ?_ (.inl rfl) _
    exact only_setCell hg (.inl rfl) _

/-- where something is put: the places' row has one more, the pen is behind it; beyond these blocks, and the row's, nothing has turned. -/
def PutPost (T P base : Nat) (v0 : Value) (l : List Int) (y m a : Int) (w : World) (e : Ending) (w' : World) : Prop :=
  e = .returned (.tuple #[]) ∧ PenAt w' P ⟨y + m + a, 0⟩ ∧ (∃ v2, Blk w' T 28 #[v2] ∧ w'.ownsRow base 3 1 v2 (l.length + 1) ((l ++ [y + m]).map (Value.int .i64))) ∧
    (∀ g, g < w.heap.size → g ≠ T → g ≠ P → some g ≠ v0.ownBlock → w'.heap[g]? = w.heap[g]?) ∧ (∀ B, B ≤ T → B ≤ P → (∀ k, v0.ownBlock = some k → B ≤ k) → Below B w w')

set_option maxRecDepth 100000 in
set_option maxHeartbeats 1000000 in
theorem run4_any (T P : Nat) (y m kd a b : Int) (v0 : Value) (l : List Int) (w : World) (base : Nat) (hT : Blk w T 28 #[v0]) (hP : PenAt w P ⟨y, m⟩) (hown : w.ownsRow base 3 1 v0 l.length (l.map (Value.int .i64)))
    (hy : Bd y) (hm : Bd m) (hlen : l.length ≤ 200) (hb : base ≤ w.heap.size) (hTP : T ≠ P) (hTb : T < base) (hPb : P < base) (ha : Bd a) :
    Calls Try.prog 57 #[.agg #[.int .i64 kd, .int .i64 a, .int .i64 b], .pointer (some ⟨T, 0, none⟩), .pointer (some ⟨P, 0, none⟩)] w (PutPost T P base v0 l y m a w) := by
  obtain ⟨i0, hi0, hz0, hz1, hz2⟩ := info_parts int_info13
  have hT1 := hT.alloc (.cells #[.int .i64 kd, .int .i64 a, .int .i64 b] 33)
  have hP1 := hP.alloc (.cells #[.int .i64 kd, .int .i64 a, .int .i64 b] 33)
  have hO0 := hown.alloc (.cells #[.int .i64 kd, .int .i64 a, .int .i64 b] 33)
  have hX1 := Blk.newB w w.heap.size 33 #[.int .i64 kd, .int .i64 a, .int .i64 b] rfl
  have hlto := hown.lt
  have hput : -9223372036854775808 ≤ y + m + a ∧ y + m + a ≤ 9223372036854775807 := by obtain ⟨y1, y2⟩ := hy; obtain ⟨m1, m2⟩ := hm; obtain ⟨a1, a2⟩ := ha; omega
  have hsz : w.heap.size + 1 = (w.alloc (.cells #[.int .i64 kd, .int .i64 a, .int .i64 b] 33)).heap.size := by simp
  clear hT hP
  go_enter Try.func57, Try.ntmps57
  go_wp2
  have Hsz := Lib.hid hsz
  clear hsz
  refine wp_region_below 4 15 (fun j v w' => match j with
        | 0 => v = v0
        | 1 => v = .agg #[.int .i64 y, .int .i64 m]
        | 2 => v = .int .i64 (y + m)
        | _ => ∃ A, v = .slice A 1 1 ∧ IntsAt w' A [y + m])
    [⟨[], [1]⟩, ⟨[], [2]⟩, ⟨[(5, 1)], []⟩, ⟨[(6, 2)], []⟩] (by kernel_rfl) (by kernel_rfl) (by kernel_rfl) (by kernel_rfl) rfl ?_ ?_ ?_
  · intro j v w1 w2 h hE
    match j, h with
    | 0, h => exact h
    | 1, h => exact h
    | 2, h => exact h
    | _ + 3, h => obtain ⟨A, e, h⟩ := h; exact ⟨A, e, h.below hE⟩
  · refine ⟨?_, ?_, ?_, ?_, trivial⟩
    · refine step_plain rfl ?_
      rintro fa w1 K hC - ⟨h1, -⟩ hK
      have e1 := evg h1
      have c1 := (hT1.belowB hC).f1
      have hK' := Lib.hid hK
      clear hK h1 hT1 hP1 hown
      go_simp
      exact hK'.out _ _ rfl hC (Below.refl _ _)
    · refine step_plain rfl ?_
      rintro fa w1 K hC - ⟨h2, -⟩ hK
      have e2 := evg h2
      have c1 := (hP1.belowB hC).f2
      have hK' := Lib.hid hK
      clear hK h2 hT1 hP1 hown
      go_simp
      exact hK'.out _ _ rfl hC (Below.refl _ _)
    · refine step_plain rfl ?_
      rintro fa w1 K hC ⟨h5, -⟩ - hK
      have e5 : fa.tmps[5]?.getD undef = .agg #[.int .i64 y, .int .i64 m] := evg h5
      have hK' := Lib.hid hK
      clear hK h5 hT1 hP1 hown
      go_simp
      refine (at_any _ _ _ hy hm).mono ?_
      rintro e w2 ⟨rfl, hb⟩
      exact hK'.out _ _ rfl (below_then hC hb) hb
    · refine step_plain rfl ?_
      rintro fa w1 K hC ⟨h6, -⟩ - hK
      have e6 : fa.tmps[6]?.getD undef = .int .i64 (y + m) := evg h6
      have hK' := Lib.hid hK
      clear hK h6 hT1 hP1 hown
      go_simp
      exact hK'.out _ _ ⟨_, rfl, IntsAt.new1 _ _ _ _ rfl⟩ (below_step hC _) (below_alloc _ _)
  · intro vs w1 hC hv
    have e0 : vs 0 = v0 := hv 0 (by omega)
    have e1 : vs 1 = .agg #[.int .i64 y, .int .i64 m] := hv 1 (by omega)
    have e2 : vs 2 = .int .i64 (y + m) := hv 2 (by omega)
    obtain ⟨A, e3, hA⟩ := hv 3 (by omega)
    simp only [fill, dstOf, Act.put, List.drop_succ_cons, List.drop_zero, if_true, List.getElem?_toArray, List.getElem?_cons_zero, List.getElem?_cons_succ, Option.bind_some, List.setIfInBounds_toArray, List.set_cons_succ, List.set_cons_zero, e0, e1, e2, e3]
    clear hv e0 e1 e2 e3 
    have hO1 := own_below hO0 hC
    have hbw : base ≤ w1.heap.size := by have h1 := hC.size; have h2 := Hsz.out; omega
    have hr1 := hA.cells.reads (size := 1) (n := 1) (by simp) (by omega)
    have hl1 : ∀ u ∈ [y + m].map (Value.int .i64), u.oneCell' = true := by simp [Value.oneCell']
    go_wp2_with (at_builtin; refine wpList_append_any _ rfl (.tmp 4) (.tmp 7) 28 rfl base 3 i0 (.int .i64 0) 1 8 Try.underlying28 hi0 hz0 hz1 hz2 rfl (by omega) v0 l.length _ rfl hO1 _ A 1 1 _ rfl hr1 hl1 (by simp only [maxLen]; omega) (by omega) hbw ?_)
    intro v2 w2 hown2 hg2 _
    have nT : some T ≠ v0.ownBlock := fun e => by have := hlto _ e.symm; omega
    have nP : some P ≠ v0.ownBlock := fun e => by have := hlto _ e.symm; omega
    have nX : some w.heap.size ≠ v0.ownBlock := fun e => by have := hlto _ e.symm; omega
    have hT2 := (hT1.belowB hC).grown hg2 nT
    have hP2 := (hP1.belowB hC).grown hg2 nP
    have hX2 := (hX1.belowB hC).grown hg2 nX
    have cT := hT2.f1
    obtain ⟨A2, c2, rfl, _, _, _⟩ := own_cells hown2
    have hT3 : Blk (w2.setCell ⟨T, 0, none⟩ (.slice A2 (l.length + 1) c2)) T 28 #[.slice A2 (l.length + 1) c2] := hT2.set_ 0 _
    have hP3 := hP2.far (p := ⟨T, 0, none⟩) (Ne.symm hTP) (.slice A2 (l.length + 1) c2)
    have hX3 := hX2.far (p := ⟨T, 0, none⟩) (by simp; omega) (.slice A2 (l.length + 1) c2)
    have hO3 := ownsRow_setCell_below hown2 (a := ⟨T, 0, none⟩) hTb (.slice A2 (l.length + 1) c2)
    have hz3 : (w2.setCell ⟨T, 0, none⟩ (.slice A2 (l.length + 1) c2)).heap.size = w2.heap.size := by simp [World.setCell]
    have hzw : w.heap.size + 1 ≤ w2.heap.size := by have h1 := hC.size; have h2 := Hsz.out; have h3 := hg2.size; omega
    -- what stays, beyond these
    have keep : ∀ g, g < w.heap.size → g ≠ T → some g ≠ v0.ownBlock → (w2.setCell ⟨T, 0, none⟩ (.slice A2 (l.length + 1) c2)).heap[g]? = w.heap[g]? := fun g hgs h1 h3 => by
      have hz1 : g < w1.heap.size := by have h1 := hC.size; have h2 := Hsz.out; omega
      exact ((Below.heap_setCell _ _ _ _ h1).trans (hg2.block g hz1 h3)).trans ((hC.block g (by rw [← Hsz.out]; omega)).trans (Below.heap_alloc _ _ _ hgs))
    have keepB : ∀ B, B ≤ T → (∀ k, v0.ownBlock = some k → B ≤ k) → Below B w (w2.setCell ⟨T, 0, none⟩ (.slice A2 (l.length + 1) c2)) := fun B h1 h3 => by
      refine Below.setCell ?_ h1 _
      exact ((((Below.refl B w).alloc (by omega) (.cells #[.int .i64 kd, .int .i64 a, .int .i64 b] 33)).trans (hC.mono (by rw [← Hsz.out]; omega))).grown hg2 (by omega) h3)
    have Hk := Lib.hid keep
    have HkB := Lib.hid keepB
    have HzS := Lib.hid hz3
    clear keep keepB hz3 hT2 hP2 hX2 hg2 hown2 nT nP nX hlto hO1 hr1 hl1 hA hT1 hP1 hX1 hO0 hi0 hz0 hz1 hz2 hC
    go_wp2
    refine wp_region_below 6 15 (fun j v w' => match j with
          | 0 => v = .agg #[.int .i64 y, .int .i64 m]
          | 1 => v = .agg #[.int .i64 y, .int .i64 m]
          | 2 => v = .int .i64 (y + m)
          | 3 => v = .pointer (some ⟨w.heap.size, 1, none⟩)
          | 4 => v = .int .i64 a
          | _ => v = .agg #[.int .i64 (y + m + a), .int .i64 0])
      [⟨[], [2]⟩, ⟨[], [2]⟩, ⟨[(10, 1)], []⟩, ⟨[], [3]⟩, ⟨[(12, 3)], []⟩, ⟨[(9, 0), (11, 2), (13, 4)], []⟩] (by kernel_rfl) (by kernel_rfl) (by kernel_rfl) (by kernel_rfl) rfl ?_ ?_ ?_
    · intro j v w1 w2 h _
      match j, h with
      | 0, h => exact h
      | 1, h => exact h
      | 2, h => exact h
      | 3, h => exact h
      | 4, h => exact h
      | _ + 5, h => exact h
    · refine ⟨?_, ?_, ?_, ?_, ?_, ?_, trivial⟩
      · refine step_plain rfl ?_
        rintro fa w1 K hC - ⟨h2, -⟩ hK
        have e2 := evg h2
        have c1 := (hP3.belowB hC).f2
        have hK' := Lib.hid hK
        clear hK h2 hP3 hX3 hT3 hO3
        go_simp
        exact hK'.out _ _ rfl hC (Below.refl _ _)
      · refine step_plain rfl ?_
        rintro fa w1 K hC - ⟨h2, -⟩ hK
        have e2 := evg h2
        have c1 := (hP3.belowB hC).f2
        have hK' := Lib.hid hK
        clear hK h2 hP3 hX3 hT3 hO3
        go_simp
        exact hK'.out _ _ rfl hC (Below.refl _ _)
      · refine step_plain rfl ?_
        rintro fa w1 K hC ⟨h10, -⟩ - hK
        have e10 : fa.tmps[10]?.getD undef = .agg #[.int .i64 y, .int .i64 m] := evg h10
        have hK' := Lib.hid hK
        clear hK h10 hP3 hX3 hT3 hO3
        go_simp
        refine (at_any _ _ _ hy hm).mono ?_
        rintro e w2 ⟨rfl, hb⟩
        exact hK'.out _ _ rfl (below_then hC hb) hb
      · refine step_plain rfl ?_
        rintro fa w1 K hC - ⟨h3, -⟩ hK
        have e3 := evg h3
        have hK' := Lib.hid hK
        clear hK h3 hP3 hX3 hT3 hO3
        go_simp
        exact hK'.out _ _ rfl hC (Below.refl _ _)
      · refine step_plain rfl ?_
        rintro fa w1 K hC ⟨h12, -⟩ - hK
        have e12 : fa.tmps[12]?.getD undef = .pointer (some ⟨w.heap.size, 1, none⟩) := evg h12
        have c1 := (hX3.belowB hC).f3
        have hK' := Lib.hid hK
        clear hK h12 hP3 hX3 hT3 hO3
        go_simp
        exact hK'.out _ _ rfl hC (Below.refl _ _)
      · refine step_plain rfl ?_
        rintro fa w1 K hC ⟨h9, h11, h13, -⟩ - hK
        have e9 : fa.tmps[9]?.getD undef = .agg #[.int .i64 y, .int .i64 m] := evg h9
        have e11 : fa.tmps[11]?.getD undef = .int .i64 (y + m) := evg h11
        have e13 : fa.tmps[13]?.getD undef = .int .i64 a := evg h13
        have hK' := Lib.hid hK
        clear hK h9 h11 h13 hP3 hX3 hT3 hO3
        go_simp
        refine (put_any _ _ _ _ _ hput).mono ?_
        rintro e w2 ⟨rfl, hb⟩
        exact hK'.out _ _ rfl (below_then hC hb) hb
    · intro vs w1 hC hv
      have e0 : vs 0 = .agg #[.int .i64 y, .int .i64 m] := hv 0 (by omega)
      have e1 : vs 1 = .agg #[.int .i64 y, .int .i64 m] := hv 1 (by omega)
      have e2 : vs 2 = .int .i64 (y + m) := hv 2 (by omega)
      have e3 : vs 3 = .pointer (some ⟨w.heap.size, 1, none⟩) := hv 3 (by omega)
      have e4 : vs 4 = .int .i64 a := hv 4 (by omega)
      have e5 : vs 5 = .agg #[.int .i64 (y + m + a), .int .i64 0] := hv 5 (by omega)
      simp only [fill, dstOf, Act.put, List.drop_succ_cons, List.drop_zero, if_true, List.getElem?_toArray, List.getElem?_cons_zero, List.getElem?_cons_succ, Option.bind_some, List.setIfInBounds_toArray, List.set_cons_succ, List.set_cons_zero, e0, e1, e2, e3, e4, e5]
      clear hv e0 e1 e2 e3 e4 e5 
      have cP4 := (hP3.belowB hC).f2
      have hP4 := hP3.belowB hC
      have hT4 := hT3.belowB hC
      have hO4 := own_below hO3 hC
      go_wp2
      go_end0
      refine ⟨rfl, ?_, ⟨.slice A2 (l.length + 1) c2, ?_, ?_⟩, ?_, ?_⟩
      · exact (hP4.set0 _).set1 _
      · exact (hT4.far (p := ⟨P, 0, none⟩) hTP _).far (p := ⟨P, 1, none⟩) hTP _
      · rw [List.map_append]
        exact ownsRow_setCell_below (ownsRow_setCell_below hO4 (a := ⟨P, 0, none⟩) hPb _) (a := ⟨P, 1, none⟩) hPb _
      · intro g hgs h1 h2 h3
        have hz1 : g < w2.heap.size := by omega
        exact ((Below.heap_setCell _ _ _ _ h2).trans (Below.heap_setCell _ _ _ _ h2)).trans ((hC.block g (by rw [HzS.out]; omega)).trans (Hk.out g hgs h1 h3))
      · intro B h1 h2 h3
        refine Below.setCell (p := ⟨P, 1, none⟩) ?_ h2 _
        refine Below.setCell (p := ⟨P, 0, none⟩) ?_ h2 _
        exact (HkB.out B h1 h3).trans (hC.mono (by rw [HzS.out]; omega))
end Go.Proofs.Ytbbnfenlpfoaiaa
