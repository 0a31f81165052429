/- WALKS: package margin, the reference's functions of chapter 13: the single steps. -/
import Derived.Test.YtbbnfenlpfoaiaaMem2
import Derived.Test.YtbbnfenlpfoaiaaMarP
import Derived.BigQuiet
import Derived.BigRegion
namespace Go.Proofs.Ytbbnfenlpfoaiaa
open Go.RowKit

def Bd (x : Int) : Prop := -1152921504606846976 ≤ x ∧ x ≤ 1152921504606846976

theorem RetB.pen {p q : Pen} {w w' : World} (h : p = q) (hb : Below w.heap.size w w') : RetB (.agg #[.int .i64 q.y, .int .i64 q.m]) w (.returned (.agg #[.int .i64 p.y, .int .i64 p.m])) w' := ⟨by rw [h], hb⟩

set_option maxHeartbeats 400000 in
theorem at_any (y m : Int) (w : World) (hy : Bd y) (hm : Bd m) :
    Calls Try.prog 18 #[.agg #[.int .i64 y, .int .i64 m]] w (RetB (.int .i64 (y + m)) w) := by
  obtain ⟨y1, y2⟩ := hy
  obtain ⟨m1, m2⟩ := hm
  go_enter Try.func18, Try.ntmps18
  go_wp2
  go_ret
  exact RetB.int rfl (below_alloc _ _)

set_option maxHeartbeats 400000 in
theorem pen_any (y m : Int) (w : World) :
    Calls Try.prog 26 #[.int .i64 y, .int .i64 m] w (RetB (.agg #[.int .i64 y, .int .i64 m]) w) := by
  go_enter Try.func26, Try.ntmps26
  go_wp2
  exact bodyPost_ret (v := .agg #[.int .i64 y, .int .i64 m]) (by simp [results, Try.results26, go_sem]) rfl (RetB.of rfl (below_alloc _ _))

set_option maxHeartbeats 400000 in
theorem put_any (y m a b : Int) (w : World) (hs : -9223372036854775808 ≤ a + b ∧ a + b ≤ 9223372036854775807) :
    Calls Try.prog 25 #[.agg #[.int .i64 y, .int .i64 m], .int .i64 a, .int .i64 b] w (RetB (.agg #[.int .i64 (a + b), .int .i64 0]) w) := by
  obtain ⟨s1, s2⟩ := hs
  go_enter Try.func25, Try.ntmps25
  go_wp2
  exact bodyPost_ret (v := .agg #[.int .i64 (a + b), .int .i64 0]) (by simp [results, Try.results25, go_sem]) rfl (RetB.of rfl (below_step (below_alloc _ _) _))

set_option maxHeartbeats 400000 in
theorem clear_any (y m a : Int) (w : World) (hy : Bd y) (hm : Bd m) :
    Calls Try.prog 23 #[.agg #[.int .i64 y, .int .i64 m], .int .i64 a] w (RetB (.agg #[.int .i64 (clearF ⟨y, m⟩ a).y, .int .i64 (clearF ⟨y, m⟩ a).m]) w) := by
  by_cases h : y + m < a
  · have e : clearF ⟨y, m⟩ a = ⟨a, 0⟩ := by unfold clearF; rw [if_pos h]
    rw [e]
    go_enter Try.func23, Try.ntmps23
    go_wp2_with (go_at_call 18; refine (at_any _ _ _ hy hm).mono ?_; rintro e w1 ⟨rfl, hb⟩; obtain ⟨hc, hf⟩ := bcell hb; have hz := hb.size)
    refine bodyPost_ret (v := .agg #[.int .i64 a, .int .i64 0]) (by simp [results, Try.results23, go_sem, hc]) rfl (RetB.of rfl ?_)
    exact (by (repeat with_reducible (first | exact Below.refl _ _ | exact below_alloc _ _ | refine below_step ?_ _ | refine below_set ?_ ?_ | refine below_drew ?_ | refine below_drewN' ?_ | refine below_then ?_ (by assumption) | refine below_only' ?_ ?_ (by assumption))) <;> (first | omega | (simp; done) | (simp; omega)))
  · have e : clearF ⟨y, m⟩ a = ⟨y, m⟩ := by unfold clearF; rw [if_neg h]
    rw [e]
    go_enter Try.func23, Try.ntmps23
    go_wp2_with (go_at_call 18; refine (at_any _ _ _ hy hm).mono ?_; rintro e w1 ⟨rfl, hb⟩; obtain ⟨hc, hf⟩ := bcell hb; have hz := hb.size)
    refine bodyPost_ret (v := .agg #[.int .i64 y, .int .i64 m]) (by simp [results, Try.results23, go_sem, hc]) rfl (RetB.of rfl ?_)
    exact (by (repeat with_reducible (first | exact Below.refl _ _ | exact below_alloc _ _ | refine below_step ?_ _ | refine below_set ?_ ?_ | refine below_drew ?_ | refine below_drewN' ?_ | refine below_then ?_ (by assumption) | refine below_only' ?_ ?_ (by assumption))) <;> (first | omega | (simp; done) | (simp; omega)))

/-- a method of a pen: nothing comes back, the pen's block holds another pen, nothing else has turned. -/
def PenSet (b : Nat) (p : Pen) (w : World) (e : Ending) (w' : World) : Prop :=
  e = .returned (.tuple #[]) ∧ Blk w' b 66 #[.int .i64 p.y, .int .i64 p.m] ∧ w.grownBy w' (some b)

set_option maxHeartbeats 400000 in
theorem widen_any (b : Nat) (y m a : Int) (w : World) (hB : Blk w b 66 #[.int .i64 y, .int .i64 m]) :
    Calls Try.prog 58 #[.pointer (some ⟨b, 0, none⟩), .int .i64 a] w (PenSet b (widenF ⟨y, m⟩ a) w) := by
  have c1 := hB.cell 1
  have f1 := hB.frozen 1
  simp at c1
  have HB := Lib.hid hB
  clear hB
  go_enter Try.func58, Try.ntmps58
  go_wp2
  · have e : widenF ⟨y, m⟩ a = ⟨y, a⟩ := by unfold widenF; simp only [Pen.mk.injEq, true_and]; omega
    go_end0
    exact ⟨rfl, by rw [e]; exact HB.out.set1 _, only_setCell (World.grownBy.refl w _) (.inl rfl) _⟩
  · have e : widenF ⟨y, m⟩ a = ⟨y, m⟩ := by unfold widenF; simp only [Pen.mk.injEq, true_and]; omega
    go_end0
    exact ⟨rfl, by rw [e]; exact HB.out.set1 _, only_setCell (World.grownBy.refl w _) (.inl rfl) _⟩

set_option maxHeartbeats 400000 in
theorem pad_any (b : Nat) (y m a : Int) (w : World) (hB : Blk w b 66 #[.int .i64 y, .int .i64 m]) (hy : Bd y) (hm : Bd m) (ha : Bd a) :
    Calls Try.prog 59 #[.pointer (some ⟨b, 0, none⟩), .int .i64 a] w (PenSet b (padF ⟨y, m⟩ a) w) := by
  obtain ⟨y1, y2⟩ := hy
  obtain ⟨m1, m2⟩ := hm
  obtain ⟨a1, a2⟩ := ha
  have c0 := hB.cell 0
  have f0 := hB.frozen 0
  have c1 := hB.cell 1
  have f1 := hB.frozen 1
  simp at c1 c0
  have HB := Lib.hid hB
  clear hB
  by_cases hp : 0 < a
  · have e := Lib.hid (show padF ⟨y, m⟩ a = ⟨y + m + a, 0⟩ by unfold padF; rw [if_pos hp])
    go_enter Try.func59, Try.ntmps59
    go_wp2
    go_region
    go_end0
    refine ⟨rfl, ?_, ?_⟩
    · rw [e.out]; exact ((HB.out.set0 _).set1 _).drew
    · refine only_drew ?_
      refine only_setCell ?_ (.inl rfl) _
      exact only_setCell (World.grownBy.refl w _) (.inl rfl) _
  · have e := Lib.hid (show padF ⟨y, m⟩ a = ⟨y, m⟩ by unfold padF; rw [if_neg hp])
    go_enter Try.func59, Try.ntmps59
    go_wp2
    go_end0
    exact ⟨rfl, by rw [e.out]; exact HB.out, World.grownBy.refl w _⟩

theorem padF_bd {y m a : Int} : (padF ⟨y, m⟩ a).m = m ∨ (padF ⟨y, m⟩ a).m = 0 := by unfold padF; split <;> simp
theorem max_bd {m a : Int} (hm : Bd m) (ha : Bd a) : Bd (max m a) := by unfold Bd at *; omega

set_option maxHeartbeats 400000 in
theorem enter_any (y m a n : Int) (w : World) (hy : Bd y) (hm : Bd m) (ha : Bd a) (hn : Bd n) :
    Calls Try.prog 19 #[.agg #[.int .i64 y, .int .i64 m], .int .i64 a, .int .i64 n] w (RetB (.agg #[.int .i64 (enterF ⟨y, m⟩ a n).y, .int .i64 (enterF ⟨y, m⟩ a n).m]) w) := by
  have hma := max_bd hm ha
  have hR0 := (Blk.newB (w.alloc (.cells #[.int .i64 y, .int .i64 m] 23)) (w.heap.size + 1) 23 #[.int .i64 0, .int .i64 0] (by simp)).alloc (.cells #[.int .i64 y, .int .i64 m] 66)
  go_enter Try.func19, Try.ntmps19
  go_wp2_with fail
  refine (widen_any _ _ _ _ _ (Blk.newB _ _ _ _ (by simp))).mono ?_
  rintro e w1 ⟨rfl, hB1, ho1⟩
  have hB1' : Blk w1 (w.heap.size + 1 + 1) 66 #[.int .i64 y, .int .i64 (max m a)] := hB1
  have hR1 := hR0.only ho1 (by omega)
  clear hB1 hR0
  go_wp2_with fail
  refine (pad_any _ _ _ _ _ hB1' hy hma hn).mono ?_
  rintro e w2 ⟨rfl, hB2, ho2⟩
  have hB2' : Blk w2 (w.heap.size + 1 + 1) 66 #[.int .i64 (enterF ⟨y, m⟩ a n).y, .int .i64 (enterF ⟨y, m⟩ a n).m] := hB2
  have hR2 := hR1.only ho2 (by omega)
  have c0 := hB2'.f2
  have c1 := hR2.f2
  clear hB2 hB2' hB1' hR1 hR2
  go_wp2
  refine bodyPost_ret (v := .agg #[.int .i64 (enterF ⟨y, m⟩ a n).y, .int .i64 (enterF ⟨y, m⟩ a n).m]) (by simp [results, Try.results19, go_sem, c1]) rfl (RetB.of rfl ?_)
  exact (by (repeat with_reducible (first | exact Below.refl _ _ | exact below_alloc _ _ | refine below_step ?_ _ | refine below_set ?_ ?_ | refine below_drew ?_ | refine below_drewN' ?_ | refine below_then ?_ (by assumption) | refine below_only' ?_ ?_ (by assumption))) <;> (first | omega | (simp; done) | (simp; omega)))

set_option maxHeartbeats 400000 in
theorem leave_any (y m a n : Int) (w : World) (hy : Bd y) (hm : Bd m) (_ha : Bd a) (hn : Bd n) :
    Calls Try.prog 21 #[.agg #[.int .i64 y, .int .i64 m], .int .i64 a, .int .i64 n] w (RetB (.agg #[.int .i64 (leaveF ⟨y, m⟩ a n).y, .int .i64 (leaveF ⟨y, m⟩ a n).m]) w) := by
  have hR0 := (Blk.newB (w.alloc (.cells #[.int .i64 y, .int .i64 m] 23)) (w.heap.size + 1) 23 #[.int .i64 0, .int .i64 0] (by simp)).alloc (.cells #[.int .i64 y, .int .i64 m] 66)
  go_enter Try.func21, Try.ntmps21
  go_wp2_with fail
  refine (pad_any _ _ _ _ _ (Blk.newB _ _ _ _ (by simp)) hy hm hn).mono ?_
  rintro e w1 ⟨rfl, hB1, ho1⟩
  have hB1' : Blk w1 (w.heap.size + 1 + 1) 66 #[.int .i64 (padF ⟨y, m⟩ n).y, .int .i64 (padF ⟨y, m⟩ n).m] := hB1
  have hR1 := hR0.only ho1 (by omega)
  clear hB1 hR0
  go_wp2_with fail
  refine (widen_any _ _ _ _ _ hB1').mono ?_
  rintro e w2 ⟨rfl, hB2, ho2⟩
  have hB2' : Blk w2 (w.heap.size + 1 + 1) 66 #[.int .i64 (leaveF ⟨y, m⟩ a n).y, .int .i64 (leaveF ⟨y, m⟩ a n).m] := hB2
  have hR2 := hR1.only ho2 (by omega)
  have c0 := hB2'.f2
  have c1 := hR2.f2
  clear hB2 hB2' hB1' hR1 hR2
  go_wp2
  refine bodyPost_ret (v := .agg #[.int .i64 (leaveF ⟨y, m⟩ a n).y, .int .i64 (leaveF ⟨y, m⟩ a n).m]) (by simp [results, Try.results21, go_sem, c1]) rfl (RetB.of rfl ?_)
  exact (by (repeat with_reducible (first | exact Below.refl _ _ | exact below_alloc _ _ | refine below_step ?_ _ | refine below_set ?_ ?_ | refine below_drew ?_ | refine below_drewN' ?_ | refine below_then ?_ (by assumption) | refine below_only' ?_ ?_ (by assumption))) <;> (first | omega | (simp; done) | (simp; omega)))

end Go.Proofs.Ytbbnfenlpfoaiaa
