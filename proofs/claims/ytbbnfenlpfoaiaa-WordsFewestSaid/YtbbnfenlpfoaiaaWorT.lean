/- WALKS: chapter 9: words.Take. -/
import Derived.Test.YtbbnfenlpfoaiaaWorI
import Derived.Test.YtbbnfenlpfoaiaaWorTP
set_option linter.unusedSimpArgs false
set_option linter.unusedVariables false
namespace Go.Proofs.Ytbbnfenlpfoaiaa
open Go.RowKit Go.Shelf

attribute [local go_sem] Oper.semAt_some

def runV (r : WRun) : Array Value := #[.int .i64 r.f, .int .i64 r.t, .int .i64 r.w]

theorem Blk.set3a {w : World} {g : Nat} {t : TypeId} {a b c : Value} (h : Blk w g t #[a, b, c]) (u : Value) : Blk (w.setCell ⟨g, 0, none⟩ u) g t #[u, b, c] := h.set_ 0 u
theorem Blk.set3b {w : World} {g : Nat} {t : TypeId} {a b c : Value} (h : Blk w g t #[a, b, c]) (u : Value) : Blk (w.setCell ⟨g, 1, none⟩ u) g t #[a, u, c] := h.set_ 1 u
theorem Blk.set3c {w : World} {g : Nat} {t : TypeId} {a b c : Value} (h : Blk w g t #[a, b, c]) (u : Value) : Blk (w.setCell ⟨g, 2, none⟩ u) g t #[a, b, u] := h.set_ 2 u
theorem far3 {w : World} {g r : Nat} {t : TypeId} {cs : Array Value} (h : Blk w g t cs) (hne : g ≠ r) (a b c : Value) : Blk (((w.setCell ⟨r, 0, none⟩ a).setCell ⟨r, 1, none⟩ b).setCell ⟨r, 2, none⟩ c) g t cs :=
  ((h.far (p := ⟨r, 0, none⟩) hne a).far (p := ⟨r, 1, none⟩) hne b).far (p := ⟨r, 2, none⟩) hne c
theorem keepS_set {S : Nat → Prop} {A W : World} {r k : Nat} (h : KeepS S A W) (hS : ∀ k, ¬ S (⟨r, k, none⟩ : Addr).block) (u : Value) : KeepS S A (W.setCell ⟨r, k, none⟩ u) := fun g hg =>
  (Below.heap_setCell W ⟨r, k, none⟩ u g (fun e => hS k (by rw [← e]; exact hg))).trans (h g hg)
/-- between two rounds of Take's loop. -/
def TakeI (f : Nat) (width : Int) (B O : Nat) (pre : List (Nat × Int)) (W : World) : Prop :=
  (∀ y ∈ pre, okEnd f width y) ∧ Blk W B 3 #[.int .i64 width] ∧ Blk W (B + 1) 3 #[.int .i64 f] ∧ Blk W (B + 1 + 1) 56 #[.int .i64 0, .int .i64 0, .int .i64 0] ∧ Blk W O 56 (runV (lastRun f pre))
/-- a round has left it. -/
def TakeX (f : Nat) (width : Int) (B O : Nat) (pre : List (Nat × Int)) (W : World) : Prop :=
  ∃ p y, pre = p ++ [y] ∧ (∀ y ∈ p, okEnd f width y) ∧ ¬ okEnd f width y ∧ Blk W (B + 1 + 1) 56 #[.int .i64 0, .int .i64 0, .int .i64 0] ∧ Blk W O 56 (runV (lastRun f p))
theorem blk_kept {A B : World} {row : Option Nat} {g : Nat} {t : TypeId} {cs : Array Value} (h : Blk A g t cs) (hg : A.grownBy B row) (hr : ∀ r, row = some r → ∃ o : Obj, A.heap[r]? = some o ∧ o.isCells = false) : Blk B g t cs :=
  h.grown hg (fun e => by
    obtain ⟨o, ho, hc⟩ := hr g e.symm
    have := ho.symm.trans h
    injection this with this
    subst this
    cases hc)

set_option maxRecDepth 100000 in
set_option maxHeartbeats 2000000 in
theorem take_in (b off c : Nat) (xs : List Int) (sp width : Int) (f : Nat) (w : World) (hx : IntsAt w (some ⟨b, off, none⟩) xs) (hl : xs.length ≤ 200) (hxs : xs.all nr9 = true) (hsp : 0 ≤ sp ∧ sp ≤ 35184372088832) (hf : f < xs.length) (hb : b < w.heap.size) :
    CallsIn Fence.wide 6 Try.prog 49 #[.slice (some ⟨b, off, none⟩) xs.length c, .int .i64 sp, .int .i64 width, .int .i64 f] w (RetB (.agg (runV (takeF xs sp width f))) w) := by
  have hD0 := (((Blk.newB w (w.heap.size) 3 #[.int .i64 width] (by simp)).alloc (.cells #[.int .i64 f] 3)).alloc (.cells #[.int .i64 0, .int .i64 0, .int .i64 0] 56)).alloc (.cells #[.slice (some ⟨b, off, none⟩) xs.length c, .int .i64 sp] 72)
  have hF0 := ((Blk.newB (w.alloc (.cells #[.int .i64 width] 3)) (w.heap.size + 1) 3 #[.int .i64 f] (by simp)).alloc (.cells #[.int .i64 0, .int .i64 0, .int .i64 0] 56)).alloc (.cells #[.slice (some ⟨b, off, none⟩) xs.length c, .int .i64 sp] 72)
  have hR0 := (Blk.newB ((w.alloc (.cells #[.int .i64 width] 3)).alloc (.cells #[.int .i64 f] 3)) (w.heap.size + 1 + 1) 56 #[.int .i64 0, .int .i64 0, .int .i64 0] (by simp)).alloc (.cells #[.slice (some ⟨b, off, none⟩) xs.length c, .int .i64 sp] 72)
  have hX0 := Blk.newB (((w.alloc (.cells #[.int .i64 width] 3)).alloc (.cells #[.int .i64 f] 3)).alloc (.cells #[.int .i64 0, .int .i64 0, .int .i64 0] 56)) (w.heap.size + 1 + 1 + 1) 72 #[.slice (some ⟨b, off, none⟩) xs.length c, .int .i64 sp] (by simp)
  have hW := below_step (below_step (below_step (below_alloc w (.cells #[.int .i64 width] 3)) (.cells #[.int .i64 f] 3)) (.cells #[.int .i64 0, .int .i64 0, .int .i64 0] 56)) (.cells #[.slice (some ⟨b, off, none⟩) xs.length c, .int .i64 sp] 72)
  have c1 := hF0.f1
  have c2 := hX0.f2
  have c3 := hD0.f1
  have t3 : decide ((f : Int) < 0 ∨ (xs.length : Int) ≤ f) = false := by simp; omega
  refine callsIn_of_wp_marks Try.func49 rfl trivial ?_ rfl
  simp only [Try.ntmps49, List.size_toArray, List.length_cons, List.length_nil, Nat.reduceAdd, Nat.reduceSub, Array.replicate_succ, Array.replicate_zero, List.push_toArray, List.append_toArray, List.nil_append, List.cons_append]
  gi_wp2
  refine ⟨trivial, callsIn_wide.2 ((far_any (some ⟨b, off, none⟩) xs.length c sp f _).mono ?_)⟩
  rintro e w1 ⟨rfl, hb1⟩
  rw [t3]
  have hD1 := hD0.belowB hb1
  have hF1 := hF0.belowB hb1
  have hR1 := hR0.belowB hb1
  have hX1 := hX0.belowB hb1
  have hw1 := below_then hW hb1
  clear hb1 hX0 hD0 hF0 hR0 hW c1 c2 c3
  have hD2 := hD1.alloc (.cells #[.int .i64 0, .int .i64 0, .int .i64 0] 56)
  have hF2 := hF1.alloc (.cells #[.int .i64 0, .int .i64 0, .int .i64 0] 56)
  have hR2 := hR1.alloc (.cells #[.int .i64 0, .int .i64 0, .int .i64 0] 56)
  have hX2 := hX1.alloc (.cells #[.int .i64 0, .int .i64 0, .int .i64 0] 56)
  have hO2 := Blk.new w1 56 #[.int .i64 0, .int .i64 0, .int .i64 0]
  have hw2 := below_step hw1 (.cells #[.int .i64 0, .int .i64 0, .int .i64 0] 56)
  have c1 := hF2.f1
  have c2 := hX2.f2
  gi_wp2
  refine ⟨trivial, callsIn_wide.2 ((ends_any (some ⟨b, off, none⟩) xs.length c sp f _).mono ?_)⟩
  rintro e w3 ⟨rfl, hw3⟩
  have hD3 := (hD2.alloc (.cells #[.slice (some ⟨b, off, none⟩) xs.length c, .int .i64 sp] 72)).alloc (.cells #[.int .i64 f] 3)
  have hF3 := (hF2.alloc (.cells #[.slice (some ⟨b, off, none⟩) xs.length c, .int .i64 sp] 72)).alloc (.cells #[.int .i64 f] 3)
  have hR3 := (hR2.alloc (.cells #[.slice (some ⟨b, off, none⟩) xs.length c, .int .i64 sp] 72)).alloc (.cells #[.int .i64 f] 3)
  have hX3 := (hX2.alloc (.cells #[.slice (some ⟨b, off, none⟩) xs.length c, .int .i64 sp] 72)).alloc (.cells #[.int .i64 f] 3)
  have hO3 := (hO2.alloc (.cells #[.slice (some ⟨b, off, none⟩) xs.length c, .int .i64 sp] 72)).alloc (.cells #[.int .i64 f] 3)
  have hE3 := (Blk.newB (w1.alloc (.cells #[.int .i64 0, .int .i64 0, .int .i64 0] 56)) (w1.heap.size + 1) 72 #[.slice (some ⟨b, off, none⟩) xs.length c, .int .i64 sp] (by simp)).alloc (.cells #[.int .i64 f] 3)
  have hG3 := Blk.newB ((w1.alloc (.cells #[.int .i64 0, .int .i64 0, .int .i64 0] 56)).alloc (.cells #[.slice (some ⟨b, off, none⟩) xs.length c, .int .i64 sp] 72)) (w1.heap.size + 1 + 1) 3 #[.int .i64 f] (by simp)
  have hbw3 := below_step (below_step hw2 (.cells #[.slice (some ⟨b, off, none⟩) xs.length c, .int .i64 sp] 72)) (.cells #[.int .i64 f] 3)
  rw [← hw3] at hD3 hF3 hR3 hX3 hO3 hE3 hG3 hbw3
  have hs3 : w3.heap.size = w1.heap.size + 1 + 1 + 1 := by rw [hw3]; simp
  have hz1 : w.heap.size + 1 + 1 + 1 < w1.heap.size := hX1.lt
  have hx3 := hx.below hbw3
  have hcs : ∀ j (h : j < xs.length), w3.cell? ⟨b, off + j, none⟩ = some (.int .i64 xs[j]) := fun j h => by
    obtain ⟨b', off', e, -, hc⟩ := hx3 j h
    injection e with e; injection e with e1 e2; subst e1; subst e2
    exact hc
  clear hD1 hF1 hR1 hX1 hD2 hF2 hR2 hX2 hO2 hw1 hw2 c1 c2 hw3 hx3
  gi_wp2
  have hE3' : Blk w3 (w1.heap.size + 1) 72 #[.slice (some ⟨b, off, none⟩) xs.length c, .int .i64 sp] := hE3
  refine wpIn_rangeFunc_ownF rfl (by omega) (gf := 67) (lb := #[.pointer (some ⟨w1.heap.size + 1, 0, none⟩), .pointer (some ⟨w1.heap.size + 1 + 1, 0, none⟩)]) rfl trivial (enters_of Try.func67 (by kernel_rfl) rfl)
    (ends_stops 5 (by omega) (w1.heap.size + 1) (w1.heap.size + 1 + 1) w.heap.size b off c xs sp f hl hxs hsp hf hb w3 hE3.lt hG3.lt hbw3.size hE3.f2.1 hE3.f2.2.1 hG3.f1.1 hcs) KeepS.trans (keepS_b (by rintro g (h | h | h) <;> omega)) (Below.refl _ _) (fun _ => rfl)
    (fun pre W => TakeI f width w.heap.size w1.heap.size pre W ∧ Below w.heap.size w W)
    (fun c pre W => (c = .exit 0 ∧ TakeX f width w.heap.size w1.heap.size pre W) ∧ Below w.heap.size w W)
    (OwnFrom.and (Own.from (fun s A B row hs hg hr => ⟨hs.1, blk_kept hs.2.1 hg hr, blk_kept hs.2.2.1 hg hr, blk_kept hs.2.2.2.1 hg hr, blk_kept hs.2.2.2.2 hg hr⟩) _) (ownFrom_below (Nat.le_refl _) (by omega)))
    (fun c => OwnFrom.and (Own.from (fun s A B row hs hg hr => ⟨hs.1, by obtain ⟨-, p, y, e, h1, h2, h3, h4⟩ := hs; exact ⟨p, y, e, h1, h2, blk_kept h3 hg hr, blk_kept h4 hg hr⟩⟩) _) (ownFrom_below (Nat.le_refl _) (by omega)))
    ⟨⟨fun y hy => by simp at hy, hD3, hF3, hR3, hO3⟩, hbw3⟩
    ?a1 ?assign ?body ?done ?stop
  case assign =>
    intro l x W K hK
    gi_wp2
    exact hK
  case body =>
    rintro l pre x W ⟨⟨hp, hD, hF, hR, hO⟩, hB⟩ _
    have c1 := hD.f1
    have c2 := hF.f1
    have c3 : Blk W w1.heap.size _ #[_, _, _] := hO
    have c4 := c3.f3
    clear c3
    have hns : ∀ k, ¬ ((fun g => g < w.heap.size ∨ g = w1.heap.size + 1 ∨ g = w1.heap.size + 1 + 1) (⟨w1.heap.size, k, none⟩ : Addr).block) := fun k h => by simp at h; omega
    have hO3' : Blk W w1.heap.size _ #[_, _, _] := hO
    gi_wp2
    · rename_i h1 h2
      exact ⟨KeepsOthers.refl _, ⟨rfl, pre, x, rfl, hp, by unfold okEnd; omega, hR, hO⟩, hB⟩
    · rename_i h1 h2
      have hO' := ((hO3'.set3a (.int .i64 f)).set3b (.int .i64 x.1)).set3c (.int .i64 x.2)
      refine ⟨((KeepsOthers.setCell _ _ _).trans (KeepsOthers.setCell _ _ _)).trans (KeepsOthers.setCell _ _ _), keepS_set (keepS_set (keepS_set (KeepS.refl _ _) hns _) hns _) hns _, ⟨fun y hy => (List.mem_append.1 hy).elim (hp y) (fun e => ?_), far3 hD (by omega) _ _ _, far3 hF (by omega) _ _ _, far3 hR (by omega) _ _ _, ?_⟩, ((hB.setCell (p := ⟨w1.heap.size, 0, none⟩) (by simp; omega) _).setCell (p := ⟨w1.heap.size, 1, none⟩) (by simp; omega) _).setCell (p := ⟨w1.heap.size, 2, none⟩) (by simp; omega) _⟩
      · simp at e; subst e; unfold okEnd; omega
      · rw [lastRun_snoc]; exact hO'
    · rename_i h1
      have hO' := ((hO3'.set3a (.int .i64 f)).set3b (.int .i64 x.1)).set3c (.int .i64 x.2)
      refine ⟨((KeepsOthers.setCell _ _ _).trans (KeepsOthers.setCell _ _ _)).trans (KeepsOthers.setCell _ _ _), keepS_set (keepS_set (keepS_set (KeepS.refl _ _) hns _) hns _) hns _, ⟨fun y hy => (List.mem_append.1 hy).elim (hp y) (fun e => ?_), far3 hD (by omega) _ _ _, far3 hF (by omega) _ _ _, far3 hR (by omega) _ _ _, ?_⟩, ((hB.setCell (p := ⟨w1.heap.size, 0, none⟩) (by simp; omega) _).setCell (p := ⟨w1.heap.size, 1, none⟩) (by simp; omega) _).setCell (p := ⟨w1.heap.size, 2, none⟩) (by simp; omega) _⟩
      · simp at e; subst e; unfold okEnd; omega
      · rw [lastRun_snoc]; exact hO'
  case done =>
    rintro D ys W hD rfl ⟨⟨hp, -, -, hR, hO⟩, hB⟩ hK
    obtain ⟨k, hk⟩ : ∃ k, xs.length - f = k + 1 := ⟨xs.length - f - 1, by omega⟩
    rw [hk] at hO hp
    have hT := take_of_ok (xs := xs) (sp := sp) (width := width) (f := f) (k := k) (by omega) (fun j hj => hp _ (List.mem_map.2 ⟨j, List.mem_range.2 (by omega), rfl⟩)) (.inl (by omega))
    have hO4 : Blk W w1.heap.size 56 #[.int .i64 f, .int .i64 (f + 1 + k : Nat), .int .i64 (wideN sp (seg xs f (f + 1 + k)))] := by rw [upto_succ, lastRun_snoc] at hO; rw [show f + 1 + k = f + k + 1 by omega]; exact hO
    have c1 := hO4.f3
    have c2 := hR.f3
    gi_wp2
    have hR' := ((hR.set3a (.int .i64 f)).set3b (.int .i64 ((f : Int) + 1 + k))).set3c (.int .i64 (wideN sp (seg xs f (f + 1 + k))))
    have hK' : (((W.setCell ⟨w.heap.size + 1 + 1, 0, none⟩ (.int .i64 f)).setCell ⟨w.heap.size + 1 + 1, 1, none⟩ (.int .i64 ((f : Int) + 1 + k))).setCell ⟨w.heap.size + 1 + 1, 2, none⟩ (.int .i64 (wideN sp (seg xs f (f + 1 + k))))).heap[D]? = some (.deferred (some [])) := by
      rw [Below.heap_setCell _ ⟨w.heap.size + 1 + 1, 2, none⟩ _ D (by simp; omega), Below.heap_setCell _ ⟨w.heap.size + 1 + 1, 1, none⟩ _ D (by simp; omega), Below.heap_setCell _ ⟨w.heap.size + 1 + 1, 0, none⟩ _ D (by simp; omega)]; exact hK
    have hB' := ((hB.setCell (p := ⟨w.heap.size + 1 + 1, 0, none⟩) (by simp; omega) (.int .i64 f)).setCell (p := ⟨w.heap.size + 1 + 1, 1, none⟩) (by simp; omega) (.int .i64 ((f : Int) + 1 + k))).setCell (p := ⟨w.heap.size + 1 + 1, 2, none⟩) (by simp; omega) (.int .i64 (wideN sp (seg xs f (f + 1 + k))))
    have hR2 := blk_kept hR' (grownBy_putObj' _ D (.deferred none)) (fun r e => by cases e; exact ⟨_, hK', rfl⟩)
    have hc5 := hR2.f3
    have e1 : (f : Int) + 1 + k = ((f + 1 + k : Nat) : Int) := by omega
    refine ⟨by simp, .inl ⟨_, _, rfl, run_takeDeferred hK', ?_⟩⟩
    refine ⟨.agg #[.int .i64 f, .int .i64 ((f : Int) + 1 + k), .int .i64 (wideN sp (seg xs f (f + 1 + k)))], ?_, by unfold takeF; rw [if_neg (by omega)]; simp only [Int.toNat_natCast, hT, e1]; rfl, hB'.trans (belowK_b (w := w) (Nat.le_refl _) _ D _ _ (by omega) hK' rfl rfl)⟩
    simp [results, Try.f49, go_sem, hc5]
  case stop =>
    rintro D c pre W hD ⟨k', hk', hpre⟩ ⟨⟨rfl, p, y, hpy, hp, hny, hR, hO⟩, hB⟩ hK
    obtain ⟨m, rfl⟩ : ∃ m, k' = m + 1 := by
      cases k' with
      | zero => rw [hpre] at hpy; simp [upto] at hpy
      | succ m => exact ⟨m, rfl⟩
    rw [hpre, upto_succ] at hpy
    obtain ⟨rfl, hy⟩ : upto (endAt xs sp f) m = p ∧ endAt xs sp f m = y := by
      have := List.append_inj' hpy rfl
      exact ⟨this.1, by simpa using this.2⟩
    subst hy
    have hm : f + 1 < f + m + 1 := by
      unfold okEnd endAt at hny
      dsimp only at hny
      omega
    obtain ⟨k, rfl⟩ : ∃ k, m = k + 1 := ⟨m - 1, by omega⟩
    have hT := take_of_ok (xs := xs) (sp := sp) (width := width) (f := f) (k := k) (by omega) (fun j hj => hp _ (List.mem_map.2 ⟨j, List.mem_range.2 (by omega), rfl⟩)) (.inr hny)
    have hO4 : Blk W w1.heap.size 56 #[.int .i64 f, .int .i64 (f + 1 + k : Nat), .int .i64 (wideN sp (seg xs f (f + 1 + k)))] := by rw [upto_succ, lastRun_snoc] at hO; rw [show f + 1 + k = f + k + 1 by omega]; exact hO
    have c1 := hO4.f3
    have c2 := hR.f3
    gi_wp2
    have hR' := ((hR.set3a (.int .i64 f)).set3b (.int .i64 ((f : Int) + 1 + k))).set3c (.int .i64 (wideN sp (seg xs f (f + 1 + k))))
    have hK' : (((W.setCell ⟨w.heap.size + 1 + 1, 0, none⟩ (.int .i64 f)).setCell ⟨w.heap.size + 1 + 1, 1, none⟩ (.int .i64 ((f : Int) + 1 + k))).setCell ⟨w.heap.size + 1 + 1, 2, none⟩ (.int .i64 (wideN sp (seg xs f (f + 1 + k))))).heap[D]? = some (.deferred (some [])) := by
      rw [Below.heap_setCell _ ⟨w.heap.size + 1 + 1, 2, none⟩ _ D (by simp; omega), Below.heap_setCell _ ⟨w.heap.size + 1 + 1, 1, none⟩ _ D (by simp; omega), Below.heap_setCell _ ⟨w.heap.size + 1 + 1, 0, none⟩ _ D (by simp; omega)]; exact hK
    have hB' := ((hB.setCell (p := ⟨w.heap.size + 1 + 1, 0, none⟩) (by simp; omega) (.int .i64 f)).setCell (p := ⟨w.heap.size + 1 + 1, 1, none⟩) (by simp; omega) (.int .i64 ((f : Int) + 1 + k))).setCell (p := ⟨w.heap.size + 1 + 1, 2, none⟩) (by simp; omega) (.int .i64 (wideN sp (seg xs f (f + 1 + k))))
    have hR2 := blk_kept hR' (grownBy_putObj' _ D (.deferred none)) (fun r e => by cases e; exact ⟨_, hK', rfl⟩)
    have hc5 := hR2.f3
    have e1 : (f : Int) + 1 + k = ((f + 1 + k : Nat) : Int) := by omega
    refine ⟨by simp, .inl ⟨_, _, rfl, run_takeDeferred hK', ?_⟩⟩
    refine ⟨.agg #[.int .i64 f, .int .i64 ((f : Int) + 1 + k), .int .i64 (wideN sp (seg xs f (f + 1 + k)))], ?_, by unfold takeF; rw [if_neg (by omega)]; simp only [Int.toNat_natCast, hT, e1]; rfl, hB'.trans (belowK_b (w := w) (Nat.le_refl _) _ D _ _ (by omega) hK' rfl rfl)⟩
    simp [results, Try.f49, go_sem, hc5]
end Go.Proofs.Ytbbnfenlpfoaiaa
