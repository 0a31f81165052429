/- WALKS: chapter 9: words.Wide. -/
import Derived.Test.YtbbnfenlpfoaiaaWorI
set_option linter.unusedSimpArgs false
set_option linter.unusedVariables false
namespace Go.Proofs.Ytbbnfenlpfoaiaa
open Go.RowKit Go.Shelf

attribute [local go_sem] Oper.semAt_some

set_option maxRecDepth 100000 in
set_option maxHeartbeats 2000000 in
theorem wide_in (b off c : Nat) (xs : List Int) (sp : Int) (f t : Nat) (w : World) (hx : IntsAt w (some ⟨b, off, none⟩) xs) (hl : xs.length ≤ 200) (hxs : xs.all nr9 = true) (hsp : 0 ≤ sp ∧ sp ≤ 35184372088832) (hf : f < xs.length) (ht : f < t) (ht2 : t ≤ xs.length) (hb : b < w.heap.size) :
    CallsIn Fence.wide 6 Try.prog 47 #[.slice (some ⟨b, off, none⟩) xs.length c, .int .i64 sp, .int .i64 f, .int .i64 t] w (RetB (.int .i64 (wideN sp (seg xs f t))) w) := by
  have hT := Blk.new w 3 #[.int .i64 t]
  have hR := Blk.newB (w.alloc (.cells #[.int .i64 t] 3)) (w.heap.size + 1) 3 #[.int .i64 0] (by simp)
  have hX := Blk.newB ((w.alloc (.cells #[.int .i64 t] 3)).alloc (.cells #[.int .i64 0] 3)) (w.heap.size + 1 + 1) 72 #[.slice (some ⟨b, off, none⟩) xs.length c, .int .i64 sp] (by simp)
  have hR2 := hR.alloc (.cells #[.slice (some ⟨b, off, none⟩) xs.length c, .int .i64 sp] 72)
  have hT2 := (hT.alloc (.cells #[.int .i64 0] 3)).alloc (.cells #[.slice (some ⟨b, off, none⟩) xs.length c, .int .i64 sp] 72)
  have hW := below_step (below_step (below_alloc w (.cells #[.int .i64 t] 3)) (.cells #[.int .i64 0] 3)) (.cells #[.slice (some ⟨b, off, none⟩) xs.length c, .int .i64 sp] 72)
  clear hT hR
  have c1 := hT2.f1
  have c2 := hX.f2
  have t1 : decide (t ≤ f) = false := by simp; omega
  have t2 : decide (xs.length < t) = false := by simp; omega
  have t3 : decide ((f : Int) < 0 ∨ (xs.length : Int) ≤ f) = false := by simp; omega
  refine callsIn_of_wp_marks Try.func47 rfl trivial ?_ rfl
  simp only [Try.ntmps47, List.size_toArray, List.length_cons, List.length_nil, Nat.reduceAdd, Nat.reduceSub, Array.replicate_succ, Array.replicate_zero, List.push_toArray, List.append_toArray, List.nil_append, List.cons_append]
  gi_wp2
  refine ⟨trivial, callsIn_wide.2 ((far_any (some ⟨b, off, none⟩) xs.length c sp f _).mono ?_)⟩
  rintro e w1 ⟨rfl, hb1⟩
  rw [t3]
  have hX1 := hX.belowB hb1
  have hT1 := hT2.belowB hb1
  have hR1 := hR2.belowB hb1
  have hw1 := below_then hW hb1
  clear hb1 hX hT2 hR2 hW c1 c2
  have c1 := hT1.f1
  have c2 := hX1.f2
  gi_wp2
  refine ⟨trivial, callsIn_wide.2 ((ends_any (some ⟨b, off, none⟩) xs.length c sp f _).mono ?_)⟩
  rintro e w2 ⟨rfl, hw2⟩
  have hX2 := Blk.new w1 72 #[.slice (some ⟨b, off, none⟩) xs.length c, .int .i64 sp]
  have hX3 := hX2.alloc (.cells #[.int .i64 f] 3)
  have hF3 := Blk.newB (w1.alloc (.cells #[.slice (some ⟨b, off, none⟩) xs.length c, .int .i64 sp] 72)) (w1.heap.size + 1) 3 #[.int .i64 f] (by simp)
  have hT3 := (hT1.alloc (.cells #[.slice (some ⟨b, off, none⟩) xs.length c, .int .i64 sp] 72)).alloc (.cells #[.int .i64 f] 3)
  have hR3 := (hR1.alloc (.cells #[.slice (some ⟨b, off, none⟩) xs.length c, .int .i64 sp] 72)).alloc (.cells #[.int .i64 f] 3)
  have hw3 := below_step (below_step hw1 (.cells #[.slice (some ⟨b, off, none⟩) xs.length c, .int .i64 sp] 72)) (.cells #[.int .i64 f] 3)
  rw [← hw2] at hX3 hF3 hT3 hR3 hw3
  have hs3 : w2.heap.size = w1.heap.size + 1 + 1 := by rw [hw2]; simp
  have hz1 : w.heap.size + 1 + 1 < w1.heap.size := hX1.lt
  have hx3 := hx.below hw3
  have hcs : ∀ j (h : j < xs.length), w2.cell? ⟨b, off + j, none⟩ = some (.int .i64 xs[j]) := fun j h => by
    obtain ⟨b', off', e, -, hc⟩ := hx3 j h
    injection e with e; injection e with e1 e2; subst e1; subst e2
    exact hc
  clear hX2 hw2 hT1 hX1 hR1 c1 c2 hw1
  gi_wp2
  refine wpIn_rangeFunc_ownF rfl (by omega) (gf := 67) (lb := #[.pointer (some ⟨w1.heap.size, 0, none⟩), .pointer (some ⟨w1.heap.size + 1, 0, none⟩)]) rfl trivial (enters_of Try.func67 (by kernel_rfl) rfl)
    (ends_stops 5 (by omega) w1.heap.size (w1.heap.size + 1) w.heap.size b off c xs sp f hl hxs hsp hf hb w2 hX3.lt hF3.lt hw3.size hX3.f2.1 hX3.f2.2.1 hF3.f1.1 hcs) KeepS.trans (keepS_b (by rintro g (h | h | h) <;> omega)) (Below.refl _ _) (fun _ => rfl)
    (fun pre W => ((∀ y ∈ pre, y.1 ≠ t) ∧ W.cell? ⟨w.heap.size, 0, none⟩ = some (.int .i64 t) ∧ W.cell? ⟨w.heap.size + 1, 0, none⟩ = some (.int .i64 0) ∧ W.frozen? ⟨w.heap.size + 1, 0, none⟩ = false) ∧ Below w.heap.size w W)
    (fun c pre W => (c = .ret ∧ ∃ y ∈ pre, y.1 = t ∧ W.cell? ⟨w.heap.size + 1, 0, none⟩ = some (.int .i64 y.2)) ∧ Below w.heap.size w W)
    (OwnFrom.and (Own.from (fun s A B row hs hg hr => ⟨hs.1, cell_kept hs.2.1 hg hr, cell_kept hs.2.2.1 hg hr, (frozen_kept hs.2.2.1 hg hr).trans hs.2.2.2⟩) _) (ownFrom_below (Nat.le_refl _) (by omega)))
    (fun c => OwnFrom.and (Own.from (fun s A B row hs hg hr => ⟨hs.1, by obtain ⟨-, y, hy, ht, hc⟩ := hs; exact ⟨y, hy, ht, cell_kept hc hg hr⟩⟩) _) (ownFrom_below (Nat.le_refl _) (by omega)))
    ⟨⟨by simp, hT3.f1.1, hR3.f1.1, hR3.f1.2⟩, hw3⟩
    ?a1 ?assign ?body ?done ?stop
  case assign =>
    intro l x W K hK
    gi_wp2
    exact hK
  case body =>
    rintro l pre x W ⟨⟨hp, hcw, hcr, hfr⟩, hB⟩ _
    gi_wp2
    · rename_i hxt
      have hxt' : x.1 = t := by simp at hxt; omega
      exact ⟨KeepsOthers.setCell _ _ _, ⟨rfl, x, by simp, hxt', World.cell?_setCell_same' _ _ _ (by rw [hcr]; rfl)⟩, hB.setCell (p := ⟨w.heap.size + 1, 0, none⟩) (by simp) _⟩
    · rename_i hxt
      have hxt' : x.1 ≠ t := by simp at hxt; omega
      exact ⟨KeepsOthers.refl _, KeepS.refl _ _, ⟨fun y hy => (List.mem_append.1 hy).elim (hp y) (fun e => by simp at e; subst e; exact hxt'), hcw, hcr, hfr⟩, hB⟩
  case done =>
    rintro D ys W hD rfl ⟨⟨hne, -, -, -⟩, hB⟩ hK
    have h := hne (endAt xs sp f (t - f - 1)) (List.mem_map.2 ⟨t - f - 1, List.mem_range.2 (by omega), rfl⟩)
    unfold endAt at h
    dsimp only at h
    omega
  case stop =>
    rintro D c pre W hD ⟨k, hk, rfl⟩ ⟨⟨rfl, y, hy, hyt, hcr⟩, hB⟩ hK
    obtain ⟨j, hj, rfl⟩ := List.mem_map.1 hy
    have hj2 : f + j + 1 = t := hyt
    have hcr2 : W.cell? ⟨w.heap.size + 1, 0, none⟩ = some (.int .i64 (wideN sp (seg xs f t))) := by rw [hcr, ← hj2]; rfl
    gi_wp2
    refine ⟨by simp, .inl ⟨_, _, rfl, run_takeDeferred hK, ?_⟩⟩
    have hc5 := cell_kept hcr2 (grownBy_putObj' _ D (.deferred none)) (fun r e => by cases e; exact ⟨_, hK, rfl⟩)
    refine ⟨.int .i64 (wideN sp (seg xs f t)), ?_, rfl, hB.trans (belowK_b (w := w) (Nat.le_refl _) W D _ _ (by omega) hK rfl rfl)⟩
    simp [results, Try.f47, go_sem, hc5]

set_option maxRecDepth 100000 in
set_option maxHeartbeats 1000000 in
theorem wide_far1 (A : Option Addr) (c : Nat) (xs : List Int) (sp f t : Int) (w : World) (h : f < 0 ∨ (xs.length : Int) ≤ f) :
    Calls Try.prog 47 #[.slice A xs.length c, .int .i64 sp, .int .i64 f, .int .i64 t] w (RetB (.int .i64 0) w) := by
  have hT := Blk.new w 3 #[.int .i64 t]
  have hR := Blk.newB (w.alloc (.cells #[.int .i64 t] 3)) (w.heap.size + 1) 3 #[.int .i64 0] (by simp)
  have hX := Blk.newB ((w.alloc (.cells #[.int .i64 t] 3)).alloc (.cells #[.int .i64 0] 3)) (w.heap.size + 1 + 1) 72 #[.slice A xs.length c, .int .i64 sp] (by simp)
  have hR2 := hR.alloc (.cells #[.slice A xs.length c, .int .i64 sp] 72)
  have hT2 := (hT.alloc (.cells #[.int .i64 0] 3)).alloc (.cells #[.slice A xs.length c, .int .i64 sp] 72)
  have hW := below_step (below_step (below_alloc w (.cells #[.int .i64 t] 3)) (.cells #[.int .i64 0] 3)) (.cells #[.slice A xs.length c, .int .i64 sp] 72)
  clear hT hR
  have c1 := hT2.f1
  have c2 := hX.f2
  go_enter Try.func47, Try.ntmps47
  go_wp2_with fail
  refine (far_any A xs.length c sp f _).mono ?_
  rintro e w1 ⟨rfl, hb1⟩
  rw [decide_eq_true h]
  have hT1 := hT2.belowB hb1
  have hR1 := hR2.belowB hb1
  have hw1 := below_then hW hb1
  clear hb1 hX hT2 hR2 hW c1 c2
  have c1 := hT1.f1
  have c2 := hR1.f1
  go_wp2
  refine bodyPost_ret (v := .int .i64 0) (by simp [results, Try.f47, go_sem, (hR1.set_ 0 (.int .i64 0)).f1]) rfl ?_
  exact ⟨rfl, below_set hw1 (by omega)⟩

set_option maxRecDepth 100000 in
set_option maxHeartbeats 1000000 in
theorem wide_far2 (A : Option Addr) (c : Nat) (xs : List Int) (sp f t : Int) (w : World) (h : ¬ (f < 0 ∨ (xs.length : Int) ≤ f)) (h2 : t ≤ f) :
    Calls Try.prog 47 #[.slice A xs.length c, .int .i64 sp, .int .i64 f, .int .i64 t] w (RetB (.int .i64 0) w) := by
  have hT := Blk.new w 3 #[.int .i64 t]
  have hR := Blk.newB (w.alloc (.cells #[.int .i64 t] 3)) (w.heap.size + 1) 3 #[.int .i64 0] (by simp)
  have hX := Blk.newB ((w.alloc (.cells #[.int .i64 t] 3)).alloc (.cells #[.int .i64 0] 3)) (w.heap.size + 1 + 1) 72 #[.slice A xs.length c, .int .i64 sp] (by simp)
  have hR2 := hR.alloc (.cells #[.slice A xs.length c, .int .i64 sp] 72)
  have hT2 := (hT.alloc (.cells #[.int .i64 0] 3)).alloc (.cells #[.slice A xs.length c, .int .i64 sp] 72)
  have hW := below_step (below_step (below_alloc w (.cells #[.int .i64 t] 3)) (.cells #[.int .i64 0] 3)) (.cells #[.slice A xs.length c, .int .i64 sp] 72)
  clear hT hR
  have c1 := hT2.f1
  have c2 := hX.f2
  go_enter Try.func47, Try.ntmps47
  go_wp2_with fail
  refine (far_any A xs.length c sp f _).mono ?_
  rintro e w1 ⟨rfl, hb1⟩
  rw [decide_eq_false h]
  have t1 : decide (t ≤ f) = true := by simpa using h2
  have hT1 := hT2.belowB hb1
  have hR1 := hR2.belowB hb1
  have hw1 := below_then hW hb1
  clear hb1 hX hT2 hR2 hW c1 c2
  have c1 := hT1.f1
  have c2 := hR1.f1
  go_wp2
  refine bodyPost_ret (v := .int .i64 0) (by simp [results, Try.f47, go_sem, (hR1.set_ 0 (.int .i64 0)).f1]) rfl ?_
  exact ⟨rfl, below_set hw1 (by omega)⟩

set_option maxRecDepth 100000 in
set_option maxHeartbeats 1000000 in
theorem wide_far3 (A : Option Addr) (c : Nat) (xs : List Int) (sp f t : Int) (w : World) (h : ¬ (f < 0 ∨ (xs.length : Int) ≤ f)) (h2 : ¬ t ≤ f) (h3 : (xs.length : Int) < t) :
    Calls Try.prog 47 #[.slice A xs.length c, .int .i64 sp, .int .i64 f, .int .i64 t] w (RetB (.int .i64 0) w) := by
  have hT := Blk.new w 3 #[.int .i64 t]
  have hR := Blk.newB (w.alloc (.cells #[.int .i64 t] 3)) (w.heap.size + 1) 3 #[.int .i64 0] (by simp)
  have hX := Blk.newB ((w.alloc (.cells #[.int .i64 t] 3)).alloc (.cells #[.int .i64 0] 3)) (w.heap.size + 1 + 1) 72 #[.slice A xs.length c, .int .i64 sp] (by simp)
  have hR2 := hR.alloc (.cells #[.slice A xs.length c, .int .i64 sp] 72)
  have hT2 := (hT.alloc (.cells #[.int .i64 0] 3)).alloc (.cells #[.slice A xs.length c, .int .i64 sp] 72)
  have hW := below_step (below_step (below_alloc w (.cells #[.int .i64 t] 3)) (.cells #[.int .i64 0] 3)) (.cells #[.slice A xs.length c, .int .i64 sp] 72)
  clear hT hR
  have c1 := hT2.f1
  have c2 := hX.f2
  go_enter Try.func47, Try.ntmps47
  go_wp2_with fail
  refine (far_any A xs.length c sp f _).mono ?_
  rintro e w1 ⟨rfl, hb1⟩
  rw [decide_eq_false h]
  have t1 : decide (t ≤ f) = false := by simpa using h2
  have t2 : decide ((xs.length : Int) < t) = true := by simpa using h3
  have hT1 := hT2.belowB hb1
  have hR1 := hR2.belowB hb1
  have hw1 := below_then hW hb1
  clear hb1 hX hT2 hR2 hW c1 c2
  have c1 := hT1.f1
  have c2 := hR1.f1
  go_wp2
  refine bodyPost_ret (v := .int .i64 0) (by simp [results, Try.f47, go_sem, (hR1.set_ 0 (.int .i64 0)).f1]) rfl ?_
  exact ⟨rfl, below_set hw1 (by omega)⟩

theorem wide_any (A : Option Addr) (c : Nat) (xs : List Int) (sp f t : Int) (w : World) (hx : IntsAt w A xs) (hl : xs.length ≤ 200) (hxs : xs.all nr9 = true) (hsp : 0 ≤ sp ∧ sp ≤ 35184372088832) :
    Calls Try.prog 47 #[.slice A xs.length c, .int .i64 sp, .int .i64 f, .int .i64 t] w (RetB (.int .i64 (wideF xs sp f t)) w) := by
  unfold wideF
  by_cases h : f < 0 ∨ (xs.length : Int) ≤ f
  · rw [if_pos (by omega)]; exact wide_far1 A c xs sp f t w h
  · by_cases h2 : t ≤ f
    · rw [if_pos (by omega)]; exact wide_far2 A c xs sp f t w h h2
    · by_cases h3 : (xs.length : Int) < t
      · rw [if_pos (by omega)]; exact wide_far3 A c xs sp f t w h h2 h3
      · rw [if_neg (by omega)]
        obtain ⟨f', rfl⟩ := Int.eq_ofNat_of_zero_le (show 0 ≤ f by omega)
        obtain ⟨t', rfl⟩ := Int.eq_ofNat_of_zero_le (show 0 ≤ t by omega)
        obtain ⟨b, off, rfl, hb, -⟩ := hx f' (by omega)
        exact callsIn_wide.1 (wide_in b off c xs sp f' t' w hx hl hxs hsp (by omega) (by omega) (by omega) hb)
end Go.Proofs.Ytbbnfenlpfoaiaa
