/- CHAPTER 11: place; where a float goes. -/
/- G -/
import Derived.Test.YtdpaflhlgaffdaaGBanD
/- BOOLS -/
set_option linter.unusedSimpArgs false
set_option linter.unusedVariables false
namespace Go.Proofs.Ytdpaflhlgaffdaa
open Go.RowKit

/-- down from a height, as many steps as told at most. -/
def dnP (l : List LFl) (W H : Int) (s : LSpan) : Nat → Int → Int
  | 0, y => y
  | n + 1, y => if W ≤ lenS (bandF l y H s) ∨ (nextF l y H s).is = false then y else dnP l W H s n (nextF l y H s).n
def cntP (l : List LFl) (y : Int) : Nat := (l.filter fun f => decide (y < f.y + f.h)).length
theorem fold_inv {α β : Type} {f : α → β → α} {P : α → Prop} : ∀ (l : List β) (a : α), P a → (∀ a, ∀ b ∈ l, P a → P (f a b)) → P (l.foldl f a)
  | [], a, h, _ => h
  | b :: l, a, h, hs => by rw [List.foldl_cons]; exact fold_inv l _ (hs a b List.mem_cons_self h) fun a c hc => hs a c (List.mem_cons_of_mem _ hc)
theorem next_bot {l : List LFl} {y H : Int} {s : LSpan} : (nextF l y H s).is = true → ∃ f ∈ l, (nextF l y H s).n = f.y + f.h ∧ y < f.y + f.h := by
  refine fold_inv (P := fun o : LIs => o.is = true → ∃ f ∈ l, o.n = f.y + f.h ∧ y < f.y + f.h) l ⟨0, false⟩ (fun h => by cases h) fun o f hf ih h => ?_
  unfold nextT at h ⊢
  split at h
  · next hc =>
    rw [if_pos hc]
    have := hc.1
    rw [meetF, decide_eq_true_eq] at this
    exact ⟨f, hf, rfl, this.2.2⟩
  · next hc => rw [if_neg hc]; exact ih h
theorem top_at {l : List LFl} : (mostF topF l).is = true → ∃ f ∈ l, (mostF topF l).n = f.y := by
  refine fold_inv (P := fun o : LIs => o.is = true → ∃ f ∈ l, o.n = f.y) l ⟨0, false⟩ (fun h => by cases h) fun o f hf ih h => ?_
  unfold mostT at h ⊢
  split at h
  · next hc => rw [if_pos hc]; exact ⟨f, hf, rfl⟩
  · next hc => rw [if_neg hc]; exact ih h
theorem cnt_le (l : List LFl) (y : Int) : cntP l y ≤ l.length := List.length_filter_le _ _
theorem cnt_lt {l : List LFl} {y n : Int} (h : ∃ f ∈ l, n = f.y + f.h ∧ y < f.y + f.h) : cntP l n < cntP l y := by
  obtain ⟨f, hf, rfl, hy⟩ := h
  unfold cntP
  induction l with
  | nil => cases hf
  | cons g l ih =>
    have hm : ∀ (l : List LFl), (l.filter fun g => decide (f.y + f.h < g.y + g.h)).length ≤ (l.filter fun g => decide (y < g.y + g.h)).length := by
      intro l
      induction l with
      | nil => exact Nat.le_refl _
      | cons g l ih =>
        rw [List.filter_cons, List.filter_cons]
        by_cases h1 : f.y + f.h < g.y + g.h
        · rw [if_pos (by simpa using h1), if_pos (by simp; omega)]; simpa using ih
        · rw [if_neg (by simpa using h1)]
          split
          · exact Nat.le_succ_of_le ih
          · exact ih
    rw [List.filter_cons, List.filter_cons]
    rcases List.mem_cons.1 hf with rfl | hf
    · rw [if_neg (by simp), if_pos (by simpa using hy)]
      exact Nat.lt_succ_of_le (hm l)
    · have := ih hf
      by_cases h1 : f.y + f.h < g.y + g.h
      · rw [if_pos (by simpa using h1), if_pos (by simp; omega)]; simpa using this
      · rw [if_neg (by simpa using h1)]
        split
        · exact Nat.lt_succ_of_lt this
        · exact this
theorem dn_stop {l : List LFl} {W H : Int} {s : LSpan} {y : Int} (h : W ≤ lenS (bandF l y H s) ∨ (nextF l y H s).is = false) : ∀ n, dnP l W H s n y = y
  | 0 => rfl
  | n + 1 => by unfold dnP; rw [if_pos h]
theorem dn_step {l : List LFl} {W H : Int} {s : LSpan} {y : Int} {n : Nat} (h : ¬ (W ≤ lenS (bandF l y H s) ∨ (nextF l y H s).is = false)) : dnP l W H s (n + 1) y = dnP l W H s n (nextF l y H s).n := by
  rw [dnP, if_neg h]
theorem dn_lt {l : List LFl} {W H : Int} {s : LSpan} {y : Int} (h : ¬ (W ≤ lenS (bandF l y H s) ∨ (nextF l y H s).is = false)) : cntP l (nextF l y H s).n < cntP l y :=
  cnt_lt (next_bot (by
    cases hq : (nextF l y H s).is with
    | false => exact absurd (.inr hq) h
    | true => rfl))
theorem dn_enough {l : List LFl} {W H : Int} {s : LSpan} : ∀ (m : Nat) (y : Int), cntP l y ≤ m → dnP l W H s m y = dnP l W H s (cntP l y) y
  | 0, y, h => by rw [Nat.le_zero.1 h]
  | m + 1, y, h => by
    by_cases hs : W ≤ lenS (bandF l y H s) ∨ (nextF l y H s).is = false
    · rw [dn_stop hs, dn_stop hs]
    · have hl := dn_lt hs
      obtain ⟨k, hk⟩ : ∃ k, cntP l y = k + 1 := ⟨cntP l y - 1, by omega⟩
      rw [hk, dn_step hs, dn_step hs, dn_enough m _ (by omega), dn_enough k _ (by omega)]
theorem next_bd {l : List LFl} (hn : l.all nearF = true) {y H : Int} {s : LSpan} (h : (nextF l y H s).is = true) : -2251799813685248 ≤ (nextF l y H s).n ∧ (nextF l y H s).n ≤ 2251799813685248 := by
  obtain ⟨f, hf, e, -⟩ := next_bot h
  have := nearF_iff.1 (List.all_eq_true.1 hn f hf)
  omega
theorem band_bd {l : List LFl} (hn : l.all nearF = true) {y H : Int} {s : LSpan} (h : (-1125899906842624 ≤ s.a ∧ s.a ≤ 1125899906842624) ∧ (-1125899906842624 ≤ s.b ∧ s.b ≤ 1125899906842624)) : (-2251799813685248 ≤ (bandF l y H s).a ∧ (bandF l y H s).a ≤ 2251799813685248) ∧ (-2251799813685248 ≤ (bandF l y H s).b ∧ (bandF l y H s).b ≤ 2251799813685248) := by
  refine fold_inv (P := fun o : LSpan => (-2251799813685248 ≤ o.a ∧ o.a ≤ 2251799813685248) ∧ (-2251799813685248 ≤ o.b ∧ o.b ≤ 2251799813685248)) l s (by omega) fun o f hf ih => ?_
  have := nearF_iff.1 (List.all_eq_true.1 hn f hf)
  unfold ofT cutF
  split
  · split <;> (simp only; omega)
  · exact ih
def fromP (l : List LFl) (y : Int) : Int := if (mostF topF l).is = true then max y (mostF topF l).n else y
def spotY (l : List LFl) (f : LFl) (y : Int) (s : LSpan) : Int := dnP l f.w f.h s (l.length + 1) (fromP l y)
def spotX (l : List LFl) (f : LFl) (y : Int) (s : LSpan) : Int := if f.side = 1 then (bandF l (spotY l f y s) f.h s).a else max (bandF l (spotY l f y s) f.h s).a ((bandF l (spotY l f y s) f.h s).b - f.w)
def setP (l : List LFl) (f : LFl) (y : Int) (s : LSpan) : LFl := ⟨f.node, f.side, f.anchor, spotX l f y s, spotY l f y s, f.w, f.h⟩
structure PlaOk (l : List LFl) (f : LFl) (y : Int) (s : LSpan) : Prop where
  len : l.length ≤ 60
  near : l.all nearF = true
  nf : nearF f = true
  y : -1125899906842624 ≤ y ∧ y ≤ 1125899906842624
  s : (-1125899906842624 ≤ s.a ∧ s.a ≤ 1125899906842624) ∧ (-1125899906842624 ≤ s.b ∧ s.b ≤ 1125899906842624)
theorem from_bd {l : List LFl} {f : LFl} {y : Int} {s : LSpan} (h : PlaOk l f y s) : -2251799813685248 ≤ fromP l y ∧ fromP l y ≤ 2251799813685248 := by
  have hy := h.y
  unfold fromP
  split
  · next ht =>
    obtain ⟨g, hg, e⟩ := top_at ht
    have := nearF_iff.1 (List.all_eq_true.1 h.near g hg)
    omega
  · omega
theorem band_nearS {l : List LFl} {f : LFl} {y : Int} {s : LSpan} (h : PlaOk l f y s) (y' H : Int) : nearS (bandF l y' H s) := by
  have := band_bd h.near (y := y') (H := H) h.s
  unfold nearS
  omega
def aSch (l : List LFl) (f : LFl) (s : LSpan) : AV := .agg [.raw (.int .i64 f.node), .raw (.int .i64 f.side), .raw (.int .i64 f.anchor), .raw (.int .i64 f.x), .raw (.int .i64 f.y), .raw (.int .i64 f.w), .raw (.int .i64 f.h), .sl 7 (l.map cFl), .raw (.int .i64 s.a), .raw (.int .i64 s.b)]
attribute [go_sem] aSch
theorem in10_of {y : Int} (h : -2251799813685248 ≤ y ∧ y ≤ 2251799813685248) : in10 y := by unfold in10; omega
set_option maxRecDepth 100000 in
theorem down11_ok (l : List LFl) (f : LFl) (y0 : Int) (s : LSpan) (h : PlaOk l f y0 s) (y : Int) (hy : -2251799813685248 ≤ y ∧ y ≤ 2251799813685248) : FnOk Try.prog 66 [aSch l f s, .raw (.int .i64 y)] []
    (.tup [aSpan (bandF l (dnP l f.w f.h s (l.length + 1) y) f.h s), .raw (.int .i64 (dnP l f.w f.h s (l.length + 1) y))]) [] := by
  refine fn_of_awp Try.func66 rfl (by kernel_rfl) (by kernel_rfl) (Nat.le_of_ble_eq_true rfl) Try.results66 ?_
  simp only [go_sem, Nat.reduceAdd, Nat.reduceMul, Nat.reduceSub, Nat.reduceEqDiff, Nat.reduceDiv, Nat.reduceLT, Nat.reduceLeDiff, reduceCtorEq, decide_true, Int.natCast_add, Int.cast_ofNat_Int, Bool.not_eq_true', Bool.not_eq_false']
  rw [dn_enough _ _ (Nat.le_succ_of_le (cnt_le l y))]
  have hnf := nearF_iff.1 h.nf
  refine aloop2 [] (fun z : Int => ⟨[(1, .raw (.int .i64 z)), (2, .hdr 8), (4, .hdr 16)], [(8, some (.cells 85 [.raw (.int .i64 f.node), .raw (.int .i64 f.side), .raw (.int .i64 f.anchor), .raw (.int .i64 f.x), .raw (.int .i64 f.y), .raw (.int .i64 f.w), .raw (.int .i64 f.h), .sl 7 (l.map cFl), .raw (.int .i64 s.a), .raw (.int .i64 s.b)])), (16, some (.cells 34 [.raw (.int .i64 0), .raw (.int .i64 0)]))], none⟩) (fun z => dnP l f.w f.h s (cntP l z) z = dnP l f.w f.h s (cntP l y) y ∧ -2251799813685248 ≤ z ∧ z ≤ 2251799813685248) (fun z => cntP l z) 4 y (by simp only [go_sem, Nat.reduceAdd, Nat.reduceMul, Nat.reduceSub, Nat.reduceEqDiff, Nat.reduceDiv, Nat.reduceLT, Nat.reduceLeDiff, reduceCtorEq, decide_true, Int.natCast_add, Int.cast_ofNat_Int, Bool.not_eq_true', Bool.not_eq_false']; rfl) (by simp only [go_sem, Nat.reduceAdd, Nat.reduceMul, Nat.reduceSub, Nat.reduceEqDiff, Nat.reduceDiv, Nat.reduceLT, Nat.reduceLeDiff, reduceCtorEq, decide_true, Int.natCast_add, Int.cast_ofNat_Int, Bool.not_eq_true', Bool.not_eq_false']) ?_ ?_
  · exact ⟨rfl, hy⟩
  · rintro z ⟨hz, hb⟩
    have hlen := h.len
    have hin : in10 z := in10_of hb
    have hhi : in10 f.h := by unfold in10; omega
    have hs := band_nearS h z f.h
    have hst := @dn_stop l f.w f.h s z
    have hdl := @dn_lt l f.w f.h s z
    simp only [go_sem, Nat.reduceAdd, Nat.reduceMul, Nat.reduceSub, Nat.reduceEqDiff, Nat.reduceDiv, Nat.reduceLT, Nat.reduceLeDiff, reduceCtorEq, decide_true, Int.natCast_add, Int.cast_ofNat_Int, Bool.not_eq_true', Bool.not_eq_false']
    repeat' first | contradiction | intro _ | refine And.intro ?_ ?_ | refine ex_get (by omega) ?_ | (show drawB _ _ = true; kernel_rfl) | (refine ret2 [] (by simp only [go_sem, Nat.reduceAdd, Nat.reduceMul, Nat.reduceSub, Nat.reduceEqDiff, Nat.reduceDiv, Nat.reduceLT, Nat.reduceLeDiff, reduceCtorEq, decide_true, Int.natCast_add, Int.cast_ofNat_Int, Bool.not_eq_true', Bool.not_eq_false']; rfl) ?_; simp only [go_sem, Nat.reduceAdd, Nat.reduceMul, Nat.reduceSub, Nat.reduceEqDiff, Nat.reduceDiv, Nat.reduceLT, Nat.reduceLeDiff, reduceCtorEq, decide_true, Int.natCast_add, Int.cast_ofNat_Int, Bool.not_eq_true', Bool.not_eq_false']) | (refine acall2 [] (bof10_ok l z f.h s (by omega) h.near hin hhi) (by simp only [go_sem, Nat.reduceAdd, Nat.reduceMul, Nat.reduceSub, Nat.reduceEqDiff, Nat.reduceDiv, Nat.reduceLT, Nat.reduceLeDiff, reduceCtorEq, decide_true, Int.natCast_add, Int.cast_ofNat_Int, Bool.not_eq_true', Bool.not_eq_false']; rfl) (fit_of (by simp only [go_sem, Nat.reduceAdd, Nat.reduceMul, Nat.reduceSub, Nat.reduceEqDiff, Nat.reduceDiv, Nat.reduceLT, Nat.reduceLeDiff, reduceCtorEq, decide_true, Int.natCast_add, Int.cast_ofNat_Int, Bool.not_eq_true', Bool.not_eq_false']) (by simp only [go_sem, Nat.reduceAdd, Nat.reduceMul, Nat.reduceSub, Nat.reduceEqDiff, Nat.reduceDiv, Nat.reduceLT, Nat.reduceLeDiff, reduceCtorEq, decide_true, Int.natCast_add, Int.cast_ofNat_Int, Bool.not_eq_true', Bool.not_eq_false']) (by simp only [go_sem, Nat.reduceAdd, Nat.reduceMul, Nat.reduceSub, Nat.reduceEqDiff, Nat.reduceDiv, Nat.reduceLT, Nat.reduceLeDiff, reduceCtorEq, decide_true, Int.natCast_add, Int.cast_ofNat_Int, Bool.not_eq_true', Bool.not_eq_false']) (by simp only [go_sem, Nat.reduceAdd, Nat.reduceMul, Nat.reduceSub, Nat.reduceEqDiff, Nat.reduceDiv, Nat.reduceLT, Nat.reduceLeDiff, reduceCtorEq, decide_true, Int.natCast_add, Int.cast_ofNat_Int, Bool.not_eq_true', Bool.not_eq_false']) (by simp only [go_sem, Nat.reduceAdd, Nat.reduceMul, Nat.reduceSub, Nat.reduceEqDiff, Nat.reduceDiv, Nat.reduceLT, Nat.reduceLeDiff, reduceCtorEq, decide_true, Int.natCast_add, Int.cast_ofNat_Int, Bool.not_eq_true', Bool.not_eq_false']) (by simp only [go_sem, Nat.reduceAdd, Nat.reduceMul, Nat.reduceSub, Nat.reduceEqDiff, Nat.reduceDiv, Nat.reduceLT, Nat.reduceLeDiff, reduceCtorEq, decide_true, Int.natCast_add, Int.cast_ofNat_Int, Bool.not_eq_true', Bool.not_eq_false']) (by simp only [go_sem, Nat.reduceAdd, Nat.reduceMul, Nat.reduceSub, Nat.reduceEqDiff, Nat.reduceDiv, Nat.reduceLT, Nat.reduceLeDiff, reduceCtorEq, decide_true, Int.natCast_add, Int.cast_ofNat_Int, Bool.not_eq_true', Bool.not_eq_false'])) ?_; simp only [go_sem, Nat.reduceAdd, Nat.reduceMul, Nat.reduceSub, Nat.reduceEqDiff, Nat.reduceDiv, Nat.reduceLT, Nat.reduceLeDiff, reduceCtorEq, decide_true, Int.natCast_add, Int.cast_ofNat_Int, Bool.not_eq_true', Bool.not_eq_false']) | (refine acall2 [] (bnext_ok l z f.h s (by omega) h.near hin hhi) (by simp only [go_sem, Nat.reduceAdd, Nat.reduceMul, Nat.reduceSub, Nat.reduceEqDiff, Nat.reduceDiv, Nat.reduceLT, Nat.reduceLeDiff, reduceCtorEq, decide_true, Int.natCast_add, Int.cast_ofNat_Int, Bool.not_eq_true', Bool.not_eq_false']; rfl) (fit_of (by simp only [go_sem, Nat.reduceAdd, Nat.reduceMul, Nat.reduceSub, Nat.reduceEqDiff, Nat.reduceDiv, Nat.reduceLT, Nat.reduceLeDiff, reduceCtorEq, decide_true, Int.natCast_add, Int.cast_ofNat_Int, Bool.not_eq_true', Bool.not_eq_false']) (by simp only [go_sem, Nat.reduceAdd, Nat.reduceMul, Nat.reduceSub, Nat.reduceEqDiff, Nat.reduceDiv, Nat.reduceLT, Nat.reduceLeDiff, reduceCtorEq, decide_true, Int.natCast_add, Int.cast_ofNat_Int, Bool.not_eq_true', Bool.not_eq_false']) (by simp only [go_sem, Nat.reduceAdd, Nat.reduceMul, Nat.reduceSub, Nat.reduceEqDiff, Nat.reduceDiv, Nat.reduceLT, Nat.reduceLeDiff, reduceCtorEq, decide_true, Int.natCast_add, Int.cast_ofNat_Int, Bool.not_eq_true', Bool.not_eq_false']) (by simp only [go_sem, Nat.reduceAdd, Nat.reduceMul, Nat.reduceSub, Nat.reduceEqDiff, Nat.reduceDiv, Nat.reduceLT, Nat.reduceLeDiff, reduceCtorEq, decide_true, Int.natCast_add, Int.cast_ofNat_Int, Bool.not_eq_true', Bool.not_eq_false']) (by simp only [go_sem, Nat.reduceAdd, Nat.reduceMul, Nat.reduceSub, Nat.reduceEqDiff, Nat.reduceDiv, Nat.reduceLT, Nat.reduceLeDiff, reduceCtorEq, decide_true, Int.natCast_add, Int.cast_ofNat_Int, Bool.not_eq_true', Bool.not_eq_false']) (by simp only [go_sem, Nat.reduceAdd, Nat.reduceMul, Nat.reduceSub, Nat.reduceEqDiff, Nat.reduceDiv, Nat.reduceLT, Nat.reduceLeDiff, reduceCtorEq, decide_true, Int.natCast_add, Int.cast_ofNat_Int, Bool.not_eq_true', Bool.not_eq_false']) (by simp only [go_sem, Nat.reduceAdd, Nat.reduceMul, Nat.reduceSub, Nat.reduceEqDiff, Nat.reduceDiv, Nat.reduceLT, Nat.reduceLeDiff, reduceCtorEq, decide_true, Int.natCast_add, Int.cast_ofNat_Int, Bool.not_eq_true', Bool.not_eq_false'])) ?_; simp only [go_sem, Nat.reduceAdd, Nat.reduceMul, Nat.reduceSub, Nat.reduceEqDiff, Nat.reduceDiv, Nat.reduceLT, Nat.reduceLeDiff, reduceCtorEq, decide_true, Int.natCast_add, Int.cast_ofNat_Int, Bool.not_eq_true', Bool.not_eq_false']) | (refine acall2 [] (slen_ok (bandF l z f.h s) hs) (by simp only [go_sem, Nat.reduceAdd, Nat.reduceMul, Nat.reduceSub, Nat.reduceEqDiff, Nat.reduceDiv, Nat.reduceLT, Nat.reduceLeDiff, reduceCtorEq, decide_true, Int.natCast_add, Int.cast_ofNat_Int, Bool.not_eq_true', Bool.not_eq_false']; rfl) (fit_of (by simp only [go_sem, Nat.reduceAdd, Nat.reduceMul, Nat.reduceSub, Nat.reduceEqDiff, Nat.reduceDiv, Nat.reduceLT, Nat.reduceLeDiff, reduceCtorEq, decide_true, Int.natCast_add, Int.cast_ofNat_Int, Bool.not_eq_true', Bool.not_eq_false']) (by simp only [go_sem, Nat.reduceAdd, Nat.reduceMul, Nat.reduceSub, Nat.reduceEqDiff, Nat.reduceDiv, Nat.reduceLT, Nat.reduceLeDiff, reduceCtorEq, decide_true, Int.natCast_add, Int.cast_ofNat_Int, Bool.not_eq_true', Bool.not_eq_false']) (by simp only [go_sem, Nat.reduceAdd, Nat.reduceMul, Nat.reduceSub, Nat.reduceEqDiff, Nat.reduceDiv, Nat.reduceLT, Nat.reduceLeDiff, reduceCtorEq, decide_true, Int.natCast_add, Int.cast_ofNat_Int, Bool.not_eq_true', Bool.not_eq_false']) (by simp only [go_sem, Nat.reduceAdd, Nat.reduceMul, Nat.reduceSub, Nat.reduceEqDiff, Nat.reduceDiv, Nat.reduceLT, Nat.reduceLeDiff, reduceCtorEq, decide_true, Int.natCast_add, Int.cast_ofNat_Int, Bool.not_eq_true', Bool.not_eq_false']) (by simp only [go_sem, Nat.reduceAdd, Nat.reduceMul, Nat.reduceSub, Nat.reduceEqDiff, Nat.reduceDiv, Nat.reduceLT, Nat.reduceLeDiff, reduceCtorEq, decide_true, Int.natCast_add, Int.cast_ofNat_Int, Bool.not_eq_true', Bool.not_eq_false']) (by simp only [go_sem, Nat.reduceAdd, Nat.reduceMul, Nat.reduceSub, Nat.reduceEqDiff, Nat.reduceDiv, Nat.reduceLT, Nat.reduceLeDiff, reduceCtorEq, decide_true, Int.natCast_add, Int.cast_ofNat_Int, Bool.not_eq_true', Bool.not_eq_false']) (by simp only [go_sem, Nat.reduceAdd, Nat.reduceMul, Nat.reduceSub, Nat.reduceEqDiff, Nat.reduceDiv, Nat.reduceLT, Nat.reduceLeDiff, reduceCtorEq, decide_true, Int.natCast_add, Int.cast_ofNat_Int, Bool.not_eq_true', Bool.not_eq_false'])) ?_; simp only [go_sem, Nat.reduceAdd, Nat.reduceMul, Nat.reduceSub, Nat.reduceEqDiff, Nat.reduceDiv, Nat.reduceLT, Nat.reduceLeDiff, reduceCtorEq, decide_true, Int.natCast_add, Int.cast_ofNat_Int, Bool.not_eq_true', Bool.not_eq_false'])
    all_goals first
      | (rw [← hz, hst (.inl (by assumption))]; done)
      | (rw [← hz, hst (.inr (by assumption))]; done)
      | (have hns : ¬ (f.w ≤ lenS (bandF l z f.h s) ∨ (nextF l z f.h s).is = false) := by rintro (q | q) <;> simp_all
         have hlt := hdl hns
         have hnb := next_bd h.near (y := z) (H := f.h) (s := s) (by assumption)
         (refine loop_end [] ((nextF l z f.h s).n) (by simp only [go_sem, Nat.reduceAdd, Nat.reduceMul, Nat.reduceSub, Nat.reduceEqDiff, Nat.reduceDiv, Nat.reduceLT, Nat.reduceLeDiff, reduceCtorEq, decide_true, Int.natCast_add, Int.cast_ofNat_Int, Bool.not_eq_true', Bool.not_eq_false']; rfl) ?_ ?_ ?_; (focus first | omega | (simp only; omega)); (focus (simp only [go_sem, Nat.reduceAdd, Nat.reduceMul, Nat.reduceSub, Nat.reduceEqDiff, Nat.reduceDiv, Nat.reduceLT, Nat.reduceLeDiff, reduceCtorEq, decide_true, Int.natCast_add, Int.cast_ofNat_Int, Bool.not_eq_true', Bool.not_eq_false']; done)))
         refine ⟨?_, hnb⟩
         rw [← hz]
         obtain ⟨k, hk⟩ : ∃ k, cntP l z = k + 1 := ⟨cntP l z - 1, by omega⟩
         rw [hk, dn_step hns, dn_enough k _ (by omega)])
def aPla (l : List LFl) (f : LFl) (y : Int) (s : LSpan) : AV := .tup [.raw (.int .i64 (spotX l f y s)), .raw (.int .i64 (spotY l f y s))]
attribute [go_sem] aPla
theorem from_t {l : List LFl} {y : Int} (h : (mostF topF l).is = true) : fromP l y = max y (mostF topF l).n := if_pos h
theorem from_f {l : List LFl} {y : Int} (h : (mostF topF l).is = false) : fromP l y = y := if_neg (by rw [h]; decide)
theorem spotX_l {l : List LFl} {f : LFl} {y : Int} {s : LSpan} (h : f.side = 1) : spotX l f y s = (bandF l (spotY l f y s) f.h s).a := if_pos h
theorem spotX_r {l : List LFl} {f : LFl} {y : Int} {s : LSpan} (h : ¬ f.side = 1) : spotX l f y s = max (bandF l (spotY l f y s) f.h s).a ((bandF l (spotY l f y s) f.h s).b - f.w) := if_neg h
set_option maxRecDepth 100000 in
theorem spot11_ok (l : List LFl) (f : LFl) (y : Int) (s : LSpan) (h : PlaOk l f y s) : FnOk Try.prog 31 [.sl 7 (l.map cFl), aFl f, .raw (.int .i64 y), aSpan s] [] (aPla l f y s) [] := by
  refine fn_of_awp Try.func31 rfl (by kernel_rfl) (by kernel_rfl) (Nat.le_of_ble_eq_true rfl) Try.results31 ?_
  simp only [go_sem, Nat.reduceAdd, Nat.reduceMul, Nat.reduceSub, Nat.reduceEqDiff, Nat.reduceDiv, Nat.reduceLT, Nat.reduceLeDiff, reduceCtorEq, decide_true, Int.natCast_add, Int.cast_ofNat_Int, Bool.not_eq_true', Bool.not_eq_false']
  have hlen := h.len
  have hnf := nearF_iff.1 h.nf
  have hfr := from_bd h
  have hbb := band_bd h.near (y := spotY l f y s) (H := f.h) h.s
  have e1 : spotY l f y s = dnP l f.w f.h s (l.length + 1) (fromP l y) := rfl
  (refine acall2 [] (btop_ok l (by omega) h.near) (by simp only [go_sem, Nat.reduceAdd, Nat.reduceMul, Nat.reduceSub, Nat.reduceEqDiff, Nat.reduceDiv, Nat.reduceLT, Nat.reduceLeDiff, reduceCtorEq, decide_true, Int.natCast_add, Int.cast_ofNat_Int, Bool.not_eq_true', Bool.not_eq_false']; rfl) (fit_of (by simp only [go_sem, Nat.reduceAdd, Nat.reduceMul, Nat.reduceSub, Nat.reduceEqDiff, Nat.reduceDiv, Nat.reduceLT, Nat.reduceLeDiff, reduceCtorEq, decide_true, Int.natCast_add, Int.cast_ofNat_Int, Bool.not_eq_true', Bool.not_eq_false']) (by simp only [go_sem, Nat.reduceAdd, Nat.reduceMul, Nat.reduceSub, Nat.reduceEqDiff, Nat.reduceDiv, Nat.reduceLT, Nat.reduceLeDiff, reduceCtorEq, decide_true, Int.natCast_add, Int.cast_ofNat_Int, Bool.not_eq_true', Bool.not_eq_false']) (by simp only [go_sem, Nat.reduceAdd, Nat.reduceMul, Nat.reduceSub, Nat.reduceEqDiff, Nat.reduceDiv, Nat.reduceLT, Nat.reduceLeDiff, reduceCtorEq, decide_true, Int.natCast_add, Int.cast_ofNat_Int, Bool.not_eq_true', Bool.not_eq_false']) (by simp only [go_sem, Nat.reduceAdd, Nat.reduceMul, Nat.reduceSub, Nat.reduceEqDiff, Nat.reduceDiv, Nat.reduceLT, Nat.reduceLeDiff, reduceCtorEq, decide_true, Int.natCast_add, Int.cast_ofNat_Int, Bool.not_eq_true', Bool.not_eq_false']) (by simp only [go_sem, Nat.reduceAdd, Nat.reduceMul, Nat.reduceSub, Nat.reduceEqDiff, Nat.reduceDiv, Nat.reduceLT, Nat.reduceLeDiff, reduceCtorEq, decide_true, Int.natCast_add, Int.cast_ofNat_Int, Bool.not_eq_true', Bool.not_eq_false']) (by simp only [go_sem, Nat.reduceAdd, Nat.reduceMul, Nat.reduceSub, Nat.reduceEqDiff, Nat.reduceDiv, Nat.reduceLT, Nat.reduceLeDiff, reduceCtorEq, decide_true, Int.natCast_add, Int.cast_ofNat_Int, Bool.not_eq_true', Bool.not_eq_false']) (by simp only [go_sem, Nat.reduceAdd, Nat.reduceMul, Nat.reduceSub, Nat.reduceEqDiff, Nat.reduceDiv, Nat.reduceLT, Nat.reduceLeDiff, reduceCtorEq, decide_true, Int.natCast_add, Int.cast_ofNat_Int, Bool.not_eq_true', Bool.not_eq_false'])) ?_; simp only [go_sem, Nat.reduceAdd, Nat.reduceMul, Nat.reduceSub, Nat.reduceEqDiff, Nat.reduceDiv, Nat.reduceLT, Nat.reduceLeDiff, reduceCtorEq, decide_true, Int.natCast_add, Int.cast_ofNat_Int, Bool.not_eq_true', Bool.not_eq_false'])
  refine ⟨fun ht => ?_, fun ht => ?_⟩
  · rw [from_t ht] at e1 hfr
    (refine acall2 [] (down11_ok l f y s h (max y (mostF topF l).n) hfr) (by simp only [go_sem, Nat.reduceAdd, Nat.reduceMul, Nat.reduceSub, Nat.reduceEqDiff, Nat.reduceDiv, Nat.reduceLT, Nat.reduceLeDiff, reduceCtorEq, decide_true, Int.natCast_add, Int.cast_ofNat_Int, Bool.not_eq_true', Bool.not_eq_false']; rfl) (fit_of (by simp only [go_sem, Nat.reduceAdd, Nat.reduceMul, Nat.reduceSub, Nat.reduceEqDiff, Nat.reduceDiv, Nat.reduceLT, Nat.reduceLeDiff, reduceCtorEq, decide_true, Int.natCast_add, Int.cast_ofNat_Int, Bool.not_eq_true', Bool.not_eq_false']) (by simp only [go_sem, Nat.reduceAdd, Nat.reduceMul, Nat.reduceSub, Nat.reduceEqDiff, Nat.reduceDiv, Nat.reduceLT, Nat.reduceLeDiff, reduceCtorEq, decide_true, Int.natCast_add, Int.cast_ofNat_Int, Bool.not_eq_true', Bool.not_eq_false']) (by simp only [go_sem, Nat.reduceAdd, Nat.reduceMul, Nat.reduceSub, Nat.reduceEqDiff, Nat.reduceDiv, Nat.reduceLT, Nat.reduceLeDiff, reduceCtorEq, decide_true, Int.natCast_add, Int.cast_ofNat_Int, Bool.not_eq_true', Bool.not_eq_false']) (by simp only [go_sem, Nat.reduceAdd, Nat.reduceMul, Nat.reduceSub, Nat.reduceEqDiff, Nat.reduceDiv, Nat.reduceLT, Nat.reduceLeDiff, reduceCtorEq, decide_true, Int.natCast_add, Int.cast_ofNat_Int, Bool.not_eq_true', Bool.not_eq_false']) (by simp only [go_sem, Nat.reduceAdd, Nat.reduceMul, Nat.reduceSub, Nat.reduceEqDiff, Nat.reduceDiv, Nat.reduceLT, Nat.reduceLeDiff, reduceCtorEq, decide_true, Int.natCast_add, Int.cast_ofNat_Int, Bool.not_eq_true', Bool.not_eq_false']) (by simp only [go_sem, Nat.reduceAdd, Nat.reduceMul, Nat.reduceSub, Nat.reduceEqDiff, Nat.reduceDiv, Nat.reduceLT, Nat.reduceLeDiff, reduceCtorEq, decide_true, Int.natCast_add, Int.cast_ofNat_Int, Bool.not_eq_true', Bool.not_eq_false']) (by simp only [go_sem, Nat.reduceAdd, Nat.reduceMul, Nat.reduceSub, Nat.reduceEqDiff, Nat.reduceDiv, Nat.reduceLT, Nat.reduceLeDiff, reduceCtorEq, decide_true, Int.natCast_add, Int.cast_ofNat_Int, Bool.not_eq_true', Bool.not_eq_false'])) ?_; simp only [go_sem, Nat.reduceAdd, Nat.reduceMul, Nat.reduceSub, Nat.reduceEqDiff, Nat.reduceDiv, Nat.reduceLT, Nat.reduceLeDiff, reduceCtorEq, decide_true, Int.natCast_add, Int.cast_ofNat_Int, Bool.not_eq_true', Bool.not_eq_false', ← e1])
    repeat' first | contradiction | intro _ | refine And.intro ?_ ?_ | refine ex_get (by omega) ?_ | (show drawB _ _ = true; kernel_rfl) | (refine ret2 [] (by simp only [go_sem, Nat.reduceAdd, Nat.reduceMul, Nat.reduceSub, Nat.reduceEqDiff, Nat.reduceDiv, Nat.reduceLT, Nat.reduceLeDiff, reduceCtorEq, decide_true, Int.natCast_add, Int.cast_ofNat_Int, Bool.not_eq_true', Bool.not_eq_false']; rfl) ?_; simp only [go_sem, Nat.reduceAdd, Nat.reduceMul, Nat.reduceSub, Nat.reduceEqDiff, Nat.reduceDiv, Nat.reduceLT, Nat.reduceLeDiff, reduceCtorEq, decide_true, Int.natCast_add, Int.cast_ofNat_Int, Bool.not_eq_true', Bool.not_eq_false'])
    all_goals first | omega | (rw [spotX_l (by assumption)]; done) | (rw [spotX_r (by assumption)]; done)
  · rw [from_f ht] at e1 hfr
    (refine acall2 [] (down11_ok l f y s h y hfr) (by simp only [go_sem, Nat.reduceAdd, Nat.reduceMul, Nat.reduceSub, Nat.reduceEqDiff, Nat.reduceDiv, Nat.reduceLT, Nat.reduceLeDiff, reduceCtorEq, decide_true, Int.natCast_add, Int.cast_ofNat_Int, Bool.not_eq_true', Bool.not_eq_false']; rfl) (fit_of (by simp only [go_sem, Nat.reduceAdd, Nat.reduceMul, Nat.reduceSub, Nat.reduceEqDiff, Nat.reduceDiv, Nat.reduceLT, Nat.reduceLeDiff, reduceCtorEq, decide_true, Int.natCast_add, Int.cast_ofNat_Int, Bool.not_eq_true', Bool.not_eq_false']) (by simp only [go_sem, Nat.reduceAdd, Nat.reduceMul, Nat.reduceSub, Nat.reduceEqDiff, Nat.reduceDiv, Nat.reduceLT, Nat.reduceLeDiff, reduceCtorEq, decide_true, Int.natCast_add, Int.cast_ofNat_Int, Bool.not_eq_true', Bool.not_eq_false']) (by simp only [go_sem, Nat.reduceAdd, Nat.reduceMul, Nat.reduceSub, Nat.reduceEqDiff, Nat.reduceDiv, Nat.reduceLT, Nat.reduceLeDiff, reduceCtorEq, decide_true, Int.natCast_add, Int.cast_ofNat_Int, Bool.not_eq_true', Bool.not_eq_false']) (by simp only [go_sem, Nat.reduceAdd, Nat.reduceMul, Nat.reduceSub, Nat.reduceEqDiff, Nat.reduceDiv, Nat.reduceLT, Nat.reduceLeDiff, reduceCtorEq, decide_true, Int.natCast_add, Int.cast_ofNat_Int, Bool.not_eq_true', Bool.not_eq_false']) (by simp only [go_sem, Nat.reduceAdd, Nat.reduceMul, Nat.reduceSub, Nat.reduceEqDiff, Nat.reduceDiv, Nat.reduceLT, Nat.reduceLeDiff, reduceCtorEq, decide_true, Int.natCast_add, Int.cast_ofNat_Int, Bool.not_eq_true', Bool.not_eq_false']) (by simp only [go_sem, Nat.reduceAdd, Nat.reduceMul, Nat.reduceSub, Nat.reduceEqDiff, Nat.reduceDiv, Nat.reduceLT, Nat.reduceLeDiff, reduceCtorEq, decide_true, Int.natCast_add, Int.cast_ofNat_Int, Bool.not_eq_true', Bool.not_eq_false']) (by simp only [go_sem, Nat.reduceAdd, Nat.reduceMul, Nat.reduceSub, Nat.reduceEqDiff, Nat.reduceDiv, Nat.reduceLT, Nat.reduceLeDiff, reduceCtorEq, decide_true, Int.natCast_add, Int.cast_ofNat_Int, Bool.not_eq_true', Bool.not_eq_false'])) ?_; simp only [go_sem, Nat.reduceAdd, Nat.reduceMul, Nat.reduceSub, Nat.reduceEqDiff, Nat.reduceDiv, Nat.reduceLT, Nat.reduceLeDiff, reduceCtorEq, decide_true, Int.natCast_add, Int.cast_ofNat_Int, Bool.not_eq_true', Bool.not_eq_false', ← e1])
    repeat' first | contradiction | intro _ | refine And.intro ?_ ?_ | refine ex_get (by omega) ?_ | (show drawB _ _ = true; kernel_rfl) | (refine ret2 [] (by simp only [go_sem, Nat.reduceAdd, Nat.reduceMul, Nat.reduceSub, Nat.reduceEqDiff, Nat.reduceDiv, Nat.reduceLT, Nat.reduceLeDiff, reduceCtorEq, decide_true, Int.natCast_add, Int.cast_ofNat_Int, Bool.not_eq_true', Bool.not_eq_false']; rfl) ?_; simp only [go_sem, Nat.reduceAdd, Nat.reduceMul, Nat.reduceSub, Nat.reduceEqDiff, Nat.reduceDiv, Nat.reduceLT, Nat.reduceLeDiff, reduceCtorEq, decide_true, Int.natCast_add, Int.cast_ofNat_Int, Bool.not_eq_true', Bool.not_eq_false'])
    all_goals first | omega | (rw [spotX_l (by assumption)]; done) | (rw [spotX_r (by assumption)]; done)
end Go.Proofs.Ytdpaflhlgaffdaa
