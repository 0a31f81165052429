/- CONTRACTS of the functions, and plain laws, joined out of: GPlaA GPlaB WorP WorL G16 GWorA GWorB GLinA GLinB GTreK GTreL GTreM GTreN GTreO GTreP GPenA GFloA GFloB GChkB GChkC GChkD. -/
import Derived.Test.YtblmebjhhanoaaaChecked
import Derived.Test.YtblmebjhhanoaaaKA151
/- CHAPTER 11: place; where a float goes. -/
/- G -/
/- BOOLS -/
set_option linter.unusedSimpArgs false
set_option linter.unusedVariables false
namespace Go.Proofs.Ytblmebjhhanoaaa
open Go.RowKit

/-- down from a height, as many steps as told at most. -/
def dnP (l : List LFl) (W H : Int) (s : LSpan) : Nat → Int → Int
  | 0, y => y
  | n + 1, y => if W ≤ lenS (bandF l y H s) ∨ (nextF l y H s).is = false then y else dnP l W H s n (nextF l y H s).n
def cntP (l : List LFl) (y : Int) : Nat := (l.filter fun f => decide (y < f.y + f.h)).length
theorem fold_inv {α β : Type} {f : α → β → α} {P : α → Prop} : ∀ (l : List β) (a : α), P a → (∀ a, ∀ b ∈ l, P a → P (f a b)) → P (l.foldl f a)
  | [], a, h, _ => h
  | b :: l, a, h, hs => by rw [List.foldl_cons]; exact fold_inv l _ (hs a b List.mem_cons_self h) fun a c hc => hs a c (List.mem_cons_of_mem _ hc)
theorem next_bot {l : List LFl} {y H : Int} {s : LSpan} : (nextF l y H s).is = true → ∃ f ∈ l, (nextF l y H s).n = f.y + f.h ∧ y < f.y + f.h := by
  refine fold_inv (P := fun o : LIs => o.is = true → ∃ f ∈ l, o.n = f.y + f.h ∧ y < f.y + f.h) l ⟨0, false⟩ (fun h => by cases h) fun o f hf ih h => ?_
  unfold nextT at h ⊢
  split at h
  · next hc =>
    rw [if_pos hc]
    have := hc.1
    rw [meetF, decide_eq_true_eq] at this
    exact ⟨f, hf, rfl, this.2.2⟩
  · next hc => rw [if_neg hc]; exact ih h
theorem top_at {l : List LFl} : (mostF topF l).is = true → ∃ f ∈ l, (mostF topF l).n = f.y := by
  refine fold_inv (P := fun o : LIs => o.is = true → ∃ f ∈ l, o.n = f.y) l ⟨0, false⟩ (fun h => by cases h) fun o f hf ih h => ?_
  unfold mostT at h ⊢
  split at h
  · next hc => rw [if_pos hc]; exact ⟨f, hf, rfl⟩
  · next hc => rw [if_neg hc]; exact ih h
theorem cnt_le (l : List LFl) (y : Int) : cntP l y ≤ l.length := List.length_filter_le _ _
theorem cnt_lt {l : List LFl} {y n : Int} (h : ∃ f ∈ l, n = f.y + f.h ∧ y < f.y + f.h) : cntP l n < cntP l y := by
  obtain ⟨f, hf, rfl, hy⟩ := h
  unfold cntP
  induction l with
  | nil => cases hf
  | cons g l ih =>
    have hm : ∀ (l : List LFl), (l.filter fun g => decide (f.y + f.h < g.y + g.h)).length ≤ (l.filter fun g => decide (y < g.y + g.h)).length := by
      intro l
      induction l with
      | nil => exact Nat.le_refl _
      | cons g l ih =>
        rw [List.filter_cons, List.filter_cons]
        by_cases h1 : f.y + f.h < g.y + g.h
        · rw [if_pos (by simpa using h1), if_pos (by simp; omega)]; simpa using ih
        · rw [if_neg (by simpa using h1)]
          split
          · exact Nat.le_succ_of_le ih
          · exact ih
    rw [List.filter_cons, List.filter_cons]
    rcases List.mem_cons.1 hf with rfl | hf
    · rw [if_neg (by simp), if_pos (by simpa using hy)]
      exact Nat.lt_succ_of_le (hm l)
    · have := ih hf
      by_cases h1 : f.y + f.h < g.y + g.h
      · rw [if_pos (by simpa using h1), if_pos (by simp; omega)]; simpa using this
      · rw [if_neg (by simpa using h1)]
        split
        · exact Nat.lt_succ_of_lt this
        · exact this
theorem dn_stop {l : List LFl} {W H : Int} {s : LSpan} {y : Int} (h : W ≤ lenS (bandF l y H s) ∨ (nextF l y H s).is = false) : ∀ n, dnP l W H s n y = y
  | 0 => rfl
  | n + 1 => by unfold dnP; rw [if_pos h]
theorem dn_step {l : List LFl} {W H : Int} {s : LSpan} {y : Int} {n : Nat} (h : ¬ (W ≤ lenS (bandF l y H s) ∨ (nextF l y H s).is = false)) : dnP l W H s (n + 1) y = dnP l W H s n (nextF l y H s).n := by
  rw [dnP, if_neg h]
theorem dn_lt {l : List LFl} {W H : Int} {s : LSpan} {y : Int} (h : ¬ (W ≤ lenS (bandF l y H s) ∨ (nextF l y H s).is = false)) : cntP l (nextF l y H s).n < cntP l y :=
  cnt_lt (next_bot (by
    cases hq : (nextF l y H s).is with
    | false => exact absurd (.inr hq) h
    | true => rfl))
theorem dn_enough {l : List LFl} {W H : Int} {s : LSpan} : ∀ (m : Nat) (y : Int), cntP l y ≤ m → dnP l W H s m y = dnP l W H s (cntP l y) y
  | 0, y, h => by rw [Nat.le_zero.1 h]
  | m + 1, y, h => by
    by_cases hs : W ≤ lenS (bandF l y H s) ∨ (nextF l y H s).is = false
    · rw [dn_stop hs, dn_stop hs]
    · have hl := dn_lt hs
      obtain ⟨k, hk⟩ : ∃ k, cntP l y = k + 1 := ⟨cntP l y - 1, by omega⟩
      rw [hk, dn_step hs, dn_step hs, dn_enough m _ (by omega), dn_enough k _ (by omega)]
theorem next_bd {l : List LFl} (hn : l.all nearF = true) {y H : Int} {s : LSpan} (h : (nextF l y H s).is = true) : -2251799813685248 ≤ (nextF l y H s).n ∧ (nextF l y H s).n ≤ 2251799813685248 := by
  obtain ⟨f, hf, e, -⟩ := next_bot h
  have := nearF_iff.1 (List.all_eq_true.1 hn f hf)
  omega
theorem band_bd {l : List LFl} (hn : l.all nearF = true) {y H : Int} {s : LSpan} (h : (-1125899906842624 ≤ s.a ∧ s.a ≤ 1125899906842624) ∧ (-1125899906842624 ≤ s.b ∧ s.b ≤ 1125899906842624)) : (-2251799813685248 ≤ (bandF l y H s).a ∧ (bandF l y H s).a ≤ 2251799813685248) ∧ (-2251799813685248 ≤ (bandF l y H s).b ∧ (bandF l y H s).b ≤ 2251799813685248) := by
  refine fold_inv (P := fun o : LSpan => (-2251799813685248 ≤ o.a ∧ o.a ≤ 2251799813685248) ∧ (-2251799813685248 ≤ o.b ∧ o.b ≤ 2251799813685248)) l s (by omega) fun o f hf ih => ?_
  have := nearF_iff.1 (List.all_eq_true.1 hn f hf)
  unfold ofT cutF
  split
  · split <;> (simp only; omega)
  · exact ih
def fromP (l : List LFl) (y : Int) : Int := if (mostF topF l).is = true then max y (mostF topF l).n else y
def spotY (l : List LFl) (f : LFl) (y : Int) (s : LSpan) : Int := dnP l f.w f.h s (l.length + 1) (fromP l y)
def spotX (l : List LFl) (f : LFl) (y : Int) (s : LSpan) : Int := if f.side = 1 then (bandF l (spotY l f y s) f.h s).a else max (bandF l (spotY l f y s) f.h s).a ((bandF l (spotY l f y s) f.h s).b - f.w)
def setP (l : List LFl) (f : LFl) (y : Int) (s : LSpan) : LFl := ⟨f.node, f.side, f.anchor, spotX l f y s, spotY l f y s, f.w, f.h⟩
structure PlaOk (l : List LFl) (f : LFl) (y : Int) (s : LSpan) : Prop where
  len : l.length ≤ 60
  near : l.all nearF = true
  nf : nearF f = true
  y : -1125899906842624 ≤ y ∧ y ≤ 1125899906842624
  s : (-1125899906842624 ≤ s.a ∧ s.a ≤ 1125899906842624) ∧ (-1125899906842624 ≤ s.b ∧ s.b ≤ 1125899906842624)
theorem from_bd {l : List LFl} {f : LFl} {y : Int} {s : LSpan} (h : PlaOk l f y s) : -2251799813685248 ≤ fromP l y ∧ fromP l y ≤ 2251799813685248 := by
  have hy := h.y
  unfold fromP
  split
  · next ht =>
    obtain ⟨g, hg, e⟩ := top_at ht
    have := nearF_iff.1 (List.all_eq_true.1 h.near g hg)
    omega
  · omega
theorem band_nearS {l : List LFl} {f : LFl} {y : Int} {s : LSpan} (h : PlaOk l f y s) (y' H : Int) : nearS (bandF l y' H s) := by
  have := band_bd h.near (y := y') (H := H) h.s
  unfold nearS
  omega
def aSch (l : List LFl) (f : LFl) (s : LSpan) : AV := .agg [.raw (.int .i64 f.node), .raw (.int .i64 f.side), .raw (.int .i64 f.anchor), .raw (.int .i64 f.x), .raw (.int .i64 f.y), .raw (.int .i64 f.w), .raw (.int .i64 f.h), .sl 7 (l.map cFl), .raw (.int .i64 s.a), .raw (.int .i64 s.b)]
attribute [go_sem] aSch
theorem in10_of {y : Int} (h : -2251799813685248 ≤ y ∧ y ≤ 2251799813685248) : in10 y := by unfold in10; omega
set_option maxRecDepth 100000 in
theorem down11_ok (l : List LFl) (f : LFl) (y0 : Int) (s : LSpan) (h : PlaOk l f y0 s) (y : Int) (hy : -2251799813685248 ≤ y ∧ y ≤ 2251799813685248) : FnOk Try.prog 128 [aSch l f s, .raw (.int .i64 y)] []
    (.tup [aSpan (bandF l (dnP l f.w f.h s (l.length + 1) y) f.h s), .raw (.int .i64 (dnP l f.w f.h s (l.length + 1) y))]) [] := by
  refine fn_of_awp Try.func128 rfl (by kernel_rfl) (by kernel_rfl) (Nat.le_of_ble_eq_true rfl) Try.results128 ?_
  simp only [go_sem, Bool.not_eq_true', Bool.not_eq_false']
  rw [dn_enough _ _ (Nat.le_succ_of_le (cnt_le l y))]
  have hnf := nearF_iff.1 h.nf
  refine aloop2 [] (fun z : Int => ⟨[(1, .raw (.int .i64 z)), (2, .hdr 8), (4, .hdr 16)], [(8, some (.cells 177 [.raw (.int .i64 f.node), .raw (.int .i64 f.side), .raw (.int .i64 f.anchor), .raw (.int .i64 f.x), .raw (.int .i64 f.y), .raw (.int .i64 f.w), .raw (.int .i64 f.h), .sl 7 (l.map cFl), .raw (.int .i64 s.a), .raw (.int .i64 s.b)])), (16, some (.cells 87 [.raw (.int .i64 0), .raw (.int .i64 0)]))], none⟩) (fun z => dnP l f.w f.h s (cntP l z) z = dnP l f.w f.h s (cntP l y) y ∧ -2251799813685248 ≤ z ∧ z ≤ 2251799813685248) (fun z => cntP l z) 4 y (by simp only [go_sem, Bool.not_eq_true', Bool.not_eq_false']; rfl) (by simp only [go_sem, Bool.not_eq_true', Bool.not_eq_false']) ?_ ?_
  · exact ⟨rfl, hy⟩
  · rintro z ⟨hz, hb⟩
    have hlen := h.len
    have hin : in10 z := in10_of hb
    have hhi : in10 f.h := by unfold in10; omega
    have hs := band_nearS h z f.h
    have hst := @dn_stop l f.w f.h s z
    have hdl := @dn_lt l f.w f.h s z
    simp only [go_sem, Bool.not_eq_true', Bool.not_eq_false']
    repeat' first | contradiction | intro _ | refine And.intro ?_ ?_ | refine ex_get (by omega) ?_ | (show drawB _ _ = true; kernel_rfl) | (refine ret2 [] (by simp only [go_sem, Bool.not_eq_true', Bool.not_eq_false']; rfl) ?_; simp only [go_sem, Bool.not_eq_true', Bool.not_eq_false']) | (refine acall2 [] (bof10_ok l z f.h s (by omega) h.near hin hhi) (by simp only [go_sem, Bool.not_eq_true', Bool.not_eq_false']; rfl) (fit_of (by simp only [go_sem, Bool.not_eq_true', Bool.not_eq_false']) (by simp only [go_sem, Bool.not_eq_true', Bool.not_eq_false']) (by simp only [go_sem, Bool.not_eq_true', Bool.not_eq_false']) (by simp only [go_sem, Bool.not_eq_true', Bool.not_eq_false']) (by simp only [go_sem, Bool.not_eq_true', Bool.not_eq_false']) (by simp only [go_sem, Bool.not_eq_true', Bool.not_eq_false']) (by simp only [go_sem, Bool.not_eq_true', Bool.not_eq_false'])) ?_; simp only [go_sem, Bool.not_eq_true', Bool.not_eq_false']) | (refine acall2 [] (bnext_ok l z f.h s (by omega) h.near hin hhi) (by simp only [go_sem, Bool.not_eq_true', Bool.not_eq_false']; rfl) (fit_of (by simp only [go_sem, Bool.not_eq_true', Bool.not_eq_false']) (by simp only [go_sem, Bool.not_eq_true', Bool.not_eq_false']) (by simp only [go_sem, Bool.not_eq_true', Bool.not_eq_false']) (by simp only [go_sem, Bool.not_eq_true', Bool.not_eq_false']) (by simp only [go_sem, Bool.not_eq_true', Bool.not_eq_false']) (by simp only [go_sem, Bool.not_eq_true', Bool.not_eq_false']) (by simp only [go_sem, Bool.not_eq_true', Bool.not_eq_false'])) ?_; simp only [go_sem, Bool.not_eq_true', Bool.not_eq_false']) | (refine acall2 [] (slen_ok (bandF l z f.h s) hs) (by simp only [go_sem, Bool.not_eq_true', Bool.not_eq_false']; rfl) (fit_of (by simp only [go_sem, Bool.not_eq_true', Bool.not_eq_false']) (by simp only [go_sem, Bool.not_eq_true', Bool.not_eq_false']) (by simp only [go_sem, Bool.not_eq_true', Bool.not_eq_false']) (by simp only [go_sem, Bool.not_eq_true', Bool.not_eq_false']) (by simp only [go_sem, Bool.not_eq_true', Bool.not_eq_false']) (by simp only [go_sem, Bool.not_eq_true', Bool.not_eq_false']) (by simp only [go_sem, Bool.not_eq_true', Bool.not_eq_false'])) ?_; simp only [go_sem, Bool.not_eq_true', Bool.not_eq_false'])
    all_goals first
      | (rw [← hz, hst (.inl (by assumption))]; done)
      | (rw [← hz, hst (.inr (by assumption))]; done)
      | (have hns : ¬ (f.w ≤ lenS (bandF l z f.h s) ∨ (nextF l z f.h s).is = false) := by rintro (q | q) <;> simp_all
         have hlt := hdl hns
         have hnb := next_bd h.near (y := z) (H := f.h) (s := s) (by assumption)
         (refine loop_end [] ((nextF l z f.h s).n) (by simp only [go_sem, Bool.not_eq_true', Bool.not_eq_false']; rfl) ?_ ?_ ?_; (focus first | omega | (simp only; omega)); (focus (simp only [go_sem, Bool.not_eq_true', Bool.not_eq_false']; done)))
         refine ⟨?_, hnb⟩
         rw [← hz]
         obtain ⟨k, hk⟩ : ∃ k, cntP l z = k + 1 := ⟨cntP l z - 1, by omega⟩
         rw [hk, dn_step hns, dn_enough k _ (by omega)])
def aPla (l : List LFl) (f : LFl) (y : Int) (s : LSpan) : AV := .tup [.raw (.int .i64 (spotX l f y s)), .raw (.int .i64 (spotY l f y s))]
attribute [go_sem] aPla
theorem from_t {l : List LFl} {y : Int} (h : (mostF topF l).is = true) : fromP l y = max y (mostF topF l).n := if_pos h
theorem from_f {l : List LFl} {y : Int} (h : (mostF topF l).is = false) : fromP l y = y := if_neg (by rw [h]; decide)
theorem spotX_l {l : List LFl} {f : LFl} {y : Int} {s : LSpan} (h : f.side = 1) : spotX l f y s = (bandF l (spotY l f y s) f.h s).a := if_pos h
theorem spotX_r {l : List LFl} {f : LFl} {y : Int} {s : LSpan} (h : ¬ f.side = 1) : spotX l f y s = max (bandF l (spotY l f y s) f.h s).a ((bandF l (spotY l f y s) f.h s).b - f.w) := if_neg h
set_option maxRecDepth 100000 in
theorem spot11_ok (l : List LFl) (f : LFl) (y : Int) (s : LSpan) (h : PlaOk l f y s) : FnOk Try.prog 105 [.sl 7 (l.map cFl), aFl f, .raw (.int .i64 y), aSpan s] [] (aPla l f y s) [] := by
  refine fn_of_awp Try.func105 rfl (by kernel_rfl) (by kernel_rfl) (Nat.le_of_ble_eq_true rfl) Try.results105 ?_
  simp only [go_sem, Bool.not_eq_true', Bool.not_eq_false']
  have hlen := h.len
  have hnf := nearF_iff.1 h.nf
  have hfr := from_bd h
  have hbb := band_bd h.near (y := spotY l f y s) (H := f.h) h.s
  have e1 : spotY l f y s = dnP l f.w f.h s (l.length + 1) (fromP l y) := rfl
  (refine acall2 [] (btop_ok l (by omega) h.near) (by simp only [go_sem, Bool.not_eq_true', Bool.not_eq_false']; rfl) (fit_of (by simp only [go_sem, Bool.not_eq_true', Bool.not_eq_false']) (by simp only [go_sem, Bool.not_eq_true', Bool.not_eq_false']) (by simp only [go_sem, Bool.not_eq_true', Bool.not_eq_false']) (by simp only [go_sem, Bool.not_eq_true', Bool.not_eq_false']) (by simp only [go_sem, Bool.not_eq_true', Bool.not_eq_false']) (by simp only [go_sem, Bool.not_eq_true', Bool.not_eq_false']) (by simp only [go_sem, Bool.not_eq_true', Bool.not_eq_false'])) ?_; simp only [go_sem, Bool.not_eq_true', Bool.not_eq_false'])
  refine ⟨fun ht => ?_, fun ht => ?_⟩
  · rw [from_t ht] at e1 hfr
    (refine acall2 [] (down11_ok l f y s h (max y (mostF topF l).n) hfr) (by simp only [go_sem, Bool.not_eq_true', Bool.not_eq_false']; rfl) (fit_of (by simp only [go_sem, Bool.not_eq_true', Bool.not_eq_false']) (by simp only [go_sem, Bool.not_eq_true', Bool.not_eq_false']) (by simp only [go_sem, Bool.not_eq_true', Bool.not_eq_false']) (by simp only [go_sem, Bool.not_eq_true', Bool.not_eq_false']) (by simp only [go_sem, Bool.not_eq_true', Bool.not_eq_false']) (by simp only [go_sem, Bool.not_eq_true', Bool.not_eq_false']) (by simp only [go_sem, Bool.not_eq_true', Bool.not_eq_false'])) ?_; simp only [go_sem, Bool.not_eq_true', Bool.not_eq_false', ← e1])
    repeat' first | contradiction | intro _ | refine And.intro ?_ ?_ | refine ex_get (by omega) ?_ | (show drawB _ _ = true; kernel_rfl) | (refine ret2 [] (by simp only [go_sem, Bool.not_eq_true', Bool.not_eq_false']; rfl) ?_; simp only [go_sem, Bool.not_eq_true', Bool.not_eq_false'])
    all_goals first | omega | (rw [spotX_l (by assumption)]; done) | (rw [spotX_r (by assumption)]; done)
  · rw [from_f ht] at e1 hfr
    (refine acall2 [] (down11_ok l f y s h y hfr) (by simp only [go_sem, Bool.not_eq_true', Bool.not_eq_false']; rfl) (fit_of (by simp only [go_sem, Bool.not_eq_true', Bool.not_eq_false']) (by simp only [go_sem, Bool.not_eq_true', Bool.not_eq_false']) (by simp only [go_sem, Bool.not_eq_true', Bool.not_eq_false']) (by simp only [go_sem, Bool.not_eq_true', Bool.not_eq_false']) (by simp only [go_sem, Bool.not_eq_true', Bool.not_eq_false']) (by simp only [go_sem, Bool.not_eq_true', Bool.not_eq_false']) (by simp only [go_sem, Bool.not_eq_true', Bool.not_eq_false'])) ?_; simp only [go_sem, Bool.not_eq_true', Bool.not_eq_false', ← e1])
    repeat' first | contradiction | intro _ | refine And.intro ?_ ?_ | refine ex_get (by omega) ?_ | (show drawB _ _ = true; kernel_rfl) | (refine ret2 [] (by simp only [go_sem, Bool.not_eq_true', Bool.not_eq_false']; rfl) ?_; simp only [go_sem, Bool.not_eq_true', Bool.not_eq_false'])
    all_goals first | omega | (rw [spotX_l (by assumption)]; done) | (rw [spotX_r (by assumption)]; done)
end Go.Proofs.Ytblmebjhhanoaaa
/- CHAPTER 11: the document's answer; placing. -/
/- G -/
/- BOOLS -/
set_option linter.unusedSimpArgs false
set_option linter.unusedVariables false
namespace Go.Proofs.Ytblmebjhhanoaaa
open Go.RowKit

set_option maxRecDepth 100000 in
theorem rnone2_ok (s : LSpan) : FnOk Try.prog 139 [aSpan s] [] (.raw (.bool (emS s))) [] := by
  refine fn_of_awp Try.func139 rfl (by kernel_rfl) (by kernel_rfl) (Nat.le_of_ble_eq_true rfl) Try.results139 ?_
  simp only [go_sem, Bool.not_eq_true', Bool.not_eq_false']
  rfl
set_option maxRecDepth 100000 in
theorem rlen2_ok (s : LSpan) (hs : nearS s) : FnOk Try.prog 120 [aSpan s] [] (.raw (.int .i64 (lenS s))) [] := by
  refine fn_of_awp Try.func120 rfl (by kernel_rfl) (by kernel_rfl) (Nat.le_of_ble_eq_true rfl) Try.results120 ?_
  simp only [go_sem, Bool.not_eq_true', Bool.not_eq_false']
  unfold nearS at hs
  repeat' first | contradiction | intro _ | refine And.intro ?_ ?_ | refine ex_get (by omega) ?_ | (show drawB _ _ = true; kernel_rfl) | (refine ret2 [] (by simp only [go_sem, Bool.not_eq_true', Bool.not_eq_false']; rfl) ?_; simp only [go_sem, Bool.not_eq_true', Bool.not_eq_false']) | (refine acall2 [] (rnone2_ok s) (by simp only [go_sem, Bool.not_eq_true', Bool.not_eq_false']; rfl) (fit_of (by simp only [go_sem, Bool.not_eq_true', Bool.not_eq_false']) (by simp only [go_sem, Bool.not_eq_true', Bool.not_eq_false']) (by simp only [go_sem, Bool.not_eq_true', Bool.not_eq_false']) (by simp only [go_sem, Bool.not_eq_true', Bool.not_eq_false']) (by simp only [go_sem, Bool.not_eq_true', Bool.not_eq_false']) (by simp only [go_sem, Bool.not_eq_true', Bool.not_eq_false']) (by simp only [go_sem, Bool.not_eq_true', Bool.not_eq_false'])) ?_; simp only [go_sem, Bool.not_eq_true', Bool.not_eq_false'])
  all_goals (unfold emS at *; simp_all [lenS]; try omega)
set_option maxRecDepth 100000 in
set_option maxHeartbeats 4000000 in
theorem rspot11_ok (l : List LFl) (f : LFl) (y : Int) (s : LSpan) (h : PlaOk l f y s) : FnOk Try.prog 121 [.sl 7 (l.map cFl), aFl f, .raw (.int .i64 y), aSpan s] [] (aPla l f y s) [] := by
  refine fn_of_awp Try.func121 rfl (by kernel_rfl) (by kernel_rfl) (Nat.le_of_ble_eq_true rfl) Try.results121 ?_
  simp only [go_sem, Bool.not_eq_true', Bool.not_eq_false']
  have hlen := h.len
  have hnf := nearF_iff.1 h.nf
  have hfr := from_bd h
  have hbb := band_bd h.near (y := spotY l f y s) (H := f.h) h.s
  have e1 : spotY l f y s = dnP l f.w f.h s (l.length + 1) (fromP l y) := rfl
  have hhi : in10 f.h := by unfold in10; omega
  have hof : ∀ z, -2251799813685248 ≤ z ∧ z ≤ 2251799813685248 → in10 z := fun z hz => in10_of hz
  (refine acall2 [] (rtop_ok l (by omega)) (by simp only [go_sem, Bool.not_eq_true', Bool.not_eq_false']; rfl) (fit_of (by simp only [go_sem, Bool.not_eq_true', Bool.not_eq_false']) (by simp only [go_sem, Bool.not_eq_true', Bool.not_eq_false']) (by simp only [go_sem, Bool.not_eq_true', Bool.not_eq_false']) (by simp only [go_sem, Bool.not_eq_true', Bool.not_eq_false']) (by simp only [go_sem, Bool.not_eq_true', Bool.not_eq_false']) (by simp only [go_sem, Bool.not_eq_true', Bool.not_eq_false']) (by simp only [go_sem, Bool.not_eq_true', Bool.not_eq_false'])) ?_; simp only [go_sem, Bool.not_eq_true', Bool.not_eq_false'])
  refine ⟨fun ht => ⟨fun hm => ?_, fun hm => ?_⟩, fun ht => ?_⟩
  · have e3 : fromP l y = (mostF topF l).n := (by rw [from_t ht]; omega)
    rw [e3] at e1 hfr
    refine aloop2 [] (fun z : KX Int => ⟨[(0, .sl 7 (l.map cFl)), (2, .raw (.int .i64 z.o)), (5, .hdr 8), (7, .hdr 16), (8, .raw (.int .i64 0)), (9, .raw (.int .i64 0)), (12, .raw (.int .i64 z.k))], [(8, some (.cells 39 [.raw (.int .i64 f.node), .raw (.int .i64 f.side), .raw (.int .i64 f.anchor), .raw (.int .i64 f.x), .raw (.int .i64 f.y), .raw (.int .i64 f.w), .raw (.int .i64 f.h)])), (16, some (.cells 87 [.raw (.int .i64 s.a), .raw (.int .i64 s.b)]))], none⟩) (fun z => z.k ≤ l.length + 1 ∧ dnP l f.w f.h s (l.length + 1 - z.k) z.o = spotY l f y s ∧ -2251799813685248 ≤ z.o ∧ z.o ≤ 2251799813685248) (fun z => l.length + 1 - z.k) 4 ⟨0, (mostF topF l).n⟩ (by simp only [go_sem, Bool.not_eq_true', Bool.not_eq_false']; rfl) (by simp only [go_sem, Bool.not_eq_true', Bool.not_eq_false']) ?_ ?_
    · exact ⟨Nat.zero_le _, e1.symm, hfr⟩
    · rintro ⟨k, z⟩ ⟨hk, hz, hb⟩
      simp only at hk hz hb
      have hin := hof z hb
      have hs := band_nearS h z f.h
      have hst := @dn_stop l f.w f.h s z
      have hx1 := @spotX_l l f y s
      have hx2 := @spotX_r l f y s
      simp only [go_sem, Bool.not_eq_true', Bool.not_eq_false']
      repeat' first | contradiction | intro _ | refine And.intro ?_ ?_ | refine ex_get (by omega) ?_ | (show drawB _ _ = true; kernel_rfl) | (refine ret2 [] (by simp only [go_sem, Bool.not_eq_true', Bool.not_eq_false']; rfl) ?_; simp only [go_sem, Bool.not_eq_true', Bool.not_eq_false']) | (refine acall2 [] (rof10_ok l z f.h s (by omega) h.near hin hhi) (by simp only [go_sem, Bool.not_eq_true', Bool.not_eq_false']; rfl) (fit_of (by simp only [go_sem, Bool.not_eq_true', Bool.not_eq_false']) (by simp only [go_sem, Bool.not_eq_true', Bool.not_eq_false']) (by simp only [go_sem, Bool.not_eq_true', Bool.not_eq_false']) (by simp only [go_sem, Bool.not_eq_true', Bool.not_eq_false']) (by simp only [go_sem, Bool.not_eq_true', Bool.not_eq_false']) (by simp only [go_sem, Bool.not_eq_true', Bool.not_eq_false']) (by simp only [go_sem, Bool.not_eq_true', Bool.not_eq_false'])) ?_; simp only [go_sem, Bool.not_eq_true', Bool.not_eq_false']) | (refine acall2 [] (rnext_ok l z f.h s (by omega) h.near hin hhi) (by simp only [go_sem, Bool.not_eq_true', Bool.not_eq_false']; rfl) (fit_of (by simp only [go_sem, Bool.not_eq_true', Bool.not_eq_false']) (by simp only [go_sem, Bool.not_eq_true', Bool.not_eq_false']) (by simp only [go_sem, Bool.not_eq_true', Bool.not_eq_false']) (by simp only [go_sem, Bool.not_eq_true', Bool.not_eq_false']) (by simp only [go_sem, Bool.not_eq_true', Bool.not_eq_false']) (by simp only [go_sem, Bool.not_eq_true', Bool.not_eq_false']) (by simp only [go_sem, Bool.not_eq_true', Bool.not_eq_false'])) ?_; simp only [go_sem, Bool.not_eq_true', Bool.not_eq_false']) | (refine acall2 [] (rlen2_ok (bandF l z f.h s) hs) (by simp only [go_sem, Bool.not_eq_true', Bool.not_eq_false']; rfl) (fit_of (by simp only [go_sem, Bool.not_eq_true', Bool.not_eq_false']) (by simp only [go_sem, Bool.not_eq_true', Bool.not_eq_false']) (by simp only [go_sem, Bool.not_eq_true', Bool.not_eq_false']) (by simp only [go_sem, Bool.not_eq_true', Bool.not_eq_false']) (by simp only [go_sem, Bool.not_eq_true', Bool.not_eq_false']) (by simp only [go_sem, Bool.not_eq_true', Bool.not_eq_false']) (by simp only [go_sem, Bool.not_eq_true', Bool.not_eq_false'])) ?_; simp only [go_sem, Bool.not_eq_true', Bool.not_eq_false'])
      all_goals try (have hY : spotY l f y s = z := by
                       first
                         | (rw [← hz]; exact hst (.inl (by assumption)) _)
                         | (rw [← hz]; exact hst (.inr (by assumption)) _)
                         | (rw [← hz, show l.length + 1 - k = 0 by omega]; rfl)
                     rw [hY] at hbb hx1 hx2)
      all_goals first
        | omega
        | exact hx1 (by assumption)
        | exact hx2 (by assumption)
        | (have hnb := next_bd h.near (y := z) (H := f.h) (s := s) (by assumption)
           (refine loop_end [] (⟨k + 1, (nextF l z f.h s).n⟩) (by simp only [go_sem, Bool.not_eq_true', Bool.not_eq_false']; rfl) ?_ ?_ ?_; (focus first | omega | (simp only; omega)); (focus (simp only [go_sem, Bool.not_eq_true', Bool.not_eq_false']; done)))
           refine ⟨(by show k + 1 ≤ l.length + 1; omega), ?_, hnb⟩
           rw [← hz]
           obtain ⟨m, hm'⟩ : ∃ m, l.length + 1 - k = m + 1 := ⟨l.length - k, by omega⟩
           have hns : ¬ (f.w ≤ lenS (bandF l z f.h s) ∨ (nextF l z f.h s).is = false) := by rintro (q | q) <;> simp_all
           rw [hm', dn_step hns, show l.length + 1 - (k + 1) = m by omega])
  · have e3 : fromP l y = y := (by rw [from_t ht]; omega)
    rw [e3] at e1 hfr
    refine aloop2 [] (fun z : KX Int => ⟨[(0, .sl 7 (l.map cFl)), (2, .raw (.int .i64 z.o)), (5, .hdr 8), (7, .hdr 16), (8, .raw (.int .i64 0)), (9, .raw (.int .i64 0)), (12, .raw (.int .i64 z.k))], [(8, some (.cells 39 [.raw (.int .i64 f.node), .raw (.int .i64 f.side), .raw (.int .i64 f.anchor), .raw (.int .i64 f.x), .raw (.int .i64 f.y), .raw (.int .i64 f.w), .raw (.int .i64 f.h)])), (16, some (.cells 87 [.raw (.int .i64 s.a), .raw (.int .i64 s.b)]))], none⟩) (fun z => z.k ≤ l.length + 1 ∧ dnP l f.w f.h s (l.length + 1 - z.k) z.o = spotY l f y s ∧ -2251799813685248 ≤ z.o ∧ z.o ≤ 2251799813685248) (fun z => l.length + 1 - z.k) 4 ⟨0, y⟩ (by simp only [go_sem, Bool.not_eq_true', Bool.not_eq_false']; rfl) (by simp only [go_sem, Bool.not_eq_true', Bool.not_eq_false']) ?_ ?_
    · exact ⟨Nat.zero_le _, e1.symm, hfr⟩
    · rintro ⟨k, z⟩ ⟨hk, hz, hb⟩
      simp only at hk hz hb
      have hin := hof z hb
      have hs := band_nearS h z f.h
      have hst := @dn_stop l f.w f.h s z
      have hx1 := @spotX_l l f y s
      have hx2 := @spotX_r l f y s
      simp only [go_sem, Bool.not_eq_true', Bool.not_eq_false']
      repeat' first | contradiction | intro _ | refine And.intro ?_ ?_ | refine ex_get (by omega) ?_ | (show drawB _ _ = true; kernel_rfl) | (refine ret2 [] (by simp only [go_sem, Bool.not_eq_true', Bool.not_eq_false']; rfl) ?_; simp only [go_sem, Bool.not_eq_true', Bool.not_eq_false']) | (refine acall2 [] (rof10_ok l z f.h s (by omega) h.near hin hhi) (by simp only [go_sem, Bool.not_eq_true', Bool.not_eq_false']; rfl) (fit_of (by simp only [go_sem, Bool.not_eq_true', Bool.not_eq_false']) (by simp only [go_sem, Bool.not_eq_true', Bool.not_eq_false']) (by simp only [go_sem, Bool.not_eq_true', Bool.not_eq_false']) (by simp only [go_sem, Bool.not_eq_true', Bool.not_eq_false']) (by simp only [go_sem, Bool.not_eq_true', Bool.not_eq_false']) (by simp only [go_sem, Bool.not_eq_true', Bool.not_eq_false']) (by simp only [go_sem, Bool.not_eq_true', Bool.not_eq_false'])) ?_; simp only [go_sem, Bool.not_eq_true', Bool.not_eq_false']) | (refine acall2 [] (rnext_ok l z f.h s (by omega) h.near hin hhi) (by simp only [go_sem, Bool.not_eq_true', Bool.not_eq_false']; rfl) (fit_of (by simp only [go_sem, Bool.not_eq_true', Bool.not_eq_false']) (by simp only [go_sem, Bool.not_eq_true', Bool.not_eq_false']) (by simp only [go_sem, Bool.not_eq_true', Bool.not_eq_false']) (by simp only [go_sem, Bool.not_eq_true', Bool.not_eq_false']) (by simp only [go_sem, Bool.not_eq_true', Bool.not_eq_false']) (by simp only [go_sem, Bool.not_eq_true', Bool.not_eq_false']) (by simp only [go_sem, Bool.not_eq_true', Bool.not_eq_false'])) ?_; simp only [go_sem, Bool.not_eq_true', Bool.not_eq_false']) | (refine acall2 [] (rlen2_ok (bandF l z f.h s) hs) (by simp only [go_sem, Bool.not_eq_true', Bool.not_eq_false']; rfl) (fit_of (by simp only [go_sem, Bool.not_eq_true', Bool.not_eq_false']) (by simp only [go_sem, Bool.not_eq_true', Bool.not_eq_false']) (by simp only [go_sem, Bool.not_eq_true', Bool.not_eq_false']) (by simp only [go_sem, Bool.not_eq_true', Bool.not_eq_false']) (by simp only [go_sem, Bool.not_eq_true', Bool.not_eq_false']) (by simp only [go_sem, Bool.not_eq_true', Bool.not_eq_false']) (by simp only [go_sem, Bool.not_eq_true', Bool.not_eq_false'])) ?_; simp only [go_sem, Bool.not_eq_true', Bool.not_eq_false'])
      all_goals try (have hY : spotY l f y s = z := by
                       first
                         | (rw [← hz]; exact hst (.inl (by assumption)) _)
                         | (rw [← hz]; exact hst (.inr (by assumption)) _)
                         | (rw [← hz, show l.length + 1 - k = 0 by omega]; rfl)
                     rw [hY] at hbb hx1 hx2)
      all_goals first
        | omega
        | exact hx1 (by assumption)
        | exact hx2 (by assumption)
        | (have hnb := next_bd h.near (y := z) (H := f.h) (s := s) (by assumption)
           (refine loop_end [] (⟨k + 1, (nextF l z f.h s).n⟩) (by simp only [go_sem, Bool.not_eq_true', Bool.not_eq_false']; rfl) ?_ ?_ ?_; (focus first | omega | (simp only; omega)); (focus (simp only [go_sem, Bool.not_eq_true', Bool.not_eq_false']; done)))
           refine ⟨(by show k + 1 ≤ l.length + 1; omega), ?_, hnb⟩
           rw [← hz]
           obtain ⟨m, hm'⟩ : ∃ m, l.length + 1 - k = m + 1 := ⟨l.length - k, by omega⟩
           have hns : ¬ (f.w ≤ lenS (bandF l z f.h s) ∨ (nextF l z f.h s).is = false) := by rintro (q | q) <;> simp_all
           rw [hm', dn_step hns, show l.length + 1 - (k + 1) = m by omega])
  · have e3 : fromP l y = y := (by rw [from_f ht])
    rw [e3] at e1 hfr
    refine aloop2 [] (fun z : KX Int => ⟨[(0, .sl 7 (l.map cFl)), (2, .raw (.int .i64 z.o)), (5, .hdr 8), (7, .hdr 16), (8, .raw (.int .i64 0)), (9, .raw (.int .i64 0)), (12, .raw (.int .i64 z.k))], [(8, some (.cells 39 [.raw (.int .i64 f.node), .raw (.int .i64 f.side), .raw (.int .i64 f.anchor), .raw (.int .i64 f.x), .raw (.int .i64 f.y), .raw (.int .i64 f.w), .raw (.int .i64 f.h)])), (16, some (.cells 87 [.raw (.int .i64 s.a), .raw (.int .i64 s.b)]))], none⟩) (fun z => z.k ≤ l.length + 1 ∧ dnP l f.w f.h s (l.length + 1 - z.k) z.o = spotY l f y s ∧ -2251799813685248 ≤ z.o ∧ z.o ≤ 2251799813685248) (fun z => l.length + 1 - z.k) 4 ⟨0, y⟩ (by simp only [go_sem, Bool.not_eq_true', Bool.not_eq_false']; rfl) (by simp only [go_sem, Bool.not_eq_true', Bool.not_eq_false']) ?_ ?_
    · exact ⟨Nat.zero_le _, e1.symm, hfr⟩
    · rintro ⟨k, z⟩ ⟨hk, hz, hb⟩
      simp only at hk hz hb
      have hin := hof z hb
      have hs := band_nearS h z f.h
      have hst := @dn_stop l f.w f.h s z
      have hx1 := @spotX_l l f y s
      have hx2 := @spotX_r l f y s
      simp only [go_sem, Bool.not_eq_true', Bool.not_eq_false']
      repeat' first | contradiction | intro _ | refine And.intro ?_ ?_ | refine ex_get (by omega) ?_ | (show drawB _ _ = true; kernel_rfl) | (refine ret2 [] (by simp only [go_sem, Bool.not_eq_true', Bool.not_eq_false']; rfl) ?_; simp only [go_sem, Bool.not_eq_true', Bool.not_eq_false']) | (refine acall2 [] (rof10_ok l z f.h s (by omega) h.near hin hhi) (by simp only [go_sem, Bool.not_eq_true', Bool.not_eq_false']; rfl) (fit_of (by simp only [go_sem, Bool.not_eq_true', Bool.not_eq_false']) (by simp only [go_sem, Bool.not_eq_true', Bool.not_eq_false']) (by simp only [go_sem, Bool.not_eq_true', Bool.not_eq_false']) (by simp only [go_sem, Bool.not_eq_true', Bool.not_eq_false']) (by simp only [go_sem, Bool.not_eq_true', Bool.not_eq_false']) (by simp only [go_sem, Bool.not_eq_true', Bool.not_eq_false']) (by simp only [go_sem, Bool.not_eq_true', Bool.not_eq_false'])) ?_; simp only [go_sem, Bool.not_eq_true', Bool.not_eq_false']) | (refine acall2 [] (rnext_ok l z f.h s (by omega) h.near hin hhi) (by simp only [go_sem, Bool.not_eq_true', Bool.not_eq_false']; rfl) (fit_of (by simp only [go_sem, Bool.not_eq_true', Bool.not_eq_false']) (by simp only [go_sem, Bool.not_eq_true', Bool.not_eq_false']) (by simp only [go_sem, Bool.not_eq_true', Bool.not_eq_false']) (by simp only [go_sem, Bool.not_eq_true', Bool.not_eq_false']) (by simp only [go_sem, Bool.not_eq_true', Bool.not_eq_false']) (by simp only [go_sem, Bool.not_eq_true', Bool.not_eq_false']) (by simp only [go_sem, Bool.not_eq_true', Bool.not_eq_false'])) ?_; simp only [go_sem, Bool.not_eq_true', Bool.not_eq_false']) | (refine acall2 [] (rlen2_ok (bandF l z f.h s) hs) (by simp only [go_sem, Bool.not_eq_true', Bool.not_eq_false']; rfl) (fit_of (by simp only [go_sem, Bool.not_eq_true', Bool.not_eq_false']) (by simp only [go_sem, Bool.not_eq_true', Bool.not_eq_false']) (by simp only [go_sem, Bool.not_eq_true', Bool.not_eq_false']) (by simp only [go_sem, Bool.not_eq_true', Bool.not_eq_false']) (by simp only [go_sem, Bool.not_eq_true', Bool.not_eq_false']) (by simp only [go_sem, Bool.not_eq_true', Bool.not_eq_false']) (by simp only [go_sem, Bool.not_eq_true', Bool.not_eq_false'])) ?_; simp only [go_sem, Bool.not_eq_true', Bool.not_eq_false'])
      all_goals try (have hY : spotY l f y s = z := by
                       first
                         | (rw [← hz]; exact hst (.inl (by assumption)) _)
                         | (rw [← hz]; exact hst (.inr (by assumption)) _)
                         | (rw [← hz, show l.length + 1 - k = 0 by omega]; rfl)
                     rw [hY] at hbb hx1 hx2)
      all_goals first
        | omega
        | exact hx1 (by assumption)
        | exact hx2 (by assumption)
        | (have hnb := next_bd h.near (y := z) (H := f.h) (s := s) (by assumption)
           (refine loop_end [] (⟨k + 1, (nextF l z f.h s).n⟩) (by simp only [go_sem, Bool.not_eq_true', Bool.not_eq_false']; rfl) ?_ ?_ ?_; (focus first | omega | (simp only; omega)); (focus (simp only [go_sem, Bool.not_eq_true', Bool.not_eq_false']; done)))
           refine ⟨(by show k + 1 ≤ l.length + 1; omega), ?_, hnb⟩
           rw [← hz]
           obtain ⟨m, hm'⟩ : ∃ m, l.length + 1 - k = m + 1 := ⟨l.length - k, by omega⟩
           have hns : ¬ (f.w ≤ lenS (bandF l z f.h s) ∨ (nextF l z f.h s).is = false) := by rintro (q | q) <;> simp_all
           rw [hm', dn_step hns, show l.length + 1 - (k + 1) = m by omega])
set_option maxRecDepth 100000 in
theorem clone11_ok (l : List LFl) (hl : l.length ≤ 100) : FnOk Try.prog 106 [.sl 7 (l.map cFl)] [] (.hdr 8) [(8, .row 39 7 (l.map cFl))] := by
  refine fn_of_awp Try.func106 rfl (by kernel_rfl) (by kernel_rfl) (Nat.le_of_ble_eq_true rfl) Try.results106 ?_
  simp only [go_sem, Bool.not_eq_true', Bool.not_eq_false']
  repeat' first | contradiction | intro _ | refine And.intro ?_ ?_ | refine ex_get (by omega) ?_ | (show drawB _ _ = true; kernel_rfl) | (refine ret2 [] (by simp only [go_sem, Bool.not_eq_true', Bool.not_eq_false']; rfl) ?_; simp only [go_sem, Bool.not_eq_true', Bool.not_eq_false'])
  all_goals first | omega | (simp_all; done)
theorem set_cl (l : List LFl) (f : LFl) (y : Int) (s : LSpan) : cFl (setP l f y s) = [.raw (.int .i64 f.node), .raw (.int .i64 f.side), .raw (.int .i64 f.anchor), .raw (.int .i64 (spotX l f y s)), .raw (.int .i64 (spotY l f y s)), .raw (.int .i64 f.w), .raw (.int .i64 f.h)] := rfl
def putP (l : List LFl) (f : LFl) (y : Int) (s : LSpan) : List LFl := l ++ [setP l f y s]
theorem put_cl (l : List LFl) (f : LFl) (y : Int) (s : LSpan) : (putP l f y s).map cFl = l.map cFl ++ [cFl (setP l f y s)] := by simp [putP]
set_option maxRecDepth 100000 in
theorem put11_ok (l : List LFl) (f : LFl) (y : Int) (s : LSpan) (h : PlaOk l f y s) : FnOk Try.prog 76 [.sl 7 (l.map cFl), aFl f, .raw (.int .i64 y), aSpan s] [] (.hdr 8) [(8, .row 39 7 ((putP l f y s).map cFl))] := by
  refine fn_of_awp Try.func76 rfl (by kernel_rfl) (by kernel_rfl) (Nat.le_of_ble_eq_true rfl) Try.results76 ?_
  simp only [go_sem, Bool.not_eq_true', Bool.not_eq_false']
  have hlen := h.len
  repeat' first | contradiction | intro _ | refine And.intro ?_ ?_ | refine ex_get (by omega) ?_ | (show drawB _ _ = true; kernel_rfl) | (refine ret2 [] (by simp only [go_sem, Bool.not_eq_true', Bool.not_eq_false', put_cl, set_cl]; rfl) ?_; simp only [go_sem, Bool.not_eq_true', Bool.not_eq_false', put_cl, set_cl]) | (refine acall2 [] (spot11_ok l f y s h) (by simp only [go_sem, Bool.not_eq_true', Bool.not_eq_false']; rfl) (fit_of (by simp only [go_sem, Bool.not_eq_true', Bool.not_eq_false']) (by simp only [go_sem, Bool.not_eq_true', Bool.not_eq_false']) (by simp only [go_sem, Bool.not_eq_true', Bool.not_eq_false']) (by simp only [go_sem, Bool.not_eq_true', Bool.not_eq_false']) (by simp only [go_sem, Bool.not_eq_true', Bool.not_eq_false']) (by simp only [go_sem, Bool.not_eq_true', Bool.not_eq_false']) (by simp only [go_sem, Bool.not_eq_true', Bool.not_eq_false'])) ?_; simp only [go_sem, Bool.not_eq_true', Bool.not_eq_false', put_cl, set_cl]) | (refine acall2 [] (clone11_ok l (by omega)) (by simp only [go_sem, Bool.not_eq_true', Bool.not_eq_false']; rfl) (fit_of (by simp only [go_sem, Bool.not_eq_true', Bool.not_eq_false']) (by simp only [go_sem, Bool.not_eq_true', Bool.not_eq_false']) (by simp only [go_sem, Bool.not_eq_true', Bool.not_eq_false']) (by simp only [go_sem, Bool.not_eq_true', Bool.not_eq_false']) (by simp only [go_sem, Bool.not_eq_true', Bool.not_eq_false']) (by simp only [go_sem, Bool.not_eq_true', Bool.not_eq_false']) (by simp only [go_sem, Bool.not_eq_true', Bool.not_eq_false'])) ?_; simp only [go_sem, Bool.not_eq_true', Bool.not_eq_false', put_cl, set_cl])
  all_goals first | omega | rfl
set_option maxRecDepth 100000 in
theorem rput11_ok (l : List LFl) (f : LFl) (y : Int) (s : LSpan) (h : PlaOk l f y s) : FnOk Try.prog 97 [.sl 7 (l.map cFl), aFl f, .raw (.int .i64 y), aSpan s] [] (.hdr 8) [(8, .row 39 7 ((putP l f y s).map cFl))] := by
  refine fn_of_awp Try.func97 rfl (by kernel_rfl) (by kernel_rfl) (Nat.le_of_ble_eq_true rfl) Try.results97 ?_
  simp only [go_sem, Bool.not_eq_true', Bool.not_eq_false']
  have hlen := h.len
  repeat' first | contradiction | intro _ | refine And.intro ?_ ?_ | refine ex_get (by omega) ?_ | (show drawB _ _ = true; kernel_rfl) | (refine ret2 [] (by simp only [go_sem, Bool.not_eq_true', Bool.not_eq_false', put_cl, set_cl]; rfl) ?_; simp only [go_sem, Bool.not_eq_true', Bool.not_eq_false', put_cl, set_cl]) | (refine acall2 [] (rspot11_ok l f y s h) (by simp only [go_sem, Bool.not_eq_true', Bool.not_eq_false']; rfl) (fit_of (by simp only [go_sem, Bool.not_eq_true', Bool.not_eq_false']) (by simp only [go_sem, Bool.not_eq_true', Bool.not_eq_false']) (by simp only [go_sem, Bool.not_eq_true', Bool.not_eq_false']) (by simp only [go_sem, Bool.not_eq_true', Bool.not_eq_false']) (by simp only [go_sem, Bool.not_eq_true', Bool.not_eq_false']) (by simp only [go_sem, Bool.not_eq_true', Bool.not_eq_false']) (by simp only [go_sem, Bool.not_eq_true', Bool.not_eq_false'])) ?_; simp only [go_sem, Bool.not_eq_true', Bool.not_eq_false', put_cl, set_cl])
  all_goals first | omega | rfl
end Go.Proofs.Ytblmebjhhanoaaa
/- PLAIN: words and lines, as chapter 9 has them; no program in sight. -/
set_option linter.unusedSimpArgs false
set_option linter.unusedVariables false
namespace Go.Proofs.Ytblmebjhhanoaaa

structure WRun where
  f : Int
  t : Int
  w : Int

/-- how wide words are with spaces between; of none: less a space. -/
def wideN (sp : Int) (ys : List Int) : Int := ys.sum + ((ys.length : Int) - 1) * sp
/-- the words from one place to another one. -/
def seg (xs : List Int) (f t : Nat) : List Int := (xs.drop f).take (t - f)
theorem seg_same (xs : List Int) (f : Nat) : seg xs f f = [] := by simp [seg]
theorem seg_succ (xs : List Int) (f t : Nat) (h : f ≤ t) (ht : t < xs.length) : seg xs f (t + 1) = seg xs f t ++ [xs[t]] := by
  unfold seg
  rw [show t + 1 - f = (t - f) + 1 by omega, List.take_succ_eq_append_getElem (by simp; omega)]
  simp only [List.getElem_drop]
  congr 3
  omega
theorem seg_len (xs : List Int) (f t : Nat) (ht : t ≤ xs.length) : (seg xs f t).length = t - f := by
  unfold seg; rw [List.length_take, List.length_drop]; omega
theorem wide_succ (sp : Int) (ys : List Int) (x : Int) : wideN sp (ys ++ [x]) = wideN sp ys + (sp + x) := by
  unfold wideN
  rw [List.sum_append, List.length_append]
  have e : ((ys.length + [x].length : Nat) : Int) - 1 = ((ys.length : Int) - 1) + 1 := by rw [List.length_singleton]; omega
  rw [e, Int.add_mul]
  simp
  omega
theorem wide_seg (sp : Int) (xs : List Int) (f t : Nat) (h : f ≤ t) (ht : t < xs.length) : wideN sp (seg xs f (t + 1)) = wideN sp (seg xs f t) + (sp + xs[t]) := by rw [seg_succ xs f t h ht, wide_succ]
theorem wide_none (sp : Int) (xs : List Int) (f : Nat) : wideN sp (seg xs f f) = -sp := by rw [seg_same]; simp [wideN]

/-- near: from 0 to 2^45. -/
def nr9 (x : Int) : Bool := decide (0 ≤ x ∧ x ≤ 35184372088832)
def near9 (xs : List Int) (sp width : Int) : Bool := nr9 sp && nr9 width && xs.all nr9
theorem near9_at {xs : List Int} (h : xs.all nr9 = true) (k : Nat) (hk : k < xs.length) : 0 ≤ xs[k] ∧ xs[k] ≤ 35184372088832 := by
  rw [List.all_eq_true] at h
  have := h _ (List.getElem_mem hk)
  simpa [nr9] using this
theorem wide_bd {sp : Int} {xs : List Int} (h : xs.all nr9 = true) (hs : 0 ≤ sp ∧ sp ≤ 35184372088832) (f : Nat) : ∀ t, f ≤ t → t ≤ xs.length → -sp ≤ wideN sp (seg xs f t) ∧ wideN sp (seg xs f t) ≤ 70368744177664 * ((t : Int) - f) - sp := by
  intro t
  induction t with
  | zero => intro h1 _; obtain rfl : f = 0 := by omega
            rw [wide_none]; omega
  | succ t ih =>
    intro h1 h2
    by_cases e : f = t + 1
    · subst e; rw [wide_none]; omega
    · have := ih (by omega) (by omega)
      rw [wide_seg sp xs f t (by omega) (by omega)]
      have := near9_at h t (by omega)
      omega

def wideF (xs : List Int) (sp f t : Int) : Int := if f < 0 ∨ (xs.length : Int) ≤ f ∨ t ≤ f ∨ (xs.length : Int) < t then 0 else wideN sp (seg xs f.toNat t.toNat)

/-- how far a line goes that holds the words from f to t. -/
def growT (xs : List Int) (sp width : Int) (f : Nat) : Nat → Nat → Nat
  | 0, t => t
  | n + 1, t => if t < xs.length ∧ wideN sp (seg xs f (t + 1)) ≤ width then growT xs sp width f n (t + 1) else t
def takeT (xs : List Int) (sp width : Int) (f : Nat) : Nat := growT xs sp width f (xs.length - (f + 1)) (f + 1)
theorem growT_ge (xs : List Int) (sp width : Int) (f : Nat) : ∀ n t, t ≤ growT xs sp width f n t
  | 0, t => Nat.le_refl _
  | n + 1, t => by
    unfold growT
    split
    · have := growT_ge xs sp width f n (t + 1); omega
    · exact Nat.le_refl _
theorem growT_le (xs : List Int) (sp width : Int) (f : Nat) : ∀ n t, t ≤ xs.length → growT xs sp width f n t ≤ xs.length
  | 0, t, h => h
  | n + 1, t, h => by
    unfold growT
    split
    · next h1 => exact growT_le xs sp width f n (t + 1) (by omega)
    · exact h
theorem growT_yes {xs : List Int} {sp width : Int} {f t : Nat} (h : t < xs.length) (hw : wideN sp (seg xs f (t + 1)) ≤ width) : growT xs sp width f (xs.length - t) t = growT xs sp width f (xs.length - (t + 1)) (t + 1) := by
  rw [show xs.length - t = (xs.length - (t + 1)) + 1 by omega]
  show (if _ then _ else _) = _
  rw [if_pos ⟨h, hw⟩]
theorem growT_no {xs : List Int} {sp width : Int} {f t : Nat} (h : ¬ (t < xs.length ∧ wideN sp (seg xs f (t + 1)) ≤ width)) : growT xs sp width f (xs.length - t) t = t := by
  cases e : xs.length - t with
  | zero => rfl
  | succ n => show (if _ then _ else _) = _; rw [if_neg h]
def takeF (xs : List Int) (sp width f : Int) : WRun := if f < 0 ∨ (xs.length : Int) ≤ f then ⟨0, 0, 0⟩ else ⟨f, (takeT xs sp width f.toNat : Nat), wideN sp (seg xs f.toNat (takeT xs sp width f.toNat))⟩
theorem takeT_bd (xs : List Int) (sp width : Int) (f : Nat) (h : f < xs.length) : f < takeT xs sp width f ∧ takeT xs sp width f ≤ xs.length := by
  have h1 := growT_ge xs sp width f (xs.length - (f + 1)) (f + 1)
  have h2 := growT_le xs sp width f (xs.length - (f + 1)) (f + 1) (by omega)
  unfold takeT
  omega
/-- all lines from a place on. -/
def allG (xs : List Int) (sp width : Int) : Nat → Nat → List WRun
  | 0, _ => []
  | n + 1, f => if f < xs.length then takeF xs sp width f :: allG xs sp width n (takeT xs sp width f) else []
def allF (xs : List Int) (sp width : Int) : List WRun := allG xs sp width xs.length 0
end Go.Proofs.Ytblmebjhhanoaaa
/- PLAIN: chapter 9's laws of lines; no program in sight. -/
set_option linter.unusedSimpArgs false
set_option linter.unusedVariables false
namespace Go.Proofs.Ytblmebjhhanoaaa

theorem seg_all {xs : List Int} (h : xs.all nr9 = true) (f t : Nat) : (seg xs f t).all nr9 = true := by
  rw [List.all_eq_true] at h ⊢
  intro x hx
  exact h x (List.mem_of_mem_drop (List.mem_of_mem_take hx))
theorem sum_nonneg {xs : List Int} (h : xs.all nr9 = true) : 0 ≤ xs.sum := by
  induction xs with
  | nil => simp
  | cons x xs ih =>
    simp only [List.all_cons, Bool.and_eq_true, nr9, decide_eq_true_eq] at h
    have := ih h.2
    rw [List.sum_cons]
    omega
theorem seg_app (xs : List Int) {f m t : Nat} (h1 : f ≤ m) (h2 : m ≤ t) : seg xs f t = seg xs f m ++ seg xs m t := by
  unfold seg
  have e1 : xs.drop m = (xs.drop f).drop (m - f) := by rw [List.drop_drop]; congr 1; omega
  have e2 : t - f = (m - f) + (t - m) := by omega
  rw [e1, e2, List.take_add]
/-- from a later word on: no wider. -/
theorem wide_anti {xs : List Int} {sp : Int} (h : xs.all nr9 = true) (hs : 0 ≤ sp) {f m t : Nat} (h1 : f ≤ m) (h2 : m < t) (ht : t ≤ xs.length) : wideN sp (seg xs m t) ≤ wideN sp (seg xs f t) := by
  rw [seg_app xs h1 (Nat.le_of_lt h2)]
  unfold wideN
  rw [List.sum_append, List.length_append]
  have hn := sum_nonneg (seg_all h f m)
  have e : ((((seg xs f m).length + (seg xs m t).length : Nat) : Int) - 1) * sp = ((seg xs m t).length - 1 : Int) * sp + ((seg xs f m).length : Int) * sp := by
    rw [← Int.add_mul]; congr 1; omega
  rw [e]
  have := Int.mul_nonneg (show 0 ≤ ((seg xs f m).length : Int) by omega) hs
  omega
theorem wide_mono {xs : List Int} {sp : Int} (h : xs.all nr9 = true) (hs : 0 ≤ sp) {f : Nat} : ∀ {e t : Nat}, f ≤ e → e ≤ t → t ≤ xs.length → wideN sp (seg xs f e) ≤ wideN sp (seg xs f t) := by
  intro e t h1 h2
  induction t with
  | zero => intro _; obtain rfl : e = 0 := by omega
            exact Int.le_refl _
  | succ t ih =>
    intro ht
    by_cases he : e = t + 1
    · rw [he]; exact Int.le_refl _
    · have := ih (by omega) (by omega)
      rw [wide_seg sp xs f t (by omega) (by omega)]
      have := near9_at h t (by omega)
      omega
theorem growT_reach {xs : List Int} {sp w : Int} {f : Nat} (h : xs.all nr9 = true) (hs : 0 ≤ sp) {e : Nat} (he : e ≤ xs.length) (hw : wideN sp (seg xs f e) ≤ w) : ∀ n t, f ≤ t → t ≤ e → e ≤ t + n → e ≤ growT xs sp w f n t := by
  intro n
  induction n with
  | zero => intro t _ h1 h2; exact h2
  | succ n ih =>
    intro t h0 h1 h2
    unfold growT
    by_cases ht : t = e
    · split
      · have := growT_ge xs sp w f n (t + 1); omega
      · omega
    · have := wide_mono h hs (f := f) (e := t + 1) (t := e) (by omega) (by omega) he
      rw [if_pos ⟨by omega, by omega⟩]
      exact ih (t + 1) (by omega) (by omega) (by omega)
theorem growT_fits {xs : List Int} {sp w : Int} {f : Nat} : ∀ n t, growT xs sp w f n t = t ∨ wideN sp (seg xs f (growT xs sp w f n t)) ≤ w := by
  intro n
  induction n with
  | zero => intro t; exact .inl rfl
  | succ n ih =>
    intro t
    unfold growT
    split
    · next h => rcases ih (t + 1) with h1 | h1
                · right; rw [h1]; exact h.2
                · exact .inr h1
    · exact .inl rfl
theorem growT_full {xs : List Int} {sp w : Int} {f : Nat} : ∀ n t, xs.length ≤ t + n → growT xs sp w f n t < xs.length → w < wideN sp (seg xs f (growT xs sp w f n t + 1)) := by
  intro n
  induction n with
  | zero => intro t h1 h2; unfold growT at h2; omega
  | succ n ih =>
    intro t h1
    unfold growT
    split
    · exact ih (t + 1) (by omega)
    · next h => intro h2; omega
theorem takeT_reach {xs : List Int} {sp w : Int} (h : xs.all nr9 = true) (hs : 0 ≤ sp) {f e : Nat} (hf : f < xs.length) (he : e ≤ xs.length) (hw : e ≤ f + 1 ∨ wideN sp (seg xs f e) ≤ w) : e ≤ takeT xs sp w f := by
  by_cases h1 : e ≤ f + 1
  · have := (takeT_bd xs sp w f hf).1; omega
  · exact growT_reach h hs he (by omega) _ _ (by omega) (by omega) (by omega)
theorem takeT_fits (xs : List Int) (sp w : Int) (f : Nat) : takeT xs sp w f = f + 1 ∨ wideN sp (seg xs f (takeT xs sp w f)) ≤ w := growT_fits _ _
theorem takeT_full {xs : List Int} {sp w : Int} {f : Nat} (hf : f < xs.length) (h : takeT xs sp w f < xs.length) : w < wideN sp (seg xs f (takeT xs sp w f + 1)) := growT_full _ _ (by omega) h
theorem takeT_mono {xs : List Int} {sp w w' : Int} (h : xs.all nr9 = true) (hs : 0 ≤ sp) (hw : w ≤ w') {f f' : Nat} (hf : f ≤ f') (hf' : f' < xs.length) : takeT xs sp w f ≤ takeT xs sp w' f' := by
  have hb := takeT_bd xs sp w f (by omega)
  refine takeT_reach h hs hf' hb.2 ?_
  by_cases h1 : takeT xs sp w f ≤ f' + 1
  · exact .inl h1
  · right
    have := wide_anti h hs hf (show f' < takeT xs sp w f by omega) hb.2
    rcases takeT_fits xs sp w f with h2 | h2 <;> omega
/-- rows of lines, the next one from where the one ahead ends; the last one at the end. -/
def Lines (xs : List Int) (sp w : Int) : Nat → List WRun → Prop
  | f, [] => f = xs.length
  | f, r :: l => f < xs.length ∧ r = ⟨f, (takeT xs sp w f : Nat), wideN sp (seg xs f (takeT xs sp w f))⟩ ∧ Lines xs sp w (takeT xs sp w f) l
theorem allG_lines (xs : List Int) (sp w : Int) : ∀ n f, xs.length ≤ f + n → f ≤ xs.length → Lines xs sp w f (allG xs sp w n f) := by
  intro n
  induction n with
  | zero => intro f h1 h2; show f = _; omega
  | succ n ih =>
    intro f h1 h2
    show Lines xs sp w f (if _ then _ else _)
    split
    · next h =>
      have hb := takeT_bd xs sp w f h
      refine ⟨h, ?_, ih _ (by omega) hb.2⟩
      unfold takeF
      rw [if_neg (by omega)]
      simp
    · show f = _; omega
theorem all_lines (xs : List Int) (sp w : Int) : Lines xs sp w 0 (allF xs sp w) := allG_lines xs sp w _ 0 (by omega) (by omega)
theorem lines_le {xs : List Int} {sp w w' : Int} (h : xs.all nr9 = true) (hs : 0 ≤ sp) (hw : w ≤ w') : ∀ {l l' : List WRun} {f f' : Nat}, f ≤ f' → Lines xs sp w f l → Lines xs sp w' f' l' → l'.length ≤ l.length := by
  intro l l'
  induction l' generalizing l with
  | nil => intro _ _ _ _ _; exact Nat.zero_le _
  | cons r' l' ih =>
    intro f f' hf h1 h2
    cases l with
    | nil => have h1 : f = _ := h1; have := h2.1; omega
    | cons r l =>
      have := ih (takeT_mono h hs hw hf h2.1) h1.2.2 h2.2.2
      simp only [List.length_cons]
      omega
/-- one line more of another parting: lines that are taken go as far. -/
theorem lines_step {xs : List Int} {sp w : Int} (h : xs.all nr9 = true) (hs : 0 ≤ sp) {l : List WRun} {f g e : Nat} (hfg : f ≤ g) (hl : Lines xs sp w g l) (hf : f < e) (he : e ≤ xs.length) (hw : e ≤ f + 1 ∨ wideN sp (seg xs f e) ≤ w) : ∃ g', e ≤ g' ∧ Lines xs sp w g' (l.drop 1) := by
  cases l with
  | nil => have hl' : g = _ := hl; exact ⟨g, by omega, hl⟩
  | cons r l =>
    refine ⟨takeT xs sp w g, ?_, hl.2.2⟩
    have h1 := takeT_reach h hs (show f < xs.length by omega) he hw
    have h2 := takeT_mono h hs (Int.le_refl w) hfg hl.1
    omega
end Go.Proofs.Ytblmebjhhanoaaa
/- ENGINE (second) 16: a drawn statement with a tail that waits for all ahead (a call of yield in it); ranges over functions whose text is parted; over any program. -/
/- G -/
set_option linter.unusedSimpArgs false
set_option linter.unusedVariables false
namespace Go.Proofs.Ytblmebjhhanoaaa
open Go.RowKit

def tailB (n : Nat) (l : List Oper) : Bool := decide (n < l.length) && Region.sinkB .any l.toArray n && Region.chainB .any l.toArray n && Region.seqB .any l.toArray (l.length - n) n ((List.range l.length).map (fun j => decide (j < n))).toArray
theorem wpAnyIn_of_seq {F : Fence} {m : Nat} {P : Program} {ops : Array Oper} {md : Region.Mode} {Q' : Exit → Act → World → Prop} : ∀ (l : List Oper) (k : Nat) (listed : Array Bool) (a : Act) (w : World), (∀ j, l[j]? = ops[k + j]?) →
    Region.seqB md ops l.length k listed = true → wpListIn F m P ops Q' l a w → wpAnyIn F m P md ops Q' l.length listed a w
  | [], _, _, _, _, _, hB, h => ⟨by simpa [Region.seqB] using hB, h⟩
  | o :: l, k, listed, a, w, hl, hB, h => by
    have h0 : ops[k]? = some o := by simpa using (hl 0).symm
    simp only [List.length_cons, Region.seqB, Bool.and_eq_true, decide_eq_true_eq] at hB
    refine ⟨fun h1 => (by rw [hB.1] at h1; cases h1), fun i hi => ?_⟩
    rw [hB.1] at hi
    have hik : i = k := by simpa using hi
    subst hik
    have hw : wpOpIn F m P ops Q' i (wpListIn F m P ops Q' l) a w := by unfold wpOpIn; simp only [h0]; exact h
    exact wpOpIn_mono (fun a' w' h' => wpAnyIn_of_seq l (i + 1) _ a' w' (fun j => by have := hl (j + 1); simpa [Nat.add_assoc, Nat.add_comm 1 j] using this) hB.2 h') hw
set_option maxHeartbeats 1000000 in
/-- a statement whose order is open, but for a tail that waits for all ahead. -/
theorem draw_tail {P : Program} {ops T : List Oper} {K : Nat → AS → Prop} {n : Nat} {S : AS} (hmx : P.follows .mixedOrders = true) (hTB : tailB ops.length (ops ++ T) = true) (h : AOps P (ops.map (·.dst)) ops (drawK ops (fun n' S' => AOps P ((ops ++ T).map (·.dst)) T K n' S')) n ⟨S.t, S.s, some []⟩) : ADraw P (ops ++ T) K n S := by
  intro rd m0 c id p ρ a w Q hd hmod hn ha hQ
  unfold tailB at hTB
  simp only [Bool.and_eq_true, decide_eq_true_eq] at hTB
  obtain ⟨⟨⟨hTn, hTs⟩, hTc⟩, hTq⟩ := hTB
  have hAT : ∀ i, i < ops.length → (ops ++ T).toArray[i]? = ops[i]? := fun i hi => by
    rw [List.getElem?_toArray, List.getElem?_append_left hi]
  have hsz : (ops ++ T).toArray.size = ops.length + T.length := by simp
  obtain ⟨Es, Sf, hch, hK⟩ := aops_chain ops n _ rfl h
  obtain ⟨hlen, hat, hfg, hfo, hfl⟩ := chain_at ops n _ Es Sf hch
  have hlg := hfl [] rfl
  unfold drawK at hK
  rw [hlg] at hK
  dsimp only at hK
  obtain ⟨hB, hK⟩ := hK
  unfold drawB at hB
  simp only [List.append_nil, List.reverse_reverse, Bool.and_eq_true] at hB
  obtain ⟨⟨-, hback⟩, hcross⟩ := hB
  have hback : ∀ i o, ops[i]? = some o → ∀ e ∈ o.after, Region.binds .any e = true → e.on < i := fun i o ho e he hb => by
    have h1 := List.all_eq_true.1 hback (o, i) (by rw [List.mem_iff_getElem?]; exact ⟨i, by simp [ho]⟩)
    have h2 := List.all_eq_true.1 h1 e (by simpa using he)
    simpa [hb] using h2
  -- two that are not ordered do not cross
  have hpair : ∀ i j x y Ex Ey, i < j → ops[i]? = some x → ops[j]? = some y → Es[i]? = some Ex → Es[j]? = some Ey → (((bfm ops [])[j]?).getD 0).testBit i = true ∨
      (crossB ops x y = false ∧ (∀ q ∈ Ex.objs.map (·.1), q ∉ Ey.reads ∧ q ∉ Ey.objs.map (·.1)) ∧ ∀ q ∈ Ey.objs.map (·.1), q ∉ Ex.reads) := by
    intro i j x y Ex Ey hij hx hy hEx hEy
    have hjl : j < ops.length := (List.getElem?_eq_some_iff.1 hy).1
    have h1 := List.all_eq_true.1 (List.all_eq_true.1 hcross j (List.mem_range.2 hjl)) i (List.mem_range.2 hij)
    rw [Bool.or_eq_true] at h1
    rcases h1 with h1 | h1
    · exact .inl h1
    · refine .inr ?_
      simp only [hx, hy, List.getElem?_map, hEx, hEy, Option.map_some, Bool.and_eq_true, Bool.not_eq_true'] at h1
      obtain ⟨⟨h2, h3⟩, h4⟩ := h1
      refine ⟨h2, fun q hq => ?_, meetB_none h4⟩
      have := meetB_none h3 q hq
      rw [List.mem_append] at this
      exact ⟨fun e => this (.inl e), fun e => this (.inr e)⟩
  have hEs : ∀ i o, ops[i]? = some o → ∃ E, Es[i]? = some E := fun i o ho => ⟨_, List.getElem?_eq_getElem (by rw [hlen]; exact (List.getElem?_eq_some_iff.1 ho).1)⟩
  have hwr := @wrs_get ops Es
  -- the blocks of names in use
  have key : ∀ (f : Nat) (listed : Array Bool) (ρ' : Env) (a' : Act) (w' : World), HeadInv .any (ops ++ T).toArray ops.length listed → cnt (fun j => !listed.getD j false) ops.length = f →
      Mod c (fun i => p i ∨ ∃ j, j < ops.length ∧ listed.getD j false = true ∧ i / 8 = n + j) ρ' (ap (wrs ops Es) (fun j => listed.getD j false) S) a'.tmps w' → DefOk c a' w' → wpAnyIn (FW rd) m0 P .any (ops ++ T).toArray Q (f + T.length) listed a' w' := by
    intro f
    induction f with
    | zero =>
      intro listed ρ' a' w' inv hc hm ha'
      have hall := cnt_zero _ hc
      have hl : ∀ j, j < ops.length → listed.getD j false = true := fun j hj => by simpa using hall j hj
      rw [Nat.zero_add]
      have hle : listed = ((List.range (ops ++ T).length).map (fun j => decide (j < ops.length))).toArray := by
        refine Array.ext (by rw [inv.size]; simp) fun j h1 h2 => ?_
        have hj : j < ops.length + T.length := by rw [inv.size, hsz] at h1; exact h1
        have e1 : listed.getD j false = listed[j] := by simp [h1]
        have e2 : listed.getD j true = listed[j] := by simp [h1]
        have e3 : ((List.range (ops ++ T).length).map (fun j => decide (j < ops.length))).toArray[j] = decide (j < ops.length) := by simp
        rw [e3]
        by_cases hjn : j < ops.length
        · rw [← e1, hl j hjn]; simp [hjn]
        · rw [← e2, inv.tail j (by omega) (by rw [hsz]; exact hj)]; simp [hjn]
      refine wpAnyIn_of_seq T ops.length listed a' w' (fun j => by rw [List.getElem?_toArray, List.getElem?_append_right (by omega)]; congr 1; omega) (by rw [hle, show T.length = (ops ++ T).length - ops.length by simp]; exact hTq) ?_
      refine aops_sound (P := P) (D := (ops ++ T).map (·.dst)) (opsA := (ops ++ T).toArray) (fun j => by rw [List.getElem?_map, List.getElem?_toArray]) (fun n' S' p' ρ' a' w' h1 h2 h3 h4 => hQ n' S' p' ρ' a' w' h1 h2 h3 h4) T _ ⟨Sf.t, Sf.s, none⟩ _ ρ' a' w' (fun o ho => hd o (List.mem_append_right _ ho)) hK (hm.same (fun t => ?_) (fun q => ?_)) (fun i hi => ?_) ha'
      · rw [ap_get]
        exact (hfg t).trans (gL_congr fun k d E hk _ => by
          obtain ⟨o, ho, -⟩ := (hwr k d E).1 hk
          rw [hl k (List.getElem?_eq_some_iff.1 ho).1])
      · rw [ap_obj]
        exact (hfo q).trans (oL_congr fun k d E hk _ => by
          obtain ⟨o, ho, -⟩ := (hwr k d E).1 hk
          rw [hl k (List.getElem?_eq_some_iff.1 ho).1])
      · rcases hi with hi | ⟨j, h1, -, h3⟩
        · have := hn i hi; omega
        · omega
    | succ f ih =>
      intro listed ρ' a' w' inv hc hm ha'
      have hLcl : ∀ j m, (bfm ops [])[j]? = some m → listed.getD j false = true → ∀ i, m.testBit i = true → listed.getD i false = true := by
        refine bfm_closed (L := fun j => listed.getD j false) ops [] 0 rfl (fun i o ho hL e he hb => ?_) (fun j m hj => by simp at hj)
        rw [Nat.zero_add] at hL ⊢
        exact ⟨hback i o ho e he hb, inv.closed i o (by rw [hAT i (List.getElem?_eq_some_iff.1 ho).1]; exact ho) hL e he hb⟩
      obtain ⟨m, hm', hm1, hm2⟩ := cnt_pos ops.length (by rw [hc]; omega)
      have hmun : listed.getD m false = false := by simpa using hm1
      have hmr : m ∈ Region.ready .any (ops ++ T).toArray listed := by
        refine mem_ready.2 ⟨getD_in (by rw [inv.size, hsz]; omega) hmun, ops[m], by rw [hAT m hm', List.getElem?_eq_getElem hm'], fun e he hb => ?_⟩
        have := hm2 e.on (hback m ops[m] (List.getElem?_eq_getElem hm') e he hb)
        simpa using this
      rw [Nat.succ_add]
      refine ⟨fun h0 => (by rw [h0] at hmr; cases hmr), fun i hi => ?_⟩
      obtain ⟨hiun, o, ho, hall⟩ := mem_ready.1 hi
      have hiun' : listed.getD i false = false := getD_both hiun
      have hil : i < ops.length := by
        refine Nat.lt_of_not_le fun hge => ?_
        exact tail_waits hTs hTc (by rw [hsz]; rw [List.length_append] at hTn; exact hTn) inv (ops.length - m) m rfl hm' (getD_in (by rw [inv.size, hsz]; omega) hmun) i hge hi
      have ho' : ops[i]? = some o := by rw [← hAT i hil]; exact ho
      obtain ⟨E, ran, Si, hE, ⟨hG, hD, hS⟩, hgi, hoi⟩ := hat i o ho'
      -- those who come up later don't reach here
      have hlater : ∀ k, listed.getD k false = true → (((bfm ops [])[k]?).getD 0).testBit i = true → False := fun k hk ht => by
        cases hb : (bfm ops [])[k]? with
        | none => rw [hb] at ht; simp at ht
        | some m => rw [hb] at ht; have := hLcl k m hb hk i ht; rw [hiun'] at this; cases this
      have hmine : ∀ k, (((bfm ops [])[i]?).getD 0).testBit k = true → listed.getD k false = true := fun k ht => by
        cases hb : (bfm ops [])[i]? with
        | none => rw [hb] at ht; simp at ht
        | some m =>
          rw [hb] at ht
          have hh : (fun j => listed.getD j false || decide (j = i)) k = true := by
            refine bfm_closed (L := fun j => listed.getD j false || decide (j = i)) ops [] 0 rfl (fun j oj hj hL e he hbd => ?_) (fun j m hj => by simp at hj) i m hb (by simp) k ht
            rw [Nat.zero_add] at hL ⊢
            refine ⟨hback j oj hj e he hbd, ?_⟩
            simp only [Bool.or_eq_true, decide_eq_true_eq] at hL ⊢
            rcases hL with hL | rfl
            · exact .inl (inv.closed j oj (by rw [hAT j (List.getElem?_eq_some_iff.1 hj).1]; exact hj) hL e he hbd)
            · rw [ho'] at hj
              injection hj with hj
              subst hj
              exact .inl (hall e he hbd)
          simp only [Bool.or_eq_true, decide_eq_true_eq] at hh
          rcases hh with h | h
          · exact h
          · subst h
            exact absurd (bfm_lt ops [] 0 rfl (fun i o ho e he hb => by rw [Nat.zero_add]; exact hback i o ho e he hb) (fun j m hj => by simp at hj) k m hb k ht) (Nat.lt_irrefl _)
      -- what it looks at is as it was in the text's order
      have hsame : ∀ t, t ∈ slotsOf ops o → (ap (wrs ops Es) (fun j => listed.getD j false) S).get t = Si.get t := fun t ht => by
        rw [ap_get, hgi t]
        refine gL_congr fun k d Ek hk hdk => ?_
        obtain ⟨ok, hok, hEk, hdst⟩ := (hwr k d Ek).1 hk
        subst hdk
        rcases Nat.lt_trichotomy k i with hlt | heq | hgt
        · simp only [hlt, decide_true]
          rcases hpair k i ok o Ek E hlt hok ho' hEk hE with h1 | ⟨h1, -⟩
          · exact hmine k h1
          · exact absurd ht ((crossB_none h1).1 t hdst).1
        · subst heq; simp [hiun']
        · simp only [show ¬ k < i by omega, decide_false]
          rcases hpair i k o ok E Ek hgt ho' hok hE hEk with h1 | ⟨h1, -⟩
          · cases hL : listed.getD k false with
            | false => rfl
            | true => exact (hlater k hL h1).elim
          · exact absurd ht ((crossB_none h1).2 t hdst)
      have hsameo : ∀ q, q ∈ E.reads → (ap (wrs ops Es) (fun j => listed.getD j false) S).obj q = Si.obj q := fun q hq => by
        rw [ap_obj, hoi q]
        refine oL_congr fun k d Ek hk hfk => ?_
        obtain ⟨ok, hok, hEk, hdst⟩ := (hwr k d Ek).1 hk
        have hkey := find_keys.1 hfk
        rcases Nat.lt_trichotomy k i with hlt | heq | hgt
        · simp only [hlt, decide_true]
          rcases hpair k i ok o Ek E hlt hok ho' hEk hE with h1 | ⟨-, h1, -⟩
          · exact hmine k h1
          · exact absurd hq (h1 q hkey).1
        · subst heq; simp [hiun']
        · simp only [show ¬ k < i by omega, decide_false]
          rcases hpair i k o ok E Ek hgt ho' hok hE hEk with h1 | ⟨-, -, h1⟩
          · cases hL : listed.getD k false with
            | false => rfl
            | true => exact (hlater k hL h1).elim
          · exact absurd hq (h1 q hkey)
      -- the state behind it
      have hLi : (fun j => (listed.setIfInBounds i true).getD j false) = fun j => if j = i then true else listed.getD j false := by
        funext j
        by_cases hji : j = i
        · subst hji
          have : j < listed.size := by rw [inv.size, hsz]; omega
          simp [this]
        · rw [if_neg hji, getD_set_ne false (Ne.symm hji)]
      have hLi0 : (fun j => if j = i then false else listed.getD j false) = fun j => listed.getD j false := by
        funext j
        by_cases hji : j = i
        · subst hji; simp [hiun']
        · rw [if_neg hji]
      have hwi : (wrs ops Es)[i]? = some (o.dst, E) := (hwr i o.dst E).2 ⟨o, ho', hE, rfl⟩
      have hnew : ∀ S1 : AS, (∀ t, S1.get t = if o.dst = some t then E.val else (ap (wrs ops Es) (fun j => listed.getD j false) S).get t) → (∀ q, S1.obj q = match find E.objs q with | some r => r | none => (ap (wrs ops Es) (fun j => listed.getD j false) S).obj q) →
          (∀ t, (ap (wrs ops Es) (fun j => (listed.setIfInBounds i true).getD j false) S).get t = S1.get t) ∧ (∀ q, (ap (wrs ops Es) (fun j => (listed.setIfInBounds i true).getD j false) S).obj q = S1.obj q) := fun S1 e1 e2 => by
        refine ⟨fun t => ?_, fun q => ?_⟩
        · rw [e1 t, ap_get, ap_get, hLi, gL_add hwi (fun k d' E' hlt hk hd1 hd2 => ?_), hLi0]
          obtain ⟨ok, hok, hEk, hdst⟩ := (hwr k d' E').1 hk
          rcases hpair i k o ok E E' hlt ho' hok hE hEk with h1 | ⟨h1, -⟩
          · cases hL : listed.getD k false with
            | false => rfl
            | true => exact (hlater k hL h1).elim
          · exact absurd (hdst.trans (hd1.trans hd2)) ((crossB_none h1).1 t hd2).2
        · rw [e2 q, ap_obj, ap_obj, hLi, oL_add hwi (fun k d' E' hlt hk hd1 hd2 => ?_), hLi0]
          · cases find E.objs q <;> rfl
          obtain ⟨ok, hok, hEk, hdst⟩ := (hwr k d' E').1 hk
          rcases hpair i k o ok E E' hlt ho' hok hE hEk with h1 | ⟨-, h1, -⟩
          · cases hL : listed.getD k false with
            | false => rfl
            | true => exact (hlater k hL h1).elim
          · exact absurd (find_keys.1 hd1) (h1 q (find_keys.1 hd2)).2
      have hpp : ∀ j, (fun q => p q ∨ ∃ j, j < ops.length ∧ listed.getD j false = true ∧ q / 8 = n + j) j ∨ j / 8 = n + i → p j ∨ ∃ k, k < ops.length ∧ (listed.setIfInBounds i true).getD k false = true ∧ j / 8 = n + k := by
        rintro j ((h | ⟨k, h1, h2, h3⟩) | h)
        · exact .inl h
        · exact .inr ⟨k, h1, getD_set_true h2, h3⟩
        · refine .inr ⟨i, hil, ?_, h⟩
          have := congrFun hLi i
          simpa using this
      have hcnt : cnt (fun j => !(listed.setIfInBounds i true).getD j false) ops.length = f := by
        have h1 := cnt_set (p := fun j => !listed.getD j false) (i := i) (by simp only [hiun']; rfl) ops.length hil
        have h2 : cnt (fun j => !(listed.setIfInBounds i true).getD j false) ops.length = cnt (set1 (fun j => !listed.getD j false) i false) ops.length := by
          refine cnt_congr _ fun j _ => ?_
          have := congrFun hLi j
          show (!(listed.setIfInBounds i true).getD j false) = set1 (fun j => !listed.getD j false) i false j
          rw [show (listed.setIfInBounds i true).getD j false = if j = i then true else listed.getD j false from this]
          unfold set1
          by_cases hji : j = i
          · simp [hji]
          · simp [hji]
        omega
      have hdd : ∀ v, DefOk c (a'.put o.dst v) w' := fun v => ha'.put o.dst v
      -- is it asked for?
      have hwant : Region.wanted o (yielded (ops ++ T).toArray a'.tmps) = ran := by
        unfold GuardIs at hG
        unfold Region.wanted
        cases hg : o.guard with
        | none => rw [hg] at hG; simp [hG]
        | some q =>
          obtain ⟨j, want⟩ := q
          rw [hg] at hG
          obtain ⟨d, b, h1, h2, h3⟩ := hG
          have hbind0 : (ops.toArray[j]?).bind (·.dst) = some d := by
            rw [List.getElem?_map] at h1
            cases hoj : ops[j]? with
            | none => rw [hoj] at h1; simp at h1
            | some oj => rw [hoj] at h1; simp at h1; simp [hoj, h1]
          have hbind : ((ops ++ T).toArray[j]?).bind (·.dst) = some d := by
            have hjl : j < ops.length := by
              rw [List.getElem?_map, Option.map_eq_some_iff] at h1
              obtain ⟨oj, h1, -⟩ := h1
              exact (List.getElem?_eq_some_iff.1 h1).1
            rw [hAT j hjl]
            simpa using hbind0
          have hsl : d ∈ slotsOf ops o := mem_slots.2 (.inr ⟨j, want, hg, by simpa using hbind0⟩)
          have hb : a'.tmps.getD d undef = b := by
            have := hm.tmps d
            rw [hsame d hsl, h2] at this
            simpa [Rep] using this
          simp only [yielded_bv hbind hb, h3]
      unfold wpOpIn
      rw [ho]
      show if Region.wanted o _ then _ else _
      rw [hwant]
      cases ran with
      | false =>
        rw [if_neg (by simp)]
        have hE0 := hS rfl
        subst hE0
        obtain ⟨n1, n2⟩ := hnew ((ap (wrs ops Es) (fun j => listed.getD j false) S).putO o.dst (.raw undef)) (fun t => putO_get _ _ _ t) (fun q => by rw [putO_obj]; rfl)
        refine ⟨fun _ _ => trivial, ?_⟩
        exact ih _ ρ' _ w' (inv.set hi hil) hcnt (((hm.put o.dst (v := .raw undef) (by simp [Rep]) (hd o (List.mem_append_left _ (List.mem_of_getElem? ho')))).same n1 n2).mono fun j hj => hpp j (.inl hj)) (hdd undef)
      | true =>
        rw [if_pos rfl]
        refine hD rfl (ap (wrs ops Es) (fun j => listed.getD j false) S) (fun x hx => ?_) hsameo rd m0 (c.anew (ap (wrs ops Es) (fun j => listed.getD j false) S) ρ' w') _ ρ' a' w' hm.rebase (fun q hq e => ?_) _ Q fun v ρ2 w2 hm2' hv => ?_
        · cases x with
          | tmp t => exact hsame t (mem_slots.2 (.inl hx))
          | _ => rfl
        · rcases hq with hq | ⟨j, h1, h2, h3⟩
          · have := hn q hq; omega
          · have : j = i := by omega
            subst this
            rw [hiun'] at h2
            cases h2
        · obtain ⟨n1, n2⟩ := hnew (((ap (wrs ops Es) (fun j => listed.getD j false) S).upd E.objs).putO o.dst E.val) (fun t => putO_get _ _ _ t) (fun q => (putO_obj _ _ _ q).trans (upd_obj _ _ q))
          have hm2 := hm.back hm2'
          exact ih _ ρ2 _ w2 (inv.set hi hil) hcnt (((hm2.put o.dst hv (hd o (List.mem_append_left _ (List.mem_of_getElem? ho')))).same n1 n2).mono hpp) ((ha'.keep hm hm2').put o.dst v)
  have hcn : ∀ k, cnt (fun j => !(Array.replicate (ops ++ T).toArray.size false).getD j false) k = k := by
    intro k
    induction k with
    | zero => rfl
    | succ k ih => unfold cnt; rw [ih, getD_replicate_false]; rfl
  refine wpIn_region_any hmx ?_
  have := key ops.length (Array.replicate (ops ++ T).toArray.size false) ρ a { w with drawn := w.drawn + 1 } ⟨by simp, fun j oj _ hl => (by rw [getD_replicate_false] at hl; cases hl), fun t _ h2 => getD_in (by simpa using h2) (getD_replicate_false _ _)⟩ (hcn _)
    ((hmod.drew.same (fun t => ?_) (fun q => ?_)).mono fun i hi => .inl hi) ha
  · simpa using this
  · rw [ap_get]
    exact (gL_congr (L' := fun _ => false) fun k _ _ _ _ => getD_replicate_false _ _).trans (gL_none _ _ _)
  · rw [ap_obj]
    exact (oL_congr (L' := fun _ => false) fun k _ _ _ _ => getD_replicate_false _ _).trans (oL_none _ _ _)
theorem swp_tail {P : Program} {id : Nat} {l : List Oper} {Q : Exit → Nat → AS → Prop} {n : Nat} {S : AS} (k : Nat) (hmx : P.follows .mixedOrders = true) (hk : (l.take k).length = k) (hT : tailB k l = true)
    (h : AOps P (W ((l.take k).map (·.dst))) (W (l.take k)) (drawK (W (l.take k)) (fun n' S' => AOps P (W (l.map (·.dst))) (W (l.drop k)) (Q .normal) n' S')) n ⟨S.t, S.s, some []⟩) : SWP P (.region id l.toArray true) Q n S := by
  refine .mk ?_
  intro rd m0 c p ρ a w hrg hd hm hn ha
  have hd' : ∀ o ∈ l, ∀ d, o.dst = some d → d < c.N := fun o ho d e => by
    have := List.all_eq_true.1 hd o (by simpa using ho)
    rw [e] at this
    simpa using this
  have e : l.take k ++ l.drop k = l := List.take_append_drop k l
  have h2 := draw_tail (ops := l.take k) (T := l.drop k) (K := Q .normal) hmx (by rw [hk, e]; exact hT) (by rw [e]; exact h) rd m0 c id p ρ a w (Lift c Q) (by rw [e]; exact hd') hm hn ha (fun n' S' p' ρ' a' w' h1 h2 h3 h4 => ⟨h4, n', S', p', ρ', h1, h2, h3⟩)
  rw [e] at h2
  exact h2
theorem arangeS {P : Program} {Q : Exit → Nat → AS → Prop} {n : Nat} {S : AS} {g : Operand} {ps : Array Tmp} {asg body : Code} {f : FuncId} {caps : List AV} (hg : S.val g = .clo (.func f) caps) {fn : Func} {code : Code}
    (hf : P.funcs[f]? = some fn) (hb : fn.body = some code) (hfn : fnB P f = true) (hd : dstB fn.ntmps code = true) (hl : (1 + caps.length) ≤ fn.ntmps) (hrs : fn.results = #[])
    (h : ∀ tm lc, LoopFit tm lc → lc.params.toList = ps.toList → lc.assign = asg → lc.body = body → SWP P code (rangeQ n tm lc Q) (n + 1) ⟨slots (.hdr (8 * n) :: caps), (8 * n, some (.loop tm lc .ready)) :: (8 * n + 1, some (.frm tm S.t)) :: S.s, none⟩) :
    ARange P g ps asg body Q n S := by
  intro m0 c p ρ a w hda hdb hps hra hrb hm hn ha
  refine wpIn_rangeFunc (F := FW none) fun fn0 _ => ?_
  obtain ⟨Ds, f1, f2, f3⟩ := ha
  -- the function that is ranged over
  have hv := hm.val g
  rw [hg] at hv
  simp only [Rep] at hv
  obtain ⟨cs, hev, hcs⟩ := hv
  let l := w.heap.size + 1
  let lc : LoopCode := ⟨l, fn0, ps, asg, body⟩
  let wD := w.alloc (.deferred (some []))
  let w1 := wD.alloc (.loop (recOf a.tmps lc .ready none w.heap.size))
  have hsD : wD.heap.size = l := by simp [wD, l]
  obtain ⟨fn1, e1, e2, e3⟩ : ∃ fn, P.funcs[f]? = some fn ∧ fn.name ≠ "runtime.NumGoroutine" ∧ fn.body.isSome = true := by
    unfold fnB at hfn
    cases h1 : P.funcs[f]? with
    | none => rw [h1] at hfn; simp at hfn
    | some fn => rw [h1] at hfn; simp at hfn; exact ⟨fn, rfl, hfn.1, by simpa using hfn.2⟩
  obtain rfl : fn1 = fn := by rw [hf] at e1; exact (Option.some.inj e1).symm
  have hres : (resolve a.eval (rangeCall g l) 0).run P w1 = .ok { target := .fn (.func f) cs.toArray, args := #[.func (.yield l) #[] #[]] } w1 := by
    have hk : a.eval (.const (.func (.yield l) #[] #[])) = .func (.yield l) #[] #[] := rfl
    simp [resolve, rangeCall, hev, Deferred.ofValue, hk]
  have hinv : (invoke (.fn (.func f) cs.toArray) #[.func (.yield l) #[] #[]]).run P w1 = .ok (.enter f (.func (.yield l) #[] #[] :: cs).toArray) w1 := by
    have h4 : ¬ fn1.body = none := fun e => by rw [e] at e3; simp at e3
    simp [invoke, callFunc, e1, e2, h4]
  refine ⟨l, _, _, _, _, f, _, _, run_enterLoop_outer fn0 a.tmps ps asg body, hres, fun _ _ => trivial, hinv, fun q => absurd q (by simp [FW, Fence.wide]), ?_⟩
  -- the iterator's first state
  have hfr0 : ρ.f (8 * n) = none := hm.fresh (n := n) (fun i hi => by have := hn i hi; omega) (by omega)
  have hfr1 : ρ.f (8 * n + 1) = none := hm.fresh (n := n) (fun i hi => by have := hn i hi; omega) (by omega)
  have hn0 := hm.n0 (n := n) (fun i hi => by have := hn i hi; omega)
  have hmA := (hm.allocs (.deferred (some []))).add (p' := fun i => p i ∨ i / 8 = n) (w' := wD) hfr1 (by omega) (fun i h => .inl h) (.inr (by omega)) (x := .bool true) (o := .frm a.tmps S.t) rfl (.inl rfl) (fun ρ' he d v hv => by
    rw [find'_eq] at hv
    have := hm.tmps d
    unfold AS.get at this
    rw [hv] at this
    exact Rep.ext he _ _ this) (fun g hg => by cases hg)
  have hfr2 : (ρ.with (8 * n + 1) (.bool true)).f (8 * n) = none := by
    show (if _ then _ else _) = none
    rw [if_neg (by omega)]; exact hfr0
  have hmB := hmA.add (p' := fun i => p i ∨ i / 8 = n) (w' := w1) hfr2 (by omega) (fun i h => h) (.inr (by omega)) (x := .func (.yield l) #[] #[]) (o := .loop a.tmps lc .ready) rfl (.inr ⟨_, rfl⟩)
    (fun ρ' he => ⟨l, w.heap.size, .ready, none, rfl, by have := World.alloc_heap_new wD (.loop (recOf a.tmps lc .ready none w.heap.size)); rw [hsD] at this; exact this, rfl, rfl, rfl⟩) (fun g hg => by simp [oblk] at hg; omega)
  have hext : ExtE ρ ((ρ.with (8 * n + 1) (.bool true)).with (8 * n) (.func (.yield l) #[] #[])) := (ext_with hfr1).trans (ext_with hfr2)
  have hself : ((ρ.with (8 * n + 1) (.bool true)).with (8 * n) (.func (.yield l) #[] #[])).f (8 * n) = some (.func (.yield l) #[] #[]) := with_self ..
  generalize ((ρ.with (8 * n + 1) (.bool true)).with (8 * n) (.func (.yield l) #[] #[])) = ρ1 at hmB hext hself
  have hkeepD : ∀ D ob, w.heap[D]? = some ob → w1.heap[D]? = some ob := fun D ob hD => by
    have hlt := (Array.getElem?_eq_some_iff.1 hD).1
    rw [Below.heap_alloc wD _ D (by omega), Below.heap_alloc w _ D hlt]
    exact hD
  have hnewD : w1.heap[w.heap.size]? = some (.deferred (some [])) := by
    rw [Below.heap_alloc wD _ w.heap.size (by omega)]
    exact World.alloc_heap_new w _
  have hsz := hm.frame.size
  let cI : Ctx := ⟨fn1.ntmps, c.M, c.w0, c.ρ0, fun g => c.D g ∨ g ∈ Ds ∨ g = w.heap.size⟩
  have hra1 : RepL ρ1 (.hdr (8 * n) :: caps) (.func (.yield l) #[] #[] :: cs) := by
    simp only [RepL, Rep]
    exact ⟨hself, RepL.ext hext _ _ hcs⟩
  have hlen := hra1.length
  have hmI : Mod cI (fun i => p i ∨ i / 8 = n) ρ1 ⟨slots (.hdr (8 * n) :: caps), (8 * n, some (.loop a.tmps lc .ready)) :: (8 * n + 1, some (.frm a.tmps S.t)) :: S.s, none⟩ ((Value.func (.yield l) #[] #[] :: cs).toArray ++ Array.replicate (fn1.ntmps - (Value.func (.yield l) #[] #[] :: cs).toArray.size) undef) w1 := by
    refine hmB.refit fn1.ntmps (fun g => c.D g ∨ g ∈ Ds ∨ g = w.heap.size) (slots (.hdr (8 * n) :: caps)) none _ ?_ (fun d => ?_) (fun g hg => ?_)
    · simp at hlen
      simp
      omega
    · rw [find_slots]
      cases ha : (AV.hdr (8 * n) :: caps)[d]? with
      | none => simp [Rep]
      | some v =>
        obtain ⟨u, h1, h2⟩ := RepL.get d hra1 ha
        simp only [Option.getD_some]
        have hdl : d < (Value.func (.yield l) #[] #[] :: cs).length := (List.getElem?_eq_some_iff.1 h1).1
        have e1 : ((Value.func (.yield l) #[] #[] :: cs).toArray ++ Array.replicate (fn1.ntmps - (Value.func (.yield l) #[] #[] :: cs).toArray.size) undef).getD d undef = u := by
          rw [Array.getD_eq_getD_getElem?, Array.getElem?_append_left (by simpa using hdl)]
          have : (Value.func (.yield l) #[] #[] :: cs).toArray[d]? = some u := by rw [List.getElem?_toArray]; exact h1
          rw [this]
          rfl
        rw [e1]
        exact h2
    · rcases hg with hg | hg | hg
      · exact ⟨(hm.dfr g hg).1, hkeepD _ _ (hm.dfr g hg).2⟩
      · exact ⟨(f3 g hg).1, hkeepD _ _ (f3 g hg).2.2⟩
      · subst hg; exact ⟨hsz, hnewD⟩
  have hfit : LoopFit a.tmps lc := ⟨by rw [hm.size]; exact hda, by rw [hm.size]; exact hdb, fun t ht => by rw [hm.size]; exact hps t (by simpa using ht), hra, hrb⟩
  refine callsIn_of_wp_marks hf hb trivial (wpIn_mono ((h a.tmps lc hfit rfl rfl rfl).h none (m0 - 1) cI _ ρ1 _ w1 (.inl rfl) hd hmI (fun i hi => by rcases hi with hi | hi <;> first | (have := hn i hi; omega) | omega) (.nil rfl)) ?_)
  -- its end
  have fin0 : ∀ (n' : Nat) (S' : AS) (p' : Nat → Prop) (ρ' : Env) (w' : World) (tm' : Array Value), rangeEnd n a.tmps lc Q n' S' → Mod cI p' ρ' S' tm' w' → (∀ i, p' i → i / 8 < n') →
      ∃ v, (results fn1 tm').run P w' = .ok v w' ∧ rangePost (FW none) m0 P l (Lift c Q) { a with defers := [markD w.heap.size] ++ a.defers } (.returned v) w' := by
    intro n' S' p' ρ' w' tm' hr hm' hn'
    refine ⟨.tuple #[], by unfold results; rw [hrs]; simp, ?_⟩
    unfold rangeEnd at hr
    split at hr
    case h_2 => exact hr.elim
    next tm1 lc1 m tm2 t e5 e6 =>
    obtain ⟨⟨rfl, rfl, rfl⟩, hr⟩ := hr
    obtain ⟨-, D1, st1, pe1, hh1, hmode, hturn⟩ := hm'.turnL e5
    obtain ⟨xF, -, hF⟩ := hm'.objs _ _ e6
    have hm2 := (hturn .exhausted pe1 none (fun o ho => by cases ho)).drop1 (8 * n + 1)
    have hm3 := hm2.refit c.N c.D t none a.tmps hm.size (frm_rep hF) (fun g hg => hm2.dfr g (.inl hg))
    have hdef : DefOk c { a with defers := [markD w.heap.size] ++ a.defers } (w'.putObj lc.blk (.loop (recOf a.tmps lc .exhausted pe1 D1))) := by
      refine ⟨w.heap.size :: Ds, by simp [f1], List.nodup_cons.2 ⟨fun hc => ?_, f2⟩, fun D' hD' => ?_⟩
      · have := (Array.getElem?_eq_some_iff.1 (f3 _ hc).2.2).1
        omega
      · have h1 := hm2.dfr D'
        rcases List.mem_cons.1 hD' with rfl | hD'
        · refine ⟨hsz, fun hc => ?_, (h1 (.inr (.inr rfl))).2⟩
          have := (Array.getElem?_eq_some_iff.1 (hm.dfr _ hc).2).1
          omega
        · exact ⟨(f3 D' hD').1, (f3 D' hD').2.1, (h1 (.inr (.inl hD'))).2⟩
    have hnb : st1 ≠ .busy := by
      unfold kEnd at hr
      split at hr
      · rw [hmode.1]; decide
      · rw [hmode.1]; decide
      · rw [hmode.1]; decide
      · exact hr.elim
    refine ⟨pe1, _, run_endLoop hh1 hnb, ?_⟩
    have lift : ∀ e, Q e n' ⟨t, (8 * n + 1, none) :: (8 * n, none) :: S'.s, none⟩ → Lift c Q e { a with defers := [markD w.heap.size] ++ a.defers } (w'.putObj lc.blk (.loop (recOf a.tmps lc .exhausted pe1 D1))) := fun e he => ⟨hdef, n', _, p', ρ', he, hm3, hn'⟩
    unfold kEnd at hr
    split at hr
    · obtain ⟨-, rfl⟩ := hmode; exact lift _ hr
    · obtain ⟨-, rfl⟩ := hmode; exact wpIn_ret (lift _ hr)
    · obtain ⟨-, rfl⟩ := hmode; exact wpIn_exit (lift _ hr)
    · exact hr.elim
  have fin : ∀ (Dj : List Nat) (n' : Nat) (S' : AS) (p' : Nat → Prop) (ρ' : Env) (a' : Act) (w' : World), rangeEnd n a.tmps lc Q n' S' → Mod cI p' ρ' S' a'.tmps w' → (∀ i, p' i → i / 8 < n') → Dj.Nodup → (∀ D ∈ Dj, cI.w0.heap.size ≤ D ∧ ¬ cI.D D ∧ w'.heap[D]? = some (.deferred (some []))) →
      LeavesInM (FW none) (m0 - 1) P fn1 a'.tmps (rangePost (FW none) m0 P l (Lift c Q) { a with defers := [markD w.heap.size] ++ a.defers }) (Dj.map markD) .returning w' := by
    intro Dj
    induction Dj with
    | nil => intro n' S' p' ρ' a' w' hr' hm' hn' _ _; exact fin0 n' S' p' ρ' w' a'.tmps hr' hm' hn'
    | cons D Dj ih =>
      intro n' S' p' ρ' a' w' hr' hm' hn' hnd hD
      obtain ⟨hb1, hb2, hD1⟩ := hD D (List.mem_cons_self ..)
      rw [List.nodup_cons] at hnd
      refine ⟨by simp, .inl ⟨D, _, rfl, run_takeDeferred hD1, ih n' S' p' ρ' a' _ hr' (hm'.putObj _ hD1 rfl hb1 hb2) hn' hnd.2 fun D2 h2 => ?_⟩⟩
      obtain ⟨k1, k3, k2⟩ := hD D2 (List.mem_cons_of_mem _ h2)
      have hne : D2 ≠ D := fun e => by subst e; exact hnd.1 h2
      exact ⟨k1, k3, (World.putObj_heap_other hne).trans k2⟩
  rintro e a' w' ⟨⟨Dj, e1, e2, e3⟩, n', S', p', ρ', h2, h3, h4⟩
  cases e with
  | normal => show LeavesInM _ _ _ _ _ _ a'.defers _ _; rw [e1]; exact fin Dj n' S' p' ρ' a' w' h2 h3 h4 e2 e3
  | ret => show LeavesInM _ _ _ _ _ _ a'.defers _ _; rw [e1]; exact fin Dj n' S' p' ρ' a' w' h2 h3 h4 e2 e3
  | _ => exact h2.elim

/-! a scope through which the run goes without a goto -/
theorem stepR_scope {P : Program} {b : Frame} {a : Act} {k : List Item} {cs : List Frame} {w : World} {c : Code} : step P (lone (b.atR a (.code (.scope c) :: k)) cs w) = .next (lone (b.atR a (.code c :: .inScope c :: k)) cs w) := step_lone_go (by simp [stepG, stepG.exec, Frame.atR])
theorem stepR_inScope {P : Program} {b : Frame} {a : Act} {k : List Item} {cs : List Frame} {w : World} {c : Code} : step P (lone (b.atR a (.inScope c :: k)) cs w) = .next (lone (b.atR a k) cs w) := step_lone_go (by simp [stepG, stepG.exec, Frame.atR])
def noGotoX (Q : Exit → Act → World → Prop) : Exit → Act → World → Prop
  | .goto _, _, _ => False
  | e, a, w => Q e a w
theorem wpIn_scope {F : Fence} {n : Nat} {P : Program} {Q : Exit → Act → World → Prop} {a : Act} {w : World} {c : Code} (h : c.wpIn F n P (noGotoX Q) a w) : (Code.scope c).wpIn F n P Q a w := by
  intro b k cs hro hb hr
  have h0 : (lone (b.atR a (.code (.scope c) :: k)) cs w).fenced P F := fenced_calm hb hr rfl
  obtain ⟨e, a₁, w₁, hq, harr⟩ := h b (.inScope c :: k) cs hro hb hr
  cases e with
  | normal => exact ⟨.normal, a₁, w₁, hq, .head h0 stepR_scope (StepsIn.trans harr (.one (fenced_calm hb hr rfl) stepR_inScope))⟩
  | exit id' =>
    have hx : exitTo id' (.inScope c :: k) = exitTo id' k := by simp [exitTo]
    exact ⟨.exit id', a₁, w₁, hq, fun k' hk => .head h0 stepR_scope (harr.1 k' (by rw [hx]; exact hk)),
      fun hr' hk => let ⟨k₁, h1, h2⟩ := harr.2 hr' (by rw [hx]; exact hk); ⟨k₁, h1, .head h0 stepR_scope h2⟩⟩
  | goto l => exact hq.elim
  | ret => exact ⟨_, a₁, w₁, hq, .of_steps (.one h0 stepR_scope) harr⟩
  | panic ch => exact ⟨_, a₁, w₁, hq, .of_steps (.one h0 stepR_scope) harr⟩
  | outgrown => exact ⟨_, a₁, w₁, hq, .of_steps (.one h0 stepR_scope) harr⟩
def scopeK (Q : Exit → Nat → AS → Prop) : Exit → Nat → AS → Prop
  | .goto _ => fun _ _ => False
  | e => Q e
@[go_sem] theorem scopeK_normal (Q : Exit → Nat → AS → Prop) : scopeK Q .normal = Q .normal := rfl
@[go_sem] theorem scopeK_ret (Q : Exit → Nat → AS → Prop) : scopeK Q .ret = Q .ret := rfl
@[go_sem] theorem scopeK_exit (Q : Exit → Nat → AS → Prop) (i : Nat) : scopeK Q (.exit i) = Q (.exit i) := rfl
theorem swp_scope {P : Program} {c : Code} {Q : Exit → Nat → AS → Prop} {n : Nat} {S : AS} (h : SWP P c (scopeK Q) n S) : SWP P (.scope c) Q n S := by
  refine .mk ?_
  intro rd m0 cx p ρ a w hrg hd hm hn ha
  refine wpIn_scope (wpIn_mono (h.h rd m0 cx p ρ a w hrg hd hm hn ha) ?_)
  rintro e a' w' ⟨h1, n', S', p', ρ', h2, h3, h4⟩
  cases e with
  | goto l => exact h2.elim
  | _ => exact ⟨h1, n', S', p', ρ', h2, h3, h4⟩
theorem swp_label {P : Program} {l : Nat} {Q : Exit → Nat → AS → Prop} {n : Nat} {S : AS} (h : Q .normal n S) : SWP P (.label l) Q n S := by
  refine .mk ?_
  intro rd m0 cx p ρ a w hrg hd hm hn ha
  exact wpIn_label ⟨ha, n, S, p, ρ, h, hm, hn⟩
end Go.Proofs.Ytblmebjhhanoaaa
/- CHAPTER 9 (second engine): Wide, Take; the document's and the program's. -/
/- G -/
/- BOOLS -/
set_option linter.unusedSimpArgs false
set_option linter.unusedVariables false
namespace Go.Proofs.Ytblmebjhhanoaaa
open Go.RowKit

def cRun (r : WRun) : List PV := [.raw (.int .i64 r.f), .raw (.int .i64 r.t), .raw (.int .i64 r.w)]
def aRun (r : WRun) : AV := .agg [.raw (.int .i64 r.f), .raw (.int .i64 r.t), .raw (.int .i64 r.w)]
attribute [go_sem] cRun aRun
theorem sum_bd {xs : List Int} (h : xs.all nr9 = true) (f : Nat) : ∀ t, f ≤ t → t ≤ xs.length → 0 ≤ (seg xs f t).sum ∧ (seg xs f t).sum ≤ 35184372088832 * ((t : Int) - f) := by
  intro t
  induction t with
  | zero => intro h1 _; obtain rfl : f = 0 := by omega
            rw [seg_same]; simp
  | succ t ih =>
    intro h1 h2
    by_cases e : f = t + 1
    · subst e; rw [seg_same]; simp
    · have := ih (by omega) (by omega)
      rw [seg_succ xs f t (by omega) (by omega), List.sum_append]
      have := near9_at h t (by omega)
      simp
      omega
theorem mul_bd {a sp : Int} (h : 0 ≤ a ∧ a ≤ 2000) (hsp : 0 ≤ sp ∧ sp ≤ 35184372088832) : 0 ≤ a * sp ∧ a * sp ≤ 70368744177664000 := by
  have h1 := Int.mul_nonneg h.1 hsp.1
  have h2 : a * sp ≤ 2000 * sp := Int.mul_le_mul_of_nonneg_right h.2 hsp.1
  omega
structure WorOk (xs : List Int) (sp : Int) : Prop where
  len : xs.length ≤ 2000
  near : xs.all nr9 = true
  sp : 0 ≤ sp ∧ sp ≤ 35184372088832
theorem wide_bd2 {xs : List Int} {sp : Int} (h : WorOk xs sp) {f t : Nat} (h1 : f ≤ t) (h2 : t ≤ xs.length) : -35184372088832 ≤ wideN sp (seg xs f t) ∧ wideN sp (seg xs f t) ≤ 140737488355328000 := by
  have h3 := wide_bd h.near h.sp f t h1 h2
  have := h.len
  have := h.sp
  omega
theorem wideF_nat {xs : List Int} {sp : Int} {f t : Nat} (h : f < t) (ht : t ≤ xs.length) : wideF xs sp f t = wideN sp (seg xs f t) := by
  unfold wideF
  rw [if_neg (by omega)]
  simp
theorem wideF_no {xs : List Int} {sp f t : Int} (h : f < 0 ∨ (xs.length : Int) ≤ f ∨ t ≤ f ∨ (xs.length : Int) < t) : wideF xs sp f t = 0 := by
  unfold wideF
  rw [if_pos h]
theorem takeF_no {xs : List Int} {sp width f : Int} (h : f < 0 ∨ (xs.length : Int) ≤ f) : takeF xs sp width f = ⟨0, 0, 0⟩ := by
  unfold takeF
  rw [if_pos h]
theorem takeF_nat {xs : List Int} {sp width : Int} {f : Nat} (h : f < xs.length) : takeF xs sp width f = ⟨f, (takeT xs sp width f : Nat), wideN sp (seg xs f (takeT xs sp width f))⟩ := by
  unfold takeF
  rw [if_neg (by omega)]
  simp
set_option maxRecDepth 100000 in
set_option maxHeartbeats 4000000 in
theorem rwide_ok (xs : List Int) (sp f t : Int) (h : WorOk xs sp) : FnOk Try.prog 147 [.sl 1 (xs.map cInt), .raw (.int .i64 sp), .raw (.int .i64 f), .raw (.int .i64 t)] [] (.raw (.int .i64 (wideF xs sp f t))) [] := by
  have hno := @wideF_no xs sp f t
  have hlen := h.len
  have hsp := h.sp
  refine fn_of_swp Try.func147 rfl (by kernel_rfl) (by kernel_rfl) (Nat.le_of_ble_eq_true rfl) Try.results147 ?_
  (refine swp_seqW ?_; simp only [go_sem, Bool.not_eq_true', Bool.not_eq_false'])
  refine swp_cutS (fun _ : Unit => ⟨[(0, .sl 1 (xs.map cInt)), (1, .raw (.int .i64 sp)), (2, .raw (.int .i64 f)), (3, .raw (.int .i64 t))], [], none⟩) (fun _ => 0 ≤ f ∧ f < t ∧ t ≤ xs.length) 60 ?_ ?_
  · (refine swp_lastW ?_; simp only [go_sem, Bool.not_eq_true', Bool.not_eq_false', List.length_map])
    repeat' first | contradiction | intro _ | refine And.intro ?_ ?_ | refine ex_get (by omega) ?_ | (show drawB _ _ = true; kernel_rfl) | (refine ret2 [] (by simp only [go_sem, Bool.not_eq_true', Bool.not_eq_false', List.length_map]; rfl) ?_; simp only [go_sem, Bool.not_eq_true', Bool.not_eq_false', List.length_map])
    all_goals first
      | (exact (hno (by omega)).symm)
      | (exact hno (by omega))
      | ((refine cut_end [] (()) (by simp only [go_sem, Bool.not_eq_true', Bool.not_eq_false']; rfl) ?_ ?_; (focus (simp only [go_sem, Bool.not_eq_true', Bool.not_eq_false']; done)))
         omega)
      | skip
  rintro - ⟨h1, h2, h3⟩
  clear hno
  obtain ⟨f, rfl⟩ := Int.eq_ofNat_of_zero_le h1
  obtain ⟨t, rfl⟩ := Int.eq_ofNat_of_zero_le (show 0 ≤ t by omega)
  have hft : f < t := by omega
  have htl : t ≤ xs.length := by omega
  rw [wideF_nat hft htl]
  have hm := mul_bd (a := (t : Int) - f - 1) (by omega) hsp
  (refine swp_seqW ?_; simp only [go_sem, Bool.not_eq_true', Bool.not_eq_false'])
  refine ⟨by omega, by omega, by omega, ?_⟩
  refine swp_cutS (fun _ : Unit => ⟨[(9, .raw (.int .i64 (wideN sp (seg xs f t))))], [], none⟩) (fun _ => True) 80 ?_ ?_
  · (refine swp_lastW ?_; simp only [go_sem, Bool.not_eq_true', Bool.not_eq_false'])
    refine aloop2 [] (fun k : Nat => ⟨[(0, .sl 1 (xs.map cInt)), (3, .raw (.int .i64 t)), (9, .raw (.int .i64 ((t - f - 1) * sp + (seg xs f k).sum))), (10, .raw (.int .i64 k))], [], none⟩) (fun k => f ≤ k ∧ k ≤ t) (fun k => t - k) 80 f (by simp only [go_sem, Bool.not_eq_true', Bool.not_eq_false']; rfl) (by simp only [go_sem, Bool.not_eq_true', Bool.not_eq_false', seg_same, List.sum_nil, Int.add_zero]) ?_ ?_
    · omega
    · rintro k ⟨k1, k2⟩
      have hs := sum_bd h.near f k k1 (by omega)
      simp only [go_sem, Bool.not_eq_true', Bool.not_eq_false', List.length_map]
      refine ⟨fun h5 => ?_, fun h5 => ?_⟩
      · have hk : k < xs.length := by omega
        have hn := near9_at h.near k hk
        have e := seg_succ xs f k (by omega) hk
        repeat' first | contradiction | intro _ | refine And.intro ?_ ?_ | refine ex_get (by omega) ?_ | (show drawB _ _ = true; kernel_rfl) | (refine ret2 [] (by simp only [go_sem, Bool.not_eq_true', Bool.not_eq_false', List.length_map]; rfl) ?_; simp only [go_sem, Bool.not_eq_true', Bool.not_eq_false', List.length_map])
        all_goals first
          | omega
          | ((refine loop_end [] (k + 1) (by simp only [go_sem, Bool.not_eq_true', Bool.not_eq_false']; rfl) ?_ ?_ ?_; (focus first | omega | (simp only; omega)); (focus (simp only [go_sem, Bool.not_eq_true', Bool.not_eq_false', e, List.sum_append, List.sum_cons, List.sum_nil, Int.add_zero, Int.add_assoc]; done)))
             omega)
          | skip
      · obtain rfl : k = t := by omega
        have e : ((k : Int) - f - 1) * sp + (seg xs f k).sum = wideN sp (seg xs f k) := by
          unfold wideN
          rw [seg_len xs f k htl, show (((k - f : Nat) : Int) - 1) = (k : Int) - f - 1 by omega, Int.add_comm]
        rw [e]
        (refine cut_end [] (()) (by simp only [go_sem, Bool.not_eq_true', Bool.not_eq_false']; rfl) ?_ ?_; (focus (simp only [go_sem, Bool.not_eq_true', Bool.not_eq_false']; done)))
        trivial
  rintro - -
  (refine swp_lastW ?_; simp only [go_sem, Bool.not_eq_true', Bool.not_eq_false'])
set_option maxRecDepth 100000 in
set_option maxHeartbeats 4000000 in
theorem far9_ok (xs : List Int) (sp f : Int) : FnOk Try.prog 31 [.agg [.sl 1 (xs.map cInt), .raw (.int .i64 sp)], .raw (.int .i64 f)] [] (.raw (.bool (decide (f < 0 ∨ (xs.length : Int) ≤ f)))) [] := by
  refine fn_of_awp Try.func31 rfl (by kernel_rfl) (by kernel_rfl) (Nat.le_of_ble_eq_true rfl) Try.results31 ?_
  simp only [go_sem, Bool.not_eq_true', Bool.not_eq_false', List.length_map]
  repeat' first | contradiction | intro _ | refine And.intro ?_ ?_ | refine ex_get (by omega) ?_ | (show drawB _ _ = true; kernel_rfl) | (refine ret2 [] (by simp only [go_sem, Bool.not_eq_true', Bool.not_eq_false', List.length_map]; rfl) ?_; simp only [go_sem, Bool.not_eq_true', Bool.not_eq_false', List.length_map])
  all_goals first | (simp_all; done) | (simp_all; omega)
set_option maxRecDepth 100000 in
theorem ends9_ok (xs : List Int) (sp f : Int) : FnOk Try.prog 32 [.agg [.sl 1 (xs.map cInt), .raw (.int .i64 sp)], .raw (.int .i64 f)] [] (.clo (.func 60) [.hdr 8, .hdr 9]) [(8, .cells 75 [.sl 1 (xs.map cInt), .raw (.int .i64 sp)]), (9, .cells 3 [.raw (.int .i64 f)])] := by
  refine fn_of_awp Try.func32 rfl (by kernel_rfl) (by kernel_rfl) (Nat.le_of_ble_eq_true rfl) Try.results32 ?_
  simp only [go_sem, Bool.not_eq_true', Bool.not_eq_false']
  (refine ret2 [] (by simp only [go_sem, Bool.not_eq_true', Bool.not_eq_false']; rfl) ?_; simp only [go_sem, Bool.not_eq_true', Bool.not_eq_false'])
end Go.Proofs.Ytblmebjhhanoaaa
/- CHAPTER 9 (second engine): the program's Wide; the document's Take and the program's. -/
/- G -/
/- BOOLS -/
set_option linter.unusedSimpArgs false
set_option linter.unusedVariables false
namespace Go.Proofs.Ytblmebjhhanoaaa
open Go.RowKit

set_option maxRecDepth 100000 in
set_option maxHeartbeats 4000000 in
theorem rtake_ok (xs : List Int) (sp width f : Int) (h : WorOk xs sp) : FnOk Try.prog 137 [.sl 1 (xs.map cInt), .raw (.int .i64 sp), .raw (.int .i64 width), .raw (.int .i64 f)] [] (aRun (takeF xs sp width f)) [] := by
  have hno := @takeF_no xs sp width f
  have hlen := h.len
  refine fn_of_swp Try.func137 rfl (by kernel_rfl) (by kernel_rfl) (Nat.le_of_ble_eq_true rfl) Try.results137 ?_
  (refine swp_seqW ?_; simp only [go_sem, Bool.not_eq_true', Bool.not_eq_false'])
  refine swp_cutS (fun _ : Unit => ⟨[(0, .sl 1 (xs.map cInt)), (1, .raw (.int .i64 sp)), (2, .raw (.int .i64 width)), (3, .raw (.int .i64 f)), (8, .hdr 8)], [(8, some (.cells 170 [.raw (.int .i64 0), .raw (.int .i64 0), .raw (.int .i64 0)]))], none⟩) (fun _ => 0 ≤ f ∧ f < xs.length) 60 ?_ ?_
  · (refine swp_lastW ?_; simp only [go_sem, Bool.not_eq_true', Bool.not_eq_false', List.length_map])
    repeat' first | contradiction | intro _ | refine And.intro ?_ ?_ | refine ex_get (by omega) ?_ | (show drawB _ _ = true; kernel_rfl) | (refine ret2 [] (by simp only [go_sem, Bool.not_eq_true', Bool.not_eq_false', List.length_map]; rfl) ?_; simp only [go_sem, Bool.not_eq_true', Bool.not_eq_false', List.length_map])
    all_goals first
      | (rw [hno (by omega)])
      | ((refine cut_end [] (()) (by simp only [go_sem, Bool.not_eq_true', Bool.not_eq_false']; rfl) ?_ ?_; (focus (simp only [go_sem, Bool.not_eq_true', Bool.not_eq_false']; done)))
         omega)
      | skip
  rintro - ⟨h1, h2⟩
  clear hno
  obtain ⟨f, rfl⟩ := Int.eq_ofNat_of_zero_le h1
  have hf : f < xs.length := by omega
  rw [takeF_nat hf]
  (refine swp_seqW ?_; simp only [go_sem, Bool.not_eq_true', Bool.not_eq_false'])
  refine ⟨by omega, ?_⟩
  refine swp_cutS (fun _ : Unit => ⟨[(0, .sl 1 (xs.map cInt)), (1, .raw (.int .i64 sp)), (3, .raw (.int .i64 f)), (8, .hdr 8), (9, .raw (.int .i64 (takeT xs sp width f : Nat)))], [(8, some (.cells 170 [.raw (.int .i64 0), .raw (.int .i64 0), .raw (.int .i64 0)]))], none⟩) (fun _ => True) 80 ?_ ?_
  · (refine swp_lastW ?_; simp only [go_sem, Bool.not_eq_true', Bool.not_eq_false'])
    refine aloop2 [] (fun t : Nat => ⟨[(0, .sl 1 (xs.map cInt)), (1, .raw (.int .i64 sp)), (2, .raw (.int .i64 width)), (3, .raw (.int .i64 f)), (8, .hdr 8), (9, .raw (.int .i64 t))], [(8, some (.cells 170 [.raw (.int .i64 0), .raw (.int .i64 0), .raw (.int .i64 0)]))], none⟩) (fun t => (f + 1 ≤ t ∧ t ≤ xs.length) ∧ growT xs sp width f (xs.length - t) t = takeT xs sp width f) (fun t => xs.length - t) 80 (f + 1) (by simp only [go_sem, Bool.not_eq_true', Bool.not_eq_false']; rfl) (by simp only [go_sem, Bool.not_eq_true', Bool.not_eq_false']) ?_ ?_
    · exact ⟨⟨Nat.le_refl _, hf⟩, rfl⟩
    · rintro t ⟨⟨t1, t2⟩, t3⟩
      have hy := @growT_yes xs sp width f t
      have hn := @growT_no xs sp width f t
      have hwd : t < xs.length → wideF xs sp f ((t : Int) + 1) = wideN sp (seg xs f (t + 1)) := fun q => by
        have := wideF_nat (xs := xs) (sp := sp) (f := f) (t := t + 1) (by omega) (by omega)
        simpa using this
      simp only [go_sem, Bool.not_eq_true', Bool.not_eq_false', List.length_map]
      repeat' first | contradiction | intro _ | refine And.intro ?_ ?_ | refine ex_get (by omega) ?_ | (show drawB _ _ = true; kernel_rfl) | (refine ret2 [] (by simp only [go_sem, Bool.not_eq_true', Bool.not_eq_false', List.length_map]; rfl) ?_; simp only [go_sem, Bool.not_eq_true', Bool.not_eq_false', List.length_map]) | (refine acall2 [] (rwide_ok xs sp f ((t : Int) + 1) h) (by simp only [go_sem, Bool.not_eq_true', Bool.not_eq_false']; rfl) (fit_of (by simp only [go_sem, Bool.not_eq_true', Bool.not_eq_false']) (by simp only [go_sem, Bool.not_eq_true', Bool.not_eq_false']) (by simp only [go_sem, Bool.not_eq_true', Bool.not_eq_false']) (by simp only [go_sem, Bool.not_eq_true', Bool.not_eq_false']) (by simp only [go_sem, Bool.not_eq_true', Bool.not_eq_false']) (by simp only [go_sem, Bool.not_eq_true', Bool.not_eq_false']) (by simp only [go_sem, Bool.not_eq_true', Bool.not_eq_false'])) ?_; simp only [go_sem, Bool.not_eq_true', Bool.not_eq_false', List.length_map])
      all_goals first
        | omega
        | (have q1 : t < xs.length := by omega
           have q2 := hwd q1
           have q3 : wideN sp (seg xs f (t + 1)) ≤ width := by omega
           (refine loop_end [] (t + 1) (by simp only [go_sem, Bool.not_eq_true', Bool.not_eq_false']; rfl) ?_ ?_ ?_; (focus first | omega | (simp only; omega)); (focus (simp only [go_sem, Bool.not_eq_true', Bool.not_eq_false']; done)))
           exact ⟨by omega, by rw [← hy q1 q3]; exact t3⟩)
        | (have e : takeT xs sp width f = t := by
             rw [← t3]
             refine hn fun q => ?_
             have := hwd q.1
             omega
           rw [e]
           (refine cut_end [] (()) (by simp only [go_sem, Bool.not_eq_true', Bool.not_eq_false']; rfl) ?_ ?_; (focus (simp only [go_sem, Bool.not_eq_true', Bool.not_eq_false']; done)))
           trivial)
        | skip
  rintro - -
  have hb := takeT_bd xs sp width f hf
  have hwt := wideF_nat (xs := xs) (sp := sp) hb.1 hb.2
  (refine swp_lastW ?_; simp only [go_sem, Bool.not_eq_true', Bool.not_eq_false'])
  (refine acall2 [] (rwide_ok xs sp f (takeT xs sp width f : Nat) h) (by simp only [go_sem, Bool.not_eq_true', Bool.not_eq_false']; rfl) (fit_of (by simp only [go_sem, Bool.not_eq_true', Bool.not_eq_false']) (by simp only [go_sem, Bool.not_eq_true', Bool.not_eq_false']) (by simp only [go_sem, Bool.not_eq_true', Bool.not_eq_false']) (by simp only [go_sem, Bool.not_eq_true', Bool.not_eq_false']) (by simp only [go_sem, Bool.not_eq_true', Bool.not_eq_false']) (by simp only [go_sem, Bool.not_eq_true', Bool.not_eq_false']) (by simp only [go_sem, Bool.not_eq_true', Bool.not_eq_false'])) ?_; simp only [go_sem, Bool.not_eq_true', Bool.not_eq_false'])
  rw [hwt]
set_option maxRecDepth 100000 in
set_option maxHeartbeats 8000000 in
theorem wide_ok (xs : List Int) (sp f t : Int) (h : WorOk xs sp) : FnOk Try.prog 11 [.sl 1 (xs.map cInt), .raw (.int .i64 sp), .raw (.int .i64 f), .raw (.int .i64 t)] [] (.raw (.int .i64 (wideF xs sp f t))) [] := by
  have hno := @wideF_no xs sp f t
  have hlen := h.len
  have hsp := h.sp
  refine fn_of_swp Try.func11 rfl (by kernel_rfl) (by kernel_rfl) (Nat.le_of_ble_eq_true rfl) Try.results11 ?_
  (refine swp_seqW ?_; simp only [go_sem, Bool.not_eq_true', Bool.not_eq_false'])
  (refine swp_seqW ?_; simp only [go_sem, Bool.not_eq_true', Bool.not_eq_false'])
  refine swp_cutS (fun _ : Unit => ⟨[(2, .raw (.int .i64 f)), (7, .hdr 8), (8, .hdr 16), (9, .hdr 48)], [(8, some (.cells 3 [.raw (.int .i64 t)])), (16, some (.cells 3 [.raw (.int .i64 0)])), (48, some (.cells 75 [.sl 1 (xs.map cInt), .raw (.int .i64 sp)]))], none⟩) (fun _ => 0 ≤ f ∧ f < t ∧ t ≤ xs.length) 60 ?_ ?_
  · (refine swp_lastW ?_; simp only [go_sem, Bool.not_eq_true', Bool.not_eq_false', List.length_map])
    repeat' first | contradiction | intro _ | refine And.intro ?_ ?_ | refine ex_get (by omega) ?_ | (show drawB _ _ = true; kernel_rfl) | (refine ret2 [] (by simp only [go_sem, Bool.not_eq_true', Bool.not_eq_false', List.length_map]; rfl) ?_; simp only [go_sem, Bool.not_eq_true', Bool.not_eq_false', List.length_map]) | (refine acall2 [] (far9_ok xs sp f) (by simp only [go_sem, Bool.not_eq_true', Bool.not_eq_false']; rfl) (fit_of (by simp only [go_sem, Bool.not_eq_true', Bool.not_eq_false']) (by simp only [go_sem, Bool.not_eq_true', Bool.not_eq_false']) (by simp only [go_sem, Bool.not_eq_true', Bool.not_eq_false']) (by simp only [go_sem, Bool.not_eq_true', Bool.not_eq_false']) (by simp only [go_sem, Bool.not_eq_true', Bool.not_eq_false']) (by simp only [go_sem, Bool.not_eq_true', Bool.not_eq_false']) (by simp only [go_sem, Bool.not_eq_true', Bool.not_eq_false'])) ?_; simp only [go_sem, Bool.not_eq_true', Bool.not_eq_false', List.length_map])
    all_goals first
      | (rw [hno (by omega)])
      | ((refine cut_end [] (()) (by simp only [go_sem, Bool.not_eq_true', Bool.not_eq_false']; rfl) ?_ ?_; (focus (simp only [go_sem, Bool.not_eq_true', Bool.not_eq_false']; done)))
         omega)
      | skip
  rintro - ⟨h1, h2, h3⟩
  clear hno
  obtain ⟨f, rfl⟩ := Int.eq_ofNat_of_zero_le h1
  obtain ⟨t, rfl⟩ := Int.eq_ofNat_of_zero_le (show 0 ≤ t by omega)
  have hft : f < t := by omega
  have htl : t ≤ xs.length := by omega
  rw [wideF_nat hft htl]
  refine swp_cutS (fun _ : Unit => ⟨[], [], none⟩) (fun _ => False) 80 ?_ ?_
  · (refine swp_lastW ?_; simp only [go_sem, Bool.not_eq_true', Bool.not_eq_false'])
    (refine acall2 [] (ends9_ok xs sp f) (by simp only [go_sem, Bool.not_eq_true', Bool.not_eq_false']; rfl) (fit_of (by simp only [go_sem, Bool.not_eq_true', Bool.not_eq_false']) (by simp only [go_sem, Bool.not_eq_true', Bool.not_eq_false']) (by simp only [go_sem, Bool.not_eq_true', Bool.not_eq_false']) (by simp only [go_sem, Bool.not_eq_true', Bool.not_eq_false']) (by simp only [go_sem, Bool.not_eq_true', Bool.not_eq_false']) (by simp only [go_sem, Bool.not_eq_true', Bool.not_eq_false']) (by simp only [go_sem, Bool.not_eq_true', Bool.not_eq_false'])) ?_; simp only [go_sem, Bool.not_eq_true', Bool.not_eq_false'])
    (refine arangeS (by simp only [go_sem, Bool.not_eq_true', Bool.not_eq_false']; rfl) Try.func60 rfl (by kernel_rfl) (by kernel_rfl) (Nat.le_of_ble_eq_true rfl) Try.results60 ?_; intro tm1 lc1 hfit1 hps1 hasg1 hbody1; simp only [List.toList_toArray] at hps1)
    (refine swp_seqW ?_; simp only [go_sem, Bool.not_eq_true', Bool.not_eq_false'])
    refine ⟨⟨by omega, by omega⟩, ?_⟩
    (refine swp_seqW ?_; simp only [go_sem, Bool.not_eq_true', Bool.not_eq_false'])
    refine swp_block ?_
    refine swp_loop2 [] (fun k : Nat => ⟨[(0, .hdr 504), (1, .hdr 496), (2, .hdr 497), (4, .raw (.int .i64 (wideN sp (seg xs f k)))), (5, .raw (.int .i64 k))], [(504, some (.loop tm1 lc1 .ready)), (505, some (.frm tm1 [(7, .hdr 8), (8, .hdr 16)])), (496, some (.cells 75 [.sl 1 (xs.map cInt), .raw (.int .i64 sp)])), (497, some (.cells 3 [.raw (.int .i64 f)])), (8, some (.cells 3 [.raw (.int .i64 t)])), (16, some (.cells 3 [.raw (.int .i64 0)]))], none⟩) (fun k => f ≤ k ∧ k < t) (fun k => t - k) 80 f (by simp only [go_sem, Bool.not_eq_true', Bool.not_eq_false']; rfl) (by simp only [go_sem, Bool.not_eq_true', Bool.not_eq_false', wide_none]) ?_ ?_
    · exact ⟨Nat.le_refl _, hft⟩
    rintro k ⟨k1, k2⟩
    have hkl : k < xs.length := by omega
    have hb1 := wide_bd2 h k1 (by omega)
    have hb2 := wide_bd2 h (show f ≤ k + 1 by omega) hkl
    have hn := near9_at h.near k hkl
    have e := wide_seg sp xs f k k1 hkl
    (refine swp_seqW ?_; simp only [go_sem, Bool.not_eq_true', Bool.not_eq_false', List.length_map])
    refine ⟨fun _ => ?_, fun q => (by omega)⟩
    refine swp_seqS ?_
    refine swp_block ?_
    (refine swp_seqW ?_; simp only [go_sem, Bool.not_eq_true', Bool.not_eq_false'])
    refine ⟨by omega, ex_get hkl ⟨by omega, by omega, ?_⟩⟩
    rw [← e]
    refine ⟨(show drawB _ _ = true by kernel_rfl), ?_⟩
    (refine swp_seqW ?_; simp only [go_sem, Bool.not_eq_true', Bool.not_eq_false'])
    refine ⟨by omega, ?_⟩
    (refine ayield rfl ?_; simp only [go_sem, Bool.not_eq_true', Bool.not_eq_false', hfit1, hps1, hasg1, hbody1]; intro tmI1)
    refine ⟨fun q => ?_, fun q => ?_⟩
    · obtain rfl : t = k + 1 := by omega
      (refine swp_lastW ?_; simp only [go_sem, Bool.not_eq_true', Bool.not_eq_false'])
    · (refine swp_lastW ?_; simp only [go_sem, Bool.not_eq_true', Bool.not_eq_false'])
      (refine swp_lastW ?_; simp only [go_sem, Bool.not_eq_true', Bool.not_eq_false'])
      refine ⟨by omega, ?_⟩
      (refine loop_end [] (k + 1) (by simp only [go_sem, Bool.not_eq_true', Bool.not_eq_false']; rfl) ?_ ?_ ?_; (focus first | omega | (simp only; omega)); (focus (simp only [go_sem, Bool.not_eq_true', Bool.not_eq_false']; done)))
      omega
  rintro - hF
  exact hF.elim
set_option maxRecDepth 100000 in
set_option maxHeartbeats 8000000 in
theorem take_ok (xs : List Int) (sp width f : Int) (h : WorOk xs sp) : FnOk Try.prog 122 [.sl 1 (xs.map cInt), .raw (.int .i64 sp), .raw (.int .i64 width), .raw (.int .i64 f)] [] (aRun (takeF xs sp width f)) [] := by
  have hno := @takeF_no xs sp width f
  have hlen := h.len
  have hsp := h.sp
  refine fn_of_swp Try.func122 rfl (by kernel_rfl) (by kernel_rfl) (Nat.le_of_ble_eq_true rfl) Try.results122 ?_
  (refine swp_seqW ?_; simp only [go_sem, Bool.not_eq_true', Bool.not_eq_false'])
  (refine swp_seqW ?_; simp only [go_sem, Bool.not_eq_true', Bool.not_eq_false'])
  refine swp_cutS (fun _ : Unit => ⟨[(3, .raw (.int .i64 f)), (6, .hdr 8), (7, .hdr 16), (8, .hdr 24), (9, .hdr 56)], [(8, some (.cells 3 [.raw (.int .i64 width)])), (16, some (.cells 3 [.raw (.int .i64 f)])), (24, some (.cells 170 [.raw (.int .i64 0), .raw (.int .i64 0), .raw (.int .i64 0)])), (56, some (.cells 75 [.sl 1 (xs.map cInt), .raw (.int .i64 sp)]))], none⟩) (fun _ => 0 ≤ f ∧ f < xs.length) 60 ?_ ?_
  · (refine swp_lastW ?_; simp only [go_sem, Bool.not_eq_true', Bool.not_eq_false', List.length_map])
    repeat' first | contradiction | intro _ | refine And.intro ?_ ?_ | refine ex_get (by omega) ?_ | (show drawB _ _ = true; kernel_rfl) | (refine ret2 [] (by simp only [go_sem, Bool.not_eq_true', Bool.not_eq_false', List.length_map]; rfl) ?_; simp only [go_sem, Bool.not_eq_true', Bool.not_eq_false', List.length_map]) | (refine acall2 [] (far9_ok xs sp f) (by simp only [go_sem, Bool.not_eq_true', Bool.not_eq_false']; rfl) (fit_of (by simp only [go_sem, Bool.not_eq_true', Bool.not_eq_false']) (by simp only [go_sem, Bool.not_eq_true', Bool.not_eq_false']) (by simp only [go_sem, Bool.not_eq_true', Bool.not_eq_false']) (by simp only [go_sem, Bool.not_eq_true', Bool.not_eq_false']) (by simp only [go_sem, Bool.not_eq_true', Bool.not_eq_false']) (by simp only [go_sem, Bool.not_eq_true', Bool.not_eq_false']) (by simp only [go_sem, Bool.not_eq_true', Bool.not_eq_false'])) ?_; simp only [go_sem, Bool.not_eq_true', Bool.not_eq_false', List.length_map])
    all_goals first
      | (rw [hno (by omega)])
      | ((refine cut_end [] (()) (by simp only [go_sem, Bool.not_eq_true', Bool.not_eq_false']; rfl) ?_ ?_; (focus (simp only [go_sem, Bool.not_eq_true', Bool.not_eq_false']; done)))
         omega)
      | skip
  rintro - ⟨h1, h2⟩
  clear hno
  obtain ⟨f, rfl⟩ := Int.eq_ofNat_of_zero_le h1
  have hf : f < xs.length := by omega
  have htb := takeT_bd xs sp width f hf
  rw [takeF_nat hf]
  (refine swp_seqW ?_; simp only [go_sem, Bool.not_eq_true', Bool.not_eq_false'])
  refine swp_cutS (fun _ : Unit => ⟨[(8, .hdr 24), (10, .hdr 480)], [(24, some (.cells 170 [.raw (.int .i64 0), .raw (.int .i64 0), .raw (.int .i64 0)])), (480, some (.cells 170 [.raw (.int .i64 f), .raw (.int .i64 (takeT xs sp width f : Nat)), .raw (.int .i64 (wideN sp (seg xs f (takeT xs sp width f))))]))], none⟩) (fun _ => True) 80 ?_ ?_
  · (refine swp_lastW ?_; simp only [go_sem, Bool.not_eq_true', Bool.not_eq_false'])
    (refine acall2 [] (ends9_ok xs sp f) (by simp only [go_sem, Bool.not_eq_true', Bool.not_eq_false']; rfl) (fit_of (by simp only [go_sem, Bool.not_eq_true', Bool.not_eq_false']) (by simp only [go_sem, Bool.not_eq_true', Bool.not_eq_false']) (by simp only [go_sem, Bool.not_eq_true', Bool.not_eq_false']) (by simp only [go_sem, Bool.not_eq_true', Bool.not_eq_false']) (by simp only [go_sem, Bool.not_eq_true', Bool.not_eq_false']) (by simp only [go_sem, Bool.not_eq_true', Bool.not_eq_false']) (by simp only [go_sem, Bool.not_eq_true', Bool.not_eq_false'])) ?_; simp only [go_sem, Bool.not_eq_true', Bool.not_eq_false'])
    (refine arangeS (by simp only [go_sem, Bool.not_eq_true', Bool.not_eq_false']; rfl) Try.func60 rfl (by kernel_rfl) (by kernel_rfl) (Nat.le_of_ble_eq_true rfl) Try.results60 ?_; intro tm1 lc1 hfit1 hps1 hasg1 hbody1; simp only [List.toList_toArray] at hps1)
    (refine swp_seqW ?_; simp only [go_sem, Bool.not_eq_true', Bool.not_eq_false'])
    refine ⟨⟨by omega, by omega⟩, ?_⟩
    (refine swp_seqW ?_; simp only [go_sem, Bool.not_eq_true', Bool.not_eq_false'])
    refine swp_block ?_
    refine swp_loop2 [] (fun z : KY WRun => ⟨[(0, .hdr 512), (1, .hdr 504), (2, .hdr 505), (4, .raw (.int .i64 (wideN sp (seg xs f z.k)))), (5, .raw (.int .i64 z.k))], [(512, some (.loop tm1 lc1 .ready)), (513, some (.frm tm1 [(6, .hdr 8), (7, .hdr 16), (8, .hdr 24), (10, .hdr 480)])), (504, some (.cells 75 [.sl 1 (xs.map cInt), .raw (.int .i64 sp)])), (505, some (.cells 3 [.raw (.int .i64 f)])), (8, some (.cells 3 [.raw (.int .i64 width)])), (16, some (.cells 3 [.raw (.int .i64 f)])), (24, some (.cells 170 [.raw (.int .i64 0), .raw (.int .i64 0), .raw (.int .i64 0)])), (480, some (.cells 170 [.raw (.int .i64 z.o.f), .raw (.int .i64 z.o.t), .raw (.int .i64 z.o.w)]))], none⟩) (fun z => (f ≤ z.k ∧ z.k ≤ xs.length) ∧ (f < z.k → z.o = ⟨f, z.k, wideN sp (seg xs f z.k)⟩ ∧ growT xs sp width f (xs.length - z.k) z.k = takeT xs sp width f)) (fun z => xs.length - z.k) 80 ⟨f, ⟨0, 0, 0⟩⟩ (by simp only [go_sem, Bool.not_eq_true', Bool.not_eq_false']; rfl) (by simp only [go_sem, Bool.not_eq_true', Bool.not_eq_false', wide_none]) ?_ ?_
    · exact ⟨⟨Nat.le_refl _, Nat.le_of_lt hf⟩, fun q => absurd q (Nat.lt_irrefl _)⟩
    rintro ⟨k, o⟩ ⟨⟨k1, k2⟩, k3⟩
    simp only at k1 k2 k3
    have hy := @growT_yes xs sp width f k
    have hn := @growT_no xs sp width f k
    (refine swp_seqW ?_; simp only [go_sem, Bool.not_eq_true', Bool.not_eq_false', List.length_map])
    refine ⟨fun h5 => ?_, fun h5 => ?_⟩
    rotate_left
    · obtain rfl : k = xs.length := by omega
      obtain ⟨rfl, e2⟩ := k3 hf
      have e3 : takeT xs sp width f = xs.length := by rw [← e2, Nat.sub_self]; rfl
      rw [e3]
      (refine cut_end [] (()) (by simp only [go_sem, Bool.not_eq_true', Bool.not_eq_false']; rfl) ?_ ?_; (focus (simp only [go_sem, Bool.not_eq_true', Bool.not_eq_false']; done)))
      trivial
    have hkl : k < xs.length := by omega
    have hb1 := wide_bd2 h k1 (by omega)
    have hb2 := wide_bd2 h (show f ≤ k + 1 by omega) hkl
    have hx := near9_at h.near k hkl
    have e := wide_seg sp xs f k k1 hkl
    refine swp_seqS ?_
    refine swp_block ?_
    (refine swp_seqW ?_; simp only [go_sem, Bool.not_eq_true', Bool.not_eq_false'])
    refine ⟨by omega, ex_get hkl ⟨by omega, by omega, ?_⟩⟩
    rw [← e]
    refine ⟨(show drawB _ _ = true by kernel_rfl), ?_⟩
    (refine swp_seqW ?_; simp only [go_sem, Bool.not_eq_true', Bool.not_eq_false'])
    refine ⟨by omega, ?_⟩
    (refine ayield rfl ?_; simp only [go_sem, Bool.not_eq_true', Bool.not_eq_false', hfit1, hps1, hasg1, hbody1]; intro tmI1)
    have hnew : ¬ ((f : Int) + 1 < k + 1 ∧ width < wideN sp (seg xs f (k + 1))) → (f < k + 1 → (⟨f, (k + 1 : Nat), wideN sp (seg xs f (k + 1))⟩ : WRun) = ⟨f, (k + 1 : Nat), wideN sp (seg xs f (k + 1))⟩ ∧ growT xs sp width f (xs.length - (k + 1)) (k + 1) = takeT xs sp width f) := fun q _ => by
      refine ⟨rfl, ?_⟩
      by_cases w : f < k
      · rw [← hy hkl (by omega)]
        exact (k3 w).2
      · obtain rfl : f = k := by omega
        rfl
    have hbrk : (f : Int) + 1 < k + 1 → width < wideN sp (seg xs f (k + 1)) → o = ⟨f, k, wideN sp (seg xs f k)⟩ ∧ takeT xs sp width f = k := fun q1 q2 => by
      obtain ⟨e1, e2⟩ := k3 (by omega)
      exact ⟨e1, by rw [← e2]; exact hn fun w => by omega⟩
    clear k3
    repeat' first | contradiction | intro _ | refine And.intro ?_ ?_ | refine ex_get (by omega) ?_ | (show drawB _ _ = true; kernel_rfl) | (refine ret2 [] (by simp only [go_sem, Bool.not_eq_true', Bool.not_eq_false']; rfl) ?_; simp only [go_sem, Bool.not_eq_true', Bool.not_eq_false'])
    all_goals first
      | omega
      | (obtain ⟨e1, e2⟩ := hbrk (by assumption) (by assumption)
         rw [e1, e2]
         (refine swp_lastW ?_; simp only [go_sem, Bool.not_eq_true', Bool.not_eq_false'])
         (refine cut_end [] (()) (by simp only [go_sem, Bool.not_eq_true', Bool.not_eq_false']; rfl) ?_ ?_; (focus (simp only [go_sem, Bool.not_eq_true', Bool.not_eq_false']; done)))
         trivial)
      | ((refine swp_lastW ?_; simp only [go_sem, Bool.not_eq_true', Bool.not_eq_false'])
         (refine swp_lastW ?_; simp only [go_sem, Bool.not_eq_true', Bool.not_eq_false'])
         refine ⟨by omega, ?_⟩
         (refine loop_end [] (⟨k + 1, ⟨f, (k + 1 : Nat), wideN sp (seg xs f (k + 1))⟩⟩) (by simp only [go_sem, Bool.not_eq_true', Bool.not_eq_false']; rfl) ?_ ?_ ?_; (focus first | omega | (simp only; omega)); (focus (simp only [go_sem, Bool.not_eq_true', Bool.not_eq_false']; done)))
         exact ⟨⟨by simp only; omega, hkl⟩, hnew (by omega)⟩)
      | skip
  rintro - -
  (refine swp_lastW ?_; simp only [go_sem, Bool.not_eq_true', Bool.not_eq_false'])
end Go.Proofs.Ytblmebjhhanoaaa
/- CHAPTER 12: lines: the room for a width. -/
/- G -/
/- BOOLS -/
set_option linter.unusedSimpArgs false
set_option linter.unusedVariables false
namespace Go.Proofs.Ytblmebjhhanoaaa
open Go.RowKit

theorem fold_mono {y H : Int} : ∀ (l : List LFl) (o : LSpan), o.a ≤ (l.foldl (ofT y H) o).a ∧ (l.foldl (ofT y H) o).b ≤ o.b
  | [], o => ⟨Int.le_refl _, Int.le_refl _⟩
  | f :: l, o => by
    have ih := fold_mono (y := y) (H := H) l (ofT y H o f)
    rw [List.foldl_cons]
    have h1 : o.a ≤ (ofT y H o f).a ∧ (ofT y H o f).b ≤ o.b := by
      unfold ofT cutF
      split
      · split <;> (simp only; omega)
      · omega
    omega
theorem band_same {y H : Int} : ∀ (l : List LFl) (s : LSpan), ((l.foldl (ofT y H) s).a = s.a ∧ (l.foldl (ofT y H) s).b = s.b) ↔ ∀ f ∈ l, meetF f y H = true → (cutF f s).a = s.a ∧ (cutF f s).b = s.b
  | [], s => by simp
  | f :: l, s => by
    have hm := fold_mono (y := y) (H := H) l (ofT y H s f)
    rw [List.foldl_cons]
    have h1 : s.a ≤ (ofT y H s f).a ∧ (ofT y H s f).b ≤ s.b := by
      unfold ofT cutF
      split
      · split <;> (simp only; omega)
      · omega
    have key : (ofT y H s f).a = s.a → (ofT y H s f).b = s.b → ofT y H s f = s := fun q1 q2 => by
      rcases h : ofT y H s f with ⟨a, b⟩
      rw [h] at q1 q2
      simp only at q1 q2
      rw [q1, q2]
    constructor
    · rintro ⟨e1, e2⟩
      have e := key (by omega) (by omega)
      rw [e] at e1 e2
      have ih := (band_same l s).1 ⟨e1, e2⟩
      intro g hg hmg
      rcases List.mem_cons.1 hg with rfl | hg
      · have : ofT y H s g = cutF g s := by unfold ofT; rw [if_pos hmg]
        rw [this] at e
        rw [e]
        exact ⟨rfl, rfl⟩
      · exact ih g hg hmg
    · intro h
      have e : ofT y H s f = s := by
        by_cases q : meetF f y H = true
        · have := h f List.mem_cons_self q
          exact key (by unfold ofT; rw [if_pos q]; exact this.1) (by unfold ofT; rw [if_pos q]; exact this.2)
        · unfold ofT; rw [if_neg q]
      rw [e]
      exact (band_same l s).2 fun g hg => h g (List.mem_cons_of_mem _ hg)
theorem next_fold {y H : Int} {s : LSpan} : ∀ (l : List LFl) (o : LIs), (l.foldl (nextT y H s) o).is = false ↔ o.is = false ∧ ∀ f ∈ l, meetF f y H = true → (cutF f s).a = s.a ∧ (cutF f s).b = s.b
  | [], o => by simp
  | f :: l, o => by
    rw [List.foldl_cons, next_fold l]
    unfold nextT
    constructor
    · rintro ⟨h1, h2⟩
      split at h1
      · cases h1
      · next hc =>
        refine ⟨h1, fun g hg hm => ?_⟩
        rcases List.mem_cons.1 hg with rfl | hg
        · refine Decidable.byContradiction fun w => hc ⟨hm, w, fun q => by rw [h1] at q; cases q⟩
        · exact h2 g hg hm
    · rintro ⟨h1, h2⟩
      rw [if_neg fun w => w.2.1 (h2 f List.mem_cons_self w.1)]
      exact ⟨h1, fun g hg => h2 g (List.mem_cons_of_mem _ hg)⟩
theorem same_next (l : List LFl) (y H : Int) (s : LSpan) : ((bandF l y H s).a = s.a ∧ (bandF l y H s).b = s.b) ↔ (nextF l y H s).is = false := by
  unfold bandF nextF
  rw [band_same, next_fold]
  simp
structure LinOk (l : List LFl) (H : Int) (s : LSpan) : Prop where
  len : l.length ≤ 60
  near : l.all nearF = true
  h : -1125899906842624 ≤ H ∧ H ≤ 1125899906842624
  s : (-1125899906842624 ≤ s.a ∧ s.a ≤ 1125899906842624) ∧ (-1125899906842624 ≤ s.b ∧ s.b ≤ 1125899906842624)
theorem band_nearL {l : List LFl} {H : Int} {s : LSpan} (h : LinOk l H s) (y' H' : Int) : nearS (bandF l y' H' s) := by
  have := band_bd h.near (y := y') (H := H') h.s
  unfold nearS
  omega
def aStr (l : List LFl) (H y : Int) (s : LSpan) : AV := .agg [.raw (.int .i64 s.a), .raw (.int .i64 s.b), .sl 7 (l.map cFl), .raw (.int .i64 H), .raw (.int .i64 y)]
attribute [go_sem] aStr
set_option maxRecDepth 100000 in
theorem sband_ok (l : List LFl) (H y : Int) (s : LSpan) (h : LinOk l H s) (hy : in10 y) : FnOk Try.prog 104 [aStr l H y s] [] (aSpan (bandF l y H s)) [] := by
  have := h.len
  have hh := h.h
  refine fn_of_awp Try.func104 rfl (by kernel_rfl) (by kernel_rfl) (Nat.le_of_ble_eq_true rfl) Try.results104 ?_
  simp only [go_sem, Bool.not_eq_true', Bool.not_eq_false']
  (refine acall2 [] (bof10_ok l y H s (by omega) h.near hy (by unfold in10; omega)) (by simp only [go_sem, Bool.not_eq_true', Bool.not_eq_false']; rfl) (fit_of (by simp only [go_sem, Bool.not_eq_true', Bool.not_eq_false']) (by simp only [go_sem, Bool.not_eq_true', Bool.not_eq_false']) (by simp only [go_sem, Bool.not_eq_true', Bool.not_eq_false']) (by simp only [go_sem, Bool.not_eq_true', Bool.not_eq_false']) (by simp only [go_sem, Bool.not_eq_true', Bool.not_eq_false']) (by simp only [go_sem, Bool.not_eq_true', Bool.not_eq_false']) (by simp only [go_sem, Bool.not_eq_true', Bool.not_eq_false'])) ?_; simp only [go_sem, Bool.not_eq_true', Bool.not_eq_false'])
def fitL (l : List LFl) (H y w : Int) (s : LSpan) : Prop := w ≤ lenS (bandF l y H s) ∨ (nextF l y H s).is = false
instance (l : List LFl) (H y w : Int) (s : LSpan) : Decidable (fitL l H y w s) := by unfold fitL; infer_instance
set_option maxRecDepth 100000 in
theorem fits_ok (l : List LFl) (H y w : Int) (s : LSpan) (h : LinOk l H s) (hy : in10 y) : FnOk Try.prog 102 [aStr l H y s, .raw (.int .i64 w)] [] (.raw (.bool (decide (fitL l H y w s)))) [] := by
  have hs := same_next l y H s
  refine fn_of_awp Try.func102 rfl (by kernel_rfl) (by kernel_rfl) (Nat.le_of_ble_eq_true rfl) Try.results102 ?_
  simp only [go_sem, Bool.not_eq_true', Bool.not_eq_false']
  (refine acall2 [] (sband_ok l H y s h hy) (by simp only [go_sem, Bool.not_eq_true', Bool.not_eq_false']; rfl) (fit_of (by simp only [go_sem, Bool.not_eq_true', Bool.not_eq_false']) (by simp only [go_sem, Bool.not_eq_true', Bool.not_eq_false']) (by simp only [go_sem, Bool.not_eq_true', Bool.not_eq_false']) (by simp only [go_sem, Bool.not_eq_true', Bool.not_eq_false']) (by simp only [go_sem, Bool.not_eq_true', Bool.not_eq_false']) (by simp only [go_sem, Bool.not_eq_true', Bool.not_eq_false']) (by simp only [go_sem, Bool.not_eq_true', Bool.not_eq_false'])) ?_; simp only [go_sem, Bool.not_eq_true', Bool.not_eq_false'])
  (refine acall2 [] (slen_ok (bandF l y H s) (band_nearL h y H)) (by simp only [go_sem, Bool.not_eq_true', Bool.not_eq_false']; rfl) (fit_of (by simp only [go_sem, Bool.not_eq_true', Bool.not_eq_false']) (by simp only [go_sem, Bool.not_eq_true', Bool.not_eq_false']) (by simp only [go_sem, Bool.not_eq_true', Bool.not_eq_false']) (by simp only [go_sem, Bool.not_eq_true', Bool.not_eq_false']) (by simp only [go_sem, Bool.not_eq_true', Bool.not_eq_false']) (by simp only [go_sem, Bool.not_eq_true', Bool.not_eq_false']) (by simp only [go_sem, Bool.not_eq_true', Bool.not_eq_false'])) ?_; simp only [go_sem, Bool.not_eq_true', Bool.not_eq_false'])
  repeat' first | contradiction | intro _ | refine And.intro ?_ ?_ | refine ex_get (by omega) ?_ | (show drawB _ _ = true; kernel_rfl) | (refine ret2 [] (by simp only [go_sem, Bool.not_eq_true', Bool.not_eq_false']; rfl) ?_; simp only [go_sem, Bool.not_eq_true', Bool.not_eq_false']) | (refine acall2 [] (sband_ok l H y s h hy) (by simp only [go_sem, Bool.not_eq_true', Bool.not_eq_false']; rfl) (fit_of (by simp only [go_sem, Bool.not_eq_true', Bool.not_eq_false']) (by simp only [go_sem, Bool.not_eq_true', Bool.not_eq_false']) (by simp only [go_sem, Bool.not_eq_true', Bool.not_eq_false']) (by simp only [go_sem, Bool.not_eq_true', Bool.not_eq_false']) (by simp only [go_sem, Bool.not_eq_true', Bool.not_eq_false']) (by simp only [go_sem, Bool.not_eq_true', Bool.not_eq_false']) (by simp only [go_sem, Bool.not_eq_true', Bool.not_eq_false'])) ?_; simp only [go_sem, Bool.not_eq_true', Bool.not_eq_false'])
  all_goals first
    | (refine ⟨(show drawB _ _ = true by kernel_rfl), ?_⟩)
    | skip
  all_goals first
    | (rw [Bool.eq_iff_iff, decide_eq_true_iff, Bool.and_eq_true, decide_eq_true_iff, decide_eq_true_iff]
       unfold fitL
       rw [← hs]
       exact ⟨fun q => q.resolve_left (by assumption), .inr⟩)
    | (simp only [fitL]; simp_all; done)
    | skip
structure RomX (l : List LFl) (W H : Int) (s : LSpan) (y z : Int) : Prop where
  e : dnP l W H s (cntP l z) z = dnP l W H s (cntP l y) y
  lo : -2251799813685248 ≤ z
  hi : z ≤ 4503599627370496
def romY (l : List LFl) (w H y : Int) (s : LSpan) : Int := dnP l w H s (cntP l y) y
def aRoo (l : List LFl) (w H y : Int) (s : LSpan) : AV := .tup [aSpan (bandF l (romY l w H y s) H s), .raw (.int .i64 (romY l w H y s))]
attribute [go_sem] aRoo
set_option maxRecDepth 100000 in
set_option maxHeartbeats 4000000 in
theorem room12_ok (l : List LFl) (w H y : Int) (s : LSpan) (h : LinOk l H s) (hy : -2251799813685248 ≤ y ∧ y ≤ 4503599627370496) : FnOk Try.prog 75 [.sl 7 (l.map cFl), .raw (.int .i64 w), .raw (.int .i64 H), .raw (.int .i64 y), aSpan s] [] (aRoo l w H y s) [] := by
  have hlen := h.len
  have hh := h.h
  have hin : ∀ z : Int, -2251799813685248 ≤ z ∧ z ≤ 4503599627370496 → in10 z := fun z hz => by unfold in10; omega
  obtain ⟨Y, hY⟩ : ∃ Y, romY l w H y s = Y := ⟨_, rfl⟩
  rw [show aRoo l w H y s = .tup [aSpan (bandF l Y H s), .raw (.int .i64 Y)] by unfold aRoo; rw [hY]]
  refine fn_of_swp Try.func75 rfl (by kernel_rfl) (by kernel_rfl) (Nat.le_of_ble_eq_true rfl) Try.results75 ?_
  (refine swp_seqW ?_; simp only [go_sem, Bool.not_eq_true', Bool.not_eq_false'])
  (refine swp_seqW ?_; simp only [go_sem, Bool.not_eq_true', Bool.not_eq_false'])
  refine swp_cutS (fun _ : Unit => ⟨[(10, .hdr 16), (12, .hdr 72)], [(16, some (.cells 87 [.raw (.int .i64 0), .raw (.int .i64 0)])), (72, some (.cells 153 [.raw (.int .i64 s.a), .raw (.int .i64 s.b), .sl 7 (l.map cFl), .raw (.int .i64 H), .raw (.int .i64 Y)]))], none⟩) (fun _ => -2251799813685248 ≤ Y ∧ Y ≤ 4503599627370496) 40 ?_ ?_
  · (refine swp_lastW ?_; simp only [go_sem, Bool.not_eq_true', Bool.not_eq_false'])
    refine aloop2 [] (fun z : Int => ⟨[(1, .raw (.int .i64 w)), (10, .hdr 16), (12, .hdr 72)], [(16, some (.cells 87 [.raw (.int .i64 0), .raw (.int .i64 0)])), (72, some (.cells 153 [.raw (.int .i64 s.a), .raw (.int .i64 s.b), .sl 7 (l.map cFl), .raw (.int .i64 H), .raw (.int .i64 z)]))], none⟩) (RomX l w H s y) (fun z => cntP l z) 40 y (by simp only [go_sem, Bool.not_eq_true', Bool.not_eq_false']; rfl) (by simp only [go_sem, Bool.not_eq_true', Bool.not_eq_false']) ?_ ?_
    · exact ⟨rfl, hy.1, hy.2⟩
    rintro z ⟨z1, z2, z3⟩
    have hiz := hin z ⟨z2, z3⟩
    have hst := @dn_stop l w H s z
    have hdl := @dn_lt l w H s z
    simp only [go_sem, Bool.not_eq_true', Bool.not_eq_false']
    (refine acall2 [] (fits_ok l H z w s h hiz) (by simp only [go_sem, Bool.not_eq_true', Bool.not_eq_false']; rfl) (fit_of (by simp only [go_sem, Bool.not_eq_true', Bool.not_eq_false']) (by simp only [go_sem, Bool.not_eq_true', Bool.not_eq_false']) (by simp only [go_sem, Bool.not_eq_true', Bool.not_eq_false']) (by simp only [go_sem, Bool.not_eq_true', Bool.not_eq_false']) (by simp only [go_sem, Bool.not_eq_true', Bool.not_eq_false']) (by simp only [go_sem, Bool.not_eq_true', Bool.not_eq_false']) (by simp only [go_sem, Bool.not_eq_true', Bool.not_eq_false'])) ?_; simp only [go_sem, Bool.not_eq_true', Bool.not_eq_false'])
    refine ⟨fun q => ?_, fun q => ?_⟩
    · have hlt := hdl q
      have hnb := next_bd h.near (y := z) (H := H) (s := s) (Decidable.byContradiction fun w => q (.inr (by cases hq : (nextF l z H s).is with | false => rfl | true => exact absurd hq w)))
      (refine acall2 [] (bnext_ok l z H s (by omega) h.near hiz (by unfold in10; omega)) (by simp only [go_sem, Bool.not_eq_true', Bool.not_eq_false']; rfl) (fit_of (by simp only [go_sem, Bool.not_eq_true', Bool.not_eq_false']) (by simp only [go_sem, Bool.not_eq_true', Bool.not_eq_false']) (by simp only [go_sem, Bool.not_eq_true', Bool.not_eq_false']) (by simp only [go_sem, Bool.not_eq_true', Bool.not_eq_false']) (by simp only [go_sem, Bool.not_eq_true', Bool.not_eq_false']) (by simp only [go_sem, Bool.not_eq_true', Bool.not_eq_false']) (by simp only [go_sem, Bool.not_eq_true', Bool.not_eq_false'])) ?_; simp only [go_sem, Bool.not_eq_true', Bool.not_eq_false'])
      (refine loop_end [] ((nextF l z H s).n) (by simp only [go_sem, Bool.not_eq_true', Bool.not_eq_false']; rfl) ?_ ?_ ?_; (focus first | omega | (simp only; omega)); (focus (simp only [go_sem, Bool.not_eq_true', Bool.not_eq_false']; done)))
      refine ⟨?_, hnb.1, by omega⟩
      rw [← z1]
      obtain ⟨k, hk⟩ : ∃ k, cntP l z = k + 1 := ⟨cntP l z - 1, by omega⟩
      rw [hk, dn_step q, dn_enough k _ (by omega)]
    · obtain rfl : Y = z := by
        rw [← hY, romY, ← z1]
        exact hst q _
      (refine cut_end [] (()) (by simp only [go_sem, Bool.not_eq_true', Bool.not_eq_false']; rfl) ?_ ?_; (focus (simp only [go_sem, Bool.not_eq_true', Bool.not_eq_false']; done)))
      exact ⟨z2, z3⟩
  rintro - ⟨y1, y2⟩
  (refine swp_lastW ?_; simp only [go_sem, Bool.not_eq_true', Bool.not_eq_false'])
  repeat' first | contradiction | intro _ | refine And.intro ?_ ?_ | refine ex_get (by omega) ?_ | (show drawB _ _ = true; kernel_rfl) | (refine ret2 [] (by simp only [go_sem, Bool.not_eq_true', Bool.not_eq_false']; rfl) ?_; simp only [go_sem, Bool.not_eq_true', Bool.not_eq_false']) | (refine acall2 [] (sband_ok l H Y s h (hin Y ⟨y1, y2⟩)) (by simp only [go_sem, Bool.not_eq_true', Bool.not_eq_false']; rfl) (fit_of (by simp only [go_sem, Bool.not_eq_true', Bool.not_eq_false']) (by simp only [go_sem, Bool.not_eq_true', Bool.not_eq_false']) (by simp only [go_sem, Bool.not_eq_true', Bool.not_eq_false']) (by simp only [go_sem, Bool.not_eq_true', Bool.not_eq_false']) (by simp only [go_sem, Bool.not_eq_true', Bool.not_eq_false']) (by simp only [go_sem, Bool.not_eq_true', Bool.not_eq_false']) (by simp only [go_sem, Bool.not_eq_true', Bool.not_eq_false'])) ?_; simp only [go_sem, Bool.not_eq_true', Bool.not_eq_false'])
  all_goals first
    | (refine ⟨(show drawB _ _ = true by kernel_rfl), ?_⟩)
    | skip
theorem rom_step {l : List LFl} {w H y : Int} {s : LSpan} (q : ¬ fitL l H y w s) : romY l w H y s = romY l w H (nextF l y H s).n s := by
  have hlt := dn_lt q
  unfold romY
  obtain ⟨k, hk⟩ : ∃ k, cntP l y = k + 1 := ⟨cntP l y - 1, by omega⟩
  rw [hk, dn_step q, dn_enough k _ (by omega)]
theorem rom_stop {l : List LFl} {w H y : Int} {s : LSpan} (q : fitL l H y w s) : romY l w H y s = y := dn_stop q _
set_option maxRecDepth 100000 in
set_option maxHeartbeats 4000000 in
theorem rroom12_ok (l : List LFl) (w H : Int) (s : LSpan) (h : LinOk l H s) : ∀ (m : Nat) (y : Int), cntP l y < m → (-2251799813685248 ≤ y ∧ y ≤ 4503599627370496) → FnOk Try.prog 96 [.sl 7 (l.map cFl), .raw (.int .i64 w), .raw (.int .i64 H), .raw (.int .i64 y), aSpan s] [] (aRoo l w H y s) []
  | 0, y, hm, _ => absurd hm (Nat.not_lt_zero _)
  | m + 1, y, hm, hy => by
    have hlen := h.len
    have hh := h.h
    have hin : in10 y := by unfold in10; omega
    have hhi : in10 H := by unfold in10; omega
    have hs := band_nearL h y H
    by_cases q : fitL l H y w s
    · have e := rom_stop q
      have ea : aRoo l w H y s = .tup [aSpan (bandF l y H s), .raw (.int .i64 y)] := by unfold aRoo; rw [e]
      rw [ea]
      refine fn_of_awp Try.func96 rfl (by kernel_rfl) (by kernel_rfl) (Nat.le_of_ble_eq_true rfl) Try.results96 ?_
      simp only [go_sem, Bool.not_eq_true', Bool.not_eq_false']
      repeat' first | contradiction | intro _ | refine And.intro ?_ ?_ | refine ex_get (by omega) ?_ | (show drawB _ _ = true; kernel_rfl) | (refine ret2 [] (by simp only [go_sem, Bool.not_eq_true', Bool.not_eq_false']; rfl) ?_; simp only [go_sem, Bool.not_eq_true', Bool.not_eq_false']) | (refine acall2 [] (rof10_ok l y H s (by omega) h.near hin hhi) (by simp only [go_sem, Bool.not_eq_true', Bool.not_eq_false']; rfl) (fit_of (by simp only [go_sem, Bool.not_eq_true', Bool.not_eq_false']) (by simp only [go_sem, Bool.not_eq_true', Bool.not_eq_false']) (by simp only [go_sem, Bool.not_eq_true', Bool.not_eq_false']) (by simp only [go_sem, Bool.not_eq_true', Bool.not_eq_false']) (by simp only [go_sem, Bool.not_eq_true', Bool.not_eq_false']) (by simp only [go_sem, Bool.not_eq_true', Bool.not_eq_false']) (by simp only [go_sem, Bool.not_eq_true', Bool.not_eq_false'])) ?_; simp only [go_sem, Bool.not_eq_true', Bool.not_eq_false']) | (refine acall2 [] (rnext_ok l y H s (by omega) h.near hin hhi) (by simp only [go_sem, Bool.not_eq_true', Bool.not_eq_false']; rfl) (fit_of (by simp only [go_sem, Bool.not_eq_true', Bool.not_eq_false']) (by simp only [go_sem, Bool.not_eq_true', Bool.not_eq_false']) (by simp only [go_sem, Bool.not_eq_true', Bool.not_eq_false']) (by simp only [go_sem, Bool.not_eq_true', Bool.not_eq_false']) (by simp only [go_sem, Bool.not_eq_true', Bool.not_eq_false']) (by simp only [go_sem, Bool.not_eq_true', Bool.not_eq_false']) (by simp only [go_sem, Bool.not_eq_true', Bool.not_eq_false'])) ?_; simp only [go_sem, Bool.not_eq_true', Bool.not_eq_false']) | (refine acall2 [] (rlen2_ok (bandF l y H s) hs) (by simp only [go_sem, Bool.not_eq_true', Bool.not_eq_false']; rfl) (fit_of (by simp only [go_sem, Bool.not_eq_true', Bool.not_eq_false']) (by simp only [go_sem, Bool.not_eq_true', Bool.not_eq_false']) (by simp only [go_sem, Bool.not_eq_true', Bool.not_eq_false']) (by simp only [go_sem, Bool.not_eq_true', Bool.not_eq_false']) (by simp only [go_sem, Bool.not_eq_true', Bool.not_eq_false']) (by simp only [go_sem, Bool.not_eq_true', Bool.not_eq_false']) (by simp only [go_sem, Bool.not_eq_true', Bool.not_eq_false'])) ?_; simp only [go_sem, Bool.not_eq_true', Bool.not_eq_false'])
      all_goals first
        | (refine ⟨(show drawB _ _ = true by kernel_rfl), ?_⟩)
        | omega
        | (exfalso; unfold fitL at q; simp_all; done)
        | skip
    · have e := rom_step q
      have hlt := dn_lt q
      have hnx : (nextF l y H s).is = true := Decidable.byContradiction fun w => q (.inr (by cases hq : (nextF l y H s).is with | false => rfl | true => exact absurd hq w))
      have hnb := next_bd h.near (y := y) (H := H) (s := s) hnx
      have ih := rroom12_ok l w H s h m (nextF l y H s).n (by omega) ⟨hnb.1, by omega⟩
      have ea : aRoo l w H y s = aRoo l w H (nextF l y H s).n s := by unfold aRoo; rw [e]
      rw [ea]
      refine fn_of_awp Try.func96 rfl (by kernel_rfl) (by kernel_rfl) (Nat.le_of_ble_eq_true rfl) Try.results96 ?_
      simp only [go_sem, Bool.not_eq_true', Bool.not_eq_false']
      repeat' first | contradiction | intro _ | refine And.intro ?_ ?_ | refine ex_get (by omega) ?_ | (show drawB _ _ = true; kernel_rfl) | (refine ret2 [] (by simp only [go_sem, Bool.not_eq_true', Bool.not_eq_false']; rfl) ?_; simp only [go_sem, Bool.not_eq_true', Bool.not_eq_false']) | (refine acall2 [] (rof10_ok l y H s (by omega) h.near hin hhi) (by simp only [go_sem, Bool.not_eq_true', Bool.not_eq_false']; rfl) (fit_of (by simp only [go_sem, Bool.not_eq_true', Bool.not_eq_false']) (by simp only [go_sem, Bool.not_eq_true', Bool.not_eq_false']) (by simp only [go_sem, Bool.not_eq_true', Bool.not_eq_false']) (by simp only [go_sem, Bool.not_eq_true', Bool.not_eq_false']) (by simp only [go_sem, Bool.not_eq_true', Bool.not_eq_false']) (by simp only [go_sem, Bool.not_eq_true', Bool.not_eq_false']) (by simp only [go_sem, Bool.not_eq_true', Bool.not_eq_false'])) ?_; simp only [go_sem, Bool.not_eq_true', Bool.not_eq_false']) | (refine acall2 [] (rnext_ok l y H s (by omega) h.near hin hhi) (by simp only [go_sem, Bool.not_eq_true', Bool.not_eq_false']; rfl) (fit_of (by simp only [go_sem, Bool.not_eq_true', Bool.not_eq_false']) (by simp only [go_sem, Bool.not_eq_true', Bool.not_eq_false']) (by simp only [go_sem, Bool.not_eq_true', Bool.not_eq_false']) (by simp only [go_sem, Bool.not_eq_true', Bool.not_eq_false']) (by simp only [go_sem, Bool.not_eq_true', Bool.not_eq_false']) (by simp only [go_sem, Bool.not_eq_true', Bool.not_eq_false']) (by simp only [go_sem, Bool.not_eq_true', Bool.not_eq_false'])) ?_; simp only [go_sem, Bool.not_eq_true', Bool.not_eq_false']) | (refine acall2 [] (rlen2_ok (bandF l y H s) hs) (by simp only [go_sem, Bool.not_eq_true', Bool.not_eq_false']; rfl) (fit_of (by simp only [go_sem, Bool.not_eq_true', Bool.not_eq_false']) (by simp only [go_sem, Bool.not_eq_true', Bool.not_eq_false']) (by simp only [go_sem, Bool.not_eq_true', Bool.not_eq_false']) (by simp only [go_sem, Bool.not_eq_true', Bool.not_eq_false']) (by simp only [go_sem, Bool.not_eq_true', Bool.not_eq_false']) (by simp only [go_sem, Bool.not_eq_true', Bool.not_eq_false']) (by simp only [go_sem, Bool.not_eq_true', Bool.not_eq_false'])) ?_; simp only [go_sem, Bool.not_eq_true', Bool.not_eq_false']) | (refine acall2 [] (ih) (by simp only [go_sem, Bool.not_eq_true', Bool.not_eq_false']; rfl) (fit_of (by simp only [go_sem, Bool.not_eq_true', Bool.not_eq_false']) (by simp only [go_sem, Bool.not_eq_true', Bool.not_eq_false']) (by simp only [go_sem, Bool.not_eq_true', Bool.not_eq_false']) (by simp only [go_sem, Bool.not_eq_true', Bool.not_eq_false']) (by simp only [go_sem, Bool.not_eq_true', Bool.not_eq_false']) (by simp only [go_sem, Bool.not_eq_true', Bool.not_eq_false']) (by simp only [go_sem, Bool.not_eq_true', Bool.not_eq_false'])) ?_; simp only [go_sem, Bool.not_eq_true', Bool.not_eq_false'])
      all_goals first
        | (refine ⟨(show drawB _ _ = true by kernel_rfl), ?_⟩)
        | omega
        | (exfalso; unfold fitL at q; simp_all; done)
        | skip
end Go.Proofs.Ytblmebjhhanoaaa
/- CHAPTER 12: lines: one line, all lines of a text. -/
/- G -/
/- BOOLS -/
set_option linter.unusedSimpArgs false
set_option linter.unusedVariables false
namespace Go.Proofs.Ytblmebjhhanoaaa
open Go.RowKit

structure LSet where
  f : Int
  t : Int
  x : Int
  y : Int
  w : Int
deriving DecidableEq
def cSet (x : LSet) : List PV := [.raw (.int .i64 x.f), .raw (.int .i64 x.t), .raw (.int .i64 x.x), .raw (.int .i64 x.y), .raw (.int .i64 x.w)]
def aSet (x : LSet) : AV := .agg [.raw (.int .i64 x.f), .raw (.int .i64 x.t), .raw (.int .i64 x.x), .raw (.int .i64 x.y), .raw (.int .i64 x.w)]
attribute [go_sem] cSet aSet
theorem dn_bd {l : List LFl} {w H : Int} {s : LSpan} (hn : l.all nearF = true) : ∀ (n : Nat) (y : Int), dnP l w H s n y = y ∨ (-2251799813685248 ≤ dnP l w H s n y ∧ dnP l w H s n y ≤ 2251799813685248)
  | 0, y => .inl rfl
  | n + 1, y => by
    by_cases q : w ≤ lenS (bandF l y H s) ∨ (nextF l y H s).is = false
    · rw [dn_stop q]; exact .inl rfl
    · rw [dn_step q]
      have hnx : (nextF l y H s).is = true := Decidable.byContradiction fun w => q (.inr (by cases hq : (nextF l y H s).is with | false => rfl | true => exact absurd hq w))
      have hnb := next_bd hn (y := y) (H := H) (s := s) hnx
      rcases dn_bd hn n (nextF l y H s).n with e | e
      · rw [e]; exact .inr hnb
      · exact .inr e
theorem rom_bd {l : List LFl} {w H y : Int} {s : LSpan} (hn : l.all nearF = true) : romY l w H y s = y ∨ (-2251799813685248 ≤ romY l w H y s ∧ romY l w H y s ≤ 2251799813685248) := dn_bd hn _ _
def linN (l : List LFl) (ws : List Int) (sp H : Int) (f : Nat) (y : Int) (s : LSpan) : LSet :=
  ⟨f, (takeT ws sp (lenS (bandF l (romY l (ws.getD f 0) H y s) H s)) f : Nat), (bandF l (romY l (ws.getD f 0) H y s) H s).a, romY l (ws.getD f 0) H y s, wideN sp (seg ws f (takeT ws sp (lenS (bandF l (romY l (ws.getD f 0) H y s) H s)) f))⟩
/-- all lines from a word on. -/
def texG (l : List LFl) (ws : List Int) (sp H : Int) (s : LSpan) : Nat → Nat → Int → List LSet
  | 0, _, _ => []
  | n + 1, f, y => if f < ws.length then linN l ws sp H f y s :: texG l ws sp H s n (linN l ws sp H f y s).t.toNat ((linN l ws sp H f y s).y + H) else []
def texF (l : List LFl) (ws : List Int) (sp H y : Int) (s : LSpan) : List LSet := texG l ws sp H s ws.length 0 y
theorem lin_t {l : List LFl} {ws : List Int} {sp H y : Int} {f : Nat} {s : LSpan} (hf : f < ws.length) : ∃ t : Nat, (linN l ws sp H f y s).t = t ∧ f < t ∧ t ≤ ws.length := ⟨_, rfl, takeT_bd ws sp _ f hf⟩
set_option maxRecDepth 100000 in
set_option maxHeartbeats 4000000 in
theorem line12_ok (l : List LFl) (ws : List Int) (sp H : Int) (f : Nat) (y : Int) (s : LSpan) (h : LinOk l H s) (hw : WorOk ws sp) (hf : f < ws.length) (hy : -2251799813685248 ≤ y ∧ y ≤ 4503599627370496) :
    FnOk Try.prog 100 [.sl 7 (l.map cFl), .sl 1 (ws.map cInt), .raw (.int .i64 sp), .raw (.int .i64 H), .raw (.int .i64 f), .raw (.int .i64 y), aSpan s] [] (aSet (linN l ws sp H f y s)) [] := by
  have hlen := hw.len
  have hgd : ws.getD f 0 = ws[f] := by simp [List.getD_eq_getElem?_getD, hf]
  have eL : aSet (linN l ws sp H f y s) = .agg [.raw (.int .i64 f), .raw (.int .i64 (takeT ws sp (lenS (bandF l (romY l (ws.getD f 0) H y s) H s)) f : Nat)), .raw (.int .i64 (bandF l (romY l (ws.getD f 0) H y s) H s).a), .raw (.int .i64 (romY l (ws.getD f 0) H y s)), .raw (.int .i64 (wideN sp (seg ws f (takeT ws sp (lenS (bandF l (romY l (ws.getD f 0) H y s) H s)) f))))] := rfl
  rw [eL, hgd]
  have hs := band_nearL h (romY l ws[f] H y s) H
  have htk := take_ok ws sp (lenS (bandF l (romY l ws[f] H y s) H s)) f hw
  rw [takeF_nat hf] at htk
  refine fn_of_awp Try.func100 rfl (by kernel_rfl) (by kernel_rfl) (Nat.le_of_ble_eq_true rfl) Try.results100 ?_
  simp only [go_sem, Bool.not_eq_true', Bool.not_eq_false']
  repeat' first | contradiction | intro _ | refine And.intro ?_ ?_ | refine ex_get (by omega) ?_ | (show drawB _ _ = true; kernel_rfl) | (refine ret2 [] (by simp only [go_sem, Bool.not_eq_true', Bool.not_eq_false', List.length_map]; rfl) ?_; simp only [go_sem, Bool.not_eq_true', Bool.not_eq_false', List.length_map]) | (refine acall2 [] (room12_ok l ws[f] H y s h hy) (by simp only [go_sem, Bool.not_eq_true', Bool.not_eq_false']; rfl) (fit_of (by simp only [go_sem, Bool.not_eq_true', Bool.not_eq_false']) (by simp only [go_sem, Bool.not_eq_true', Bool.not_eq_false']) (by simp only [go_sem, Bool.not_eq_true', Bool.not_eq_false']) (by simp only [go_sem, Bool.not_eq_true', Bool.not_eq_false']) (by simp only [go_sem, Bool.not_eq_true', Bool.not_eq_false']) (by simp only [go_sem, Bool.not_eq_true', Bool.not_eq_false']) (by simp only [go_sem, Bool.not_eq_true', Bool.not_eq_false'])) ?_; simp only [go_sem, Bool.not_eq_true', Bool.not_eq_false', List.length_map]) | (refine acall2 [] (slen_ok (bandF l (romY l ws[f] H y s) H s) hs) (by simp only [go_sem, Bool.not_eq_true', Bool.not_eq_false']; rfl) (fit_of (by simp only [go_sem, Bool.not_eq_true', Bool.not_eq_false']) (by simp only [go_sem, Bool.not_eq_true', Bool.not_eq_false']) (by simp only [go_sem, Bool.not_eq_true', Bool.not_eq_false']) (by simp only [go_sem, Bool.not_eq_true', Bool.not_eq_false']) (by simp only [go_sem, Bool.not_eq_true', Bool.not_eq_false']) (by simp only [go_sem, Bool.not_eq_true', Bool.not_eq_false']) (by simp only [go_sem, Bool.not_eq_true', Bool.not_eq_false'])) ?_; simp only [go_sem, Bool.not_eq_true', Bool.not_eq_false', List.length_map]) | (refine acall2 [] (htk) (by simp only [go_sem, Bool.not_eq_true', Bool.not_eq_false']; rfl) (fit_of (by simp only [go_sem, Bool.not_eq_true', Bool.not_eq_false']) (by simp only [go_sem, Bool.not_eq_true', Bool.not_eq_false']) (by simp only [go_sem, Bool.not_eq_true', Bool.not_eq_false']) (by simp only [go_sem, Bool.not_eq_true', Bool.not_eq_false']) (by simp only [go_sem, Bool.not_eq_true', Bool.not_eq_false']) (by simp only [go_sem, Bool.not_eq_true', Bool.not_eq_false']) (by simp only [go_sem, Bool.not_eq_true', Bool.not_eq_false'])) ?_; simp only [go_sem, Bool.not_eq_true', Bool.not_eq_false', List.length_map])
  all_goals first
    | omega
    | (refine ⟨(show drawB _ _ = true by kernel_rfl), ?_⟩)
    | skip
set_option maxRecDepth 100000 in
set_option maxHeartbeats 4000000 in
theorem rline12_ok (l : List LFl) (ws : List Int) (sp H : Int) (f : Nat) (y : Int) (s : LSpan) (h : LinOk l H s) (hw : WorOk ws sp) (hf : f < ws.length) (hy : -2251799813685248 ≤ y ∧ y ≤ 4503599627370496) :
    FnOk Try.prog 117 [.sl 7 (l.map cFl), .sl 1 (ws.map cInt), .raw (.int .i64 sp), .raw (.int .i64 H), .raw (.int .i64 f), .raw (.int .i64 y), aSpan s] [] (aSet (linN l ws sp H f y s)) [] := by
  have hlen := hw.len
  have hgd : ws.getD f 0 = ws[f] := by simp [List.getD_eq_getElem?_getD, hf]
  have eL : aSet (linN l ws sp H f y s) = .agg [.raw (.int .i64 f), .raw (.int .i64 (takeT ws sp (lenS (bandF l (romY l (ws.getD f 0) H y s) H s)) f : Nat)), .raw (.int .i64 (bandF l (romY l (ws.getD f 0) H y s) H s).a), .raw (.int .i64 (romY l (ws.getD f 0) H y s)), .raw (.int .i64 (wideN sp (seg ws f (takeT ws sp (lenS (bandF l (romY l (ws.getD f 0) H y s) H s)) f))))] := rfl
  rw [eL, hgd]
  have hs := band_nearL h (romY l ws[f] H y s) H
  have htk := rtake_ok ws sp (lenS (bandF l (romY l ws[f] H y s) H s)) f hw
  rw [takeF_nat hf] at htk
  refine fn_of_awp Try.func117 rfl (by kernel_rfl) (by kernel_rfl) (Nat.le_of_ble_eq_true rfl) Try.results117 ?_
  simp only [go_sem, Bool.not_eq_true', Bool.not_eq_false']
  repeat' first | contradiction | intro _ | refine And.intro ?_ ?_ | refine ex_get (by omega) ?_ | (show drawB _ _ = true; kernel_rfl) | (refine ret2 [] (by simp only [go_sem, Bool.not_eq_true', Bool.not_eq_false', List.length_map]; rfl) ?_; simp only [go_sem, Bool.not_eq_true', Bool.not_eq_false', List.length_map]) | (refine acall2 [] (rroom12_ok l ws[f] H s h (cntP l y + 1) y (Nat.lt_succ_self _) hy) (by simp only [go_sem, Bool.not_eq_true', Bool.not_eq_false']; rfl) (fit_of (by simp only [go_sem, Bool.not_eq_true', Bool.not_eq_false']) (by simp only [go_sem, Bool.not_eq_true', Bool.not_eq_false']) (by simp only [go_sem, Bool.not_eq_true', Bool.not_eq_false']) (by simp only [go_sem, Bool.not_eq_true', Bool.not_eq_false']) (by simp only [go_sem, Bool.not_eq_true', Bool.not_eq_false']) (by simp only [go_sem, Bool.not_eq_true', Bool.not_eq_false']) (by simp only [go_sem, Bool.not_eq_true', Bool.not_eq_false'])) ?_; simp only [go_sem, Bool.not_eq_true', Bool.not_eq_false', List.length_map]) | (refine acall2 [] (rlen2_ok (bandF l (romY l ws[f] H y s) H s) hs) (by simp only [go_sem, Bool.not_eq_true', Bool.not_eq_false']; rfl) (fit_of (by simp only [go_sem, Bool.not_eq_true', Bool.not_eq_false']) (by simp only [go_sem, Bool.not_eq_true', Bool.not_eq_false']) (by simp only [go_sem, Bool.not_eq_true', Bool.not_eq_false']) (by simp only [go_sem, Bool.not_eq_true', Bool.not_eq_false']) (by simp only [go_sem, Bool.not_eq_true', Bool.not_eq_false']) (by simp only [go_sem, Bool.not_eq_true', Bool.not_eq_false']) (by simp only [go_sem, Bool.not_eq_true', Bool.not_eq_false'])) ?_; simp only [go_sem, Bool.not_eq_true', Bool.not_eq_false', List.length_map]) | (refine acall2 [] (htk) (by simp only [go_sem, Bool.not_eq_true', Bool.not_eq_false']; rfl) (fit_of (by simp only [go_sem, Bool.not_eq_true', Bool.not_eq_false']) (by simp only [go_sem, Bool.not_eq_true', Bool.not_eq_false']) (by simp only [go_sem, Bool.not_eq_true', Bool.not_eq_false']) (by simp only [go_sem, Bool.not_eq_true', Bool.not_eq_false']) (by simp only [go_sem, Bool.not_eq_true', Bool.not_eq_false']) (by simp only [go_sem, Bool.not_eq_true', Bool.not_eq_false']) (by simp only [go_sem, Bool.not_eq_true', Bool.not_eq_false'])) ?_; simp only [go_sem, Bool.not_eq_true', Bool.not_eq_false', List.length_map])
  all_goals first
    | omega
    | (refine ⟨(show drawB _ _ = true by kernel_rfl), ?_⟩)
    | skip
theorem tex_len {l : List LFl} {ws : List Int} {sp H : Int} {s : LSpan} : ∀ (n f : Nat) (y : Int), (texG l ws sp H s n f y).length ≤ n
  | 0, _, _ => Nat.le_refl _
  | n + 1, f, y => by
    rw [texG]
    split
    · have := tex_len (l := l) (ws := ws) (sp := sp) (H := H) (s := s) n (linN l ws sp H f y s).t.toNat ((linN l ws sp H f y s).y + H)
      simp only [List.length_cons]
      omega
    · exact Nat.zero_le _
structure TxX where
  n : Nat
  f : Nat
  y : Int
  o : List LSet
structure TxI (l : List LFl) (ws : List Int) (sp H : Int) (s : LSpan) (R : List LSet) (z : TxX) : Prop where
  e : z.o ++ texG l ws sp H s z.n z.f z.y = R
  fn : ws.length ≤ z.f + z.n
  ol : z.o.length ≤ z.f
  fl : z.f ≤ ws.length
  lo : -2251799813685248 ≤ z.y
  hi : z.y ≤ 2251799813685248 + z.f * 1099511627776
theorem tx_next {l : List LFl} {ws : List Int} {sp H : Int} {s : LSpan} {R : List LSet} {z : TxX} (hn : l.all nearF = true) (hH : 0 ≤ H ∧ H ≤ 1099511627776) (h : TxI l ws sp H s R z) (hf : z.f < ws.length) :
    ∃ m t, z.n = m + 1 ∧ (linN l ws sp H z.f z.y s).t = (t : Nat) ∧ z.f < t ∧ TxI l ws sp H s R ⟨m, t, (linN l ws sp H z.f z.y s).y + H, z.o ++ [linN l ws sp H z.f z.y s]⟩ := by
  obtain ⟨n, f, y, o⟩ := z
  obtain ⟨h1, h2, h3, h4, h5, h6⟩ := h
  simp only at h1 h2 h3 h4 h5 h6 hf ⊢
  obtain ⟨m, rfl⟩ : ∃ m, n = m + 1 := ⟨n - 1, by omega⟩
  obtain ⟨t, e1, e2, e3⟩ := lin_t (l := l) (sp := sp) (H := H) (y := y) (s := s) hf
  have hr : (linN l ws sp H f y s).y = y ∨ (-2251799813685248 ≤ (linN l ws sp H f y s).y ∧ (linN l ws sp H f y s).y ≤ 2251799813685248) := rom_bd hn
  refine ⟨m, t, rfl, e1, e2, ⟨?_, ?_, ?_, e3, ?_, ?_⟩⟩
  · rw [← h1, texG, if_pos hf, e1, Int.toNat_natCast, List.append_assoc]
    rfl
  · simp only; omega
  · simp only [List.length_append, List.length_cons, List.length_nil]; omega
  · simp only; omega
  · simp only; omega
set_option maxRecDepth 100000 in
set_option maxHeartbeats 4000000 in
theorem text12_ok (l : List LFl) (ws : List Int) (sp H y : Int) (s : LSpan) (h : LinOk l H s) (hw : WorOk ws sp) (hH : 0 ≤ H ∧ H ≤ 1099511627776) (hy : -2251799813685248 ≤ y ∧ y ≤ 2251799813685248) :
    FnOk Try.prog 72 [.sl 7 (l.map cFl), .sl 1 (ws.map cInt), .raw (.int .i64 sp), .raw (.int .i64 H), .raw (.int .i64 y), aSpan s] [] (.hdr 8) [(8, .row 131 5 ((texF l ws sp H y s).map cSet))] := by
  have hlen := hw.len
  refine fn_of_swp Try.func72 rfl (by kernel_rfl) (by kernel_rfl) (Nat.le_of_ble_eq_true rfl) Try.results72 ?_
  (refine swp_seqW ?_; simp only [go_sem, Bool.not_eq_true', Bool.not_eq_false'])
  (refine swp_seqW ?_; simp only [go_sem, Bool.not_eq_true', Bool.not_eq_false'])
  refine swp_cutS (fun _ : Unit => ⟨[(13, .hdr 800)], [(800, some (.row 131 5 ((texF l ws sp H y s).map cSet)))], none⟩) (fun _ => True) 120 ?_ ?_
  · (refine swp_lastW ?_; simp only [go_sem, Bool.not_eq_true', Bool.not_eq_false'])
    refine aloop2 [] (fun z : TxX => ⟨[(0, .sl 7 (l.map cFl)), (1, .sl 1 (ws.map cInt)), (2, .raw (.int .i64 sp)), (3, .raw (.int .i64 H)), (4, .raw (.int .i64 z.y)), (11, .hdr 8), (13, .hdr 800), (14, .raw (.int .i64 z.f))], [(8, some (.cells 87 [.raw (.int .i64 s.a), .raw (.int .i64 s.b)])), (800, some (.row 131 5 (z.o.map cSet)))], none⟩) (TxI l ws sp H s (texF l ws sp H y s)) (fun z => ws.length - z.f) 120 ⟨ws.length, 0, y, []⟩ (by simp only [go_sem, Bool.not_eq_true', Bool.not_eq_false']; rfl) (by simp only [go_sem, Bool.not_eq_true', Bool.not_eq_false', List.map_nil]) ?_ ?_
    · exact ⟨rfl, by simp, Nat.le_refl _, Nat.zero_le _, hy.1, by simp only; omega⟩
    rintro z hz
    have hnx := @tx_next l ws sp H s _ z h.near hH hz
    have hdn : ¬ z.f < ws.length → z.o = texF l ws sp H y s := fun q => by
      rw [← hz.e]
      cases hn : z.n with
      | zero => rw [texG, List.append_nil]
      | succ n => rw [texG, if_neg q, List.append_nil]
    obtain ⟨-, -, h3, h4, h5, h6⟩ := hz
    obtain ⟨n, f, y', o⟩ := z
    simp only at h3 h4 h5 h6 hnx hdn
    simp only [go_sem, Bool.not_eq_true', Bool.not_eq_false', List.length_map]
    refine ⟨fun q => ?_, fun q => ?_⟩
    · have hf : f < ws.length := by omega
      obtain ⟨m, t, e1, e2, e3, hI⟩ := hnx hf
      have hI2 := hI.lo
      have hI3 := hI.hi
      have hI4 := hI.fl
      simp only at hI2 hI3 hI4
      have hL := line12_ok l ws sp H f y' s h hw hf ⟨h5, by omega⟩
      have hro := rom_bd (l := l) (w := ws.getD f 0) (H := H) (y := y') (s := s) h.near
      (refine acall2 [] (hL) (by simp only [go_sem, Bool.not_eq_true', Bool.not_eq_false']; rfl) (fit_of (by simp only [go_sem, Bool.not_eq_true', Bool.not_eq_false']) (by simp only [go_sem, Bool.not_eq_true', Bool.not_eq_false']) (by simp only [go_sem, Bool.not_eq_true', Bool.not_eq_false']) (by simp only [go_sem, Bool.not_eq_true', Bool.not_eq_false']) (by simp only [go_sem, Bool.not_eq_true', Bool.not_eq_false']) (by simp only [go_sem, Bool.not_eq_true', Bool.not_eq_false']) (by simp only [go_sem, Bool.not_eq_true', Bool.not_eq_false'])) ?_; simp only [go_sem, Bool.not_eq_true', Bool.not_eq_false'])
      rw [e2]
      generalize hx : linN l ws sp H f y' s = x at *
      have hxy : x.y = y' ∨ (-2251799813685248 ≤ x.y ∧ x.y ≤ 2251799813685248) := by rw [← hx]; exact hro
      repeat' first | contradiction | intro _ | refine And.intro ?_ ?_ | refine ex_get (by omega) ?_ | (show drawB _ _ = true; kernel_rfl) | (refine ret2 [] (by simp only [go_sem, Bool.not_eq_true', Bool.not_eq_false', List.length_map]; rfl) ?_; simp only [go_sem, Bool.not_eq_true', Bool.not_eq_false', List.length_map])
      all_goals first
        | omega
        | (refine ⟨(show drawB _ _ = true by kernel_rfl), ?_⟩)
        | skip
      (refine loop_end [] (⟨m, t, x.y + H, o ++ [x]⟩) (by simp only [go_sem, Bool.not_eq_true', Bool.not_eq_false']; rfl) ?_ ?_ ?_; (focus first | omega | (simp only; omega)); (focus (simp only [go_sem, Bool.not_eq_true', Bool.not_eq_false', List.map_append, List.map_cons, List.map_nil, e2]; done)))
      exact hI
    · rw [hdn (by omega)]
      (refine cut_end [] (()) (by simp only [go_sem, Bool.not_eq_true', Bool.not_eq_false']; rfl) ?_ ?_; (focus (simp only [go_sem, Bool.not_eq_true', Bool.not_eq_false']; done)))
      trivial
  rintro - -
  (refine swp_lastW ?_; simp only [go_sem, Bool.not_eq_true', Bool.not_eq_false'])
  (refine ret2 [] (by simp only [go_sem, Bool.not_eq_true', Bool.not_eq_false']; rfl) ?_; simp only [go_sem, Bool.not_eq_true', Bool.not_eq_false'])
set_option maxRecDepth 100000 in
set_option maxHeartbeats 4000000 in
theorem rtext12_ok (l : List LFl) (ws : List Int) (sp H y : Int) (s : LSpan) (h : LinOk l H s) (hw : WorOk ws sp) (hH : 0 ≤ H ∧ H ≤ 1099511627776) (hy : -2251799813685248 ≤ y ∧ y ≤ 2251799813685248) :
    FnOk Try.prog 95 [.sl 7 (l.map cFl), .sl 1 (ws.map cInt), .raw (.int .i64 sp), .raw (.int .i64 H), .raw (.int .i64 y), aSpan s] [] (.hdr 8) [(8, .row 131 5 ((texF l ws sp H y s).map cSet))] := by
  have hlen := hw.len
  refine fn_of_swp Try.func95 rfl (by kernel_rfl) (by kernel_rfl) (Nat.le_of_ble_eq_true rfl) Try.results95 ?_
  (refine swp_seqW ?_; simp only [go_sem, Bool.not_eq_true', Bool.not_eq_false'])
  (refine swp_seqW ?_; simp only [go_sem, Bool.not_eq_true', Bool.not_eq_false'])
  (refine swp_seqW ?_; simp only [go_sem, Bool.not_eq_true', Bool.not_eq_false'])
  refine swp_cutS (fun _ : Unit => ⟨[(13, .hdr 800)], [(800, some (.row 131 5 ((texF l ws sp H y s).map cSet)))], none⟩) (fun _ => True) 120 ?_ ?_
  · (refine swp_lastW ?_; simp only [go_sem, Bool.not_eq_true', Bool.not_eq_false'])
    refine aloop2 [] (fun z : TxX => ⟨[(0, .sl 7 (l.map cFl)), (1, .sl 1 (ws.map cInt)), (2, .raw (.int .i64 sp)), (3, .raw (.int .i64 H)), (4, .raw (.int .i64 z.y)), (11, .hdr 8), (13, .hdr 800), (14, .raw (.int .i64 z.f))], [(8, some (.cells 87 [.raw (.int .i64 s.a), .raw (.int .i64 s.b)])), (800, some (.row 131 5 (z.o.map cSet)))], none⟩) (TxI l ws sp H s (texF l ws sp H y s)) (fun z => ws.length - z.f) 120 ⟨ws.length, 0, y, []⟩ (by simp only [go_sem, Bool.not_eq_true', Bool.not_eq_false']; rfl) (by simp only [go_sem, Bool.not_eq_true', Bool.not_eq_false', List.map_nil]) ?_ ?_
    · exact ⟨rfl, by simp, Nat.le_refl _, Nat.zero_le _, hy.1, by simp only; omega⟩
    rintro z hz
    have hnx := @tx_next l ws sp H s _ z h.near hH hz
    have hdn : ¬ z.f < ws.length → z.o = texF l ws sp H y s := fun q => by
      rw [← hz.e]
      cases hn : z.n with
      | zero => rw [texG, List.append_nil]
      | succ n => rw [texG, if_neg q, List.append_nil]
    obtain ⟨-, -, h3, h4, h5, h6⟩ := hz
    obtain ⟨n, f, y', o⟩ := z
    simp only at h3 h4 h5 h6 hnx hdn
    simp only [go_sem, Bool.not_eq_true', Bool.not_eq_false', List.length_map]
    refine ⟨fun q => ?_, fun q => ?_⟩
    · have hf : f < ws.length := by omega
      obtain ⟨m, t, e1, e2, e3, hI⟩ := hnx hf
      have hI2 := hI.lo
      have hI3 := hI.hi
      have hI4 := hI.fl
      simp only at hI2 hI3 hI4
      have hL := rline12_ok l ws sp H f y' s h hw hf ⟨h5, by omega⟩
      have hro := rom_bd (l := l) (w := ws.getD f 0) (H := H) (y := y') (s := s) h.near
      (refine acall2 [] (hL) (by simp only [go_sem, Bool.not_eq_true', Bool.not_eq_false']; rfl) (fit_of (by simp only [go_sem, Bool.not_eq_true', Bool.not_eq_false']) (by simp only [go_sem, Bool.not_eq_true', Bool.not_eq_false']) (by simp only [go_sem, Bool.not_eq_true', Bool.not_eq_false']) (by simp only [go_sem, Bool.not_eq_true', Bool.not_eq_false']) (by simp only [go_sem, Bool.not_eq_true', Bool.not_eq_false']) (by simp only [go_sem, Bool.not_eq_true', Bool.not_eq_false']) (by simp only [go_sem, Bool.not_eq_true', Bool.not_eq_false'])) ?_; simp only [go_sem, Bool.not_eq_true', Bool.not_eq_false'])
      rw [e2]
      generalize hx : linN l ws sp H f y' s = x at *
      have hxy : x.y = y' ∨ (-2251799813685248 ≤ x.y ∧ x.y ≤ 2251799813685248) := by rw [← hx]; exact hro
      repeat' first | contradiction | intro _ | refine And.intro ?_ ?_ | refine ex_get (by omega) ?_ | (show drawB _ _ = true; kernel_rfl) | (refine ret2 [] (by simp only [go_sem, Bool.not_eq_true', Bool.not_eq_false', List.length_map]; rfl) ?_; simp only [go_sem, Bool.not_eq_true', Bool.not_eq_false', List.length_map])
      all_goals first
        | omega
        | (refine ⟨(show drawB _ _ = true by kernel_rfl), ?_⟩)
        | skip
      (refine loop_end [] (⟨m, t, x.y + H, o ++ [x]⟩) (by simp only [go_sem, Bool.not_eq_true', Bool.not_eq_false']; rfl) ?_ ?_ ?_; (focus first | omega | (simp only; omega)); (focus (simp only [go_sem, Bool.not_eq_true', Bool.not_eq_false', List.map_append, List.map_cons, List.map_nil, e2]; done)))
      exact hI
    · rw [hdn (by omega)]
      (refine cut_end [] (()) (by simp only [go_sem, Bool.not_eq_true', Bool.not_eq_false']; rfl) ?_ ?_; (focus (simp only [go_sem, Bool.not_eq_true', Bool.not_eq_false']; done)))
      trivial
  rintro - -
  (refine swp_lastW ?_; simp only [go_sem, Bool.not_eq_true', Bool.not_eq_false'])
  (refine ret2 [] (by simp only [go_sem, Bool.not_eq_true', Bool.not_eq_false']; rfl) ?_; simp only [go_sem, Bool.not_eq_true', Bool.not_eq_false'])
end Go.Proofs.Ytblmebjhhanoaaa
/- CHAPTER 06: the document's answer: rows within rows. -/
/- G -/
/- BOOLS -/
set_option linter.unusedSimpArgs false
set_option linter.unusedVariables false
namespace Go.Proofs.Ytblmebjhhanoaaa
open Go.RowKit

def kinN (l : List LNo) (k : Nat) : Int := match l[k]? with | some x => x.kind | none => 0
theorem kinN_get {l : List LNo} {k : Nat} (hk : k < l.length) : kinN l k = l[k].kind := by unfold kinN; rw [List.getElem?_eq_getElem hk]
def rowB (l : List LNo) : Nat → Nat → Int → Bool
  | 0, _, _ => true
  | f + 1, k, e => if (k : Int) < e then decide (1 ≤ sizN l k) && decide (sizN l k ≤ e - k) && !(decide (kinN l k ≠ 1) && decide (1 < sizN l k)) && rowB l f (k + 1) (k + sizN l k) && rowB l f (k + (sizN l k).toNat) e else true
set_option maxRecDepth 100000 in
set_option maxHeartbeats 4000000 in
theorem rows6_ok (l : List LNo) (hl : l.length ≤ 1000) : ∀ (f : Nat) (k : Nat) (e : Int), e ≤ l.length → 0 ≤ e → e - k < f → k ≤ l.length → FnOk Try.prog 41 [.sl 20 (l.map cNo), .raw (.int .i64 k), .raw (.int .i64 e)] [] (.raw (.bool (rowB l f k e))) [] := by
  intro f
  induction f using Nat.strongRecOn with
  | ind f ih =>
    intro k e h1 h0 h2 h3
    refine fn_of_swp Try.func41 rfl (by kernel_rfl) (by kernel_rfl) (Nat.le_of_ble_eq_true rfl) Try.results41 ?_
    (refine swp_seqW ?_; simp only [go_sem, Bool.not_eq_true', Bool.not_eq_false'])
    refine swp_cutS (fun _ : Unit => ⟨[], [], none⟩) (fun _ => rowB l f k e = true) 3 ?_ ?_
    · refine swp_block ?_
      refine swp_loop2 [] (fun k : Nat => ⟨[(0, .sl 20 (l.map cNo)), (1, .raw (.int .i64 k)), (2, .raw (.int .i64 e))], [], none⟩) (fun z => ∃ g, g ≤ f ∧ e - z < g ∧ rowB l g z e = rowB l f k e ∧ z ≤ l.length) (fun z => l.length - z) 3 k (by simp only [go_sem, Bool.not_eq_true', Bool.not_eq_false']; rfl) (by simp only [go_sem, Bool.not_eq_true', Bool.not_eq_false']) ?_ ?_
      · exact ⟨f, Nat.le_refl _, h2, rfl, h3⟩
      · rintro kk ⟨g, g1, g2, g3, g4⟩
        (refine swp_seqW ?_; simp only [go_sem, Bool.not_eq_true', Bool.not_eq_false'])
        refine ⟨fun q => ?_, fun q => ?_⟩
        · obtain ⟨g, rfl⟩ : ∃ g', g = g' + 1 := ⟨g - 1, by omega⟩
          have hk : kk < l.length := by omega
          have hsz := sizN_get hk
          have hkn := kinN_get hk
          rw [rowB, if_pos q, hsz, hkn] at g3
          refine swp_block ?_
          (refine swp_seqW ?_; simp only [go_sem, Bool.not_eq_true', Bool.not_eq_false'])
          refine ⟨by omega, ex_get hk ?_⟩
          have ihx := ih g (by omega) (kk + 1)
          generalize l[kk] = x at g3
          refine swp_seqS ?_
          (refine swp_seqW ?_; simp only [go_sem, Bool.not_eq_true', Bool.not_eq_false'])
          obtain ⟨m, hm⟩ : ∃ m : Int, m = kk + x.size := ⟨_, rfl⟩
          refine ⟨fun z1 => ⟨by omega, fun z2 => ⟨fun z3 => ⟨fun z4 => ?_, fun z4 => ?_⟩, fun z3 => ?_⟩, fun z2 => ?_⟩, fun z1 => ?_⟩
          rotate_left
          · have e0 : rowB l f k e = false := by rw [← g3]; simp [z3, z4]
            (refine swp_condW ?_; simp only [go_sem, Bool.not_eq_true', Bool.not_eq_false'])
            (refine swp_lastW ?_; simp only [go_sem, Bool.not_eq_true', Bool.not_eq_false', e0])
          rotate_left
          · have e0 : rowB l f k e = false := by rw [← g3]; have : ¬ x.size ≤ e - kk := by omega
                                                 simp [this]
            (refine swp_condW ?_; simp only [go_sem, Bool.not_eq_true', Bool.not_eq_false'])
            (refine swp_lastW ?_; simp only [go_sem, Bool.not_eq_true', Bool.not_eq_false', e0])
          · have e0 : rowB l f k e = false := by rw [← g3]; have : ¬ 1 ≤ x.size := by omega
                                                 simp [this]
            (refine swp_condW ?_; simp only [go_sem, Bool.not_eq_true', Bool.not_eq_false'])
            (refine swp_lastW ?_; simp only [go_sem, Bool.not_eq_true', Bool.not_eq_false', e0])
          all_goals
            have e1 : (decide (1 ≤ x.size) && decide (x.size ≤ e - ↑kk) && !(decide (x.kind ≠ 1) && decide (1 < x.size))) = true := by
              have a1 : 1 ≤ x.size := by omega
              have a2 : x.size ≤ e - kk := by omega
              simp [a1, a2]
              omega
            rw [e1, Bool.true_and] at g3
            refine ⟨by omega, by omega, ?_⟩
            rw [← hm] at g3 ⊢
            (refine acall2 [] (ihx m (by omega) (by omega) (by omega) (by omega)) (by simp only [go_sem, Bool.not_eq_true', Bool.not_eq_false']; rfl) (fit_of (by simp only [go_sem, Bool.not_eq_true', Bool.not_eq_false']) (by simp only [go_sem, Bool.not_eq_true', Bool.not_eq_false']) (by simp only [go_sem, Bool.not_eq_true', Bool.not_eq_false']) (by simp only [go_sem, Bool.not_eq_true', Bool.not_eq_false']) (by simp only [go_sem, Bool.not_eq_true', Bool.not_eq_false']) (by simp only [go_sem, Bool.not_eq_true', Bool.not_eq_false']) (by simp only [go_sem, Bool.not_eq_true', Bool.not_eq_false'])) ?_; simp only [go_sem, Bool.not_eq_true', Bool.not_eq_false'])
            (refine swp_condW ?_; simp only [go_sem, Bool.not_eq_true', Bool.not_eq_false'])
            refine ⟨fun z5 => ?_, fun z5 => ?_⟩
            · have e0 : rowB l f k e = false := by rw [← g3, z5]; rfl
              (refine swp_lastW ?_; simp only [go_sem, Bool.not_eq_true', Bool.not_eq_false', e0])
            · rw [z5, Bool.true_and] at g3
              (refine swp_lastW ?_; simp only [go_sem, Bool.not_eq_true', Bool.not_eq_false'])
              (refine swp_lastW ?_; simp only [go_sem, Bool.not_eq_true', Bool.not_eq_false'])
              obtain ⟨s, hs⟩ : ∃ s : Nat, x.size = s := ⟨x.size.toNat, by omega⟩
              rw [hs] at g3 ⊢
              simp only [Int.toNat_natCast] at g3
              refine ⟨by omega, ?_⟩
              (refine loop_end [] (kk + s) (by simp only [go_sem, Bool.not_eq_true', Bool.not_eq_false']; rfl) ?_ ?_ ?_; (focus first | omega | (simp only; omega)); (focus (simp only [go_sem, Bool.not_eq_true', Bool.not_eq_false']; done)))
              exact ⟨g, by omega, by omega, g3, by omega⟩
        · (refine cut_end [] (()) (by simp only [go_sem, Bool.not_eq_true', Bool.not_eq_false']; rfl) ?_ ?_; (focus (simp only [go_sem, Bool.not_eq_true', Bool.not_eq_false']; done)))
          rw [← g3]
          cases g with
          | zero => rfl
          | succ g => rw [rowB, if_neg q]
    rintro - hb
    rw [hb]
    (refine swp_lastW ?_; simp only [go_sem, Bool.not_eq_true', Bool.not_eq_false'])
def isR (l : List LNo) : Bool := l.all nodB && rowB l (l.length + 1) 0 l.length
set_option maxRecDepth 100000 in
set_option maxHeartbeats 4000000 in
theorem isR_ok (l : List LNo) (hl : l.length ≤ 1000) (hw : ∀ x ∈ l, x.words.length ≤ 9223372036854775807) : FnOk Try.prog 15 [.sl 20 (l.map cNo)] [] (.raw (.bool (isR l))) [] := by
  refine fn_of_swp Try.func15 rfl (by kernel_rfl) (by kernel_rfl) (Nat.le_of_ble_eq_true rfl) Try.results15 ?_
  (refine swp_seqW ?_; simp only [go_sem, Bool.not_eq_true', Bool.not_eq_false'])
  refine swp_cutS (fun _ : Unit => ⟨[(0, .sl 20 (l.map cNo))], [], none⟩) (fun _ => l.all nodB = true) 3 ?_ ?_
  · (refine swp_seqW ?_; simp only [go_sem, Bool.not_eq_true', Bool.not_eq_false'])
    refine swp_block ?_
    refine swp_loop2 [] (fun k : Nat => ⟨[(0, .sl 20 (l.map cNo)), (3, .raw (.int .i64 k))], [], none⟩) (fun k => k ≤ l.length ∧ ∀ j (hj : j < l.length), j < k → nodB l[j] = true) (fun k => l.length - k) 4 0 (by simp only [go_sem, Bool.not_eq_true', Bool.not_eq_false']; rfl) (by simp only [go_sem, Bool.not_eq_true', Bool.not_eq_false']) ?_ ?_
    · exact ⟨Nat.zero_le _, fun j _ h => absurd h (Nat.not_lt_zero j)⟩
    · rintro k ⟨hk, ha⟩
      (refine swp_lastW ?_; simp only [go_sem, Bool.not_eq_true', Bool.not_eq_false', List.length_map])
      refine ⟨fun h5 => ?_, fun h5 => ?_⟩
      · have hkl : k < l.length := by omega
        refine ⟨by omega, ex_get hkl ?_⟩
        (refine acall2 [] (one6_ok l[k] (hw _ (List.getElem_mem hkl))) (by simp only [go_sem, Bool.not_eq_true', Bool.not_eq_false']; rfl) (fit_of (by simp only [go_sem, Bool.not_eq_true', Bool.not_eq_false']) (by simp only [go_sem, Bool.not_eq_true', Bool.not_eq_false']) (by simp only [go_sem, Bool.not_eq_true', Bool.not_eq_false']) (by simp only [go_sem, Bool.not_eq_true', Bool.not_eq_false']) (by simp only [go_sem, Bool.not_eq_true', Bool.not_eq_false']) (by simp only [go_sem, Bool.not_eq_true', Bool.not_eq_false']) (by simp only [go_sem, Bool.not_eq_true', Bool.not_eq_false'])) ?_; simp only [go_sem, Bool.not_eq_true', Bool.not_eq_false'])
        refine ⟨fun h6 => ?_, fun h6 => ⟨by omega, ?_⟩⟩
        · have : l.all nodB = false := by
            rw [List.all_eq_false]
            exact ⟨l[k], List.getElem_mem hkl, by rw [h6]; decide⟩
          simp [isR, this]
        · (refine loop_end [] (k + 1) (by simp only [go_sem, Bool.not_eq_true', Bool.not_eq_false']; rfl) ?_ ?_ ?_; (focus first | omega | (simp only; omega)); (focus (simp only [go_sem, Bool.not_eq_true', Bool.not_eq_false']; done)))
          refine ⟨by omega, fun j hj h7 => ?_⟩
          rcases Nat.lt_succ_iff_lt_or_eq.1 h7 with h8 | h8
          · exact ha j hj h8
          · subst h8; exact h6
      · (refine cut_end [] (()) (by simp only [go_sem, Bool.not_eq_true', Bool.not_eq_false']; rfl) ?_ ?_; (focus (simp only [go_sem, Bool.not_eq_true', Bool.not_eq_false']; done)))
        rw [List.all_eq_true]
        intro x hx
        obtain ⟨j, hj, rfl⟩ := List.getElem_of_mem hx
        exact ha j hj (by omega)
  rintro - hb
  have e : isR l = rowB l (l.length + 1) 0 l.length := by simp [isR, hb]
  rw [e]
  (refine swp_lastW ?_; simp only [go_sem, Bool.not_eq_true', Bool.not_eq_false', List.length_map])
  (refine acall2 [] (rows6_ok l hl (l.length + 1) 0 l.length (by omega) (by omega) (by omega) (by omega)) (by simp only [go_sem, Bool.not_eq_true', Bool.not_eq_false']; rfl) (fit_of (by simp only [go_sem, Bool.not_eq_true', Bool.not_eq_false']) (by simp only [go_sem, Bool.not_eq_true', Bool.not_eq_false']) (by simp only [go_sem, Bool.not_eq_true', Bool.not_eq_false']) (by simp only [go_sem, Bool.not_eq_true', Bool.not_eq_false']) (by simp only [go_sem, Bool.not_eq_true', Bool.not_eq_false']) (by simp only [go_sem, Bool.not_eq_true', Bool.not_eq_false']) (by simp only [go_sem, Bool.not_eq_true', Bool.not_eq_false'])) ?_; simp only [go_sem, Bool.not_eq_true', Bool.not_eq_false'])
end Go.Proofs.Ytblmebjhhanoaaa
/- CHAPTERS 06, 08: nodes of a document: the program's test is the answer's; who stands in whom. -/
/- G -/
set_option linter.unusedSimpArgs false
set_option linter.unusedVariables false
namespace Go.Proofs.Ytblmebjhhanoaaa
open Go.RowKit

def leafB (x : LNo) : Bool := !(decide (x.kind ≠ 1) && decide (1 < x.size))
theorem isG_leaf : ∀ (l : List LNo) (i : Nat) (st : List Int), isG l i st = true → ∀ x ∈ l, leafB x = true
  | [], _, _, _, x, hx => by cases hx
  | y :: l, i, st, h, x, hx => by
    rw [isG] at h
    simp only [Bool.and_eq_true] at h
    rcases List.mem_cons.1 hx with e | e
    · subst e; exact h.1.2
    · exact isG_leaf l (i + 1) _ h.2 x e
theorem popR_chn2 (l : List LNo) (k : Nat) : ∀ (R : List Int), chn l k R → chn l k (popR k R)
  | [], h => h
  | [a], h => h
  | a :: b :: t, h => by
    rw [popR]
    split
    · next q => subst q; exact popR_chn2 l k (b :: t) (by have := h.2; rwa [Int.toNat_natCast] at this)
    · exact h
theorem isG_of (l : List LNo) (hn : ∀ x ∈ l, nodB x = true) (hf : ∀ x ∈ l, leafB x = true) : ∀ (m k : Nat) (R : List Int), m + k = l.length → gdR k l.length R → chn l k R → isG (l.drop k) k R.reverse = true
  | 0, k, R, hm, hg, h => by
    rw [List.drop_of_length_le (by omega)]; rfl
  | m + 1, k, R, hm, hg, h => by
    have hk : k < l.length := by omega
    have hg2 := popR_gd (by omega) R hg
    have h2 := popR_chn2 l k R h
    rw [List.drop_eq_getElem_cons hk, isG, popS_rev _ _ _ (by simp)]
    generalize popR (k : Int) R = R2 at hg2 h2 ⊢
    have hs := sizN_get hk
    cases R2 with
    | nil => exact absurd hg2 (by simp [gdR])
    | cons e t =>
      obtain ⟨⟨f, n1⟩, c1⟩ := h2
      have hke : (k : Int) < e := by
        cases t with
        | nil => have := hg2.1; omega
        | cons b t => have := hg2.1; omega
      cases f with
      | zero => exact absurd n1 (by simp [nst])
      | succ f =>
        obtain ⟨u1, u2, u3, u4⟩ := n1.2 hke
        rw [hs] at u1 u2 u3 u4
        obtain ⟨s, hs2⟩ : ∃ s : Nat, l[k].size = s := ⟨l[k].size.toNat, by omega⟩
        rw [topI_rev]
        have e1 := hn l[k] (List.getElem_mem hk)
        have e2 := hf l[k] (List.getElem_mem hk)
        unfold leafB at e2
        rw [hs2] at u1 u2 u3 u4
        have hR : (e :: t).reverse ++ [(k : Int) + (s : Int)] = (((k : Int) + (s : Int)) :: e :: t).reverse := by simp
        rw [e1, e2, hs2, hR]
        simp only [Bool.and_eq_true, decide_eq_true_eq, Bool.true_and]
        refine ⟨⟨⟨u1, by omega⟩, trivial⟩, isG_of l hn hf m (k + 1) _ (by omega) ⟨by omega, gdR_to hg2 (by omega)⟩ ⟨⟨f, u3⟩, ⟨f, ?_⟩, c1⟩⟩
        have ek : ((k : Int) + (s : Int)).toNat = k + s := by omega
        rw [ek]
        rw [Int.toNat_natCast] at u4
        exact u4
theorem rowB_nst (l : List LNo) : ∀ (f k : Nat) (e : Int), rowB l f k e = true → (k : Int) ≤ e → e - k < f → nst l f k e
  | 0, k, e, h, h1, h2 => by omega
  | f + 1, k, e, h, h1, h2 => by
    refine ⟨h1, fun q => ?_⟩
    rw [rowB, if_pos q] at h
    simp only [Bool.and_eq_true, decide_eq_true_eq] at h
    obtain ⟨⟨⟨⟨u1, u2⟩, -⟩, u3⟩, u4⟩ := h
    exact ⟨u1, by omega, rowB_nst l f _ _ u3 (by omega) (by omega), rowB_nst l f _ _ u4 (by omega) (by omega)⟩
theorem rowB_leaf (l : List LNo) : ∀ (f k : Nat) (e : Int), rowB l f k e = true → e - k < f → e ≤ l.length → ∀ j (hj : j < l.length), k ≤ j → (j : Int) < e → leafB l[j] = true
  | 0, k, e, h, h2, h3, j, hj, h4, h5 => by omega
  | f + 1, k, e, h, h2, h3, j, hj, h4, h5 => by
    rw [rowB, if_pos (by omega)] at h
    simp only [Bool.and_eq_true, decide_eq_true_eq] at h
    obtain ⟨⟨⟨⟨u1, u2⟩, u0⟩, u3⟩, u4⟩ := h
    by_cases h6 : j = k
    · subst h6
      rw [kinN_get hj, sizN_get hj] at u0
      exact u0
    · by_cases h7 : (j : Int) < k + sizN l k
      · exact rowB_leaf l f _ _ u3 (by omega) (by omega) j hj (by omega) h7
      · exact rowB_leaf l f _ _ u4 (by omega) h3 j hj (by omega) h5
theorem nst_rowB (l : List LNo) (hf : ∀ x ∈ l, leafB x = true) : ∀ (f k : Nat) (e : Int), nst l f k e → e ≤ l.length → rowB l f k e = true
  | 0, k, e, h, h2 => rfl
  | f + 1, k, e, h, h2 => by
    rw [rowB]
    split
    · next q =>
      obtain ⟨u1, u2, u3, u4⟩ := h.2 q
      have hk : k < l.length := by omega
      have e2 := hf l[k] (List.getElem_mem hk)
      unfold leafB at e2
      rw [kinN_get hk, sizN_get hk] at *
      rw [e2, nst_rowB l hf f _ _ u3 (by omega), nst_rowB l hf f _ _ u4 h2]
      simp only [Bool.and_eq_true, decide_eq_true_eq, Bool.and_true]
      omega
    · rfl
theorem isR_eq (l : List LNo) : isR l = isS l := by
  rw [Bool.eq_iff_iff]
  constructor
  · intro h
    simp only [isR, Bool.and_eq_true, List.all_eq_true] at h
    obtain ⟨h1, h2⟩ := h
    have h3 := rowB_nst l _ _ _ h2 (by omega) (by omega)
    have h4 := rowB_leaf l _ _ _ h2 (by omega) (by omega)
    refine isG_of l h1 (fun x hx => ?_) l.length 0 [(l.length : Int)] (by omega) ⟨by omega, rfl⟩ ⟨⟨_, h3⟩, trivial⟩
    obtain ⟨j, hj, rfl⟩ := List.getElem_of_mem hx
    exact h4 j hj (by omega) (by omega)
  · intro h
    simp only [isR, Bool.and_eq_true, List.all_eq_true]
    exact ⟨isG_nod l 0 _ h, nst_rowB l (isG_leaf l 0 _ h) _ _ _ (isS_nst h) (by omega)⟩
theorem isR2_ok (l : List LNo) (hl : l.length ≤ 1000) (hw : ∀ x ∈ l, x.words.length ≤ 9223372036854775807) : FnOk Try.prog 15 [.sl 20 (l.map cNo)] [] (.raw (.bool (isS l))) [] := by
  rw [← isR_eq]
  exact isR_ok l hl hw
end Go.Proofs.Ytblmebjhhanoaaa
/- CHAPTER 08: the document's answer: who stands in whom. -/
/- G -/
/- BOOLS -/
set_option linter.unusedSimpArgs false
set_option linter.unusedVariables false
namespace Go.Proofs.Ytblmebjhhanoaaa
open Go.RowKit

theorem does_subw {P : Program} {n : Nat} {S : AS} {o : Oper} {x y : Operand} {t u : TypeId} {k l : Int} (ho : o.op = .binOp .sub t x y u) (hx : S.val x = .raw (.int .i64 k)) (hy : S.val y = .raw (.int .i64 l)) : DoesAt P o S n ⟨.raw (.int .i64 (IntKind.i64.wrap (k - l))), [], []⟩ :=
  does_pure rfl fun c p ρ a w hm => ⟨_, by
    unfold execOp; rw [ho]
    refine run_v (v := .int .i64 (IntKind.i64.wrap (k - l))) ?_
    simp [hm.raw hx, hm.raw hy, eqGuard, binOp, Op.intArith], by simp [Rep]⟩
set_option maxRecDepth 100000 in
theorem has8r_ok (l : List LNo) (a : Int) : FnOk Try.prog 145 [.sl 20 (l.map cNo), .raw (.int .i64 a)] [] (.raw (.bool (hasN l a))) [] := by
  refine fn_of_awp Try.func145 rfl (by kernel_rfl) (by kernel_rfl) (Nat.le_of_ble_eq_true rfl) Try.results145 ?_
  simp only [go_sem, Bool.not_eq_true', Bool.not_eq_false', List.length_map]
  repeat' first | contradiction | intro _ | refine And.intro ?_ ?_ | refine ex_get (by omega) ?_ | (show drawB _ _ = true; kernel_rfl) | (refine ret2 [] (by simp only [go_sem, Bool.not_eq_true', Bool.not_eq_false']; rfl) ?_; simp only [go_sem, Bool.not_eq_true', Bool.not_eq_false'])
  all_goals (simp [hasN] <;> omega)
set_option maxRecDepth 100000 in
set_option maxHeartbeats 4000000 in
theorem holds8r_ok (l : List LNo) (a b : Int) (hl : l.length ≤ 1000) : FnOk Try.prog 146 [.sl 20 (l.map cNo), .raw (.int .i64 a), .raw (.int .i64 b)] [] (.raw (.bool (holN l a b))) [] := by
  refine fn_of_awp Try.func146 rfl (by kernel_rfl) (by kernel_rfl) (Nat.le_of_ble_eq_true rfl) Try.results146 ?_
  simp only [go_sem, Bool.not_eq_true', Bool.not_eq_false']
  (refine acall2 [] (has8r_ok l a) (by simp only [go_sem, Bool.not_eq_true', Bool.not_eq_false']; rfl) (fit_of (by simp only [go_sem, Bool.not_eq_true', Bool.not_eq_false']) (by simp only [go_sem, Bool.not_eq_true', Bool.not_eq_false']) (by simp only [go_sem, Bool.not_eq_true', Bool.not_eq_false']) (by simp only [go_sem, Bool.not_eq_true', Bool.not_eq_false']) (by simp only [go_sem, Bool.not_eq_true', Bool.not_eq_false']) (by simp only [go_sem, Bool.not_eq_true', Bool.not_eq_false']) (by simp only [go_sem, Bool.not_eq_true', Bool.not_eq_false'])) ?_; simp only [go_sem, Bool.not_eq_true', Bool.not_eq_false', List.length_map])
  refine ⟨fun h1 => ?_, fun h1 => by simp [holN, h1]⟩
  (refine acall2 [] (has8r_ok l b) (by simp only [go_sem, Bool.not_eq_true', Bool.not_eq_false']; rfl) (fit_of (by simp only [go_sem, Bool.not_eq_true', Bool.not_eq_false']) (by simp only [go_sem, Bool.not_eq_true', Bool.not_eq_false']) (by simp only [go_sem, Bool.not_eq_true', Bool.not_eq_false']) (by simp only [go_sem, Bool.not_eq_true', Bool.not_eq_false']) (by simp only [go_sem, Bool.not_eq_true', Bool.not_eq_false']) (by simp only [go_sem, Bool.not_eq_true', Bool.not_eq_false']) (by simp only [go_sem, Bool.not_eq_true', Bool.not_eq_false'])) ?_; simp only [go_sem, Bool.not_eq_true', Bool.not_eq_false', List.length_map])
  have k1 := h1
  simp only [hasN, Bool.and_eq_true, decide_eq_true_eq] at k1
  obtain ⟨n, rfl⟩ : ∃ n : Nat, a = n := ⟨a.toNat, by omega⟩
  have hn : n < l.length := by omega
  have e : holN l n b = (hasN l b && decide ((n : Int) ≤ b) && decide (b < n + l[n].size)) := by simp [holN, h1, sizN_get hn]
  rw [e]
  refine ⟨fun h2 => ?_, fun h2 => by simp [h2]⟩
  have k2 := h2
  simp only [hasN, Bool.and_eq_true, decide_eq_true_eq] at k2
  repeat' first | contradiction | intro _ | refine And.intro ?_ ?_ | refine ex_get (by omega) ?_ | (show drawB _ _ = true; kernel_rfl) | (refine ret2 [] (by simp only [go_sem, Bool.not_eq_true', Bool.not_eq_false']; rfl) ?_; simp only [go_sem, Bool.not_eq_true', Bool.not_eq_false'])
  all_goals first
    | omega
    | (simp [*]; done)
    | (simp [*]; omega)
/-- the places above, among those below k. -/
def abvD (l : List LNo) (a : Int) : Nat → List Int
  | 0 => []
  | k + 1 => if a < k + sizN l k then (k : Int) :: abvD l a k else abvD l a k
def abvR (l : List LNo) (a : Int) : List Int := if hasN l a = true then abvD l a a.toNat else []
theorem abvD_len (l : List LNo) (a : Int) : ∀ k, (abvD l a k).length ≤ k
  | 0 => Nat.le_refl _
  | k + 1 => by
    rw [abvD]
    have := abvD_len l a k
    split
    · simp only [List.length_cons]; omega
    · omega
theorem holN_lt {l : List LNo} {a : Int} {k : Nat} (h : hasN l a = true) (hk : (k : Int) < a) : holN l k a = decide (a < k + sizN l k) := by
  have h1 := h
  simp only [hasN, Bool.and_eq_true, decide_eq_true_eq] at h1
  have h2 : hasN l k = true := by simp only [hasN, Bool.and_eq_true, decide_eq_true_eq]; omega
  have h3 : (k : Int) ≤ a := by omega
  simp [holN, h, h2, h3]
set_option maxRecDepth 100000 in
set_option maxHeartbeats 4000000 in
theorem above8r_ok (l : List LNo) (a : Int) (ha : -9223372036854775808 ≤ a ∧ a ≤ 9223372036854775807) (hl : l.length ≤ 1000) : FnOk Try.prog 136 [.sl 20 (l.map cNo), .raw (.int .i64 a)] [] (.hdr 8) [(8, .row 3 1 ((abvR l a).map cInt))] := by
  refine fn_of_swp Try.func136 rfl (by kernel_rfl) (by kernel_rfl) (Nat.le_of_ble_eq_true rfl) Try.results136 ?_
  (refine swp_seqW ?_; simp only [go_sem, Bool.not_eq_true', Bool.not_eq_false'])
  (refine swp_seqW ?_; simp only [go_sem, Bool.not_eq_true', Bool.not_eq_false'])
  refine swp_cutS (fun _ : Unit => ⟨[(5, .hdr 8)], [(8, some (.row 3 1 ((abvR l a).map cInt)))], none⟩) (fun _ => True) 3 ?_ ?_
  · refine swp_cutS (fun p : Int => ⟨[(0, .sl 20 (l.map cNo)), (1, .raw (.int .i64 a)), (5, .hdr 8), (6, .raw (.int .i64 p))], [(8, some (.row 3 1 []))], none⟩) (fun p => hasN l a = true → p = a - 1) 3 ?_ ?_
    · by_cases hm : a = -9223372036854775808
      · refine swp_region (sli_cons rfl (does_move _ (.inl rfl)) (sli_cons rfl (does_subw (k := a) (l := 1) rfl (by simp only [go_sem, Bool.not_eq_true', Bool.not_eq_false']) (by simp only [go_sem, Bool.not_eq_true', Bool.not_eq_false'])) (sli_cons rfl (does_move _ (.inr rfl)) (sli_nil ?_))))
        simp only [go_sem, Bool.not_eq_true', Bool.not_eq_false']
        (refine cut_end [] (IntKind.i64.wrap (a - 1)) (by simp only [go_sem, Bool.not_eq_true', Bool.not_eq_false']; rfl) ?_ ?_; (focus (simp only [go_sem, Bool.not_eq_true', Bool.not_eq_false']; done)))
        intro h
        simp only [hasN, Bool.and_eq_true, decide_eq_true_eq] at h
        omega
      · (refine swp_lastW ?_; simp only [go_sem, Bool.not_eq_true', Bool.not_eq_false'])
        refine ⟨by omega, ?_⟩
        (refine cut_end [] (a - 1) (by simp only [go_sem, Bool.not_eq_true', Bool.not_eq_false']; rfl) ?_ ?_; (focus (simp only [go_sem, Bool.not_eq_true', Bool.not_eq_false']; done)))
        exact fun _ => rfl
    rintro p0 hp0
    refine swp_block ?_
    refine swp_loop2 [] (fun z : LAb => ⟨[(0, .sl 20 (l.map cNo)), (1, .raw (.int .i64 a)), (5, .hdr 8), (6, .raw (.int .i64 z.p))], [(8, some (.row 3 1 (z.acc.map cInt)))], none⟩) (fun z => (hasN l a = false → z.acc = []) ∧ (hasN l a = true → ∃ k : Nat, z.p = k - 1 ∧ k ≤ a.toNat ∧ z.acc ++ abvD l a k = abvR l a ∧ z.acc.length + k ≤ a.toNat)) (fun z => (z.p + 1).toNat) 4 ⟨p0, []⟩ (by simp only [go_sem, Bool.not_eq_true', Bool.not_eq_false']; rfl) (by simp only [go_sem, Bool.not_eq_true', Bool.not_eq_false']) ?_ ?_
    · refine ⟨fun _ => rfl, fun h => ⟨a.toNat, ?_, Nat.le_refl _, ?_, ?_⟩⟩
      · simp only [hp0 h]
        simp only [hasN, Bool.and_eq_true, decide_eq_true_eq] at h
        omega
      · simp [abvR, h]
      · simp
    · rintro ⟨p, acc⟩ ⟨q1, q2⟩
      simp only at q1 q2
      (refine swp_seqW ?_; simp only [go_sem, Bool.not_eq_true', Bool.not_eq_false'])
      refine ⟨fun h1 => ?_, fun h1 => ?_⟩
      · (refine acall2 [] (has8r_ok l a) (by simp only [go_sem, Bool.not_eq_true', Bool.not_eq_false']; rfl) (fit_of (by simp only [go_sem, Bool.not_eq_true', Bool.not_eq_false']) (by simp only [go_sem, Bool.not_eq_true', Bool.not_eq_false']) (by simp only [go_sem, Bool.not_eq_true', Bool.not_eq_false']) (by simp only [go_sem, Bool.not_eq_true', Bool.not_eq_false']) (by simp only [go_sem, Bool.not_eq_true', Bool.not_eq_false']) (by simp only [go_sem, Bool.not_eq_true', Bool.not_eq_false']) (by simp only [go_sem, Bool.not_eq_true', Bool.not_eq_false'])) ?_; simp only [go_sem, Bool.not_eq_true', Bool.not_eq_false'])
        refine ⟨fun h2 => ?_, fun h2 => ?_⟩
        · obtain ⟨k, e1, e2, e3, e4⟩ := q2 h2
          obtain ⟨k, rfl⟩ : ∃ k', k = k' + 1 := ⟨k - 1, by omega⟩
          obtain rfl : p = k := by omega
          have h3 := h2
          simp only [hasN, Bool.and_eq_true, decide_eq_true_eq] at h3
          have hh := holN_lt (l := l) (a := a) (k := k) h2 (by omega)
          rw [abvD] at e3
          refine swp_cutS (fun acc : List Int => ⟨[(0, .sl 20 (l.map cNo)), (1, .raw (.int .i64 a)), (5, .hdr 8), (6, .raw (.int .i64 k))], [(8, some (.row 3 1 (acc.map cInt)))], none⟩) (fun acc => acc ++ abvD l a k = abvR l a ∧ acc.length + k ≤ a.toNat) 3 ?_ ?_
          · refine swp_block ?_
            (refine swp_seqW ?_; simp only [go_sem, Bool.not_eq_true', Bool.not_eq_false'])
            (refine acall2 [] (holds8r_ok l k a hl) (by simp only [go_sem, Bool.not_eq_true', Bool.not_eq_false']; rfl) (fit_of (by simp only [go_sem, Bool.not_eq_true', Bool.not_eq_false']) (by simp only [go_sem, Bool.not_eq_true', Bool.not_eq_false']) (by simp only [go_sem, Bool.not_eq_true', Bool.not_eq_false']) (by simp only [go_sem, Bool.not_eq_true', Bool.not_eq_false']) (by simp only [go_sem, Bool.not_eq_true', Bool.not_eq_false']) (by simp only [go_sem, Bool.not_eq_true', Bool.not_eq_false']) (by simp only [go_sem, Bool.not_eq_true', Bool.not_eq_false'])) ?_; simp only [go_sem, Bool.not_eq_true', Bool.not_eq_false'])
            rw [hh]
            (refine swp_condW ?_; simp only [go_sem, Bool.not_eq_true', Bool.not_eq_false'])
            refine ⟨fun h4 => ?_, fun h4 => ?_⟩
            · (refine swp_lastW ?_; simp only [go_sem, Bool.not_eq_true', Bool.not_eq_false', List.length_map])
              refine ⟨⟨by omega, by omega⟩, ?_⟩
              rw [if_pos h4] at e3
              (refine cut_end [] (acc ++ [(k : Int)]) (by simp only [go_sem, Bool.not_eq_true', Bool.not_eq_false']; rfl) ?_ ?_; (focus (simp only [go_sem, Bool.not_eq_true', Bool.not_eq_false', List.map_append]; done)))
              exact ⟨by rw [← e3]; simp, by simp; omega⟩
            · (refine swp_lastW ?_; simp only [go_sem, Bool.not_eq_true', Bool.not_eq_false'])
              rw [if_neg h4] at e3
              (refine cut_end [] (acc) (by simp only [go_sem, Bool.not_eq_true', Bool.not_eq_false']; rfl) ?_ ?_; (focus (simp only [go_sem, Bool.not_eq_true', Bool.not_eq_false']; done)))
              exact ⟨e3, by omega⟩
          rintro acc ⟨e5, e6⟩
          (refine swp_lastW ?_; simp only [go_sem, Bool.not_eq_true', Bool.not_eq_false'])
          refine ⟨by omega, ?_⟩
          (refine loop_end [] (⟨(k : Int) - 1, acc⟩) (by simp only [go_sem, Bool.not_eq_true', Bool.not_eq_false']; rfl) ?_ ?_ ?_; (focus first | omega | (simp only; omega)); (focus (simp only [go_sem, Bool.not_eq_true', Bool.not_eq_false']; done)))
          exact ⟨fun h => by (rw [h2] at h; cases h), fun _ => ⟨k, rfl, by omega, e5, e6⟩⟩
        · have e : acc = abvR l a := by rw [q1 h2]; simp [abvR, h2]
          rw [e]
          (refine cut_end [] (()) (by simp only [go_sem, Bool.not_eq_true', Bool.not_eq_false']; rfl) ?_ ?_; (focus (simp only [go_sem, Bool.not_eq_true', Bool.not_eq_false']; done)))
          trivial
      · have e : acc = abvR l a := by
          cases h2 : hasN l a with
          | false => rw [q1 h2]; simp [abvR, h2]
          | true =>
            obtain ⟨k, e1, e2, e3, e4⟩ := q2 h2
            obtain rfl : k = 0 := by omega
            rw [← e3]; simp [abvD]
        rw [e]
        (refine cut_end [] (()) (by simp only [go_sem, Bool.not_eq_true', Bool.not_eq_false']; rfl) ?_ ?_; (focus (simp only [go_sem, Bool.not_eq_true', Bool.not_eq_false']; done)))
        trivial
  rintro - -
  (refine swp_lastW ?_; simp only [go_sem, Bool.not_eq_true', Bool.not_eq_false'])
  (refine ret2 [] (by simp only [go_sem, Bool.not_eq_true', Bool.not_eq_false']; rfl) ?_; simp only [go_sem, Bool.not_eq_true', Bool.not_eq_false'])
end Go.Proofs.Ytblmebjhhanoaaa
/- CHAPTER 08: the document's answer: parents, kids, rooms. -/
/- G -/
/- BOOLS -/
set_option linter.unusedSimpArgs false
set_option linter.unusedVariables false
namespace Go.Proofs.Ytblmebjhhanoaaa
open Go.RowKit

theorem abvD_head (l : List LNo) (a : Int) : ∀ k, (abvD l a k).headD (-1) = parI l a k
  | 0 => rfl
  | k + 1 => by
    rw [abvD, parI]
    split
    · rfl
    · exact abvD_head l a k
theorem abvR_head (l : List LNo) (a : Int) : (abvR l a).headD (-1) = parN l a := by
  unfold abvR parN
  split
  · exact abvD_head l a _
  · rfl
theorem headD_el {l : List Int} (h : 0 < l.length) : l.headD (-1) = l[0] := by
  cases l with
  | nil => exact absurd h (by simp)
  | cons a l => rfl
theorem headD_nil {l : List Int} (h : l.length = 0) : l.headD (-1) = -1 := by
  rw [List.eq_nil_of_length_eq_zero h]; rfl
set_option maxRecDepth 100000 in
set_option maxHeartbeats 4000000 in
theorem parent8r_ok (l : List LNo) (a : Int) (ha : -9223372036854775808 ≤ a ∧ a ≤ 9223372036854775807) (hl : l.length ≤ 1000) : FnOk Try.prog 116 [.sl 20 (l.map cNo), .raw (.int .i64 a)] [] (.raw (.int .i64 (parN l a))) [] := by
  have h0 := abvR_head l a
  refine fn_of_awp Try.func116 rfl (by kernel_rfl) (by kernel_rfl) (Nat.le_of_ble_eq_true rfl) Try.results116 ?_
  simp only [go_sem, Bool.not_eq_true', Bool.not_eq_false']
  (refine acall2 [] (above8r_ok l a ha hl) (by simp only [go_sem, Bool.not_eq_true', Bool.not_eq_false']; rfl) (fit_of (by simp only [go_sem, Bool.not_eq_true', Bool.not_eq_false']) (by simp only [go_sem, Bool.not_eq_true', Bool.not_eq_false']) (by simp only [go_sem, Bool.not_eq_true', Bool.not_eq_false']) (by simp only [go_sem, Bool.not_eq_true', Bool.not_eq_false']) (by simp only [go_sem, Bool.not_eq_true', Bool.not_eq_false']) (by simp only [go_sem, Bool.not_eq_true', Bool.not_eq_false']) (by simp only [go_sem, Bool.not_eq_true', Bool.not_eq_false'])) ?_; simp only [go_sem, Bool.not_eq_true', Bool.not_eq_false', List.length_map])
  rw [← h0]
  generalize abvR l a = r
  repeat' first | contradiction | intro _ | refine And.intro ?_ ?_ | refine ex_get (by omega) ?_ | (show drawB _ _ = true; kernel_rfl) | (refine ret2 [] (by simp only [go_sem, Bool.not_eq_true', Bool.not_eq_false']; rfl) ?_; simp only [go_sem, Bool.not_eq_true', Bool.not_eq_false'])
  all_goals first
    | omega
    | exact headD_nil (by omega)
    | exact headD_el (by omega)
def kidR (l : List LNo) (a : Int) (k : Nat) : List Int := ((List.range k).filter (fun i : Nat => decide (parN l i = a))).map (fun i : Nat => (i : Int))
theorem kidR_zero (l : List LNo) (a : Int) : kidR l a 0 = [] := by simp [kidR]
theorem kidR_succ (l : List LNo) (a : Int) (k : Nat) : kidR l a (k + 1) = if parN l k = a then kidR l a k ++ [(k : Int)] else kidR l a k := by
  unfold kidR
  rw [List.range_succ, List.filter_append, List.map_append]
  split
  · next h => simp [h]
  · next h => simp [h]
theorem kidR_len (l : List LNo) (a : Int) (k : Nat) : (kidR l a k).length ≤ k := by
  unfold kidR
  rw [List.length_map]
  have := List.length_filter_le (fun i : Nat => decide (parN l i = a)) (List.range k)
  rw [List.length_range] at this
  exact this
end Go.Proofs.Ytblmebjhhanoaaa
/- CHAPTER 08: the document's answer: rooms. -/
/- G -/
/- BOOLS -/
set_option linter.unusedSimpArgs false
set_option linter.unusedVariables false
namespace Go.Proofs.Ytblmebjhhanoaaa
open Go.RowKit

def rmR (l : List LNo) (w : Int) : Nat → Nat → LRm
  | 0, _ => ⟨0, w⟩
  | f + 1, i => if parN l i < 0 then ⟨0, w⟩ else inR l (parN l i).toNat (rmR l w f (parN l i).toNat)
theorem parN_lt (l : List LNo) (i : Nat) : -1 ≤ parN l i ∧ parN l i < i := by
  unfold parN
  split
  · exact parI_lt l i _
  · omega
theorem inR_ok {l : List LNo} (hi : ∀ x ∈ l, 0 ≤ x.st.inset ∧ x.st.inset ≤ 1099511627776) {k : Nat} {r : LRm} (h : okR r) : okR (inR l k r) := by
  obtain ⟨h1, h2, h3, h4⟩ := h
  have : 0 ≤ insN l k ∧ insN l k ≤ 1099511627776 := by
    unfold insN
    cases e : l[k]? with
    | none => simp
    | some x => exact hi x (List.mem_of_getElem? e)
  refine ⟨?_, ?_, ?_, ?_⟩ <;> (simp only [inR]; omega)
theorem rmR_ok {l : List LNo} (hi : ∀ x ∈ l, 0 ≤ x.st.inset ∧ x.st.inset ≤ 1099511627776) {w : Int} (hw : 1 ≤ w ∧ w ≤ 1099511627776) : ∀ f i, okR (rmR l w f i)
  | 0, i => ⟨by simp [rmR], by simp [rmR], hw.1, hw.2⟩
  | f + 1, i => by
    rw [rmR]
    split
    · exact ⟨by simp, by simp, hw.1, hw.2⟩
    · exact inR_ok hi (rmR_ok hi hw f _)
set_option maxRecDepth 100000 in
set_option maxHeartbeats 4000000 in
theorem room8r_ok (l : List LNo) (w : Int) (hl : l.length ≤ 1000) (hi : ∀ x ∈ l, 0 ≤ x.st.inset ∧ x.st.inset ≤ 1099511627776) (hw : 1 ≤ w ∧ w ≤ 1099511627776) : ∀ (f i : Nat), i < f → i < l.length → FnOk Try.prog 90 [.sl 20 (l.map cNo), .raw (.int .i64 i), .raw (.int .i64 w)] [] (.agg [.raw (.int .i64 (rmR l w f i).x), .raw (.int .i64 (rmR l w f i).w)]) []
  | 0, i, h, _ => absurd h (Nat.not_lt_zero _)
  | f + 1, i, hf, hil => by
    have hp := parN_lt l i
    have hr := room8r_ok l w hl hi hw f
    have ho := rmR_ok hi hw f
    rw [rmR]
    refine fn_of_awp Try.func90 rfl (by kernel_rfl) (by kernel_rfl) (Nat.le_of_ble_eq_true rfl) Try.results90 ?_
    simp only [go_sem, Bool.not_eq_true', Bool.not_eq_false']
    (refine acall2 [] (parent8r_ok l i (by omega) hl) (by simp only [go_sem, Bool.not_eq_true', Bool.not_eq_false']; rfl) (fit_of (by simp only [go_sem, Bool.not_eq_true', Bool.not_eq_false']) (by simp only [go_sem, Bool.not_eq_true', Bool.not_eq_false']) (by simp only [go_sem, Bool.not_eq_true', Bool.not_eq_false']) (by simp only [go_sem, Bool.not_eq_true', Bool.not_eq_false']) (by simp only [go_sem, Bool.not_eq_true', Bool.not_eq_false']) (by simp only [go_sem, Bool.not_eq_true', Bool.not_eq_false']) (by simp only [go_sem, Bool.not_eq_true', Bool.not_eq_false'])) ?_; simp only [go_sem, Bool.not_eq_true', Bool.not_eq_false'])
    generalize parN l i = p at hp
    refine ⟨fun h => ?_, fun h => ?_⟩
    · simp [h]
    · rw [if_neg h]
      obtain ⟨k, rfl⟩ : ∃ k : Nat, p = k := ⟨p.toNat, by omega⟩
      have hk : k < l.length := by omega
      have ho := ho k
      have hin := hi l[k] (List.getElem_mem hk)
      have hii := insN_get hk
      (refine acall2 [] (hr k (by omega) hk) (by simp only [go_sem, Bool.not_eq_true', Bool.not_eq_false']; rfl) (fit_of (by simp only [go_sem, Bool.not_eq_true', Bool.not_eq_false']) (by simp only [go_sem, Bool.not_eq_true', Bool.not_eq_false']) (by simp only [go_sem, Bool.not_eq_true', Bool.not_eq_false']) (by simp only [go_sem, Bool.not_eq_true', Bool.not_eq_false']) (by simp only [go_sem, Bool.not_eq_true', Bool.not_eq_false']) (by simp only [go_sem, Bool.not_eq_true', Bool.not_eq_false']) (by simp only [go_sem, Bool.not_eq_true', Bool.not_eq_false'])) ?_; simp only [go_sem, Bool.not_eq_true', Bool.not_eq_false'])
      unfold inR
      rw [hii]
      generalize rmR l w f k = r at ho ⊢
      obtain ⟨o1, o2, o3, o4⟩ := ho
      refine ⟨by omega, ex_get hk ?_⟩
      generalize l[k].st.inset = q at hin
      have e : r.w - 2 * q = r.w - q - q := by omega
      rw [e]
      refine ⟨by omega, by omega, by omega, rfl, rfl⟩
theorem rmR_fuel (l : List LNo) (w : Int) : ∀ f g i, i < f → i < g → rmR l w f i = rmR l w g i
  | 0, _, i, h, _ => absurd h (Nat.not_lt_zero _)
  | _ + 1, 0, i, _, h => absurd h (Nat.not_lt_zero _)
  | f + 1, g + 1, i, h1, h2 => by
    have hp := parN_lt l i
    rw [rmR, rmR]
    split
    · rfl
    · rw [rmR_fuel l w f g _ (by omega) (by omega)]
def rmsR (l : List LNo) (w : Int) (k : Nat) : List LRm := (List.range k).map (fun i => rmR l w l.length i)
theorem rmsR_zero (l : List LNo) (w : Int) : rmsR l w 0 = [] := by simp [rmsR]
theorem rmsR_succ (l : List LNo) (w : Int) (k : Nat) : rmsR l w (k + 1) = rmsR l w k ++ [rmR l w l.length k] := by
  unfold rmsR
  rw [List.range_succ, List.map_append]; rfl
theorem rmsR_len (l : List LNo) (w : Int) (k : Nat) : (rmsR l w k).length = k := by simp [rmsR]
def rmsN (l : List LNo) (w : Int) : List LRm := if 1 ≤ w ∧ w ≤ 1099511627776 then rmsR l w l.length else []
end Go.Proofs.Ytblmebjhhanoaaa
/- CHAPTER 08: the plain law: the program's trees are the answer's. -/
/- G -/
set_option linter.unusedSimpArgs false
set_option linter.unusedVariables false
namespace Go.Proofs.Ytblmebjhhanoaaa
open Go.RowKit

theorem nst_lam (l : List LNo) : ∀ (f k : Nat) (e : Int), nst l f k e → ∀ j : Nat, k ≤ j → (j : Int) < e → 1 ≤ sizN l j ∧ j + sizN l j ≤ e ∧ ∀ i : Nat, j < i → (i : Int) < j + sizN l j → i + sizN l i ≤ j + sizN l j
  | 0, k, e, h, _, _, _ => absurd h (by simp [nst])
  | f + 1, k, e, h, j, h1, h2 => by
    obtain ⟨u1, u2, u3, u4⟩ := h.2 (by omega)
    by_cases h3 : j = k
    · subst h3
      exact ⟨u1, u2, fun i h4 h5 => (nst_lam l f _ _ u3 i (by omega) h5).2.1⟩
    · by_cases h4 : (j : Int) < k + sizN l k
      · obtain ⟨w1, w2, w3⟩ := nst_lam l f _ _ u3 j (by omega) h4
        exact ⟨w1, by omega, w3⟩
      · exact nst_lam l f _ _ u4 j (by omega) h2
structure Lam (l : List LNo) : Prop where
  pos : ∀ j : Nat, j < l.length → 1 ≤ sizN l j
  fin : ∀ j : Nat, j < l.length → j + sizN l j ≤ l.length
  nest : ∀ j i : Nat, j < l.length → j < i → (i : Int) < j + sizN l j → i + sizN l i ≤ j + sizN l j
theorem isS_lam {l : List LNo} (h : isS l = true) : Lam l := by
  have := nst_lam l _ _ _ (isS_nst h)
  exact ⟨fun j hj => (this j (Nat.zero_le _) (by omega)).1, fun j hj => (this j (Nat.zero_le _) (by omega)).2.1, fun j i hj => (this j (Nat.zero_le _) (by omega)).2.2 i⟩
theorem parI_is {l : List LNo} {a : Int} {p : Nat} : ∀ {k : Nat}, p < k → a < p + sizN l p → (∀ i : Nat, p < i → i < k → ¬ a < i + sizN l i) → parI l a k = p
  | 0, h, _, _ => absurd h (Nat.not_lt_zero _)
  | k + 1, h, h1, h2 => by
    rw [parI]
    by_cases e : p = k
    · subst e; rw [if_pos h1]
    · rw [if_neg (h2 k (by omega) (by omega))]
      exact parI_is (by omega) h1 (fun i a b => h2 i a (by omega))
theorem parI_no {l : List LNo} {a : Int} : ∀ {k : Nat}, (∀ i : Nat, i < k → ¬ a < i + sizN l i) → parI l a k = -1
  | 0, _ => rfl
  | k + 1, h => by
    rw [parI, if_neg (h k (by omega))]
    exact parI_no fun i hi => h i (by omega)
theorem parI_ge {l : List LNo} {a : Int} {j : Nat} : ∀ {k : Nat}, j < k → a < j + sizN l j → j ≤ parI l a k
  | 0, h, _ => absurd h (Nat.not_lt_zero _)
  | k + 1, h, h1 => by
    rw [parI]
    split
    · omega
    · by_cases e : j = k
      · subst e; contradiction
      · exact parI_ge (by omega) h1
theorem parI_sat {l : List LNo} {a : Int} {p : Nat} : ∀ {k : Nat}, parI l a k = p → p < k ∧ a < p + sizN l p
  | 0, h => by rw [parI] at h; omega
  | k + 1, h => by
    rw [parI] at h
    split at h
    · have : k = p := by omega
      subst this
      exact ⟨by omega, by assumption⟩
    · have := parI_sat h
      exact ⟨by omega, this.2⟩
theorem parI_congr {l : List LNo} {a b : Int} : ∀ {k : Nat}, (∀ i : Nat, i < k → (a < i + sizN l i ↔ b < i + sizN l i)) → parI l a k = parI l b k
  | 0, _ => rfl
  | k + 1, h => by
    rw [parI, parI, parI_congr fun i hi => h i (by omega)]
    have := h k (by omega)
    by_cases q : a < k + sizN l k
    · rw [if_pos q, if_pos (this.1 q)]
    · rw [if_neg q, if_neg (fun z => q (this.2 z))]
theorem parI_up {l : List LNo} (hl : Lam l) {a p : Nat} (ha : a < l.length) (h1 : p < a) (h2 : (a : Int) < p + sizN l p) : parI l p p = parI l a p :=
  parI_congr fun i hi => ⟨fun h => by have := hl.nest i p (by omega) hi h; omega, fun h => by omega⟩
theorem abvL_eq {l : List LNo} (hl : Lam l) {a : Nat} (ha : a < l.length) : ∀ (k f : Nat), k ≤ f → k ≤ a → abvL l f (parI l a k) = abvD l a k
  | 0, f, _, _ => by
    cases f with
    | zero => rfl
    | succ f => rw [parI, abvL, if_neg (by omega)]; rfl
  | k + 1, f, h, hk => by
    rw [parI, abvD]
    split
    · next q =>
      obtain ⟨f, rfl⟩ : ∃ g, f = g + 1 := ⟨f - 1, by omega⟩
      rw [abvL, if_pos (by omega), Int.toNat_natCast, parI_up hl ha (by omega) q, abvL_eq hl ha k f (by omega) (by omega)]
    · exact abvL_eq hl ha k f (by omega) (by omega)
theorem abv_eq {l : List LNo} (h : isS l = true) (a : Int) : abvN l a = abvR l a := by
  unfold abvN abvR
  split
  · next q =>
    simp only [hasN, Bool.and_eq_true, decide_eq_true_eq] at q
    obtain ⟨n, rfl⟩ : ∃ n : Nat, a = n := ⟨a.toNat, by omega⟩
    rw [Int.toNat_natCast]
    exact abvL_eq (isS_lam h) (by omega) n l.length (by omega) (Nat.le_refl _)
  · rfl
/-- whom a row of kids belongs to, up to where, from where on. -/
structure Row (l : List LNo) (a e : Int) (k : Nat) : Prop where
  le : (k : Int) ≤ e
  lt : a < k
  en : e ≤ l.length
  own : 0 ≤ a → e = a + sizN l a.toNat
  top : a < 0 → e = l.length
  low : -1 ≤ a
  bd : ∀ i : Nat, a < i → i < k → i + sizN l i ≤ k
theorem parN_nat {l : List LNo} {k : Nat} (h : k < l.length) : parN l k = parI l k k := by
  unfold parN
  rw [if_pos (by simp only [hasN, Bool.and_eq_true, decide_eq_true_eq]; omega), Int.toNat_natCast]
theorem Row.par {l : List LNo} {a e : Int} {k : Nat} (h : Row l a e k) (hk : (k : Int) < e) : parN l k = a := by
  have := h.en
  rw [parN_nat (by omega)]
  have hlow := h.low
  by_cases q : 0 ≤ a
  · obtain ⟨p, rfl⟩ : ∃ p : Nat, a = p := ⟨a.toNat, by omega⟩
    have e1 := h.own q
    rw [Int.toNat_natCast] at e1
    exact parI_is (by have := h.lt; omega) (by omega) fun i h1 h2 h3 => by have := h.bd i (by omega) h2; omega
  · obtain rfl : a = -1 := by omega
    exact parI_no fun i h2 h3 => by have := h.bd i (by omega) h2; omega
theorem Row.next {l : List LNo} (hl : Lam l) {a e : Int} {k : Nat} (h : Row l a e k) (hk : (k : Int) < e) : Row l a e (k + (sizN l k).toNat) := by
  have h0 := h.en
  have h1 := hl.pos k (by omega)
  have hf := hl.fin k (by omega)
  have hlow := h.low
  have hlt := h.lt
  have hbd := h.bd
  refine ⟨?_, by omega, h.en, h.own, h.top, h.low, fun i h2 h3 => ?_⟩
  · by_cases q : 0 ≤ a
    · obtain ⟨p, rfl⟩ : ∃ p : Nat, a = p := ⟨a.toNat, by omega⟩
      have e1 := h.own q
      rw [Int.toNat_natCast] at e1
      have := hl.nest p k (by omega) (by omega) (by omega)
      omega
    · have := h.top (by omega)
      omega
  · by_cases h4 : i < k
    · have := hbd i h2 h4; omega
    · by_cases h5 : i = k
      · subst h5; omega
      · have := hl.nest k i (by omega) (by omega) (by omega); omega
theorem Row.down {l : List LNo} (hl : Lam l) {k : Nat} (hk : k < l.length) : Row l k (k + sizN l k) (k + 1) := by
  have h1 := hl.pos k hk
  have h2 := hl.fin k hk
  exact ⟨by omega, by omega, by omega, fun _ => by rw [Int.toNat_natCast], fun q => absurd q (by omega), by omega, fun i a b => by omega⟩
theorem filt_one {F : Nat → Bool} {k s : Nat} (hs : 1 ≤ s) (h1 : F k = true) (h2 : ∀ i, k < i → i < k + s → F i = false) : (List.range' k s).filter F = [k] := by
  obtain ⟨s, rfl⟩ : ∃ t, s = t + 1 := ⟨s - 1, by omega⟩
  rw [List.range'_succ, List.filter_cons, if_pos h1]
  have : (List.range' (k + 1) s).filter F = [] := by
    rw [List.filter_eq_nil_iff]
    intro i hi
    rw [List.mem_range'_1] at hi
    rw [h2 i (by omega) (by omega)]; decide
  rw [this]
theorem range_split (k s m : Nat) : List.range' k (s + m) = List.range' k s ++ List.range' (k + s) m := by
  rw [List.range'_append_1]
theorem kidS_eq {l : List LNo} (hl : Lam l) {a e : Int} : ∀ (f k : Nat), Row l a e k → e - k ≤ f → kidS l e f k = ((List.range' k (e - k).toNat).filter (fun i : Nat => decide (parN l i = a))).map (fun i : Nat => (i : Int))
  | 0, k, h, hf => by
    have : (e - k).toNat = 0 := by omega
    rw [this]; rfl
  | f + 1, k, h, hf => by
    rw [kidS]
    split
    · next q =>
      have h0 := h.en
      have h1 := hl.pos k (by omega)
      have hn := h.next hl q
      have hle := hn.le
      have hlt := h.lt
      rw [kidS_eq hl f _ hn (by omega)]
      have e1 : (e - k).toNat = (sizN l k).toNat + (e - (k + (sizN l k).toNat : Nat)).toNat := by omega
      rw [e1, range_split, List.filter_append, List.map_append]
      have e2 : (List.range' k (sizN l k).toNat).filter (fun i : Nat => decide (parN l i = a)) = [k] := by
        refine filt_one (by omega) (by rw [decide_eq_true_eq]; exact h.par q) fun i h3 h4 => ?_
        rw [decide_eq_false_iff_not, parN_nat (by omega)]
        have := parI_ge (l := l) (a := i) (j := k) (k := i) h3 (by omega)
        omega
      rw [e2]
      rfl
    · have : (e - k).toNat = 0 := by omega
      rw [this]; rfl
theorem filt_none {F : Nat → Bool} {k s : Nat} (h2 : ∀ i, k ≤ i → i < k + s → F i = false) : (List.range' k s).filter F = [] := by
  rw [List.filter_eq_nil_iff]
  intro i hi
  rw [List.mem_range'_1] at hi
  rw [h2 i (by omega) (by omega)]; decide
theorem Row.all (l : List LNo) : Row l (-1) l.length 0 := ⟨by omega, by omega, by omega, fun q => absurd q (by omega), fun _ => rfl, by omega, fun i _ h => absurd h (Nat.not_lt_zero _)⟩
theorem kid_eq {l : List LNo} (h : isS l = true) {a : Int} (ha : a = -1 ∨ hasN l a = true) : kidN l a = kidR l a l.length := by
  have hl := isS_lam h
  unfold kidN kidR
  rw [List.range_eq_range']
  by_cases q : a = -1
  · subst q
    rw [if_pos rfl, kidS_eq hl _ _ (Row.all l) (by omega)]
    have : ((l.length : Int) - (0 : Nat)).toNat = l.length := by omega
    rw [this]
  · have hh := ha.resolve_left q
    rw [if_neg q, if_pos hh]
    simp only [hasN, Bool.and_eq_true, decide_eq_true_eq] at hh
    obtain ⟨n, rfl⟩ : ∃ n : Nat, a = n := ⟨a.toNat, by omega⟩
    have hn : n < l.length := by omega
    have h1 := hl.pos n hn
    have h2 := hl.fin n hn
    rw [Int.toNat_natCast, kidS_eq hl _ _ (Row.down hl hn) (by omega)]
    have e1 : l.length = (n + 1) + (((n : Int) + sizN l n - (n + 1 : Nat)).toNat + (l.length - (n + (sizN l n).toNat))) := by omega
    conv => rhs; rw [e1, range_split 0 (n + 1), range_split (0 + (n + 1)), List.filter_append, List.filter_append]
    have e2 : (List.range' 0 (n + 1)).filter (fun i : Nat => decide (parN l i = n)) = [] := filt_none fun i _ h4 => by
      rw [decide_eq_false_iff_not]
      have := (parN_lt l i).2
      omega
    have e3 : ∀ m, (List.range' (0 + (n + 1) + ((n : Int) + sizN l n - (n + 1 : Nat)).toNat) m).filter (fun i : Nat => decide (parN l i = n)) = [] := fun m => filt_none fun i h3 _ => by
      rw [decide_eq_false_iff_not]
      intro h5
      unfold parN at h5
      split at h5
      · have := (parI_sat h5).2
        omega
      · omega
    rw [e2, e3, List.nil_append, List.append_nil, Nat.zero_add]
def valR (l : List LNo) (w a : Int) : LRm := if a < 0 then ⟨0, w⟩ else inR l a.toNat (rmR l w l.length a.toNat)
theorem rmR_val {l : List LNo} {w : Int} {i : Nat} (h : i < l.length) : rmR l w l.length i = valR l w (parN l i) := by
  have hp := parN_lt l i
  obtain ⟨m, hm⟩ : ∃ m, l.length = m + 1 := ⟨l.length - 1, by omega⟩
  unfold valR
  rw [hm, rmR]
  split
  · rfl
  · rw [rmR_fuel l w m (m + 1) _ (by omega) (by omega)]
theorem putS_eq {l : List LNo} (hl : Lam l) {w : Int} : ∀ (f k : Nat) (a e : Int), Row l a e k → nst l f k e → putS l f k e (valR l w a) = (List.range' k (e - k).toNat).map (fun i => rmR l w l.length i)
  | 0, k, a, e, h, hn => absurd hn (by simp [nst])
  | f + 1, k, a, e, h, hn => by
    rw [putS]
    split
    · next q =>
      obtain ⟨u1, u2, u3, u4⟩ := hn.2 q
      have h0 := h.en
      have hk : k < l.length := by omega
      have hr := rmR_val (w := w) hk
      rw [h.par q] at hr
      have hv : inR l k (valR l w a) = valR l w k := by
        rw [← hr]
        unfold valR
        rw [if_neg (by omega), Int.toNat_natCast]
      have hnx := h.next hl q
      have hle := hnx.le
      rw [hv, putS_eq hl f (k + 1) k (k + sizN l k) (Row.down hl hk) u3, putS_eq hl f _ a e hnx u4]
      have e1 : (e - k).toNat = 1 + (((k : Int) + sizN l k - (k + 1 : Nat)).toNat + (e - (k + (sizN l k).toNat : Nat)).toNat) := by omega
      have e2 : k + 1 + ((k : Int) + sizN l k - (k + 1 : Nat)).toNat = k + (sizN l k).toNat := by omega
      rw [e1, range_split, range_split, e2]
      simp [hr]
    · have : (e - k).toNat = 0 := by omega
      rw [this]; rfl
theorem rooms_eq {l : List LNo} (h : isS l = true) (w : Int) : romN l w = rmsN l w := by
  have e : docN l = l := by simp [docN, h]
  unfold romN rmsN
  rw [e]
  split
  · have := putS_eq (isS_lam h) (w := w) _ _ _ _ (Row.all l) (isS_nst h)
    have e1 : valR l w (-1) = ⟨0, w⟩ := if_pos (by omega)
    rw [e1] at this
    rw [this]
    have e2 : ((l.length : Int) - (0 : Nat)).toNat = l.length := by omega
    rw [e2, rmsR, List.range_eq_range']
  · rfl
end Go.Proofs.Ytblmebjhhanoaaa
/- CHAPTER 13: the pen. -/
/- G -/
/- BOOLS -/
set_option linter.unusedSimpArgs false
set_option linter.unusedVariables false
namespace Go.Proofs.Ytblmebjhhanoaaa
open Go.RowKit

structure LPen where
  y : Int
  m : Int
deriving DecidableEq
def aPen (p : LPen) : AV := .agg [.raw (.int .i64 p.y), .raw (.int .i64 p.m)]
attribute [go_sem] aPen
def penP (p : LPen) (n : Int) : LPen := if 0 < n then ⟨p.y + p.m + n, 0⟩ else p
def penE (p : LPen) (mg n : Int) : LPen := penP ⟨p.y, max p.m mg⟩ n
def penL (p : LPen) (mg n : Int) : LPen := ⟨(penP p n).y, max (penP p n).m mg⟩
def penC (p : LPen) (low : Int) : LPen := if p.y + p.m < low then ⟨low, 0⟩ else p
def nr52 (x : Int) : Prop := -4503599627370496 ≤ x ∧ x ≤ 4503599627370496
structure PenOk (p : LPen) (a b : Int) : Prop where
  y : -4503599627370496 ≤ p.y ∧ p.y ≤ 4503599627370496
  m : -4503599627370496 ≤ p.m ∧ p.m ≤ 4503599627370496
  a : -4503599627370496 ≤ a ∧ a ≤ 4503599627370496
  b : -4503599627370496 ≤ b ∧ b ≤ 4503599627370496
set_option maxRecDepth 100000 in
theorem pat_ok (p : LPen) (h : PenOk p 0 0) : FnOk Try.prog 56 [aPen p] [] (.raw (.int .i64 (p.y + p.m))) [] := by
  have := h.y
  have := h.m
  refine fn_of_awp Try.func56 rfl (by kernel_rfl) (by kernel_rfl) (Nat.le_of_ble_eq_true rfl) Try.results56 ?_
  simp only [go_sem, Bool.not_eq_true', Bool.not_eq_false']
  repeat' first | contradiction | intro _ | refine And.intro ?_ ?_ | refine ex_get (by omega) ?_ | (show drawB _ _ = true; kernel_rfl) | (refine ret2 [] (by simp only [go_sem, Bool.not_eq_true', Bool.not_eq_false']; rfl) ?_; simp only [go_sem, Bool.not_eq_true', Bool.not_eq_false'])
  all_goals omega
set_option maxRecDepth 100000 in
theorem pwiden_ok (p : LPen) (mg : Int) : FnOk Try.prog 98 [.hdr 0, .raw (.int .i64 mg)] [(0, .cells 150 [.raw (.int .i64 p.y), .raw (.int .i64 p.m)])] (.tup []) [(0, .cells 150 [.raw (.int .i64 p.y), .raw (.int .i64 (max p.m mg))])] := by
  refine fn_of_awp Try.func98 rfl (by kernel_rfl) (by kernel_rfl) (Nat.le_of_ble_eq_true rfl) Try.results98 ?_
  simp only [go_sem, Bool.not_eq_true', Bool.not_eq_false']
  (refine ret2 [] (by simp only [go_sem, Bool.not_eq_true', Bool.not_eq_false']; rfl) ?_; simp only [go_sem, Bool.not_eq_true', Bool.not_eq_false'])
set_option maxRecDepth 100000 in
theorem ppad_ok (p : LPen) (n : Int) (h : PenOk p n 0) : FnOk Try.prog 99 [.hdr 0, .raw (.int .i64 n)] [(0, .cells 150 [.raw (.int .i64 p.y), .raw (.int .i64 p.m)])] (.tup []) [(0, .cells 150 [.raw (.int .i64 (penP p n).y), .raw (.int .i64 (penP p n).m)])] := by
  have := h.y
  have := h.m
  have := h.a
  have e1 : 0 < n → penP p n = ⟨p.y + p.m + n, 0⟩ := fun q => by unfold penP; rw [if_pos q]
  have e2 : ¬ 0 < n → penP p n = p := fun q => by unfold penP; rw [if_neg q]
  refine fn_of_awp Try.func99 rfl (by kernel_rfl) (by kernel_rfl) (Nat.le_of_ble_eq_true rfl) Try.results99 ?_
  simp only [go_sem, Bool.not_eq_true', Bool.not_eq_false']
  repeat' first | contradiction | intro _ | refine And.intro ?_ ?_ | refine ex_get (by omega) ?_ | (show drawB _ _ = true; kernel_rfl) | (refine ret2 [] (by simp only [go_sem, Bool.not_eq_true', Bool.not_eq_false']; rfl) ?_; simp only [go_sem, Bool.not_eq_true', Bool.not_eq_false'])
  all_goals first
    | omega
    | (refine ⟨(show drawB _ _ = true by kernel_rfl), ?_⟩)
    | (rw [e1 (by assumption)])
    | (rw [e2 (by assumption)])
    | skip
set_option maxRecDepth 100000 in
theorem penter_ok (p : LPen) (mg n : Int) (h : PenOk p mg n) : FnOk Try.prog 70 [aPen p, .raw (.int .i64 mg), .raw (.int .i64 n)] [] (aPen (penE p mg n)) [] := by
  have h2 := h.y
  have h3 := h.m
  have h4 := h.a
  have h5 := h.b
  have hp : PenOk ⟨p.y, max p.m mg⟩ n 0 := ⟨h2, by simp only; omega, h5, by omega⟩
  refine fn_of_awp Try.func70 rfl (by kernel_rfl) (by kernel_rfl) (Nat.le_of_ble_eq_true rfl) Try.results70 ?_
  simp only [go_sem, Bool.not_eq_true', Bool.not_eq_false']
  (refine acall2 [] (pwiden_ok p mg) (by simp only [go_sem, Bool.not_eq_true', Bool.not_eq_false']; rfl) (fit_of (by simp only [go_sem, Bool.not_eq_true', Bool.not_eq_false']) (by simp only [go_sem, Bool.not_eq_true', Bool.not_eq_false']) (by simp only [go_sem, Bool.not_eq_true', Bool.not_eq_false']) (by simp only [go_sem, Bool.not_eq_true', Bool.not_eq_false']) (by simp only [go_sem, Bool.not_eq_true', Bool.not_eq_false']) (by simp only [go_sem, Bool.not_eq_true', Bool.not_eq_false']) (by simp only [go_sem, Bool.not_eq_true', Bool.not_eq_false'])) ?_; simp only [go_sem, Bool.not_eq_true', Bool.not_eq_false'])
  (refine acall2 [] (ppad_ok ⟨p.y, max p.m mg⟩ n hp) (by simp only [go_sem, Bool.not_eq_true', Bool.not_eq_false']; rfl) (fit_of (by simp only [go_sem, Bool.not_eq_true', Bool.not_eq_false']) (by simp only [go_sem, Bool.not_eq_true', Bool.not_eq_false']) (by simp only [go_sem, Bool.not_eq_true', Bool.not_eq_false']) (by simp only [go_sem, Bool.not_eq_true', Bool.not_eq_false']) (by simp only [go_sem, Bool.not_eq_true', Bool.not_eq_false']) (by simp only [go_sem, Bool.not_eq_true', Bool.not_eq_false']) (by simp only [go_sem, Bool.not_eq_true', Bool.not_eq_false'])) ?_; simp only [go_sem, Bool.not_eq_true', Bool.not_eq_false'])
  exact ⟨rfl, rfl⟩
set_option maxRecDepth 100000 in
theorem pleave_ok (p : LPen) (mg n : Int) (h : PenOk p mg n) : FnOk Try.prog 71 [aPen p, .raw (.int .i64 mg), .raw (.int .i64 n)] [] (aPen (penL p mg n)) [] := by
  have h2 := h.y
  have h3 := h.m
  have h4 := h.a
  have h5 := h.b
  have hp : PenOk p n 0 := ⟨h2, h3, h5, by omega⟩
  refine fn_of_awp Try.func71 rfl (by kernel_rfl) (by kernel_rfl) (Nat.le_of_ble_eq_true rfl) Try.results71 ?_
  simp only [go_sem, Bool.not_eq_true', Bool.not_eq_false']
  (refine acall2 [] (ppad_ok p n hp) (by simp only [go_sem, Bool.not_eq_true', Bool.not_eq_false']; rfl) (fit_of (by simp only [go_sem, Bool.not_eq_true', Bool.not_eq_false']) (by simp only [go_sem, Bool.not_eq_true', Bool.not_eq_false']) (by simp only [go_sem, Bool.not_eq_true', Bool.not_eq_false']) (by simp only [go_sem, Bool.not_eq_true', Bool.not_eq_false']) (by simp only [go_sem, Bool.not_eq_true', Bool.not_eq_false']) (by simp only [go_sem, Bool.not_eq_true', Bool.not_eq_false']) (by simp only [go_sem, Bool.not_eq_true', Bool.not_eq_false'])) ?_; simp only [go_sem, Bool.not_eq_true', Bool.not_eq_false'])
  (refine acall2 [] (pwiden_ok (penP p n) mg) (by simp only [go_sem, Bool.not_eq_true', Bool.not_eq_false']; rfl) (fit_of (by simp only [go_sem, Bool.not_eq_true', Bool.not_eq_false']) (by simp only [go_sem, Bool.not_eq_true', Bool.not_eq_false']) (by simp only [go_sem, Bool.not_eq_true', Bool.not_eq_false']) (by simp only [go_sem, Bool.not_eq_true', Bool.not_eq_false']) (by simp only [go_sem, Bool.not_eq_true', Bool.not_eq_false']) (by simp only [go_sem, Bool.not_eq_true', Bool.not_eq_false']) (by simp only [go_sem, Bool.not_eq_true', Bool.not_eq_false'])) ?_; simp only [go_sem, Bool.not_eq_true', Bool.not_eq_false'])
  exact ⟨rfl, rfl⟩
set_option maxRecDepth 100000 in
theorem pclear_ok (p : LPen) (low : Int) (h : PenOk p low 0) : FnOk Try.prog 69 [aPen p, .raw (.int .i64 low)] [] (aPen (penC p low)) [] := by
  have h2 := h.y
  have h3 := h.m
  have e1 : p.y + p.m < low → penC p low = ⟨low, 0⟩ := fun q => by unfold penC; rw [if_pos q]
  have e2 : ¬ p.y + p.m < low → penC p low = p := fun q => by unfold penC; rw [if_neg q]
  refine fn_of_awp Try.func69 rfl (by kernel_rfl) (by kernel_rfl) (Nat.le_of_ble_eq_true rfl) Try.results69 ?_
  simp only [go_sem, Bool.not_eq_true', Bool.not_eq_false']
  repeat' first | contradiction | intro _ | refine And.intro ?_ ?_ | refine ex_get (by omega) ?_ | (show drawB _ _ = true; kernel_rfl) | (refine ret2 [] (by simp only [go_sem, Bool.not_eq_true', Bool.not_eq_false']; rfl) ?_; simp only [go_sem, Bool.not_eq_true', Bool.not_eq_false']) | (refine acall2 [] (pat_ok p ⟨h2, h3, by omega, by omega⟩) (by simp only [go_sem, Bool.not_eq_true', Bool.not_eq_false']; rfl) (fit_of (by simp only [go_sem, Bool.not_eq_true', Bool.not_eq_false']) (by simp only [go_sem, Bool.not_eq_true', Bool.not_eq_false']) (by simp only [go_sem, Bool.not_eq_true', Bool.not_eq_false']) (by simp only [go_sem, Bool.not_eq_true', Bool.not_eq_false']) (by simp only [go_sem, Bool.not_eq_true', Bool.not_eq_false']) (by simp only [go_sem, Bool.not_eq_true', Bool.not_eq_false']) (by simp only [go_sem, Bool.not_eq_true', Bool.not_eq_false'])) ?_; simp only [go_sem, Bool.not_eq_true', Bool.not_eq_false'])
  all_goals first
    | omega
    | (rw [e1 (by assumption)])
    | (rw [e2 (by assumption)])
    | skip
set_option maxRecDepth 100000 in
theorem pput_ok (p : LPen) (a b : Int) (h : PenOk p a b) : FnOk Try.prog 101 [aPen p, .raw (.int .i64 a), .raw (.int .i64 b)] [] (.agg [.raw (.int .i64 (a + b)), .raw (.int .i64 0)]) [] := by
  have h2 := h.a
  have h3 := h.b
  refine fn_of_awp Try.func101 rfl (by kernel_rfl) (by kernel_rfl) (Nat.le_of_ble_eq_true rfl) Try.results101 ?_
  simp only [go_sem, Bool.not_eq_true', Bool.not_eq_false']
  repeat' first | contradiction | intro _ | refine And.intro ?_ ?_ | refine ex_get (by omega) ?_ | (show drawB _ _ = true; kernel_rfl) | (refine ret2 [] (by simp only [go_sem, Bool.not_eq_true', Bool.not_eq_false']; rfl) ?_; simp only [go_sem, Bool.not_eq_true', Bool.not_eq_false'])
  all_goals omega
set_option maxRecDepth 100000 in
theorem rpenter_ok (p : LPen) (mg n : Int) (h : PenOk p mg n) : FnOk Try.prog 93 [aPen p, .raw (.int .i64 mg), .raw (.int .i64 n)] [] (aPen (penE p mg n)) [] := by
  have h2 := h.y
  have h3 := h.m
  have h4 := h.a
  have h5 := h.b
  have e1 : 0 < n → penE p mg n = ⟨p.y + max p.m mg + n, 0⟩ := fun q => by unfold penE penP; rw [if_pos q]
  have e2 : ¬ 0 < n → penE p mg n = ⟨p.y, max p.m mg⟩ := fun q => by unfold penE penP; rw [if_neg q]
  refine fn_of_awp Try.func93 rfl (by kernel_rfl) (by kernel_rfl) (Nat.le_of_ble_eq_true rfl) Try.results93 ?_
  simp only [go_sem, Bool.not_eq_true', Bool.not_eq_false']
  repeat' first | contradiction | intro _ | refine And.intro ?_ ?_ | refine ex_get (by omega) ?_ | (show drawB _ _ = true; kernel_rfl) | (refine ret2 [] (by simp only [go_sem, Bool.not_eq_true', Bool.not_eq_false']; rfl) ?_; simp only [go_sem, Bool.not_eq_true', Bool.not_eq_false'])
  all_goals first
    | omega
    | (rw [e1 (by assumption)]; done)
    | (rw [e2 (by assumption)]; done)
    | (rw [e1 (by assumption)]; simp only; omega)
    | (rw [e2 (by assumption)]; simp only; omega)
    | skip
set_option maxRecDepth 100000 in
theorem rpleave_ok (p : LPen) (mg n : Int) (h : PenOk p mg n) : FnOk Try.prog 94 [aPen p, .raw (.int .i64 mg), .raw (.int .i64 n)] [] (aPen (penL p mg n)) [] := by
  have h2 := h.y
  have h3 := h.m
  have h4 := h.a
  have h5 := h.b
  have e1 : 0 < n → penL p mg n = ⟨p.y + p.m + n, max 0 mg⟩ := fun q => by unfold penL penP; rw [if_pos q]
  have e2 : ¬ 0 < n → penL p mg n = ⟨p.y, max p.m mg⟩ := fun q => by unfold penL penP; rw [if_neg q]
  refine fn_of_awp Try.func94 rfl (by kernel_rfl) (by kernel_rfl) (Nat.le_of_ble_eq_true rfl) Try.results94 ?_
  simp only [go_sem, Bool.not_eq_true', Bool.not_eq_false']
  repeat' first | contradiction | intro _ | refine And.intro ?_ ?_ | refine ex_get (by omega) ?_ | (show drawB _ _ = true; kernel_rfl) | (refine ret2 [] (by simp only [go_sem, Bool.not_eq_true', Bool.not_eq_false']; rfl) ?_; simp only [go_sem, Bool.not_eq_true', Bool.not_eq_false'])
  all_goals first
    | omega
    | (rw [e1 (by assumption)]; done)
    | (rw [e2 (by assumption)]; done)
    | (rw [e1 (by assumption)]; simp only; omega)
    | (rw [e2 (by assumption)]; simp only; omega)
    | skip
set_option maxRecDepth 100000 in
theorem rpclear_ok (p : LPen) (low : Int) (h : PenOk p low 0) : FnOk Try.prog 92 [aPen p, .raw (.int .i64 low)] [] (aPen (penC p low)) [] := by
  have h2 := h.y
  have h3 := h.m
  have e1 : p.y + p.m < low → penC p low = ⟨low, 0⟩ := fun q => by unfold penC; rw [if_pos q]
  have e2 : ¬ p.y + p.m < low → penC p low = p := fun q => by unfold penC; rw [if_neg q]
  refine fn_of_awp Try.func92 rfl (by kernel_rfl) (by kernel_rfl) (Nat.le_of_ble_eq_true rfl) Try.results92 ?_
  simp only [go_sem, Bool.not_eq_true', Bool.not_eq_false']
  repeat' first | contradiction | intro _ | refine And.intro ?_ ?_ | refine ex_get (by omega) ?_ | (show drawB _ _ = true; kernel_rfl) | (refine ret2 [] (by simp only [go_sem, Bool.not_eq_true', Bool.not_eq_false']; rfl) ?_; simp only [go_sem, Bool.not_eq_true', Bool.not_eq_false'])
  all_goals first
    | omega
    | (rw [e1 (by assumption)])
    | (rw [e2 (by assumption)])
    | skip
end Go.Proofs.Ytblmebjhhanoaaa
/- CHAPTER 14: flow: what is laid out, in plain words; in which bounds it lies. -/
/- G -/
set_option linter.unusedSimpArgs false
set_option linter.unusedVariables false
namespace Go.Proofs.Ytblmebjhhanoaaa
open Go.RowKit

def spK (l : List LNo) (w : Int) (k : Nat) : LSpan := ⟨(rmR l w l.length k).x, (rmR l w l.length k).x + (rmR l w l.length k).w⟩
/-- the galley so far, and the pen. -/
structure LGs where
  a : List LAt
  f : List LFl
  p : LPen
def atP (p : LPen) : Int := p.y + p.m
def lowO (sides : Int) (f : List LFl) : LIs := mostF (lowF sides) f
def clrG (x : LNo) (s : LGs) : LPen := if (lowO x.st.clear s.f).is = true then penC s.p (lowO x.st.clear s.f).n else s.p
def entG (x : LNo) (s : LGs) : LGs := ⟨s.a, s.f, penE (clrG x s) x.st.top x.st.padTop⟩
def lvG (x : LNo) (s : LGs) : LGs := ⟨s.a, s.f, penL s.p x.st.bottom x.st.padBottom⟩
def atL (k : Nat) (H : Int) (z : LSet) : LAt := ⟨1, k, z.f, z.t, z.x, z.y, z.w, H⟩
def setG (k : Nat) (H : Int) (s : LGs) (z : LSet) : LGs := ⟨s.a ++ [atL k H z], s.f, ⟨z.y + H, 0⟩⟩
def txtG (sp : LSpan) (k : Nat) (x : LNo) (s : LGs) : LGs := (texF s.f x.words x.space x.line (atP s.p) sp).foldl (setG k x.line) s
def monY (sp : LSpan) (x : LNo) (s : LGs) : Int := romY s.f x.w x.h (atP s.p) sp
def monA (sp : LSpan) (k : Nat) (x : LNo) (s : LGs) : LAt := ⟨2, k, 0, 0, (bandF s.f (monY sp x s) x.h sp).a, monY sp x s, x.w, x.h⟩
def monG (sp : LSpan) (k : Nat) (x : LNo) (s : LGs) : LGs := ⟨s.a ++ [monA sp k x s], s.f, ⟨monY sp x s + x.h, 0⟩⟩
def newF (k : Nat) (x : LNo) (s : LGs) : LFl := ⟨k, x.side, s.a.length, 0, 0, x.w, x.h⟩
def fltG (sp : LSpan) (k : Nat) (x : LNo) (s : LGs) : LGs := ⟨s.a, putP s.f (newF k x s) (atP s.p) sp, s.p⟩
/-- one node, and all within it. -/
def nodG (l : List LNo) (w : Int) (kids : Nat → Int → LGs → LGs) (k : Nat) (s : LGs) : LGs :=
  if (ndN l k).kind = 1 then lvG (ndN l k) (kids (k + 1) (k + (ndN l k).size) (entG (ndN l k) s))
  else if (ndN l k).kind = 2 then txtG (spK l w k) k (ndN l k) s
  else if (ndN l k).kind = 3 then monG (spK l w k) k (ndN l k) s
  else fltG (spK l w k) k (ndN l k) s
def rowG (l : List LNo) (w : Int) : Nat → Nat → Int → LGs → LGs
  | 0, _, _, s => s
  | n + 1, k, e, s => if (k : Int) < e then rowG l w n (k + (ndN l k).size.toNat) e (nodG l w (rowG l w n) k s) else s
/-- in which bounds a float lies, among so many. -/
structure FlOk (B : Int) (n : Nat) (f : LFl) : Prop where
  x : 0 ≤ f.x ∧ f.x + f.w ≤ 1099511627776 * (2 + (n : Int))
  y : 0 ≤ f.y ∧ f.y + f.h ≤ B
  w : 1 ≤ f.w ∧ f.w ≤ 1099511627776
  h : 1 ≤ f.h ∧ f.h ≤ 1099511627776
  side : f.side = 1 ∨ f.side = 2
structure GsOk (l : List LNo) (B : Int) (k : Nat) (s : LGs) : Prop where
  y : 0 ≤ s.p.y
  m : 0 ≤ s.p.m
  b : s.p.y + s.p.m ≤ B
  fl : s.f.length ≤ k
  al : (s.a.length : Int) ≤ psN l k
  fs : ∀ f ∈ s.f, FlOk B s.f.length f
theorem FlOk.mono {B B' : Int} {n n' : Nat} {f : LFl} (h : FlOk B n f) (hB : B ≤ B') (hn : n ≤ n') : FlOk B' n' f := by
  obtain ⟨⟨a, b⟩, ⟨c, d⟩, e, g, i⟩ := h
  exact ⟨⟨a, by omega⟩, ⟨c, by omega⟩, e, g, i⟩
theorem GsOk.mono {l : List LNo} {B B' : Int} {k : Nat} {s : LGs} (h : GsOk l B k s) (hB : B ≤ B') : GsOk l B' k s := by
  obtain ⟨a, b, c, d, e, f⟩ := h
  exact ⟨a, b, by omega, d, e, fun x hx => (f x hx).mono hB (Nat.le_refl _)⟩
theorem GsOk.near {l : List LNo} {B : Int} {k : Nat} {s : LGs} (h : GsOk l B k s) (hB : B ≤ 1099511627776) (hk : k ≤ 60) : s.f.all nearF = true := by
  rw [List.all_eq_true]
  intro f hf
  obtain ⟨⟨a, b⟩, ⟨c, d⟩, e, g, -⟩ := h.fs f hf
  have := h.fl
  exact nearF_iff.2 ⟨⟨by omega, by omega⟩, ⟨by omega, by omega⟩, ⟨by omega, by omega⟩, ⟨by omega, by omega⟩⟩
theorem most_at {t : LFl → LIs} {l : List LFl} : (mostF t l).is = true → ∃ f ∈ l, (mostF t l).n = (t f).n := by
  refine fold_inv (P := fun o : LIs => o.is = true → ∃ f ∈ l, o.n = (t f).n) l ⟨0, false⟩ (fun h => by cases h) fun o f hf ih h => ?_
  unfold mostT at h ⊢
  split at h
  · next hc => rw [if_pos hc]; exact ⟨f, hf, rfl⟩
  · next hc => rw [if_neg hc]; exact ih h
theorem dn_at {l : List LFl} {W H : Int} {s : LSpan} : ∀ (n : Nat) (y : Int), dnP l W H s n y = y ∨ ∃ f ∈ l, dnP l W H s n y = f.y + f.h
  | 0, y => .inl rfl
  | n + 1, y => by
    rw [dnP]
    split
    · exact .inl rfl
    · next hc =>
      have hi : (nextF l y H s).is = true := by
        cases q : (nextF l y H s).is with
        | true => rfl
        | false => exact absurd (.inr q) hc
      rcases dn_at n (nextF l y H s).n with e | e
      · obtain ⟨f, hf, e2, -⟩ := next_bot hi
        exact .inr ⟨f, hf, by rw [e, e2]⟩
      · exact .inr e
theorem dn_ge {l : List LFl} {W H : Int} {s : LSpan} : ∀ (n : Nat) (y : Int), y ≤ dnP l W H s n y
  | 0, y => Int.le_refl _
  | n + 1, y => by
    rw [dnP]
    split
    · exact Int.le_refl _
    · next hc =>
      have hi : (nextF l y H s).is = true := by
        cases q : (nextF l y H s).is with
        | true => rfl
        | false => exact absurd (.inr q) hc
      obtain ⟨f, hf, e2, e3⟩ := next_bot hi
      have := dn_ge (l := l) (W := W) (H := H) (s := s) n (nextF l y H s).n
      omega
theorem rom_ge (l : List LFl) (w H y : Int) (s : LSpan) : y ≤ romY l w H y s := dn_ge _ _
theorem rom_le {l : List LFl} {w H y B : Int} {s : LSpan} (hy : y ≤ B) (hf : ∀ f ∈ l, f.y + f.h ≤ B) : romY l w H y s ≤ B := by
  rcases dn_at (l := l) (W := w) (H := H) (s := s) (cntP l y) y with e | ⟨f, h1, e⟩
  · unfold romY; rw [e]; exact hy
  · unfold romY; rw [e]; exact hf f h1
theorem from_ge (l : List LFl) (y : Int) : y ≤ fromP l y := by
  unfold fromP
  split
  · omega
  · exact Int.le_refl _
theorem from_le {l : List LFl} {y B : Int} (hy : y ≤ B) (hf : ∀ f ∈ l, f.y ≤ B) : fromP l y ≤ B := by
  unfold fromP
  split
  · next h =>
    obtain ⟨f, h1, h2⟩ := most_at h
    have e : (mostF topF l).n = f.y := h2
    have := hf f h1
    omega
  · exact hy
theorem spot_le {l : List LFl} {f : LFl} {y B : Int} {s : LSpan} (hy : y ≤ B) (h1 : ∀ f ∈ l, f.y ≤ B) (h2 : ∀ f ∈ l, f.y + f.h ≤ B) : spotY l f y s ≤ B := by
  unfold spotY
  rcases dn_at (l := l) (W := f.w) (H := f.h) (s := s) (l.length + 1) (fromP l y) with e | ⟨g, h3, e⟩
  · rw [e]; exact from_le hy h1
  · rw [e]; exact h2 g h3
theorem spot_ge (l : List LFl) (f : LFl) (y : Int) (s : LSpan) : y ≤ spotY l f y s := by
  have := from_ge l y
  have := dn_ge (l := l) (W := f.w) (H := f.h) (s := s) (l.length + 1) (fromP l y)
  unfold spotY
  omega
theorem band_lo (l : List LFl) (y H : Int) (s : LSpan) : s.a ≤ (bandF l y H s).a ∧ (bandF l y H s).b ≤ s.b := fold_mono l s
theorem band_hi {l : List LFl} {y H R : Int} {s : LSpan} (hs : s.a ≤ R) (hf : ∀ f ∈ l, f.x + f.w ≤ R) : (bandF l y H s).a ≤ R :=
  fold_inv (P := fun o : LSpan => o.a ≤ R) l s hs fun o f hf' ih => by
    unfold ofT cutF
    have := hf f hf'
    split
    · split <;> (simp only; omega)
    · exact ih
structure SpOk (s : LSpan) : Prop where
  a : 0 ≤ s.a ∧ s.a ≤ 1099511627776
  b : s.a < s.b ∧ s.b ≤ 2199023255552
theorem spK_ok {l : List LNo} {w : Int} (hi : ∀ x ∈ l, 0 ≤ x.st.inset ∧ x.st.inset ≤ 1099511627776) (hw : 1 ≤ w ∧ w ≤ 1099511627776) (k : Nat) : SpOk (spK l w k) := by
  obtain ⟨h1, h2, h3, h4⟩ := rmR_ok hi hw l.length k
  exact ⟨⟨h1, h2⟩, by unfold spK; simp only; omega, by unfold spK; simp only; omega⟩
/-- where a new float lies. -/
theorem put_ok' {l : List LFl} {f : LFl} {y B : Int} {s : LSpan} (hs : SpOk s) (hy : 0 ≤ y ∧ y ≤ B) (hl : ∀ g ∈ l, FlOk B l.length g) (hw : 1 ≤ f.w ∧ f.w ≤ 1099511627776) (hh : 1 ≤ f.h ∧ f.h ≤ 1099511627776) (hd : f.side = 1 ∨ f.side = 2) : FlOk (B + f.h) (l.length + 1) (setP l f y s) := by
  have h1 := spot_le (l := l) (f := f) (s := s) hy.2 (fun g hg => by have := (hl g hg).y; have := (hl g hg).h; omega) (fun g hg => (hl g hg).y.2)
  have h2 := spot_ge l f y s
  obtain ⟨⟨a1, a2⟩, b1, b2⟩ := hs
  have h3 := band_lo l (spotY l f y s) f.h s
  have h4 := band_hi (l := l) (y := spotY l f y s) (H := f.h) (s := s) (R := 1099511627776 * (2 + (l.length : Int))) (by omega) (fun g hg => (hl g hg).x.2)
  refine ⟨?_, ⟨by simp only [setP]; omega, by simp only [setP]; omega⟩, hw, hh, hd⟩
  simp only [setP, spotX]
  generalize bandF l (spotY l f y s) f.h s = b at *
  split <;> (constructor <;> omega)
end Go.Proofs.Ytblmebjhhanoaaa
/- CHAPTER 14: flow: what is laid out keeps within its bounds. -/
/- G -/
set_option linter.unusedSimpArgs false
set_option linter.unusedVariables false
namespace Go.Proofs.Ytblmebjhhanoaaa
open Go.RowKit

theorem setG_fold (k : Nat) (H : Int) : ∀ (L : List LSet) (s : LGs), (L.foldl (setG k H) s).a = s.a ++ L.map (atL k H) ∧ (L.foldl (setG k H) s).f = s.f
  | [], s => by simp
  | z :: L, s => by
    obtain ⟨h1, h2⟩ := setG_fold k H L (setG k H s z)
    rw [List.foldl_cons, h1, h2]
    simp [setG]
theorem tex_pen {l : List LFl} {ws : List Int} {sp H B : Int} {s : LSpan} {k : Nat} (hH : 1 ≤ H) (hf : ∀ g ∈ l, g.y + g.h ≤ B) : ∀ (n f : Nat) (y C : Int) (g : LGs), f ≤ ws.length → 0 ≤ y → y ≤ C → B ≤ C → 0 ≤ g.p.y ∧ 0 ≤ g.p.m ∧ g.p.y + g.p.m ≤ C →
    0 ≤ ((texG l ws sp H s n f y).foldl (setG k H) g).p.y ∧ 0 ≤ ((texG l ws sp H s n f y).foldl (setG k H) g).p.m ∧ ((texG l ws sp H s n f y).foldl (setG k H) g).p.y + ((texG l ws sp H s n f y).foldl (setG k H) g).p.m ≤ C + H * ((ws.length : Int) - f)
  | 0, f, y, C, g, h0, h1, h2, h3, h4 => by
    have := Int.mul_nonneg (show 0 ≤ H by omega) (show 0 ≤ (ws.length : Int) - f by omega)
    simp only [texG, List.foldl_nil]
    omega
  | n + 1, f, y, C, g, h0, h1, h2, h3, h4 => by
    have hm := Int.mul_nonneg (show 0 ≤ H by omega) (show 0 ≤ (ws.length : Int) - f by omega)
    rw [texG]
    split
    · next q =>
      obtain ⟨t, e1, e2, e3⟩ := lin_t (l := l) (sp := sp) (H := H) (y := y) (s := s) q
      rw [e1, Int.toNat_natCast, List.foldl_cons]
      have hy : (linN l ws sp H f y s).y = romY l (ws.getD f 0) H y s := rfl
      have hge := rom_ge l (ws.getD f 0) H y s
      have hle := rom_le (w := ws.getD f 0) (H := H) (s := s) (Int.le_trans h2 (Int.le_refl C)) (fun g hg => Int.le_trans (hf g hg) h3)
      have ih := tex_pen (k := k) (ws := ws) (sp := sp) (s := s) hH hf n t ((linN l ws sp H f y s).y + H) (C + H) (setG k H g (linN l ws sp H f y s)) e3 (by omega) (by omega) (by omega) ⟨by simp only [setG]; omega, by simp [setG], by simp only [setG]; omega⟩
      have h5 : H * ((ws.length : Int) - f) = H * ((ws.length : Int) - t) + H * ((t : Int) - f) := by rw [← Int.mul_add]; congr 1; omega
      have h6 : H * 1 ≤ H * ((t : Int) - f) := Int.mul_le_mul_of_nonneg_left (by omega) (by omega)
      omega
    · simp only [List.foldl_nil]
      omega
theorem clr_bd {l : List LNo} {B : Int} {k : Nat} {s : LGs} (x : LNo) (h : GsOk l B k s) : 0 ≤ (clrG x s).y ∧ 0 ≤ (clrG x s).m ∧ (clrG x s).y + (clrG x s).m ≤ B := by
  have h1 := h.y
  have h2 := h.m
  have h3 := h.b
  unfold clrG
  split
  · next q =>
    obtain ⟨f, hf, e⟩ := most_at q
    have e : (lowO x.st.clear s.f).n = f.y + f.h := e
    have h4 := (h.fs f hf).y
    have h5 := (h.fs f hf).h
    unfold penC
    split
    · simp only; omega
    · omega
  · omega
theorem ent_ok {l : List LNo} {B : Int} {k : Nat} {s : LGs} {x : LNo} (hk : k < l.length) (hx : Blk6 x) (h : GsOk l B k s) : GsOk l (B + x.st.top + x.st.padTop) (k + 1) (entG x s) := by
  obtain ⟨c1, c2, c3⟩ := clr_bd x h
  have h1 := hx.top
  have h2 := hx.padTop
  have h3 := h.fl
  have h4 := h.al
  have h5 := ps_mono (l := l) (show k ≤ k + 1 by omega) hk
  have e : 0 ≤ (entG x s).p.y ∧ 0 ≤ (entG x s).p.m ∧ (entG x s).p.y + (entG x s).p.m ≤ B + x.st.top + x.st.padTop := by
    simp only [entG, penE, penP]
    split <;> (first | omega | (simp only; omega))
  exact ⟨e.1, e.2.1, e.2.2, by simp only [entG]; omega, by simp only [entG]; omega, fun f hf => (h.fs f hf).mono (by omega) (Nat.le_refl _)⟩
theorem lv_ok {l : List LNo} {B : Int} {k : Nat} {s : LGs} {x : LNo} (hx : Blk6 x) (h : GsOk l B k s) : GsOk l (B + x.st.bottom + x.st.padBottom) k (lvG x s) := by
  have c1 := h.y
  have c2 := h.m
  have c3 := h.b
  have h1 := hx.bottom
  have h2 := hx.padBottom
  have e : 0 ≤ (lvG x s).p.y ∧ 0 ≤ (lvG x s).p.m ∧ (lvG x s).p.y + (lvG x s).p.m ≤ B + x.st.bottom + x.st.padBottom := by
    simp only [lvG, penL, penP]
    split <;> (first | omega | (simp only; omega))
  exact ⟨e.1, e.2.1, e.2.2, h.fl, h.al, fun f hf => (h.fs f hf).mono (by omega) (Nat.le_refl _)⟩
theorem txt_ok {l : List LNo} {B : Int} {k : Nat} {s : LGs} {x : LNo} {sp : LSpan} (hk : k < l.length) (e : psN l (k + 1) = psN l k + x.words.length) (hx : Txt6 x) (h : GsOk l B k s) : GsOk l (B + x.line * x.words.length) (k + 1) (txtG sp k x s) := by
  obtain ⟨f1, f2⟩ := setG_fold k x.line (texF s.f x.words x.space x.line (atP s.p) sp) s
  have hp := tex_pen (ws := x.words) (sp := x.space) (s := sp) (k := k) hx.line.1 (fun g hg => (h.fs g hg).y.2) x.words.length 0 (atP s.p) B s (Nat.zero_le _) (by have := h.y; have := h.m; unfold atP; omega) h.b (Int.le_refl _) ⟨h.y, h.m, h.b⟩
  have hl := tex_len (l := s.f) (ws := x.words) (sp := x.space) (H := x.line) (s := sp) x.words.length 0 (atP s.p)
  have h3 := h.fl
  have h4 := h.al
  have hm := Int.mul_nonneg (show 0 ≤ x.line by have := hx.line; omega) (show 0 ≤ (x.words.length : Int) by omega)
  have e0 : (x.words.length : Int) - (0 : Nat) = x.words.length := by omega
  rw [e0] at hp
  refine ⟨hp.1, hp.2.1, hp.2.2, ?_, ?_, ?_⟩
  · unfold txtG; rw [f2]; omega
  · unfold txtG; rw [f1, List.length_append, List.length_map]
    have hl2 : (texF s.f x.words x.space x.line (atP s.p) sp).length ≤ x.words.length := hl
    omega
  · unfold txtG; rw [f2]
    exact fun f hf => (h.fs f hf).mono (by omega) (Nat.le_refl _)
theorem mon_ok {l : List LNo} {B : Int} {k : Nat} {s : LGs} {x : LNo} {sp : LSpan} (e : psN l (k + 1) = psN l k + 1) (hx : Box6 x) (h : GsOk l B k s) : GsOk l (B + x.h) (k + 1) (monG sp k x s) := by
  have h0 := hx.h
  have h1 := h.y
  have h2 := h.m
  have h3 := h.fl
  have h4 := h.al
  have h5 := rom_ge s.f x.w x.h (atP s.p) sp
  have h6 := rom_le (w := x.w) (H := x.h) (s := sp) (y := atP s.p) h.b (fun g hg => (h.fs g hg).y.2)
  unfold atP at h5 h6
  refine ⟨?_, by simp [monG], ?_, ?_, ?_, fun f hf => (h.fs f hf).mono (by omega) (Nat.le_refl _)⟩
  · simp only [monG, monY, atP]; omega
  · simp only [monG, monY, atP]; omega
  · simp only [monG]; omega
  · simp only [monG, List.length_append, List.length_cons, List.length_nil]; omega
theorem flt_ok {l : List LNo} {B : Int} {k : Nat} {s : LGs} {x : LNo} {sp : LSpan} (e : psN l (k + 1) = psN l k + 1) (hx : Box6 x) (hd : 1 ≤ x.side ∧ x.side ≤ 2) (hs : SpOk sp) (h : GsOk l B k s) : GsOk l (B + x.h) (k + 1) (fltG sp k x s) := by
  have h0 := hx.h
  have h1 := h.y
  have h2 := h.m
  have h3 := h.fl
  have h4 := h.al
  have h5 := h.b
  refine ⟨h1, h2, by simp only [fltG]; omega, by simp only [fltG, putP, List.length_append, List.length_cons, List.length_nil]; omega, by simp only [fltG]; omega, fun f hf => ?_⟩
  have el : (fltG sp k x s).f.length = s.f.length + 1 := by simp [fltG, putP]
  rw [el]
  rcases List.mem_append.1 hf with hf | hf
  · exact (h.fs f hf).mono (by omega) (by omega)
  · rw [List.mem_singleton] at hf
    subst hf
    exact put_ok' (f := newF k x s) hs (by unfold atP; omega) h.fs hx.w hx.h (by unfold newF; simp only; omega)
/-- what is asked of nodes and a width. -/
structure FlwP (l : List LNo) (w : Int) : Prop where
  v : isS l = true
  len : l.length ≤ 60
  hi : hall l ≤ 1099511627776
  ps : pall l ≤ 2000
  w : 1 ≤ w ∧ w ≤ 1099511627776
theorem FlwP.sp {l : List LNo} {w : Int} (h : FlwP l w) (k : Nat) : SpOk (spK l w k) := spK_ok (isS_ins h.v) h.w k
theorem nodG_ok {l : List LNo} {w : Int} (hP : FlwP l w) {kids : Nat → Int → LGs → LGs} {k : Nat} {B : Int} {s : LGs} (hk : k < l.length) (h : GsOk l B k s)
    (hkids : ∀ B s, GsOk l B (k + 1) s → GsOk l (B + (hsN l (k + (ndN l k).size.toNat) - hsN l (k + 1))) (k + (ndN l k).size.toNat) (kids (k + 1) (k + (ndN l k).size) s)) :
    GsOk l (B + (hsN l (k + (ndN l k).size.toNat) - hsN l k)) (k + (ndN l k).size.toNat) (nodG l w kids k s) := by
  have hn := nod_at hP.v hk
  have hL := isS_lam hP.v
  have h1 := hL.pos k hk
  have h2 := hL.fin k hk
  have hs1 := hsN_succ hk
  have ps1 := psN_succ hk
  rw [← ndN_siz] at h1 h2
  have hm1 := hs_mono hP.v (show k + 1 ≤ k + (ndN l k).size.toNat by omega) (by omega)
  have hm2 := ps_mono (l := l) (show k + 1 ≤ k + (ndN l k).size.toNat by omega) (by omega)
  have up : ∀ {s' : LGs}, GsOk l (B + hgtN (ndN l k)) (k + 1) s' → GsOk l (B + (hsN l (k + (ndN l k).size.toNat) - hsN l k)) (k + (ndN l k).size.toNat) s' := fun q => by
    obtain ⟨a, b, c, d, e, f⟩ := q
    exact ⟨a, b, by omega, by omega, by omega, fun x hx => (f x hx).mono (by omega) (Nat.le_refl _)⟩
  unfold nodG
  rcases nodB_kind hn with q | q | q | q
  · rw [if_pos q]
    have hb := nodB_blk hn q
    have e1 : hgtN (ndN l k) = (ndN l k).st.top + (ndN l k).st.bottom + (ndN l k).st.padTop + (ndN l k).st.padBottom + (ndN l k).st.head := by unfold hgtN; rw [if_pos q]
    have := hb.head
    exact (lv_ok hb (hkids _ _ (ent_ok hk hb h))).mono (by omega)
  · rw [if_neg (by omega), if_pos q]
    have e1 : hgtN (ndN l k) = (ndN l k).line * (ndN l k).words.length := by unfold hgtN; rw [if_neg (by omega), if_pos q]
    have e2 : pcsN (ndN l k) = (ndN l k).words.length := by unfold pcsN; rw [if_neg (by omega), if_pos q]
    have := txt_ok (sp := spK l w k) hk (by rw [ps1, e2]) (nodB_txt hn q) h
    rw [← e1] at this
    exact up this
  · rw [if_neg (by omega), if_neg (by omega), if_pos q]
    have e1 : hgtN (ndN l k) = (ndN l k).h := by unfold hgtN; rw [if_neg (by omega), if_neg (by omega)]
    have e2 : pcsN (ndN l k) = 1 := by unfold pcsN; rw [if_neg (by omega), if_neg (by omega)]
    have := mon_ok (sp := spK l w k) (by rw [ps1, e2]) (nodB_mono hn q) h
    rw [← e1] at this
    exact up this
  · rw [if_neg (by omega), if_neg (by omega), if_neg (by omega)]
    have e1 : hgtN (ndN l k) = (ndN l k).h := by unfold hgtN; rw [if_neg (by omega), if_neg (by omega)]
    have e2 : pcsN (ndN l k) = 1 := by unfold pcsN; rw [if_neg (by omega), if_neg (by omega)]
    obtain ⟨hb, hd⟩ := nodB_flt hn q
    have := flt_ok (sp := spK l w k) (by rw [ps1, e2]) hb hd (hP.sp k) h
    rw [← e1] at this
    exact up this
theorem rowG_ok {l : List LNo} {w : Int} (hP : FlwP l w) : ∀ (n k : Nat) (e : Int) (B : Int) (s : LGs), nst l n k e → e ≤ l.length → GsOk l B k s → GsOk l (B + (hsN l e.toNat - hsN l k)) e.toNat (rowG l w n k e s)
  | 0, k, e, B, s, h, _, _ => absurd h (by simp [nst])
  | n + 1, k, e, B, s, h, he, hg => by
    obtain ⟨h1, h2⟩ := h
    rw [rowG]
    split
    · next q =>
      obtain ⟨u1, u2, u3, u4⟩ := h2 q
      rw [← ndN_siz] at u1 u2 u3 u4
      have hk : k < l.length := by omega
      have e3 : ((k : Int) + (ndN l k).size).toNat = k + (ndN l k).size.toNat := by omega
      have hn := nodG_ok hP hk hg (kids := rowG l w n) fun B s hs => by
        have := rowG_ok hP n (k + 1) (k + (ndN l k).size) B s u3 (by omega) hs
        rw [e3] at this
        exact this
      have := rowG_ok hP n (k + (ndN l k).size.toNat) e _ _ u4 he hn
      exact this.mono (by omega)
    · have e2 : e.toNat = k := by omega
      rw [e2]
      exact hg.mono (by omega)
end Go.Proofs.Ytblmebjhhanoaaa
/- CHAPTER 06: valid: the ends that are still ahead: slices.DeleteFunc. -/
/- G -/
/- BOOLS -/
set_option linter.unusedSimpArgs false
set_option linter.unusedVariables false
namespace Go.Proofs.Ytblmebjhhanoaaa
open Go.RowKit

def offE (i e : Int) : Bool := decide (e ≤ i)
def gtE (i e : Int) : Bool := !offE i e
def gtL (l : List Int) (i : Int) : List Int := l.filter (gtE i)
set_option maxRecDepth 100000 in
theorem node1_ok (e i : Int) : FnOk Try.prog 82 [.raw (.int .i64 e), .hdr 0] [(0, .cells 3 [.raw (.int .i64 i)])] (.raw (.bool (offE i e))) [(0, .cells 3 [.raw (.int .i64 i)])] := by
  refine fn_of_awp Try.func82 rfl (by kernel_rfl) (by kernel_rfl) (Nat.le_of_ble_eq_true rfl) Try.results82 ?_
  unfold offE
  simp only [go_sem, Bool.not_eq_true', Bool.not_eq_false']
  (refine ret2 [] (by simp only [go_sem, Bool.not_eq_true', Bool.not_eq_false']; rfl) ?_; simp only [go_sem, Bool.not_eq_true', Bool.not_eq_false'])
/-- the place of the first that is so; below 0: none is. -/
def idxE (p : Int → Bool) (l : List Int) : Int := if l.findIdx p < l.length then l.findIdx p else -1
theorem idxE_at {p : Int → Bool} {l : List Int} {k : Nat} (hk : k < l.length) (h : ∀ j (hj : j < l.length), j < k → p l[j] = false) (hp : p l[k] = true) : idxE p l = k := by
  have e : l.findIdx p = k := by
    rw [List.findIdx_eq hk]
    exact ⟨hp, fun j hj => by have := h j (by omega) hj; simpa using this⟩
  unfold idxE
  rw [if_pos (by omega), e]
theorem idxE_no {p : Int → Bool} {l : List Int} (h : ∀ j (hj : j < l.length), p l[j] = false) : idxE p l = -1 := by
  unfold idxE
  rw [if_neg]
  intro hlt
  have := List.findIdx_getElem (w := hlt)
  rw [h _ hlt] at this
  cases this
set_option maxRecDepth 100000 in
theorem indexE_ok (l : List Int) (i : Int) (hl : l.length ≤ 1000) : FnOk Try.prog 110 [.sl 1 (l.map cInt), .clo (.func 82) [.hdr 0]] [(0, .cells 3 [.raw (.int .i64 i)])] (.raw (.int .i64 (idxE (offE i) l))) [(0, .cells 3 [.raw (.int .i64 i)])] := by
  refine fn_of_awp Try.func110 rfl (by kernel_rfl) (by kernel_rfl) (Nat.le_of_ble_eq_true rfl) Try.results110 ?_
  simp only [go_sem, Bool.not_eq_true', Bool.not_eq_false', List.length_map]
  refine aloop2 [] (fun k : Nat => ⟨[(0, .sl 1 (l.map cInt)), (1, .clo (.func 82) [.hdr 0]), (7, .raw (.int .i64 l.length)), (8, .raw (.int .i64 k))], [(0, some (.cells 3 [.raw (.int .i64 i)]))], none⟩) (fun k => k ≤ l.length ∧ ∀ j (hj : j < l.length), j < k → offE i l[j] = false) (fun k => l.length - k) 4 0 (by simp only [go_sem, Bool.not_eq_true', Bool.not_eq_false']; rfl) (by simp only [go_sem, Bool.not_eq_true', Bool.not_eq_false']) ?_ ?_
  · exact ⟨Nat.zero_le _, fun j _ h => absurd h (Nat.not_lt_zero j)⟩
  · rintro k ⟨h1, h2⟩
    simp only [go_sem, Bool.not_eq_true', Bool.not_eq_false', List.length_map]
    refine ⟨fun h5 => ?_, fun h5 => ?_⟩
    · have hk : k < l.length := by omega
      refine ⟨by omega, ex_get hk ?_⟩
      (refine acall2 [] (node1_ok l[k] i) (by simp only [go_sem, Bool.not_eq_true', Bool.not_eq_false']; rfl) (fit_of (by simp only [go_sem, Bool.not_eq_true', Bool.not_eq_false']) (by simp only [go_sem, Bool.not_eq_true', Bool.not_eq_false']) (by simp only [go_sem, Bool.not_eq_true', Bool.not_eq_false']) (by simp only [go_sem, Bool.not_eq_true', Bool.not_eq_false']) (by simp only [go_sem, Bool.not_eq_true', Bool.not_eq_false']) (by simp only [go_sem, Bool.not_eq_true', Bool.not_eq_false']) (by simp only [go_sem, Bool.not_eq_true', Bool.not_eq_false'])) ?_; simp only [go_sem, Bool.not_eq_true', Bool.not_eq_false'])
      refine ⟨fun h6 => ?_, fun h6 => ⟨by omega, ?_⟩⟩
      · rw [idxE_at hk h2 h6]
        (refine ret2 [] (by simp only [go_sem, Bool.not_eq_true', Bool.not_eq_false']; rfl) ?_; simp only [go_sem, Bool.not_eq_true', Bool.not_eq_false'])
      · (refine loop_end [] (k + 1) (by simp only [go_sem, Bool.not_eq_true', Bool.not_eq_false']; rfl) ?_ ?_ ?_; (focus first | omega | (simp only; omega)); (focus (simp only [go_sem, Bool.not_eq_true', Bool.not_eq_false']; done)))
        refine ⟨by omega, fun j hj h7 => ?_⟩
        rcases Nat.lt_succ_iff_lt_or_eq.1 h7 with h8 | h8
        · exact h2 j hj h8
        · subst h8; exact h6
    · rw [idxE_no (fun j hj => h2 j hj (by omega))]
      (refine ret2 [] (by simp only [go_sem, Bool.not_eq_true', Bool.not_eq_false']; rfl) ?_; simp only [go_sem, Bool.not_eq_true', Bool.not_eq_false'])
structure LDelE where
  k : Nat
  mid : List Int
def kepE (l : List Int) (i : Int) (k : Nat) : List Int := (l.take k).filter (gtE i)
theorem kepE_len (l : List Int) (i : Int) (k : Nat) : (kepE l i k).length ≤ k := Nat.le_trans (List.length_filter_le _ _) (by simp; omega)
theorem kepE_succ {l : List Int} {i : Int} {k : Nat} (hk : k < l.length) : kepE l i (k + 1) = if gtE i l[k] = true then kepE l i k ++ [l[k]] else kepE l i k := by
  unfold kepE
  rw [List.take_succ_eq_append_getElem hk, List.filter_append]
  split
  · next h => simp [h]
  · next h => simp [h]
def rowE (l : List Int) (i : Int) (z : LDelE) : List Int := kepE l i z.k ++ z.mid ++ l.drop z.k
theorem rowE_get {l : List Int} {i : Int} {k : Nat} {mid : List Int} (hk : k < l.length) (h : (kepE l i k).length + mid.length = k) : (rowE l i ⟨k, mid⟩)[k]? = some l[k] := by
  unfold rowE
  rw [List.getElem?_append_right (by simp; omega), List.length_append, h, Nat.sub_self, List.getElem?_drop]
  simp [hk]
theorem rowE_keep {l : List Int} {i : Int} {k : Nat} {mid : List Int} (hk : k < l.length) (h0 : 0 < mid.length) (h : gtE i l[k] = true) : (rowE l i ⟨k, mid⟩).set (kepE l i k).length l[k] = rowE l i ⟨k + 1, mid.tail ++ [l[k]]⟩ := by
  unfold rowE
  cases mid with
  | nil => simp at h0
  | cons x mid =>
    have e1 : l.drop k = l[k] :: l.drop (k + 1) := List.drop_eq_getElem_cons hk
    rw [kepE_succ hk, if_pos h, e1]
    simp
theorem rowE_skip {l : List Int} {i : Int} {k : Nat} {mid : List Int} (hk : k < l.length) (h : ¬ gtE i l[k] = true) : rowE l i ⟨k, mid⟩ = rowE l i ⟨k + 1, mid ++ [l[k]]⟩ := by
  unfold rowE
  have e1 : l.drop k = l[k] :: l.drop (k + 1) := List.drop_eq_getElem_cons hk
  rw [kepE_succ hk, if_neg h, e1]
  simp
theorem rowE_len {l : List Int} {i : Int} {k : Nat} {mid : List Int} (hk : k ≤ l.length) (h : (kepE l i k).length + mid.length = k) : (rowE l i ⟨k, mid⟩).length = l.length := by
  unfold rowE
  simp
  omega
theorem kepE_pre {l : List Int} {i : Int} {k : Nat} (h : ∀ j (hj : j < l.length), j < k → offE i l[j] = false) : kepE l i k = l.take k := by
  unfold kepE
  rw [List.filter_eq_self]
  intro x hx
  obtain ⟨j, hj, rfl⟩ := List.getElem_of_mem hx
  simp only [List.length_take] at hj
  rw [List.getElem_take]
  unfold gtE
  rw [h j (by omega) (by omega)]
  rfl
theorem idxE_cases (p : Int → Bool) (l : List Int) : (idxE p l = -1 ∧ ∀ j (hj : j < l.length), p l[j] = false) ∨ ∃ k : Nat, idxE p l = k ∧ ∃ hk : k < l.length, p l[k] = true ∧ ∀ j (hj : j < l.length), j < k → p l[j] = false := by
  unfold idxE
  by_cases h : l.findIdx p < l.length
  · right
    rw [if_pos h]
    refine ⟨l.findIdx p, rfl, h, List.findIdx_getElem (w := h), fun j hj hlt => ?_⟩
    have := List.not_of_lt_findIdx hlt
    simpa using this
  · left
    rw [if_neg h]
    refine ⟨rfl, fun j hj => ?_⟩
    have := List.not_of_lt_findIdx (p := p) (xs := l) (i := j) (by omega)
    simpa using this
set_option maxRecDepth 100000 in
set_option maxHeartbeats 4000000 in
theorem deleteE_ok (l : List Int) (i : Int) (hl : l.length ≤ 1000) : FnOk Try.prog 81 [.hdr 0, .clo (.func 82) [.hdr 1]] [(0, .row 3 1 (l.map cInt)), (1, .cells 3 [.raw (.int .i64 i)])] (.hdr 8) [(8, .row 3 1 ((gtL l i).map cInt)), (1, .cells 3 [.raw (.int .i64 i)])] := by
  refine fn_of_swp Try.func81 rfl (by kernel_rfl) (by kernel_rfl) (Nat.le_of_ble_eq_true rfl) Try.results81 ?_
  (refine swp_seqW ?_; simp only [go_sem, Bool.not_eq_true', Bool.not_eq_false'])
  (refine swp_seqW ?_; simp only [go_sem, Bool.not_eq_true', Bool.not_eq_false'])
  (refine acall2 [0 ] ( indexE_ok l i hl) (by simp only [go_sem, Bool.not_eq_true', Bool.not_eq_false']; rfl) (fit_of (by simp only [go_sem, Bool.not_eq_true', Bool.not_eq_false']) (by simp only [go_sem, Bool.not_eq_true', Bool.not_eq_false']) (by simp only [go_sem, Bool.not_eq_true', Bool.not_eq_false']) (by simp only [go_sem, Bool.not_eq_true', Bool.not_eq_false']) (by simp only [go_sem, Bool.not_eq_true', Bool.not_eq_false']) (by simp only [go_sem, Bool.not_eq_true', Bool.not_eq_false']) (by simp only [go_sem, Bool.not_eq_true', Bool.not_eq_false'])) ?_; simp only [go_sem, Bool.not_eq_true', Bool.not_eq_false'])
  rcases idxE_cases (offE i) l with ⟨e0, hno⟩ | ⟨i0, e0, hi0, hp0, hb0⟩
  · rw [e0]
    have e1 : gtL l i = l := by
      have := kepE_pre (l := l) (i := i) (k := l.length) (fun j hj _ => hno j hj)
      unfold kepE at this
      rw [List.take_length] at this
      exact this
    rw [e1]
    (refine swp_lastW ?_; simp only [go_sem, Bool.not_eq_true', Bool.not_eq_false'])
    repeat' first | contradiction | intro _ | refine And.intro ?_ ?_ | refine ex_get (by omega) ?_ | (show drawB _ _ = true; kernel_rfl) | (refine ret2 [] (by simp only [go_sem, Bool.not_eq_true', Bool.not_eq_false']; rfl) ?_; simp only [go_sem, Bool.not_eq_true', Bool.not_eq_false'])
    all_goals skip
  · rw [e0]
    have ek := kepE_pre (l := l) (i := i) (k := i0) hb0
    have eks : kepE l i (i0 + 1) = l.take i0 := by
      rw [kepE_succ hi0, if_neg (by unfold gtE; rw [hp0]; decide), ek]
    have elen : (kepE l i (i0 + 1)).length = i0 := by rw [eks]; simp; omega
    have erow : rowE l i ⟨i0 + 1, [l[i0]]⟩ = l := by
      unfold rowE
      dsimp only
      rw [eks]
      simp
    (refine swp_seqW ?_; simp only [go_sem, Bool.not_eq_true', Bool.not_eq_false', List.length_map])
    refine swp_seqS ?_
    (refine swp_seqW ?_; simp only [go_sem, Bool.not_eq_true', Bool.not_eq_false'])
    refine ⟨by omega, ?_⟩
    refine swp_block ?_
    refine swp_loop2 [] (fun z : LDelE => ⟨[(0, .hdr 0), (1, .clo (.func 82) [.hdr 1]), (5, .raw (.int .i64 (kepE l i z.k).length)), (6, .raw (.int .i64 z.k))], [(0, some (.row 3 1 ((rowE l i z).map cInt))), (1, some (.cells 3 [.raw (.int .i64 i)]))], none⟩) (fun z => z.k ≤ l.length ∧ 0 < z.mid.length ∧ (kepE l i z.k).length + z.mid.length = z.k) (fun z => l.length - z.k) 4 ⟨i0 + 1, [l[i0]]⟩ (by simp only [go_sem, Bool.not_eq_true', Bool.not_eq_false']; rfl) (by simp only [go_sem, Bool.not_eq_true', Bool.not_eq_false', elen, erow]) ?_ ?_
    · exact ⟨hi0, by simp, by rw [elen]; simp⟩
    · rintro ⟨k, mid⟩ ⟨h1, h2, h3⟩
      simp only at h1 h2 h3
      have hlen := rowE_len h1 h3
      (refine swp_seqW ?_; simp only [go_sem, Bool.not_eq_true', Bool.not_eq_false', List.length_map])
      refine ⟨fun h5 => ?_, fun h5 => ?_⟩
      · have hk : k < l.length := by omega
        have hget := rowE_get hk h3
        have hK := kepE_len l i k
        (refine swp_lastW ?_; simp only [go_sem, Bool.not_eq_true', Bool.not_eq_false', List.length_map])
        refine ⟨by omega, l[k], hget, ?_⟩
        (refine acall2 [] (node1_ok l[k] i) (by simp only [go_sem, Bool.not_eq_true', Bool.not_eq_false']; rfl) (fit_of (by simp only [go_sem, Bool.not_eq_true', Bool.not_eq_false']) (by simp only [go_sem, Bool.not_eq_true', Bool.not_eq_false']) (by simp only [go_sem, Bool.not_eq_true', Bool.not_eq_false']) (by simp only [go_sem, Bool.not_eq_true', Bool.not_eq_false']) (by simp only [go_sem, Bool.not_eq_true', Bool.not_eq_false']) (by simp only [go_sem, Bool.not_eq_true', Bool.not_eq_false']) (by simp only [go_sem, Bool.not_eq_true', Bool.not_eq_false'])) ?_; simp only [go_sem, Bool.not_eq_true', Bool.not_eq_false'])
        refine ⟨fun h6 => ?_, fun h6 => ?_⟩
        · have h7 : gtE i l[k] = true := by unfold gtE; rw [h6]; rfl
          have hset := rowE_keep hk h2 h7
          have hs2 : (List.map cInt (rowE l i ⟨k, mid⟩)).set (kepE l i k).length (cInt l[k]) = List.map cInt (rowE l i ⟨k + 1, mid.tail ++ [l[k]]⟩) := by rw [← hset, List.map_set]
          simp only [cInt] at hs2
          have hks : kepE l i (k + 1) = kepE l i k ++ [l[k]] := by rw [kepE_succ hk, if_pos h7]
          have hi2 : (rowE l i ⟨k, mid⟩)[(kepE l i k).length]? = some (rowE l i ⟨k, mid⟩)[(kepE l i k).length] := List.getElem?_eq_getElem (by omega)
          refine ⟨by omega, _, hi2, ?_⟩
          refine ⟨by omega, by omega, ?_⟩
          (refine loop_end [] (⟨k + 1, mid.tail ++ [l[k]]⟩) (by simp only [go_sem, Bool.not_eq_true', Bool.not_eq_false']; rfl) ?_ ?_ ?_; (focus first | omega | (simp only; omega)); (focus (simp only [go_sem, Bool.not_eq_true', Bool.not_eq_false', hks, hs2, List.length_append, List.length_cons, List.length_nil]; done)))
          exact ⟨by show k + 1 ≤ l.length; omega, by simp, by rw [hks]; simp; omega⟩
        · have h7 : ¬ gtE i l[k] = true := by unfold gtE; rw [h6]; decide
          rw [rowE_skip hk h7]
          have hks : kepE l i (k + 1) = kepE l i k := by rw [kepE_succ hk, if_neg h7]
          refine ⟨by omega, ?_⟩
          (refine loop_end [] (⟨k + 1, mid ++ [l[k]]⟩) (by simp only [go_sem, Bool.not_eq_true', Bool.not_eq_false']; rfl) ?_ ?_ ?_; (focus first | omega | (simp only; omega)); (focus (simp only [go_sem, Bool.not_eq_true', Bool.not_eq_false', hks]; done)))
          exact ⟨by show k + 1 ≤ l.length; omega, by simp, by rw [hks]; simp; omega⟩
      · have ekl : k = l.length := by omega
        have eA : kepE l i k = gtL l i := by unfold kepE; rw [ekl, List.take_length]; rfl
        have et : List.take (kepE l i k).length (rowE l i ⟨k, mid⟩) = kepE l i k := by unfold rowE; simp
        (refine swp_lastW ?_; simp only [go_sem, Bool.not_eq_true', Bool.not_eq_false', List.length_map])
        rw [et]
        refine ⟨by omega, by omega, ?_, ?_⟩
        · simp; omega
        · have e9 : ∀ X Y : List (List PV), List.take (kepE l i k).length (List.map cInt (kepE l i k) ++ X ++ Y) = List.map cInt (gtL l i) := fun X Y => by
            rw [List.append_assoc, ← eA]
            exact List.take_left' (by simp)
          rw [e9]
          (refine ret2 [] (by simp only [go_sem, Bool.not_eq_true', Bool.not_eq_false']; rfl) ?_; simp only [go_sem, Bool.not_eq_true', Bool.not_eq_false'])
end Go.Proofs.Ytblmebjhhanoaaa
/- CHAPTER 06: valid: Count: one node. -/
/- G -/
/- BOOLS -/
set_option linter.unusedSimpArgs false
set_option linter.unusedVariables false
namespace Go.Proofs.Ytblmebjhhanoaaa
open Go.RowKit

def hghT (t h n : Int) : Int := cutM (h + cutM (n * t))
structure LCt where
  d : Int
  p : Int
  n : Int
  h : Int
deriving DecidableEq
abbrev cO (c : LCt) (i : Nat) : Nat × AO := (0, .cells 106 [.raw (.int .i64 c.d), .raw (.int .i64 c.p), .raw (.int .i64 c.n), .raw (.int .i64 c.h), .hdr i])
theorem quo_le {t x : Int} (hx : 0 < x) : t ≤ Int.tdiv 1099511627776 x ↔ x * t ≤ 1099511627776 := by
  rw [Int.tdiv_eq_ediv_of_nonneg (by omega), Int.le_ediv_iff_mul_le hx, Int.mul_comm]
theorem hgh_bd {t h n : Int} (hh : 0 ≤ h) (hn : 0 ≤ n) (ht : 0 ≤ t) : 0 ≤ hghT t h n ∧ hghT t h n ≤ 1099511627777 := by
  have := Int.mul_nonneg hn ht
  unfold hghT cutM
  omega
theorem hgh_fold {t : Int} (ht : 0 ≤ t) : ∀ (ls : List Int) (h : Int), (∀ x ∈ ls, 0 ≤ x) → 0 ≤ h ∧ h ≤ 1099511627777 → 0 ≤ ls.foldl (hghT t) h ∧ ls.foldl (hghT t) h ≤ 1099511627777
  | [], h, _, hh => hh
  | x :: ls, h, hx, hh => hgh_fold ht ls _ (fun y hy => hx y (List.mem_cons_of_mem _ hy)) (hgh_bd hh.1 (hx x List.mem_cons_self) ht)
set_option maxRecDepth 100000 in
set_option maxHeartbeats 4000000 in
theorem high6_ok (c : LCt) (t : Int) (es ls : List Int) (ht : 0 ≤ t) (hl : ls.length ≤ 1000) (hn : ∀ x ∈ ls, 0 ≤ x ∧ x ≤ 1099511627776) (hh : 0 ≤ c.h ∧ c.h ≤ 1099511627777) :
    FnOk Try.prog 83 [.hdr 0, .raw (.int .i64 t), .sl 1 (ls.map cInt)] [cO c 1, (1, .row 3 1 (es.map cInt))] (.tup []) [cO ⟨c.d, c.p, c.n, ls.foldl (hghT t) c.h⟩ 8, (8, .row 3 1 (es.map cInt))] := by
  refine fn_of_awp Try.func83 rfl (by kernel_rfl) (by kernel_rfl) (Nat.le_of_ble_eq_true rfl) Try.results83 ?_
  simp only [go_sem, Bool.not_eq_true', Bool.not_eq_false', List.length_map]
  refine aloop2 [] (fun z : KX Int => ⟨[(0, .hdr 0), (1, .raw (.int .i64 t)), (9, .sl 1 (ls.map cInt)), (10, .raw (.int .i64 ls.length)), (11, .raw (.int .i64 z.k))], [((cO ⟨c.d, c.p, c.n, z.o⟩ 1).1, some (cO ⟨c.d, c.p, c.n, z.o⟩ 1).2), (1, some (.row 3 1 (es.map cInt)))], none⟩) (fun z => FInv (hghT t) c.h ls z ∧ 0 ≤ z.o ∧ z.o ≤ 1099511627777) (fun z => ls.length - z.k) 80 ⟨0, c.h⟩ (by simp only [go_sem, Bool.not_eq_true', Bool.not_eq_false']; rfl) (by simp only [go_sem, Bool.not_eq_true', Bool.not_eq_false']) ?_ ?_
  · exact ⟨fInv_first _ _ _, hh⟩
  · rintro ⟨k, o⟩ ⟨h1, h2, h3⟩
    simp only at h2 h3
    simp only [go_sem, Bool.not_eq_true', Bool.not_eq_false', List.length_map]
    refine ⟨fun h5 => ?_, fun h5 => ?_⟩
    · have hk : k < ls.length := by omega
      have hx := hn ls[k] (List.getElem_mem hk)
      have hnx := fun (o' : Int) (e : o' = hghT t o ls[k]) => fInv_next h1 hk e
      have hbd := hgh_bd h2 hx.1 ht
      refine ⟨by omega, ex_get hk ?_⟩
      generalize ls[k] = x at hx hnx hbd ⊢
      have e0 : x = 0 → hghT t o x = min o 1099511627777 := fun q => by subst q; unfold hghT cutM; rw [Int.zero_mul]; omega
      have e1 : x * t ≤ 1099511627776 → hghT t o x = min (o + x * t) 1099511627777 := fun q => by unfold hghT cutM; omega
      have e2 : 1099511627776 < x * t → hghT t o x = min (o + 1099511627777) 1099511627777 := fun q => by unfold hghT cutM; omega
      have hq := fun q : 0 < x => quo_le (t := t) q
      have hm := Int.mul_nonneg hx.1 ht
      have hz : x = 0 → x * t = 0 := fun q => by rw [q, Int.zero_mul]
      have hb1 : 0 ≤ Int.tdiv 1099511627776 x := Int.tdiv_nonneg (by omega) hx.1
      have hb2 : Int.tdiv 1099511627776 x ≤ 1099511627776 := Int.tdiv_le_self x (by omega)
      generalize Int.tdiv 1099511627776 x = v at *
      generalize x * t = y at *
      repeat' first | contradiction | intro _ | refine And.intro ?_ ?_ | refine ex_get (by omega) ?_ | (show drawB _ _ = true; kernel_rfl) | (refine ret2 [] (by simp only [go_sem, Bool.not_eq_true', Bool.not_eq_false']; rfl) ?_; simp only [go_sem, Bool.not_eq_true', Bool.not_eq_false'])
      all_goals first
        | omega
        | ((refine loop_end [] (⟨k + 1, min (o + y) 1099511627777⟩) (by simp only [go_sem, Bool.not_eq_true', Bool.not_eq_false']; rfl) ?_ ?_ ?_; (focus first | omega | (simp only; omega)); (focus (simp only [go_sem, Bool.not_eq_true', Bool.not_eq_false']; done)))
           exact ⟨hnx _ (by omega), by simp only; omega, by simp only; omega⟩)
        | ((refine loop_end [] (⟨k + 1, min (o + 1099511627777) 1099511627777⟩) (by simp only [go_sem, Bool.not_eq_true', Bool.not_eq_false']; rfl) ?_ ?_ ?_; (focus first | omega | (simp only; omega)); (focus (simp only [go_sem, Bool.not_eq_true', Bool.not_eq_false']; done)))
           exact ⟨hnx _ (by omega), by simp only; omega, by simp only; omega⟩)
        | skip
    · have e := fInv_last h1 h5
      rw [← e]
      (refine ret2 [] (by simp only [go_sem, Bool.not_eq_true', Bool.not_eq_false']; rfl) ?_; simp only [go_sem, Bool.not_eq_true', Bool.not_eq_false'])
def endT (es : List Int) (i : Nat) (x : LNo) : List Int := if x.kind = 1 then gtL es i ++ [(i : Int) + x.size] else gtL es i
def cntT (c : LCt) (es : List Int) (i : Nat) (x : LNo) : LCt := ⟨if x.kind = 1 then max c.d (endT es i x).length else c.d, c.p + pcsN x, c.n + 1, cutM (c.h + hgtN x)⟩
set_option maxRecDepth 100000 in
set_option maxHeartbeats 8000000 in
theorem node6_ok (c : LCt) (es : List Int) (i : Nat) (x : LNo) (hx : nodB x = true) (he : es.length ≤ 999) (hi : i ≤ 1000) (hs : 0 ≤ x.size ∧ x.size ≤ 1000) (hw : x.words.length ≤ 9223372036854775807) (hh : 0 ≤ c.h ∧ c.h ≤ 1099511627777) (hp : 0 ≤ c.p ∧ c.p + pcsN x ≤ 9223372036854775807) (hn : 0 ≤ c.n ∧ c.n ≤ 1000) :
    FnOk Try.prog 59 [.hdr 0, .raw (.int .i64 i), aNo x] [cO c 1, (1, .row 3 1 (es.map cInt))] (.tup []) [cO (cntT c es i x) 8, (8, .row 3 1 ((endT es i x).map cInt))] := by
  have hgl : (gtL es i).length ≤ es.length := List.length_filter_le _ _
  refine fn_of_swp Try.func59 rfl (by kernel_rfl) (by kernel_rfl) (Nat.le_of_ble_eq_true rfl) Try.results59 ?_
  (refine swp_seqW ?_; simp only [go_sem, Bool.not_eq_true', Bool.not_eq_false'])
  (refine swp_seqW ?_; simp only [go_sem, Bool.not_eq_true', Bool.not_eq_false'])
  (refine acall2 [] (deleteE_ok es i (by omega)) (by simp only [go_sem, Bool.not_eq_true', Bool.not_eq_false']; rfl) (fit_of (by simp only [go_sem, Bool.not_eq_true', Bool.not_eq_false']) (by simp only [go_sem, Bool.not_eq_true', Bool.not_eq_false']) (by simp only [go_sem, Bool.not_eq_true', Bool.not_eq_false']) (by simp only [go_sem, Bool.not_eq_true', Bool.not_eq_false']) (by simp only [go_sem, Bool.not_eq_true', Bool.not_eq_false']) (by simp only [go_sem, Bool.not_eq_true', Bool.not_eq_false']) (by simp only [go_sem, Bool.not_eq_true', Bool.not_eq_false'])) ?_; simp only [go_sem, Bool.not_eq_true', Bool.not_eq_false'])
  (refine swp_seqW ?_; simp only [go_sem, Bool.not_eq_true', Bool.not_eq_false'])
  repeat' first | contradiction | intro _ | refine And.intro ?_ ?_ | refine ex_get (by omega) ?_ | (show drawB _ _ = true; kernel_rfl) | (refine ret2 [] (by simp only [go_sem, Bool.not_eq_true', Bool.not_eq_false']; rfl) ?_; simp only [go_sem, Bool.not_eq_true', Bool.not_eq_false'])
  all_goals try omega
  (refine swp_seqW ?_; simp only [go_sem, Bool.not_eq_true', Bool.not_eq_false'])
  refine swp_block ?_
  (refine swp_seqW ?_; simp only [go_sem, Bool.not_eq_true', Bool.not_eq_false'])
  (refine swp_condW ?_; simp only [go_sem, Bool.not_eq_true', Bool.not_eq_false'])
  rcases nodB_kind hx with q | q | q | q
  · have hb := nodB_blk hx q
    have e1 : endT es i x = gtL es i ++ [(i : Int) + x.size] := if_pos q
    have e2 : cntT c es i x = ⟨max c.d (endT es i x).length, c.p, c.n + 1, [x.st.top, x.st.bottom, x.st.padTop, x.st.padBottom, x.st.head].foldl (hghT 1) c.h⟩ := by
      obtain ⟨h1, h2, h3, h4, h5, h6, -⟩ := hb
      have e3 : [x.st.top, x.st.bottom, x.st.padTop, x.st.padBottom, x.st.head].foldl (hghT 1) c.h = cutM (c.h + (x.st.top + x.st.bottom + x.st.padTop + x.st.padBottom + x.st.head)) := by
        simp only [List.foldl_cons, List.foldl_nil, hghT, cutM, Int.mul_one]
        omega
      rw [e3]
      unfold cntT pcsN hgtN
      simp only [if_pos q, Int.add_zero]
    refine ⟨fun _ => ?_, fun w => absurd q w⟩
    have el : (gtL es i ++ [(i : Int) + x.size]).length = (gtL es i).length + 1 := by simp
    have em : List.map cInt (gtL es i) ++ [[PV.raw (.int .i64 ((i : Int) + x.size))]] = List.map cInt (gtL es i ++ [(i : Int) + x.size]) := by simp [cInt]
    (refine swp_seqW ?_; simp only [go_sem, Bool.not_eq_true', Bool.not_eq_false'])
    repeat' first | contradiction | intro _ | refine And.intro ?_ ?_ | refine ex_get (by omega) ?_ | (show drawB _ _ = true; kernel_rfl) | (refine ret2 [] (by simp only [go_sem, Bool.not_eq_true', Bool.not_eq_false']; rfl) ?_; simp only [go_sem, Bool.not_eq_true', Bool.not_eq_false'])
    all_goals try omega
    rw [em]
    (refine swp_seqW ?_; simp only [go_sem, Bool.not_eq_true', Bool.not_eq_false', List.length_map])
    repeat' first | contradiction | intro _ | refine And.intro ?_ ?_ | refine ex_get (by omega) ?_ | (show drawB _ _ = true; kernel_rfl) | (refine ret2 [] (by simp only [go_sem, Bool.not_eq_true', Bool.not_eq_false']; rfl) ?_; simp only [go_sem, Bool.not_eq_true', Bool.not_eq_false'])
    all_goals try omega
    (refine swp_seqW ?_; simp only [go_sem, Bool.not_eq_true', Bool.not_eq_false'])
    (refine swp_lastW ?_; simp only [go_sem, Bool.not_eq_true', Bool.not_eq_false'])
    have h5 : ∀ y ∈ [x.st.top, x.st.bottom, x.st.padTop, x.st.padBottom, x.st.head], 0 ≤ y ∧ y ≤ 1099511627776 := by
      obtain ⟨h1, h2, h3, h4, h5, h6, -⟩ := hb
      simp only [List.mem_cons, List.not_mem_nil, or_false]
      rintro y (rfl | rfl | rfl | rfl | rfl) <;> assumption
    rw [e2, e1]
    (refine acallF2 [576 ] [] ( high6_ok ⟨max c.d (gtL es i ++ [(i : Int) + x.size]).length, c.p, c.n + 1, c.h⟩ 1 (gtL es i ++ [(i : Int) + x.size]) [x.st.top, x.st.bottom, x.st.padTop, x.st.padBottom, x.st.head] (by omega) (by simp) h5 hh) (by simp only [go_sem, Bool.not_eq_true', Bool.not_eq_false']; rfl) (fit_of (by simp only [go_sem, Bool.not_eq_true', Bool.not_eq_false']) (by simp only [go_sem, Bool.not_eq_true', Bool.not_eq_false']) (by simp only [go_sem, Bool.not_eq_true', Bool.not_eq_false']) (by simp only [go_sem, Bool.not_eq_true', Bool.not_eq_false']) (by simp only [go_sem, Bool.not_eq_true', Bool.not_eq_false']) (by simp only [go_sem, Bool.not_eq_true', Bool.not_eq_false']) (by simp only [go_sem, Bool.not_eq_true', Bool.not_eq_false'])) ?_; simp only [go_sem, Bool.not_eq_true', Bool.not_eq_false', List.map])

    (refine ret2 [] (by simp only [go_sem, Bool.not_eq_true', Bool.not_eq_false']; rfl) ?_; simp only [go_sem, Bool.not_eq_true', Bool.not_eq_false'])
  · refine ⟨fun w => by omega, fun _ => ?_⟩
    have hb := nodB_txt hx q
    have e1 : endT es i x = gtL es i := if_neg (by omega)
    have e4 : pcsN x = x.words.length := by unfold pcsN; rw [if_neg (by omega), if_pos q]
    have e2 : cntT c es i x = ⟨c.d, c.p + x.words.length, c.n + 1, [x.line].foldl (hghT x.words.length) c.h⟩ := by
      have hm := Int.mul_nonneg (show 0 ≤ x.line by have := hb.line; omega) (show 0 ≤ (x.words.length : Int) by omega)
      have e3 : [x.line].foldl (hghT x.words.length) c.h = cutM (c.h + x.line * x.words.length) := by
        simp only [List.foldl_cons, List.foldl_nil, hghT, cutM]
        omega
      rw [e3]
      unfold cntT pcsN hgtN
      simp only [if_neg (show ¬ x.kind = 1 by omega), if_pos q]
    (refine swp_seqW ?_; simp only [go_sem, Bool.not_eq_true', Bool.not_eq_false'])
    (refine swp_condW ?_; simp only [go_sem, Bool.not_eq_true', Bool.not_eq_false'])
    refine ⟨fun _ => ?_, fun w => absurd q w⟩
    rw [e4] at hp
    (refine swp_seqW ?_; simp only [go_sem, Bool.not_eq_true', Bool.not_eq_false', List.length_map])
    repeat' first | contradiction | intro _ | refine And.intro ?_ ?_ | refine ex_get (by omega) ?_ | (show drawB _ _ = true; kernel_rfl) | (refine ret2 [] (by simp only [go_sem, Bool.not_eq_true', Bool.not_eq_false']; rfl) ?_; simp only [go_sem, Bool.not_eq_true', Bool.not_eq_false'])
    all_goals try omega
    (refine swp_lastW ?_; simp only [go_sem, Bool.not_eq_true', Bool.not_eq_false', List.length_map])
    rw [e2, e1]
    (refine acallF2 [384 ] [] ( high6_ok ⟨c.d, c.p + x.words.length, c.n + 1, c.h⟩ x.words.length (gtL es i) [x.line] (by omega) (by simp) (fun y hy => by rw [List.mem_singleton] at hy; subst hy; have := hb.line; omega) hh) (by simp only [go_sem, Bool.not_eq_true', Bool.not_eq_false']; rfl) (fit_of (by simp only [go_sem, Bool.not_eq_true', Bool.not_eq_false']) (by simp only [go_sem, Bool.not_eq_true', Bool.not_eq_false']) (by simp only [go_sem, Bool.not_eq_true', Bool.not_eq_false']) (by simp only [go_sem, Bool.not_eq_true', Bool.not_eq_false']) (by simp only [go_sem, Bool.not_eq_true', Bool.not_eq_false']) (by simp only [go_sem, Bool.not_eq_true', Bool.not_eq_false']) (by simp only [go_sem, Bool.not_eq_true', Bool.not_eq_false'])) ?_; simp only [go_sem, Bool.not_eq_true', Bool.not_eq_false', List.map])
    (refine ret2 [] (by simp only [go_sem, Bool.not_eq_true', Bool.not_eq_false']; rfl) ?_; simp only [go_sem, Bool.not_eq_true', Bool.not_eq_false'])
  all_goals
    refine ⟨fun w => by omega, fun _ => ?_⟩
    have hb : Box6 x := by first | exact nodB_mono hx q | exact (nodB_flt hx q).1
    have e1 : endT es i x = gtL es i := if_neg (by omega)
    have e4 : pcsN x = 1 := by unfold pcsN; rw [if_neg (by omega), if_neg (by omega)]
    have e2 : cntT c es i x = ⟨c.d, c.p + 1, c.n + 1, [x.h].foldl (hghT 1) c.h⟩ := by
      have e3 : [x.h].foldl (hghT 1) c.h = cutM (c.h + x.h) := by
        have := hb.h
        simp only [List.foldl_cons, List.foldl_nil, hghT, cutM, Int.mul_one]
        omega
      rw [e3]
      unfold cntT pcsN hgtN
      simp only [if_neg (show ¬ x.kind = 1 by omega), if_neg (show ¬ x.kind = 2 by omega)]
    (refine swp_seqW ?_; simp only [go_sem, Bool.not_eq_true', Bool.not_eq_false'])
    (refine swp_condW ?_; simp only [go_sem, Bool.not_eq_true', Bool.not_eq_false'])
    refine ⟨fun w => by omega, fun _ => ?_⟩
    rw [e4] at hp
    (refine swp_seqW ?_; simp only [go_sem, Bool.not_eq_true', Bool.not_eq_false', List.length_map])
    repeat' first | contradiction | intro _ | refine And.intro ?_ ?_ | refine ex_get (by omega) ?_ | (show drawB _ _ = true; kernel_rfl) | (refine ret2 [] (by simp only [go_sem, Bool.not_eq_true', Bool.not_eq_false']; rfl) ?_; simp only [go_sem, Bool.not_eq_true', Bool.not_eq_false'])
    all_goals try omega
    (refine swp_lastW ?_; simp only [go_sem, Bool.not_eq_true', Bool.not_eq_false', List.length_map])
    rw [e2, e1]
    (refine acallF2 [336 ] [] ( high6_ok ⟨c.d, c.p + 1, c.n + 1, c.h⟩ 1 (gtL es i) [x.h] (by omega) (by simp) (fun y hy => by rw [List.mem_singleton] at hy; subst hy; have := hb.h; omega) hh) (by simp only [go_sem, Bool.not_eq_true', Bool.not_eq_false']; rfl) (fit_of (by simp only [go_sem, Bool.not_eq_true', Bool.not_eq_false']) (by simp only [go_sem, Bool.not_eq_true', Bool.not_eq_false']) (by simp only [go_sem, Bool.not_eq_true', Bool.not_eq_false']) (by simp only [go_sem, Bool.not_eq_true', Bool.not_eq_false']) (by simp only [go_sem, Bool.not_eq_true', Bool.not_eq_false']) (by simp only [go_sem, Bool.not_eq_true', Bool.not_eq_false']) (by simp only [go_sem, Bool.not_eq_true', Bool.not_eq_false'])) ?_; simp only [go_sem, Bool.not_eq_true', Bool.not_eq_false', List.map])
    (refine ret2 [] (by simp only [go_sem, Bool.not_eq_true', Bool.not_eq_false']; rfl) ?_; simp only [go_sem, Bool.not_eq_true', Bool.not_eq_false'])
end Go.Proofs.Ytblmebjhhanoaaa
/- CHAPTER 06: valid: Count, Check. -/
/- G -/
/- BOOLS -/
set_option linter.unusedSimpArgs false
set_option linter.unusedVariables false
namespace Go.Proofs.Ytblmebjhhanoaaa
open Go.RowKit

def cntC (l : List LNo) (k : Nat) : LCt := ⟨dpN l k, psN l k, k, cutM (hsN l k)⟩
theorem gtL_eq (l : List Int) (i : Int) : gtL l i = l.filter (fun e => decide (i < e)) := by
  unfold gtL
  congr 1
  funext e
  unfold gtE offE
  rw [Bool.eq_iff_iff, Bool.not_eq_true', decide_eq_false_iff_not, decide_eq_true_iff]
  omega
theorem end_op {l : List LNo} {es : List Int} {k : Nat} (h1 : 1 ≤ (ndN l k).size) (he : gtL es k = opE l k k) : endT es k (ndN l k) = opE l k (k + 1) := by
  unfold endT
  rw [opE, he]
  split
  · next q => rw [if_pos ⟨q, by omega⟩]
  · next q => rw [if_neg (fun w => q w.1), List.append_nil]
theorem cnt_step {l : List LNo} {es : List Int} {k : Nat} (hk : k < l.length) (h0 : 0 ≤ hgtN (ndN l k)) (h1 : 1 ≤ (ndN l k).size) (he : gtL es k = opE l k k) : cntT (cntC l k) es k (ndN l k) = cntC l (k + 1) := by
  unfold cntT
  rw [end_op h1 he]
  unfold cntC
  simp only [dpN, psN_succ hk, hsN_succ hk, LCt.mk.injEq, true_and]
  exact ⟨by omega, by unfold cutM; omega⟩
theorem end_next {l : List LNo} {k : Nat} : gtL (opE l k (k + 1)) (k + 1 : Nat) = opE l (k + 1 : Nat) (k + 1) := by
  rw [gtL_eq, opE_filter]
  congr 1
  omega
theorem cntC_d (l : List LNo) : (cntC l 0).d = 0 := rfl
theorem cntC_p (l : List LNo) : (cntC l 0).p = 0 := rfl
theorem cntC_n (l : List LNo) : (cntC l 0).n = 0 := rfl
theorem cntC_h (l : List LNo) : (cntC l 0).h = 0 := rfl
def sumC (l : List LNo) : LCt := if isS l = true then cntC l l.length else ⟨0, 0, 0, 0⟩
def eC (l : List LNo) : Int := if isS l = true then 0 else 4
def aSum (l : List LNo) : AV := .tup [.agg [.raw (.int .i64 (sumC l).d), .raw (.int .i64 (sumC l).p), .raw (.int .i64 (sumC l).n), .raw (.int .i64 (sumC l).h)], .raw (.int .i64 (eC l))]
attribute [go_sem] aSum
set_option maxRecDepth 100000 in
set_option maxHeartbeats 8000000 in
theorem count6_ok (l : List LNo) (hl : l.length ≤ 900) (hw : ∀ x ∈ l, x.words.length ≤ 9223372036854775807) (hp : pall l ≤ 9223372036854775807) : FnOk Try.prog 30 [.sl 20 (l.map cNo)] [] (aSum l) [] := by
  refine fn_of_swp Try.func30 rfl (by kernel_rfl) (by kernel_rfl) (Nat.le_of_ble_eq_true rfl) Try.results30 ?_
  (refine swp_seqW ?_; simp only [go_sem, Bool.not_eq_true', Bool.not_eq_false'])
  (refine swp_seqW ?_; simp only [go_sem, Bool.not_eq_true', Bool.not_eq_false'])
  (refine acall2 [] (is6_ok l (by omega) hw) (by simp only [go_sem, Bool.not_eq_true', Bool.not_eq_false']; rfl) (fit_of (by simp only [go_sem, Bool.not_eq_true', Bool.not_eq_false']) (by simp only [go_sem, Bool.not_eq_true', Bool.not_eq_false']) (by simp only [go_sem, Bool.not_eq_true', Bool.not_eq_false']) (by simp only [go_sem, Bool.not_eq_true', Bool.not_eq_false']) (by simp only [go_sem, Bool.not_eq_true', Bool.not_eq_false']) (by simp only [go_sem, Bool.not_eq_true', Bool.not_eq_false']) (by simp only [go_sem, Bool.not_eq_true', Bool.not_eq_false'])) ?_; simp only [go_sem, Bool.not_eq_true', Bool.not_eq_false'])
  refine ⟨fun hv => ?_, fun hv => ?_⟩
  · have e1 : sumC l = ⟨0, 0, 0, 0⟩ := by unfold sumC; rw [hv]; rfl
    have e2 : eC l = 4 := by unfold eC; rw [hv]; rfl
    simp only [aSum, e1, e2]
    (refine ret2 [] (by simp only [go_sem, Bool.not_eq_true', Bool.not_eq_false']; rfl) ?_; simp only [go_sem, Bool.not_eq_true', Bool.not_eq_false'])
  have e1 : sumC l = cntC l l.length := by unfold sumC; rw [hv]; rfl
  have e2 : eC l = 0 := by unfold eC; rw [hv]; rfl
  simp only [aSum, e1, e2]
  have hpos := isS_sizes hv
  (refine swp_seqW ?_; simp only [go_sem, Bool.not_eq_true', Bool.not_eq_false'])
  refine swp_cutS (fun _ : Unit => ⟨[(2, .hdr 8), (3, .raw (.int .i64 0)), (4, .hdr 800)], [(8, some (.cells 70 [.raw (.int .i64 0), .raw (.int .i64 0), .raw (.int .i64 0), .raw (.int .i64 0)])), (800, some (cO (cntC l l.length) 801).2)], none⟩) (fun _ => True) 120 ?_ ?_
  · (refine swp_seqW ?_; simp only [go_sem, Bool.not_eq_true', Bool.not_eq_false', List.length_map])
    refine swp_block ?_
    refine swp_loop2 [] (fun z : KY (List Int) => ⟨[(2, .hdr 8), (3, .raw (.int .i64 0)), (4, .hdr 800), (11, .sl 20 (l.map cNo)), (12, .raw (.int .i64 l.length)), (13, .raw (.int .i64 z.k))], [(8, some (.cells 70 [.raw (.int .i64 0), .raw (.int .i64 0), .raw (.int .i64 0), .raw (.int .i64 0)])), (800, some (cO (cntC l z.k) 801).2), (801, some (.row 3 1 (z.o.map cInt)))], none⟩) (fun z => z.k ≤ l.length ∧ gtL z.o z.k = opE l z.k z.k ∧ z.o.length ≤ z.k) (fun z => l.length - z.k) 120 ⟨0, []⟩ (by simp only [go_sem, Bool.not_eq_true', Bool.not_eq_false']; rfl) (by simp only [go_sem, Bool.not_eq_true', Bool.not_eq_false', List.map_nil, cntC_d, cntC_p, cntC_n, cntC_h]) ?_ ?_
    · exact ⟨Nat.zero_le _, rfl, Nat.le_refl _⟩
    rintro ⟨k, o⟩ ⟨h1, h2, h3⟩
    simp only at h1 h2 h3
    (refine swp_seqW ?_; simp only [go_sem, Bool.not_eq_true', Bool.not_eq_false'])
    (refine swp_seqW ?_; simp only [go_sem, Bool.not_eq_true', Bool.not_eq_false'])
    refine ⟨fun h5 => ?_, fun h5 => ?_⟩
    · have hk : k < l.length := by omega
      have hn := nod_at hv hk
      have hsz := hpos l[k] (List.getElem_mem hk)
      have hwk := hw l[k] (List.getElem_mem hk)
      have hst := cnt_step hk (hgt_nn hn) (by rw [ndN_get hk]; exact hsz.1) h2
      have hen := end_op (k := k) (by rw [ndN_get hk]; exact hsz.1) h2
      have hps := ps_mono (l := l) (show k + 1 ≤ l.length by omega) (Nat.le_refl _)
      have hps0 := ps_mono (l := l) (show 0 ≤ k by omega) (show k ≤ l.length by omega)
      have hps1 := psN_succ hk
      have hh0 := hs_mono hv (show 0 ≤ k by omega) (show k ≤ l.length by omega)
      have hol := opE_len l k (k + 1)
      have hnx := end_next (l := l) (k := k)
      have hnod := node6_ok (cntC l k) o k (ndN l k) hn (by omega) (by omega) (by rw [ndN_get hk]; omega) (by rw [ndN_get hk]; exact hwk) (by have : (cntC l k).h = cutM (hsN l k) := rfl; rw [hsN_zero] at hh0; unfold cutM at this; omega) (by have : (cntC l k).p = psN l k := rfl; rw [psN_zero] at hps0; unfold pall at hp; omega) (by have : (cntC l k).n = k := rfl; omega)
      rw [hst, hen, ndN_get hk] at hnod
      generalize opE l k (k + 1) = o2 at *
      generalize hc2 : cntC l (k + 1) = c2 at *
      generalize cntC l k = c1 at *
      refine swp_seqS ?_
      refine swp_block ?_
      (refine swp_seqW ?_; simp only [go_sem, Bool.not_eq_true', Bool.not_eq_false'])
      refine ⟨by omega, ex_get hk ?_⟩
      (refine swp_lastW ?_; simp only [go_sem, Bool.not_eq_true', Bool.not_eq_false'])
      (refine acall2 [] (hnod) (by simp only [go_sem, Bool.not_eq_true', Bool.not_eq_false']; rfl) (fit_of (by simp only [go_sem, Bool.not_eq_true', Bool.not_eq_false']) (by simp only [go_sem, Bool.not_eq_true', Bool.not_eq_false']) (by simp only [go_sem, Bool.not_eq_true', Bool.not_eq_false']) (by simp only [go_sem, Bool.not_eq_true', Bool.not_eq_false']) (by simp only [go_sem, Bool.not_eq_true', Bool.not_eq_false']) (by simp only [go_sem, Bool.not_eq_true', Bool.not_eq_false']) (by simp only [go_sem, Bool.not_eq_true', Bool.not_eq_false'])) ?_; simp only [go_sem, Bool.not_eq_true', Bool.not_eq_false'])
      (refine swp_lastW ?_; simp only [go_sem, Bool.not_eq_true', Bool.not_eq_false'])
      refine ⟨by omega, ?_⟩
      (refine loop_end [] (⟨k + 1, o2⟩) (by simp only [go_sem, Bool.not_eq_true', Bool.not_eq_false']; rfl) ?_ ?_ ?_; (focus first | omega | (simp only; omega)); (focus (simp only [go_sem, Bool.not_eq_true', Bool.not_eq_false', hc2]; done)))
      exact ⟨hk, hnx, hol⟩
    · obtain rfl : k = l.length := by omega
      (refine cut_end [] (()) (by simp only [go_sem, Bool.not_eq_true', Bool.not_eq_false']; rfl) ?_ ?_; (focus (simp only [go_sem, Bool.not_eq_true', Bool.not_eq_false']; done)))
      trivial
  rintro - -
  (refine swp_lastW ?_; simp only [go_sem, Bool.not_eq_true', Bool.not_eq_false'])
  (refine ret2 [] (by simp only [go_sem, Bool.not_eq_true', Bool.not_eq_false']; rfl) ?_; simp only [go_sem, Bool.not_eq_true', Bool.not_eq_false'])
theorem chk_no {l : List LNo} (h : isS l = false) : chkN l = 4 := if_pos h
theorem chk_lim {l : List LNo} (h : isS l = true) : chkN l = if 16 < (cntC l l.length).d ∨ 2000 < (cntC l l.length).p ∨ 2000 < (cntC l l.length).n ∨ 1099511627776 < (cntC l l.length).h then 2 else 0 := by
  unfold chkN
  rw [if_neg (by rw [h]; decide)]
  have e : 1099511627776 < hall l ↔ 1099511627776 < (cntC l l.length).h := by
    show _ ↔ 1099511627776 < cutM (hsN l l.length)
    unfold hall cutM
    omega
  simp only [e]
  rfl
set_option maxRecDepth 100000 in
set_option maxHeartbeats 8000000 in
theorem check6_ok (l : List LNo) (hl : l.length ≤ 900) (hw : ∀ x ∈ l, x.words.length ≤ 9223372036854775807) (hp : pall l ≤ 9223372036854775807) : FnOk Try.prog 10 [.sl 20 (l.map cNo)] [] (.raw (.int .i64 (chkN l))) [] := by
  refine fn_of_swp Try.func10 rfl (by kernel_rfl) (by kernel_rfl) (Nat.le_of_ble_eq_true rfl) Try.results10 ?_
  (refine swp_seqW ?_; simp only [go_sem, Bool.not_eq_true', Bool.not_eq_false'])
  (refine swp_seqW ?_; simp only [go_sem, Bool.not_eq_true', Bool.not_eq_false'])
  (refine acall2 [] (count6_ok l hl hw hp) (by simp only [go_sem, Bool.not_eq_true', Bool.not_eq_false']; rfl) (fit_of (by simp only [go_sem, Bool.not_eq_true', Bool.not_eq_false']) (by simp only [go_sem, Bool.not_eq_true', Bool.not_eq_false']) (by simp only [go_sem, Bool.not_eq_true', Bool.not_eq_false']) (by simp only [go_sem, Bool.not_eq_true', Bool.not_eq_false']) (by simp only [go_sem, Bool.not_eq_true', Bool.not_eq_false']) (by simp only [go_sem, Bool.not_eq_true', Bool.not_eq_false']) (by simp only [go_sem, Bool.not_eq_true', Bool.not_eq_false'])) ?_; simp only [go_sem, Bool.not_eq_true', Bool.not_eq_false'])
  (refine swp_seqW ?_; simp only [go_sem, Bool.not_eq_true', Bool.not_eq_false'])
  rcases hv : isS l with _ | _
  · have e2 : eC l = 4 := by unfold eC; rw [hv]; rfl
    rw [e2, chk_no hv]
    exact ⟨fun _ => rfl, fun w => absurd w (by decide)⟩
  have e1 : sumC l = cntC l l.length := by unfold sumC; rw [hv]; rfl
  have e2 : eC l = 0 := by unfold eC; rw [hv]; rfl
  rw [e1, e2, chk_lim hv]
  generalize cntC l l.length = c
  refine ⟨fun w => absurd rfl w, fun _ => ?_⟩
  (refine swp_seqW ?_; simp only [go_sem, Bool.not_eq_true', Bool.not_eq_false'])
  refine swp_cutS (fun _ : Unit => ⟨[], [], none⟩) (fun _ => ¬ (16 < c.d ∨ 2000 < c.p ∨ 2000 < c.n ∨ 1099511627776 < c.h)) 120 ?_ ?_
  · (refine swp_seqW ?_; simp only [go_sem, Bool.not_eq_true', Bool.not_eq_false'])
    refine swp_block ?_
    refine swp_loop2 [] (fun i : Nat => ⟨[(5, .hdr 96), (25, .agg [.raw (.int .i64 16), .raw (.int .i64 2000), .raw (.int .i64 2000), .raw (.int .i64 1099511627776)]), (26, .raw (.int .i64 i))], [(96, some (.cells 73 [.raw (.int .i64 c.d), .raw (.int .i64 c.p), .raw (.int .i64 c.n), .raw (.int .i64 c.h)]))], none⟩) (fun i => i ≤ 4 ∧ (0 < i → ¬ 16 < c.d) ∧ (1 < i → ¬ 2000 < c.p) ∧ (2 < i → ¬ 2000 < c.n) ∧ (3 < i → ¬ 1099511627776 < c.h)) (fun i => 4 - i) 120 0 (by simp only [go_sem, Bool.not_eq_true', Bool.not_eq_false']; rfl) (by simp only [go_sem, Bool.not_eq_true', Bool.not_eq_false']) ?_ ?_
    · exact ⟨by omega, by omega, by omega, by omega, by omega⟩
    rintro i ⟨h1, h2, h3, h4, h5⟩
    (refine swp_seqW ?_; simp only [go_sem, Bool.not_eq_true', Bool.not_eq_false'])
    (refine swp_seqW ?_; simp only [go_sem, Bool.not_eq_true', Bool.not_eq_false'])
    refine ⟨fun q => ?_, fun q => ?_⟩
    · refine swp_seqS ?_
      refine swp_block ?_
      rcases (by omega : i = 0 ∨ i = 1 ∨ i = 2 ∨ i = 3) with rfl | rfl | rfl | rfl
      all_goals
        (refine swp_seqW ?_; simp only [go_sem, Bool.not_eq_true', Bool.not_eq_false'])
        refine ⟨⟨by omega, by omega⟩, _, rfl, ?_⟩
        (refine swp_seqW ?_; simp only [go_sem, Bool.not_eq_true', Bool.not_eq_false', Int.reduceToNat, Int.reduceLT, Int.reduceLE, Int.reduceEq, Int.reduceAdd, Int.reduceSub, Int.reduceMul, Int.reduceNeg, Int.reduceNe, decide_false, Int.cast_ofNat_Int, kSet, List.getElem?_cons_succ, List.getElem?_cons_zero, List.set_cons_succ, List.set_cons_zero, exists_eq_left', forall_const, true_implies, Int.natCast_zero, Int.natCast_one, List.drop_zero, List.drop_succ_cons, List.take_succ_cons, List.take_zero, List.headD_cons])
        (refine swp_condW ?_; simp only [go_sem, Bool.not_eq_true', Bool.not_eq_false'])
        refine ⟨fun w => ?_, fun w => ?_⟩
        · rw [if_pos (by omega)]
          (refine swp_lastW ?_; simp only [go_sem, Bool.not_eq_true', Bool.not_eq_false'])
        · (refine swp_lastW ?_; simp only [go_sem, Bool.not_eq_true', Bool.not_eq_false'])
          (refine swp_lastW ?_; simp only [go_sem, Bool.not_eq_true', Bool.not_eq_false'])
          first
            | (refine ⟨by omega, loop_end [] (0 + 1) (by simp only [go_sem, Bool.not_eq_true', Bool.not_eq_false']; rfl) (by omega) (by simp only [go_sem, Bool.not_eq_true', Bool.not_eq_false']; omega) (by omega)⟩)
            | (refine ⟨by omega, loop_end [] (1 + 1) (by simp only [go_sem, Bool.not_eq_true', Bool.not_eq_false']; rfl) (by omega) (by simp only [go_sem, Bool.not_eq_true', Bool.not_eq_false']; omega) (by omega)⟩)
            | (refine ⟨by omega, loop_end [] (2 + 1) (by simp only [go_sem, Bool.not_eq_true', Bool.not_eq_false']; rfl) (by omega) (by simp only [go_sem, Bool.not_eq_true', Bool.not_eq_false']; omega) (by omega)⟩)
            | (refine ⟨by omega, loop_end [] (3 + 1) (by simp only [go_sem, Bool.not_eq_true', Bool.not_eq_false']; rfl) (by omega) (by simp only [go_sem, Bool.not_eq_true', Bool.not_eq_false']; omega) (by omega)⟩)
    · obtain rfl : i = 4 := by omega
      (refine cut_end [] (()) (by simp only [go_sem, Bool.not_eq_true', Bool.not_eq_false']; rfl) ?_ ?_; (focus (simp only [go_sem, Bool.not_eq_true', Bool.not_eq_false']; done)))
      omega
  rintro - hF
  rw [if_neg hF]
  (refine swp_lastW ?_; simp only [go_sem, Bool.not_eq_true', Bool.not_eq_false'])
end Go.Proofs.Ytblmebjhhanoaaa
