/- CHAPTER 08: nodes of a document lie within one another. -/
/- G -/
import Derived.Test.YtiidfcadmdahmaaGTreF
set_option linter.unusedSimpArgs false
set_option linter.unusedVariables false
namespace Go.Proofs.Ytiidfcadmdahmaa
open Go.RowKit

theorem nst_fuel (l : List LNo) : ∀ (g f k : Nat) (e : Int), nst l f k e → e - k < g → nst l g k e
  | 0, f, k, e, h, q => absurd (nst_le l h) (by omega)
  | g + 1, 0, k, e, h, q => absurd h (by simp [nst])
  | g + 1, f + 1, k, e, h, q => by
    obtain ⟨h1, h2⟩ := h
    refine ⟨h1, fun h => ?_⟩
    obtain ⟨u1, u2, u3, u4⟩ := h2 h
    exact ⟨u1, u2, nst_fuel l g f _ _ u3 (by omega), nst_fuel l g f _ _ u4 (by omega)⟩
def chn (l : List LNo) : Nat → List Int → Prop
  | _, [] => True
  | k, e :: s => (∃ f, nst l f k e) ∧ chn l e.toNat s
theorem topI_rev (a : Int) (t : List Int) : topI (a :: t).reverse = a := by
  unfold topI
  simp [List.getD_eq_getElem?_getD]
theorem take_rev (a : Int) (t : List Int) : (a :: t).reverse.take ((a :: t).reverse.length - 1) = t.reverse := by
  simp
def popR (i : Int) : List Int → List Int
  | a :: b :: t => if a = i then popR i (b :: t) else a :: b :: t
  | s => s
theorem popS_rev (i : Int) : ∀ (f : Nat) (R : List Int), R.length ≤ f → popS i f R.reverse = (popR i R).reverse
  | 0, R, h => by
    obtain rfl : R = [] := List.eq_nil_of_length_eq_zero (by omega)
    rfl
  | f + 1, [], h => by simp [popS, popR]
  | f + 1, [a], h => by simp [popS, popR]
  | f + 1, a :: b :: t, h => by
    rw [popS, topI_rev, take_rev, popR]
    by_cases q : a = i
    · rw [if_pos ⟨by simp, q⟩, if_pos q]
      exact popS_rev i f (b :: t) (by simp only [List.length_cons] at h ⊢; omega)
    · rw [if_neg (fun z => q z.2), if_neg q]
def gdR (k N : Int) : List Int → Prop
  | [] => False
  | [a] => k ≤ a ∧ a = N
  | a :: b :: t => k ≤ a ∧ gdR a N (b :: t)
theorem gdR_le {k N : Int} : ∀ {R : List Int}, gdR k N R → k ≤ N
  | [], h => absurd h (by simp [gdR])
  | [a], h => by obtain ⟨h1, h2⟩ := h; omega
  | a :: b :: t, h => by obtain ⟨h1, h2⟩ := h; have := gdR_le h2; omega
theorem gdR_to {k k2 N a : Int} {t : List Int} (h : gdR k N (a :: t)) (q : k2 ≤ a) : gdR k2 N (a :: t) := by
  cases t with
  | nil => exact ⟨q, h.2⟩
  | cons b t => exact ⟨q, h.2⟩
theorem popR_gd {k N : Int} (hk : k < N) : ∀ (R : List Int), gdR k N R → gdR (k + 1) N (popR k R)
  | [], h => absurd h (by simp [gdR])
  | [a], h => by obtain ⟨h1, h2⟩ := h; exact ⟨by omega, h2⟩
  | a :: b :: t, h => by
    rw [popR]
    split
    · next q => subst q; exact popR_gd hk (b :: t) h.2
    · next q => exact ⟨by have := h.1; omega, h.2⟩
theorem nst_same (l : List LNo) (k : Nat) : nst l 1 k k := ⟨Int.le_refl _, fun h => absurd h (by omega)⟩
theorem popR_chn (l : List LNo) (k : Nat) : ∀ (R : List Int), chn l k (popR k R) → chn l k R
  | [], h => h
  | [a], h => h
  | a :: b :: t, h => by
    rw [popR] at h
    split at h
    · next q => subst q; exact ⟨⟨1, nst_same l k⟩, popR_chn l k (b :: t) h⟩
    · exact h
theorem chn_end (l : List LNo) (k : Nat) : ∀ (R : List Int), gdR k k R → chn l k R
  | [], h => trivial
  | [a], h => by obtain ⟨h1, h2⟩ := h; subst h2; exact ⟨⟨1, nst_same l k⟩, trivial⟩
  | a :: b :: t, h => by
    obtain ⟨h1, h2⟩ := h
    have h3 := gdR_le h2
    obtain rfl : a = k := by omega
    exact ⟨⟨1, nst_same l k⟩, chn_end l k (b :: t) h2⟩
theorem isG_chn (l : List LNo) : ∀ (m k : Nat) (R : List Int), m + k = l.length → gdR k l.length R → isG (l.drop k) k R.reverse = true → chn l k R
  | 0, k, R, hm, hg, h => by
    have e : (l.length : Int) = k := by omega
    rw [e] at hg
    exact chn_end l k R hg
  | m + 1, k, R, hm, hg, h => by
    have hk : k < l.length := by omega
    rw [List.drop_eq_getElem_cons hk, isG, popS_rev _ _ _ (by simp)] at h
    simp only [Bool.and_eq_true, Bool.not_eq_true', Bool.and_eq_false_iff, decide_eq_true_eq, decide_eq_false_iff_not] at h
    obtain ⟨⟨⟨⟨u1, u2⟩, u3⟩, u4⟩, u5⟩ := h
    have hg2 := popR_gd (by omega) R hg
    refine popR_chn l k R ?_
    generalize popR (k : Int) R = R2 at u3 u5 hg2 ⊢
    cases R2 with
    | nil => exact absurd hg2 (by simp [gdR])
    | cons e t =>
      rw [topI_rev] at u3
      have hs := sizN_get hk
      obtain ⟨s, hs2⟩ : ∃ s : Nat, l[k].size = s := ⟨l[k].size.toNat, by omega⟩
      rw [hs2] at u2 u3 u5 hs
      have hR : (e :: t).reverse ++ [(k : Int) + (s : Int)] = (((k : Int) + (s : Int)) :: e :: t).reverse := by simp
      rw [hR] at u5
      have hc := isG_chn l m (k + 1) (((k : Int) + (s : Int)) :: e :: t) (by omega) ⟨by omega, gdR_to hg2 (by omega)⟩ u5
      obtain ⟨⟨f1, n1⟩, ⟨f2, n2⟩, hc⟩ := hc
      have ek : ((k : Int) + (s : Int)).toNat = k + s := by omega
      rw [ek] at n2
      refine ⟨⟨f1 + f2 + (e - k).toNat + 1 + s, ?_⟩, hc⟩
      refine nst_fuel l _ ((e - k).toNat + s + 1) k e ⟨by omega, fun _ => ⟨by omega, by omega, ?_, ?_⟩⟩ (by omega)
      · rw [hs]; exact nst_fuel l _ f1 (k + 1) _ n1 (by omega)
      · rw [hs, Int.toNat_natCast]; exact nst_fuel l _ f2 (k + s) e n2 (by omega)
theorem isS_nst {l : List LNo} (h : isS l = true) : nst l (l.length + 1) 0 l.length := by
  have hc := isG_chn l l.length 0 [(l.length : Int)] (by omega) ⟨by omega, rfl⟩ h
  obtain ⟨⟨f, n⟩, -⟩ := hc
  exact nst_fuel l _ f 0 _ n (by omega)
end Go.Proofs.Ytiidfcadmdahmaa
