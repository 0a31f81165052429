/- CHAPTERS 06, 08: nodes of a document: the program's test is the answer's; who stands in whom. -/
/- G -/
import Derived.Test.YtiidfcadmdahmaaGTreK
set_option linter.unusedSimpArgs false
set_option linter.unusedVariables false
namespace Go.Proofs.Ytiidfcadmdahmaa
open Go.RowKit

def leafB (x : LNo) : Bool := !(decide (x.kind ≠ 1) && decide (1 < x.size))
theorem isG_leaf : ∀ (l : List LNo) (i : Nat) (st : List Int), isG l i st = true → ∀ x ∈ l, leafB x = true
  | [], _, _, _, x, hx => by cases hx
  | y :: l, i, st, h, x, hx => by
    rw [isG] at h
    simp only [Bool.and_eq_true] at h
    rcases List.mem_cons.1 hx with e | e
    · subst e; exact h.1.2
    · exact isG_leaf l (i + 1) _ h.2 x e
theorem popR_chn2 (l : List LNo) (k : Nat) : ∀ (R : List Int), chn l k R → chn l k (popR k R)
  | [], h => h
  | [a], h => h
  | a :: b :: t, h => by
    rw [popR]
    split
    · next q => subst q; exact popR_chn2 l k (b :: t) (by have := h.2; rwa [Int.toNat_natCast] at this)
    · exact h
theorem isG_of (l : List LNo) (hn : ∀ x ∈ l, nodB x = true) (hf : ∀ x ∈ l, leafB x = true) : ∀ (m k : Nat) (R : List Int), m + k = l.length → gdR k l.length R → chn l k R → isG (l.drop k) k R.reverse = true
  | 0, k, R, hm, hg, h => by
    rw [List.drop_of_length_le (by omega)]; rfl
  | m + 1, k, R, hm, hg, h => by
    have hk : k < l.length := by omega
    have hg2 := popR_gd (by omega) R hg
    have h2 := popR_chn2 l k R h
    rw [List.drop_eq_getElem_cons hk, isG, popS_rev _ _ _ (by simp)]
    generalize popR (k : Int) R = R2 at hg2 h2 ⊢
    have hs := sizN_get hk
    cases R2 with
    | nil => exact absurd hg2 (by simp [gdR])
    | cons e t =>
      obtain ⟨⟨f, n1⟩, c1⟩ := h2
      have hke : (k : Int) < e := by
        cases t with
        | nil => have := hg2.1; omega
        | cons b t => have := hg2.1; omega
      cases f with
      | zero => exact absurd n1 (by simp [nst])
      | succ f =>
        obtain ⟨u1, u2, u3, u4⟩ := n1.2 hke
        rw [hs] at u1 u2 u3 u4
        obtain ⟨s, hs2⟩ : ∃ s : Nat, l[k].size = s := ⟨l[k].size.toNat, by omega⟩
        rw [topI_rev]
        have e1 := hn l[k] (List.getElem_mem hk)
        have e2 := hf l[k] (List.getElem_mem hk)
        unfold leafB at e2
        rw [hs2] at u1 u2 u3 u4
        have hR : (e :: t).reverse ++ [(k : Int) + (s : Int)] = (((k : Int) + (s : Int)) :: e :: t).reverse := by simp
        rw [e1, e2, hs2, hR]
        simp only [Bool.and_eq_true, decide_eq_true_eq, Bool.true_and]
        refine ⟨⟨⟨u1, by omega⟩, trivial⟩, isG_of l hn hf m (k + 1) _ (by omega) ⟨by omega, gdR_to hg2 (by omega)⟩ ⟨⟨f, u3⟩, ⟨f, ?_⟩, c1⟩⟩
        have ek : ((k : Int) + (s : Int)).toNat = k + s := by omega
        rw [ek]
        rw [Int.toNat_natCast] at u4
        exact u4
theorem rowB_nst (l : List LNo) : ∀ (f k : Nat) (e : Int), rowB l f k e = true → (k : Int) ≤ e → e - k < f → nst l f k e
  | 0, k, e, h, h1, h2 => by omega
  | f + 1, k, e, h, h1, h2 => by
    refine ⟨h1, fun q => ?_⟩
    rw [rowB, if_pos q] at h
    simp only [Bool.and_eq_true, decide_eq_true_eq] at h
    obtain ⟨⟨⟨⟨u1, u2⟩, -⟩, u3⟩, u4⟩ := h
    exact ⟨u1, by omega, rowB_nst l f _ _ u3 (by omega) (by omega), rowB_nst l f _ _ u4 (by omega) (by omega)⟩
theorem rowB_leaf (l : List LNo) : ∀ (f k : Nat) (e : Int), rowB l f k e = true → e - k < f → e ≤ l.length → ∀ j (hj : j < l.length), k ≤ j → (j : Int) < e → leafB l[j] = true
  | 0, k, e, h, h2, h3, j, hj, h4, h5 => by omega
  | f + 1, k, e, h, h2, h3, j, hj, h4, h5 => by
    rw [rowB, if_pos (by omega)] at h
    simp only [Bool.and_eq_true, decide_eq_true_eq] at h
    obtain ⟨⟨⟨⟨u1, u2⟩, u0⟩, u3⟩, u4⟩ := h
    by_cases h6 : j = k
    · subst h6
      rw [kinN_get hj, sizN_get hj] at u0
      exact u0
    · by_cases h7 : (j : Int) < k + sizN l k
      · exact rowB_leaf l f _ _ u3 (by omega) (by omega) j hj (by omega) h7
      · exact rowB_leaf l f _ _ u4 (by omega) h3 j hj (by omega) h5
theorem nst_rowB (l : List LNo) (hf : ∀ x ∈ l, leafB x = true) : ∀ (f k : Nat) (e : Int), nst l f k e → e ≤ l.length → rowB l f k e = true
  | 0, k, e, h, h2 => rfl
  | f + 1, k, e, h, h2 => by
    rw [rowB]
    split
    · next q =>
      obtain ⟨u1, u2, u3, u4⟩ := h.2 q
      have hk : k < l.length := by omega
      have e2 := hf l[k] (List.getElem_mem hk)
      unfold leafB at e2
      rw [kinN_get hk, sizN_get hk] at *
      rw [e2, nst_rowB l hf f _ _ u3 (by omega), nst_rowB l hf f _ _ u4 h2]
      simp only [Bool.and_eq_true, decide_eq_true_eq, Bool.and_true]
      omega
    · rfl
theorem isR_eq (l : List LNo) : isR l = isS l := by
  rw [Bool.eq_iff_iff]
  constructor
  · intro h
    simp only [isR, Bool.and_eq_true, List.all_eq_true] at h
    obtain ⟨h1, h2⟩ := h
    have h3 := rowB_nst l _ _ _ h2 (by omega) (by omega)
    have h4 := rowB_leaf l _ _ _ h2 (by omega) (by omega)
    refine isG_of l h1 (fun x hx => ?_) l.length 0 [(l.length : Int)] (by omega) ⟨by omega, rfl⟩ ⟨⟨_, h3⟩, trivial⟩
    obtain ⟨j, hj, rfl⟩ := List.getElem_of_mem hx
    exact h4 j hj (by omega) (by omega)
  · intro h
    simp only [isR, Bool.and_eq_true, List.all_eq_true]
    exact ⟨isG_nod l 0 _ h, nst_rowB l (isG_leaf l 0 _ h) _ _ _ (isS_nst h) (by omega)⟩
theorem isR2_ok (l : List LNo) (hl : l.length ≤ 1000) (hw : ∀ x ∈ l, x.words.length ≤ 9223372036854775807) : FnOk Try.prog 20 [.sl 20 (l.map cNo)] [] (.raw (.bool (isS l))) [] := by
  rw [← isR_eq]
  exact isR_ok l hl hw
end Go.Proofs.Ytiidfcadmdahmaa
