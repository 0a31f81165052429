/- CHAPTER 08: the plain law: the program's trees are the answer's. -/
/- G -/
import Derived.Test.YtiidfcadmdahmaaGTreO
set_option linter.unusedSimpArgs false
set_option linter.unusedVariables false
namespace Go.Proofs.Ytiidfcadmdahmaa
open Go.RowKit

theorem nst_lam (l : List LNo) : ∀ (f k : Nat) (e : Int), nst l f k e → ∀ j : Nat, k ≤ j → (j : Int) < e → 1 ≤ sizN l j ∧ j + sizN l j ≤ e ∧ ∀ i : Nat, j < i → (i : Int) < j + sizN l j → i + sizN l i ≤ j + sizN l j
  | 0, k, e, h, _, _, _ => absurd h (by simp [nst])
  | f + 1, k, e, h, j, h1, h2 => by
    obtain ⟨u1, u2, u3, u4⟩ := h.2 (by omega)
    by_cases h3 : j = k
    · subst h3
      exact ⟨u1, u2, fun i h4 h5 => (nst_lam l f _ _ u3 i (by omega) h5).2.1⟩
    · by_cases h4 : (j : Int) < k + sizN l k
      · obtain ⟨w1, w2, w3⟩ := nst_lam l f _ _ u3 j (by omega) h4
        exact ⟨w1, by omega, w3⟩
      · exact nst_lam l f _ _ u4 j (by omega) h2
structure Lam (l : List LNo) : Prop where
  pos : ∀ j : Nat, j < l.length → 1 ≤ sizN l j
  fin : ∀ j : Nat, j < l.length → j + sizN l j ≤ l.length
  nest : ∀ j i : Nat, j < l.length → j < i → (i : Int) < j + sizN l j → i + sizN l i ≤ j + sizN l j
theorem isS_lam {l : List LNo} (h : isS l = true) : Lam l := by
  have := nst_lam l _ _ _ (isS_nst h)
  exact ⟨fun j hj => (this j (Nat.zero_le _) (by omega)).1, fun j hj => (this j (Nat.zero_le _) (by omega)).2.1, fun j i hj => (this j (Nat.zero_le _) (by omega)).2.2 i⟩
theorem parI_is {l : List LNo} {a : Int} {p : Nat} : ∀ {k : Nat}, p < k → a < p + sizN l p → (∀ i : Nat, p < i → i < k → ¬ a < i + sizN l i) → parI l a k = p
  | 0, h, _, _ => absurd h (Nat.not_lt_zero _)
  | k + 1, h, h1, h2 => by
    rw [parI]
    by_cases e : p = k
    · subst e; rw [if_pos h1]
    · rw [if_neg (h2 k (by omega) (by omega))]
      exact parI_is (by omega) h1 (fun i a b => h2 i a (by omega))
theorem parI_no {l : List LNo} {a : Int} : ∀ {k : Nat}, (∀ i : Nat, i < k → ¬ a < i + sizN l i) → parI l a k = -1
  | 0, _ => rfl
  | k + 1, h => by
    rw [parI, if_neg (h k (by omega))]
    exact parI_no fun i hi => h i (by omega)
theorem parI_ge {l : List LNo} {a : Int} {j : Nat} : ∀ {k : Nat}, j < k → a < j + sizN l j → j ≤ parI l a k
  | 0, h, _ => absurd h (Nat.not_lt_zero _)
  | k + 1, h, h1 => by
    rw [parI]
    split
    · omega
    · by_cases e : j = k
      · subst e; contradiction
      · exact parI_ge (by omega) h1
theorem parI_sat {l : List LNo} {a : Int} {p : Nat} : ∀ {k : Nat}, parI l a k = p → p < k ∧ a < p + sizN l p
  | 0, h => by rw [parI] at h; omega
  | k + 1, h => by
    rw [parI] at h
    split at h
    · have : k = p := by omega
      subst this
      exact ⟨by omega, by assumption⟩
    · have := parI_sat h
      exact ⟨by omega, this.2⟩
theorem parI_congr {l : List LNo} {a b : Int} : ∀ {k : Nat}, (∀ i : Nat, i < k → (a < i + sizN l i ↔ b < i + sizN l i)) → parI l a k = parI l b k
  | 0, _ => rfl
  | k + 1, h => by
    rw [parI, parI, parI_congr fun i hi => h i (by omega)]
    have := h k (by omega)
    by_cases q : a < k + sizN l k
    · rw [if_pos q, if_pos (this.1 q)]
    · rw [if_neg q, if_neg (fun z => q (this.2 z))]
theorem parI_up {l : List LNo} (hl : Lam l) {a p : Nat} (ha : a < l.length) (h1 : p < a) (h2 : (a : Int) < p + sizN l p) : parI l p p = parI l a p :=
  parI_congr fun i hi => ⟨fun h => by have := hl.nest i p (by omega) hi h; omega, fun h => by omega⟩
theorem abvL_eq {l : List LNo} (hl : Lam l) {a : Nat} (ha : a < l.length) : ∀ (k f : Nat), k ≤ f → k ≤ a → abvL l f (parI l a k) = abvD l a k
  | 0, f, _, _ => by
    cases f with
    | zero => rfl
    | succ f => rw [parI, abvL, if_neg (by omega)]; rfl
  | k + 1, f, h, hk => by
    rw [parI, abvD]
    split
    · next q =>
      obtain ⟨f, rfl⟩ : ∃ g, f = g + 1 := ⟨f - 1, by omega⟩
      rw [abvL, if_pos (by omega), Int.toNat_natCast, parI_up hl ha (by omega) q, abvL_eq hl ha k f (by omega) (by omega)]
    · exact abvL_eq hl ha k f (by omega) (by omega)
theorem abv_eq {l : List LNo} (h : isS l = true) (a : Int) : abvN l a = abvR l a := by
  unfold abvN abvR
  split
  · next q =>
    simp only [hasN, Bool.and_eq_true, decide_eq_true_eq] at q
    obtain ⟨n, rfl⟩ : ∃ n : Nat, a = n := ⟨a.toNat, by omega⟩
    rw [Int.toNat_natCast]
    exact abvL_eq (isS_lam h) (by omega) n l.length (by omega) (Nat.le_refl _)
  · rfl
/-- whom a row of kids belongs to, up to where, from where on. -/
structure Row (l : List LNo) (a e : Int) (k : Nat) : Prop where
  le : (k : Int) ≤ e
  lt : a < k
  en : e ≤ l.length
  own : 0 ≤ a → e = a + sizN l a.toNat
  top : a < 0 → e = l.length
  low : -1 ≤ a
  bd : ∀ i : Nat, a < i → i < k → i + sizN l i ≤ k
theorem parN_nat {l : List LNo} {k : Nat} (h : k < l.length) : parN l k = parI l k k := by
  unfold parN
  rw [if_pos (by simp only [hasN, Bool.and_eq_true, decide_eq_true_eq]; omega), Int.toNat_natCast]
theorem Row.par {l : List LNo} {a e : Int} {k : Nat} (h : Row l a e k) (hk : (k : Int) < e) : parN l k = a := by
  have := h.en
  rw [parN_nat (by omega)]
  have hlow := h.low
  by_cases q : 0 ≤ a
  · obtain ⟨p, rfl⟩ : ∃ p : Nat, a = p := ⟨a.toNat, by omega⟩
    have e1 := h.own q
    rw [Int.toNat_natCast] at e1
    exact parI_is (by have := h.lt; omega) (by omega) fun i h1 h2 h3 => by have := h.bd i (by omega) h2; omega
  · obtain rfl : a = -1 := by omega
    exact parI_no fun i h2 h3 => by have := h.bd i (by omega) h2; omega
theorem Row.next {l : List LNo} (hl : Lam l) {a e : Int} {k : Nat} (h : Row l a e k) (hk : (k : Int) < e) : Row l a e (k + (sizN l k).toNat) := by
  have h0 := h.en
  have h1 := hl.pos k (by omega)
  have hf := hl.fin k (by omega)
  have hlow := h.low
  have hlt := h.lt
  have hbd := h.bd
  refine ⟨?_, by omega, h.en, h.own, h.top, h.low, fun i h2 h3 => ?_⟩
  · by_cases q : 0 ≤ a
    · obtain ⟨p, rfl⟩ : ∃ p : Nat, a = p := ⟨a.toNat, by omega⟩
      have e1 := h.own q
      rw [Int.toNat_natCast] at e1
      have := hl.nest p k (by omega) (by omega) (by omega)
      omega
    · have := h.top (by omega)
      omega
  · by_cases h4 : i < k
    · have := hbd i h2 h4; omega
    · by_cases h5 : i = k
      · subst h5; omega
      · have := hl.nest k i (by omega) (by omega) (by omega); omega
theorem Row.down {l : List LNo} (hl : Lam l) {k : Nat} (hk : k < l.length) : Row l k (k + sizN l k) (k + 1) := by
  have h1 := hl.pos k hk
  have h2 := hl.fin k hk
  exact ⟨by omega, by omega, by omega, fun _ => by rw [Int.toNat_natCast], fun q => absurd q (by omega), by omega, fun i a b => by omega⟩
theorem filt_one {F : Nat → Bool} {k s : Nat} (hs : 1 ≤ s) (h1 : F k = true) (h2 : ∀ i, k < i → i < k + s → F i = false) : (List.range' k s).filter F = [k] := by
  obtain ⟨s, rfl⟩ : ∃ t, s = t + 1 := ⟨s - 1, by omega⟩
  rw [List.range'_succ, List.filter_cons, if_pos h1]
  have : (List.range' (k + 1) s).filter F = [] := by
    rw [List.filter_eq_nil_iff]
    intro i hi
    rw [List.mem_range'_1] at hi
    rw [h2 i (by omega) (by omega)]; decide
  rw [this]
theorem range_split (k s m : Nat) : List.range' k (s + m) = List.range' k s ++ List.range' (k + s) m := by
  rw [List.range'_append_1]
theorem kidS_eq {l : List LNo} (hl : Lam l) {a e : Int} : ∀ (f k : Nat), Row l a e k → e - k ≤ f → kidS l e f k = ((List.range' k (e - k).toNat).filter (fun i : Nat => decide (parN l i = a))).map (fun i : Nat => (i : Int))
  | 0, k, h, hf => by
    have : (e - k).toNat = 0 := by omega
    rw [this]; rfl
  | f + 1, k, h, hf => by
    rw [kidS]
    split
    · next q =>
      have h0 := h.en
      have h1 := hl.pos k (by omega)
      have hn := h.next hl q
      have hle := hn.le
      have hlt := h.lt
      rw [kidS_eq hl f _ hn (by omega)]
      have e1 : (e - k).toNat = (sizN l k).toNat + (e - (k + (sizN l k).toNat : Nat)).toNat := by omega
      rw [e1, range_split, List.filter_append, List.map_append]
      have e2 : (List.range' k (sizN l k).toNat).filter (fun i : Nat => decide (parN l i = a)) = [k] := by
        refine filt_one (by omega) (by rw [decide_eq_true_eq]; exact h.par q) fun i h3 h4 => ?_
        rw [decide_eq_false_iff_not, parN_nat (by omega)]
        have := parI_ge (l := l) (a := i) (j := k) (k := i) h3 (by omega)
        omega
      rw [e2]
      rfl
    · have : (e - k).toNat = 0 := by omega
      rw [this]; rfl
theorem filt_none {F : Nat → Bool} {k s : Nat} (h2 : ∀ i, k ≤ i → i < k + s → F i = false) : (List.range' k s).filter F = [] := by
  rw [List.filter_eq_nil_iff]
  intro i hi
  rw [List.mem_range'_1] at hi
  rw [h2 i (by omega) (by omega)]; decide
theorem Row.all (l : List LNo) : Row l (-1) l.length 0 := ⟨by omega, by omega, by omega, fun q => absurd q (by omega), fun _ => rfl, by omega, fun i _ h => absurd h (Nat.not_lt_zero _)⟩
theorem kid_eq {l : List LNo} (h : isS l = true) {a : Int} (ha : a = -1 ∨ hasN l a = true) : kidN l a = kidR l a l.length := by
  have hl := isS_lam h
  unfold kidN kidR
  rw [List.range_eq_range']
  by_cases q : a = -1
  · subst q
    rw [if_pos rfl, kidS_eq hl _ _ (Row.all l) (by omega)]
    have : ((l.length : Int) - (0 : Nat)).toNat = l.length := by omega
    rw [this]
  · have hh := ha.resolve_left q
    rw [if_neg q, if_pos hh]
    simp only [hasN, Bool.and_eq_true, decide_eq_true_eq] at hh
    obtain ⟨n, rfl⟩ : ∃ n : Nat, a = n := ⟨a.toNat, by omega⟩
    have hn : n < l.length := by omega
    have h1 := hl.pos n hn
    have h2 := hl.fin n hn
    rw [Int.toNat_natCast, kidS_eq hl _ _ (Row.down hl hn) (by omega)]
    have e1 : l.length = (n + 1) + (((n : Int) + sizN l n - (n + 1 : Nat)).toNat + (l.length - (n + (sizN l n).toNat))) := by omega
    conv => rhs; rw [e1, range_split 0 (n + 1), range_split (0 + (n + 1)), List.filter_append, List.filter_append]
    have e2 : (List.range' 0 (n + 1)).filter (fun i : Nat => decide (parN l i = n)) = [] := filt_none fun i _ h4 => by
      rw [decide_eq_false_iff_not]
      have := (parN_lt l i).2
      omega
    have e3 : ∀ m, (List.range' (0 + (n + 1) + ((n : Int) + sizN l n - (n + 1 : Nat)).toNat) m).filter (fun i : Nat => decide (parN l i = n)) = [] := fun m => filt_none fun i h3 _ => by
      rw [decide_eq_false_iff_not]
      intro h5
      unfold parN at h5
      split at h5
      · have := (parI_sat h5).2
        omega
      · omega
    rw [e2, e3, List.nil_append, List.append_nil, Nat.zero_add]
def valR (l : List LNo) (w a : Int) : LRm := if a < 0 then ⟨0, w⟩ else inR l a.toNat (rmR l w l.length a.toNat)
theorem rmR_val {l : List LNo} {w : Int} {i : Nat} (h : i < l.length) : rmR l w l.length i = valR l w (parN l i) := by
  have hp := parN_lt l i
  obtain ⟨m, hm⟩ : ∃ m, l.length = m + 1 := ⟨l.length - 1, by omega⟩
  unfold valR
  rw [hm, rmR]
  split
  · rfl
  · rw [rmR_fuel l w m (m + 1) _ (by omega) (by omega)]
theorem putS_eq {l : List LNo} (hl : Lam l) {w : Int} : ∀ (f k : Nat) (a e : Int), Row l a e k → nst l f k e → putS l f k e (valR l w a) = (List.range' k (e - k).toNat).map (fun i => rmR l w l.length i)
  | 0, k, a, e, h, hn => absurd hn (by simp [nst])
  | f + 1, k, a, e, h, hn => by
    rw [putS]
    split
    · next q =>
      obtain ⟨u1, u2, u3, u4⟩ := hn.2 q
      have h0 := h.en
      have hk : k < l.length := by omega
      have hr := rmR_val (w := w) hk
      rw [h.par q] at hr
      have hv : inR l k (valR l w a) = valR l w k := by
        rw [← hr]
        unfold valR
        rw [if_neg (by omega), Int.toNat_natCast]
      have hnx := h.next hl q
      have hle := hnx.le
      rw [hv, putS_eq hl f (k + 1) k (k + sizN l k) (Row.down hl hk) u3, putS_eq hl f _ a e hnx u4]
      have e1 : (e - k).toNat = 1 + (((k : Int) + sizN l k - (k + 1 : Nat)).toNat + (e - (k + (sizN l k).toNat : Nat)).toNat) := by omega
      have e2 : k + 1 + ((k : Int) + sizN l k - (k + 1 : Nat)).toNat = k + (sizN l k).toNat := by omega
      rw [e1, range_split, range_split, e2]
      simp [hr]
    · have : (e - k).toNat = 0 := by omega
      rw [this]; rfl
theorem rooms_eq {l : List LNo} (h : isS l = true) (w : Int) : romN l w = rmsN l w := by
  have e : docN l = l := by simp [docN, h]
  unfold romN rmsN
  rw [e]
  split
  · have := putS_eq (isS_lam h) (w := w) _ _ _ _ (Row.all l) (isS_nst h)
    have e1 : valR l w (-1) = ⟨0, w⟩ := if_pos (by omega)
    rw [e1] at this
    rw [this]
    have e2 : ((l.length : Int) - (0 : Nat)).toNat = l.length := by omega
    rw [e2, rmsR, List.range_eq_range']
  · rfl
end Go.Proofs.Ytiidfcadmdahmaa
