/- MEMORY: slices of structs: rows of several cells each. No program in sight. -/
import Derived.Test.YtiidfcadmdahmaaMem2
set_option linter.unusedSimpArgs false
set_option linter.unusedVariables false
namespace Go.Proofs.Ytiidfcadmdahmaa
open Go.RowKit

section
variable {α : Type} {f : α → List Value} {s : Nat}
theorem flat_len (hs : ∀ x, (f x).length = s) (xs : List α) : (xs.flatMap f).length = xs.length * s := by
  induction xs with
  | nil => simp
  | cons x xs ih => rw [List.flatMap_cons, List.length_append, hs, ih, List.length_cons, Nat.succ_mul]; omega
theorem flat_get (hs : ∀ x, (f x).length = s) (xs : List α) (k i : Nat) (hi : i < s) : (xs.flatMap f)[k * s + i]? = xs[k]?.bind (fun x => (f x)[i]?) := by
  induction xs generalizing k with
  | nil => simp
  | cons x xs ih =>
    rw [List.flatMap_cons]
    cases k with
    | zero =>
      rw [Nat.zero_mul, Nat.zero_add, List.getElem?_append_left (by rw [hs]; exact hi)]
      rfl
    | succ k =>
      rw [List.getElem?_append_right (by rw [hs, Nat.succ_mul]; omega), hs]
      have e : (k + 1) * s + i - s = k * s + i := by rw [Nat.succ_mul]; omega
      rw [e, ih]
      rfl
/-- the cells behind a slice's head hold these things, s cells each. -/
def RowAt (w : World) (A : Option Addr) (s : Nat) (f : α → List Value) (xs : List α) : Prop :=
  ∀ k (h : k < xs.length), ∃ b off, A = some ⟨b, off, none⟩ ∧ b < w.heap.size ∧ ∀ i, i < s → w.cell? ⟨b, off + k * s + i, none⟩ = (f xs[k])[i]?
theorem RowAt.nil {w : World} {A : Option Addr} : RowAt w A s f [] := fun k h => by simp at h
theorem RowAt.below {w w' : World} {A : Option Addr} {xs : List α} (h : RowAt w A s f xs) (hb : Below w.heap.size w w') : RowAt w' A s f xs := fun k hk => by
  obtain ⟨b, off, e, hlt, hc⟩ := h k hk
  exact ⟨b, off, e, Nat.lt_of_lt_of_le hlt hb.size, fun i hi => (hb.cell (p := ⟨b, _, none⟩) hlt).trans (hc i hi)⟩
theorem RowAt.cells (hs : ∀ x, (f x).length = s) (h0 : 0 < s) {w : World} {A : Option Addr} {xs : List α} (h : RowAt w A s f xs) : CellsAt w A (xs.flatMap f) := fun j hj => by
  have hl := flat_len hs xs
  have hk : j / s < xs.length := by rw [hl] at hj; exact Nat.div_lt_of_lt_mul (by rw [Nat.mul_comm]; exact hj)
  obtain ⟨b, off, e, hlt, hc⟩ := h (j / s) hk
  have hi : j % s < s := Nat.mod_lt _ h0
  have hj2 : j / s * s + j % s = j := by rw [Nat.mul_comm]; exact Nat.div_add_mod j s
  refine ⟨b, off, e, hlt, ?_⟩
  have h1 := hc (j % s) hi
  rw [Nat.add_assoc, hj2] at h1
  rw [h1]
  have h2 := flat_get hs xs (j / s) (j % s) hi
  rw [hj2, List.getElem?_eq_getElem hk, List.getElem?_eq_getElem hj] at h2
  exact h2.symm
theorem CellsAt.row (hs : ∀ x, (f x).length = s) {w : World} {A : Option Addr} {xs : List α} (h0 : 0 < s) (h : CellsAt w A (xs.flatMap f)) : RowAt w A s f xs := fun k hk => by
  have hl := flat_len hs xs
  have hb : ∀ i, i < s → k * s + i < (xs.flatMap f).length := fun i hi => by
    rw [hl]
    have := Nat.mul_le_mul_right s (Nat.succ_le_of_lt hk)
    rw [Nat.succ_mul] at this
    omega
  obtain ⟨b, off, e, hlt, -⟩ := h (k * s + 0) (hb 0 h0)
  refine ⟨b, off, e, hlt, fun i hi => ?_⟩
  obtain ⟨b', off', e', -, hc⟩ := h (k * s + i) (hb i hi)
  rw [e] at e'
  injection e' with e'
  injection e' with e1 e2
  subst e1; subst e2
  rw [Nat.add_assoc, hc]
  have h2 := flat_get hs xs k i hi
  rw [List.getElem?_eq_getElem hk, List.getElem?_eq_getElem (hb i hi)] at h2
  exact h2
theorem flat_one (h : ∀ x, ∀ u ∈ f x, u.oneCell' = true) (xs : List α) : ∀ u ∈ xs.flatMap f, u.oneCell' = true := fun u hu => by
  obtain ⟨x, -, hx⟩ := List.mem_flatMap.1 hu
  exact h x u hx
end
end Go.Proofs.Ytiidfcadmdahmaa
