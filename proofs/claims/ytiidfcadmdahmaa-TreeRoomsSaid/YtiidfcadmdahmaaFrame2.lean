/- THE ROW's STEP: arguments that are structs, or slices of structs. -/
import Derived.Test.YtiidfcadmdahmaaFrame
import Derived.Test.YtiidfcadmdahmaaMem3
import Derived.Deep.Slices
import Derived.Deep.Fields
set_option linter.unusedSimpArgs false
set_option linter.unusedVariables false
namespace Go.Proofs.Ytiidfcadmdahmaa
open Go.ChangeShapes Go.WideShapes Go.ChangeAt Go.RowKit Go.Deep

theorem list_of {α : Type} {Q : Nat → α → Prop} {n : Nat} (h : ∀ i, i < n → ∃ x, Q i x) : ∃ xs : List α, xs.length = n ∧ ∀ i (hi : i < xs.length), Q i xs[i] := by
  induction n with
  | zero => exact ⟨[], rfl, fun i hi => absurd hi (by simp)⟩
  | succ n ih =>
    obtain ⟨xs, hl, hq⟩ := ih (fun i hi => h i (by omega))
    obtain ⟨x, hx⟩ := h n (by omega)
    refine ⟨xs ++ [x], by simp [hl], fun i hi => ?_⟩
    rw [List.getElem_append]
    split
    · next h1 => exact hq i h1
    · next h1 =>
      have : i = n := by simp at hi; omega
      subst this
      simpa [hl] using hx
theorem arr_of {cs : Array Value} {l : List Value} (hs : cs.size = l.length) (h : ∀ j, j < l.length → cs[j]? = l[j]?) : cs = l.toArray := by
  apply Array.ext_getElem?
  intro i
  by_cases hi : i < l.length
  · rw [h i hi]; simp
  · rw [Array.getElem?_eq_none (by omega), Array.getElem?_eq_none (by simp; omega)]
section
variable {H : Type} {enc : TypeId × Value → H} {P : Program} {w : World} {t e : TypeId} {fs : Array Field} {v : Value} {d : DataW H} {p : List MemPlace} {r : Reach} {b0 : Nat}
/-- a struct by value: each field's own value reads as its type says. -/
theorem open_fields (hs : P.underlying t = some (.struct fs)) (hone : oneCellFields P fs = true) (hC : P.cellsOf t = fs.size) (hv : Value.okWide P w r b0 t v) (h : DataW.Trod enc P w 0 (fun _ => true) true t v d p) :
    ∃ cs : Array Value, v = .agg cs ∧ cs.size = fs.size ∧ ∀ (j : Nat) (f : Field), fs[j]? = some f → ∃ u y q, cs[j]? = some u ∧ DataW.trod enc P w 0 (fun _ => true) true q f.type [u] = some y := by
  obtain ⟨cs, rfl, hsz⟩ := okWide_struct hs hv
  refine ⟨cs, rfl, hsz.trans hC, fun j f hj => ?_⟩
  obtain ⟨fuel, hf⟩ := h
  obtain ⟨xs, n, _, _, _, hlen, hg⟩ := DataW.trod_struct hs hf
  obtain ⟨ho, hk⟩ := hone_of hone j f hj
  have hjl : j < fs.size := (Array.getElem?_eq_some_iff.1 hj).1
  have h1 := hg j f hj
  rw [ho, hk] at h1
  have hl : j < cs.toList.length := by rw [Array.length_toList, hsz, hC]; exact hjl
  have e1 : (cs.toList.drop j).take 1 = [cs.toList[j]] := by rw [List.drop_eq_getElem_cons hl]; rfl
  have h2 : DataW.trod enc P w 0 (fun _ => true) true n f.type ((cs.toList.drop j).take 1) = xs[j]? := h1
  rw [e1] at h2
  refine ⟨cs.toList[j], xs[j]'(by omega), n, ?_, h2.trans (List.getElem?_eq_getElem _)⟩
  rw [← Array.getElem?_toList]
  exact List.getElem?_eq_getElem hl
/-- a slice of structs: each element's cells are there, and each reads as its type says. -/
theorem open_rows (ht : P.underlying t = some (.slice e)) (he : P.underlying e = some (.struct fs)) (hone : oneCellFields P fs = true) (hC : P.cellsOf e = fs.size) (h0 : 0 < fs.size)
    (hv : Value.okWide P w r b0 t v) (h : DataW.Trod enc P w 0 (fun _ => true) true t v d p) (hlt : ∀ x ∈ p, x.block < w.heap.size) :
    ∃ A n c, v = .slice A n c ∧ n ≤ 9223372036854775807 ∧ ∀ i, i < n → ∃ b off, A = some ⟨b, off, none⟩ ∧ b < w.heap.size ∧
      ∀ (j : Nat) (f : Field), fs[j]? = some f → ∃ u y q, w.cell? ⟨b, off + i * fs.size + j, none⟩ = some u ∧ DataW.trod enc P w 0 (fun _ => true) true q f.type [u] = some y := by
  obtain ⟨a0, n0, c0, rfl⟩ := okWide_slice ht hv
  obtain ⟨fuel, hf⟩ := h
  rcases open_slice ht hf with ⟨hcs, -⟩ | ⟨a, len, cap, m, n, D, Pl, hcs, -, hl, hm, hmm, hx, hi⟩
  · simp [Value.cells] at hcs
    obtain ⟨rfl, rfl, rfl⟩ := hcs
    exact ⟨none, 0, 0, rfl, by omega, fun i hi => absurd hi (by omega)⟩
  · simp [Value.cells] at hcs
    obtain ⟨rfl, rfl, rfl⟩ := hcs
    simp only [if_true] at hmm
    subst hmm
    have hp : p = MemPlace.row a (m * fs.size) ++ (List.range m).flatMap Pl := by rw [← hC]; exact (Prod.mk.inj hx).2
    refine ⟨some a, n0, m, rfl, by unfold maxLen at hm; omega, fun i hin => ?_⟩
    have hcell : ∀ j (f : Field), fs[j]? = some f → ∃ u y q, w.cell? (a.add (i * fs.size + j)) = some u ∧ DataW.trod enc P w 0 (fun _ => true) true q f.type [u] = some y := by
      intro j f hj
      obtain ⟨cs', hc, ht'⟩ := hi i (by omega)
      rw [hC] at hc
      obtain ⟨ys, n', -, -, -, hyl, hg⟩ := DataW.trod_struct he ht'
      obtain ⟨_, hcl, hat⟩ := World.cells?_some hc
      obtain ⟨ho, hk⟩ := hone_of hone j f hj
      have hjl : j < fs.size := (Array.getElem?_eq_some_iff.1 hj).1
      have h1 := hg j f hj
      rw [ho, hk] at h1
      have e1 : (cs'.drop j).take 1 = [cs'[j]'(by omega)] := by rw [List.drop_eq_getElem_cons (by omega)]; rfl
      rw [e1] at h1
      refine ⟨cs'[j]'(by omega), ys[j]'(by omega), n', ?_, h1.trans (List.getElem?_eq_getElem _)⟩
      rw [← Go.Deep.add_add, hat j hjl]
      exact List.getElem?_eq_getElem _
    obtain ⟨b, off, spot⟩ := a
    obtain ⟨f0, hf0⟩ : ∃ f, fs[0]? = some f := ⟨_, Array.getElem?_eq_getElem h0⟩
    have hspot : spot = none := by
      by_cases hz : i * fs.size + 0 = 0
      · obtain ⟨u, -, -, hu, -⟩ := hcell 0 f0 hf0
        rw [hz] at hu
        simpa [Addr.add] using World.cell?_spot hu
      · obtain ⟨cs', hc, -⟩ := hi 0 (by omega)
        rw [hC] at hc
        obtain ⟨_, hcl, hat⟩ := World.cells?_some hc
        have := hat 0 h0
        rw [List.getElem?_eq_getElem (by omega)] at this
        simpa [Addr.add] using World.cell?_spot this
    subst hspot
    refine ⟨b, off, rfl, ?_, fun j f hj => ?_⟩
    · have h3 : 0 < m * fs.size := Nat.mul_pos (by omega) h0
      have : MemPlace.cell b off ∈ p := by rw [hp]; simp [MemPlace.row]; exact .inl h3
      exact hlt _ this
    · obtain ⟨u, y, q, hu, hy⟩ := hcell j f hj
      refine ⟨u, y, q, ?_, hy⟩
      rw [Nat.add_assoc, ← hu, ← Go.WideShapes.add_plain]
end
end Go.Proofs.Ytiidfcadmdahmaa
