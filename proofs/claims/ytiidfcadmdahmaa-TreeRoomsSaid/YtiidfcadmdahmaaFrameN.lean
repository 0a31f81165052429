/- THE ROW's STEP (second engine): arguments whose structs hold structs and slices. -/
/- G -/
import Derived.Test.YtiidfcadmdahmaaFrameG
set_option linter.unusedSimpArgs false
set_option linter.unusedVariables false
namespace Go.Proofs.Ytiidfcadmdahmaa
open Go.ChangeShapes Go.WideShapes Go.ChangeAt Go.RowKit Go.Deep

/-- cells that never turn, read as pure values. -/
def CR (R : Frz) (ps : List PV) (vs : List Value) : Prop := PRepL R ps vs ∧ ∀ v ∈ vs, v.oneCell' = true
theorem PRepL.app {R : Frz} : ∀ {p q : List PV} {u v : List Value}, PRepL R p u → PRepL R q v → PRepL R (p ++ q) (u ++ v)
  | [], q, [], v, _, h => h
  | [], _, _ :: _, _, h, _ => h.elim
  | _ :: _, _, [], _, h, _ => h.elim
  | _ :: _, _, _ :: _, _, h, k => ⟨h.1, PRepL.app h.2 k⟩
theorem cr_app {R : Frz} {p q : List PV} {cs : List Value} {o n m : Nat} (h : CR R p ((cs.drop o).take n)) (k : CR R q ((cs.drop (o + n)).take m)) : CR R (p ++ q) ((cs.drop o).take (n + m)) := by
  have e : (cs.drop o).take (n + m) = (cs.drop o).take n ++ (cs.drop (o + n)).take m := by
    rw [List.take_add, List.drop_drop]
  rw [e]
  refine ⟨h.1.app k.1, fun v hv => ?_⟩
  rcases List.mem_append.1 hv with hv | hv
  · exact h.2 v hv
  · exact k.2 v hv
theorem cr_all {R : Frz} {p : List PV} {cs : List Value} {n : Nat} (hn : cs.length = n) (h : CR R p ((cs.drop 0).take n)) : CR R p cs := by
  rwa [List.drop_zero, List.take_of_length_le (by omega)] at h
/-- what is read at a type, as a value of one's own. -/
structure OpenT (P : Program) (t : TypeId) {α : Type} (c : α → List PV) (inn : α → Prop) : Prop where
  open_ : ∀ {H : Type} {enc : TypeId × Value → H} {w : World} {fuel : Nat} {cs : List Value} {y : DataW H × List MemPlace}, DataW.trod enc P w 0 (fun _ => true) true fuel t cs = some y → ∃ x, CR (frzOf w) (c x) cs ∧ inn x
section
variable {P : Program} {t e : TypeId}
theorem open_i (ht : P.underlying t = some (.int .i64)) : OpenT P t (fun x : Int => [.raw (.int .i64 x)]) (fun x => -9223372036854775808 ≤ x ∧ x ≤ 9223372036854775807) := ⟨fun h => by
  obtain ⟨z, rfl, -, hw⟩ := DataW.trod_int ht h
  exact ⟨z, ⟨⟨by simp [PRep], trivial⟩, fun v hv => by rw [List.mem_singleton.1 hv]; rfl⟩, i64_of_wf hw⟩⟩
theorem open_b (ht : P.underlying t = some .bool) : OpenT P t (fun x : Bool => [.raw (.bool x)]) (fun _ => True) := ⟨fun h => by
  obtain ⟨z, rfl, -⟩ := DataW.trod_bool ht h
  exact ⟨z, ⟨⟨by simp [PRep], trivial⟩, fun v hv => by rw [List.mem_singleton.1 hv]; rfl⟩, trivial⟩⟩
theorem open_sl {α : Type} {c : α → List PV} {inn : α → Prop} {s : Nat} (ht : P.underlying t = some (.slice e)) (hC : P.cellsOf e = s) (hs : 0 < s) (hc : ∀ x, (c x).length = s) (hT : OpenT P e c inn) :
    OpenT P t (fun xs : List α => [.sl s (xs.map c)]) (fun xs => xs.length ≤ 9223372036854775807 ∧ ∀ x ∈ xs, inn x) := ⟨fun {H enc w fuel cs y} h => by
  rcases open_slice ht h with ⟨rfl, -⟩ | ⟨a, len, cap, m, n, D, Pl, rfl, -, hl, hm, hmm, -, hi⟩
  · refine ⟨[], ⟨⟨?_, trivial⟩, fun v hv => by rw [List.mem_singleton.1 hv]; rfl⟩, by simp, by simp⟩
    simp only [PRep, List.map_nil, List.length_nil]
    exact ⟨none, 0, rfl, Nat.le_refl _, by simp [PRows]⟩
  · simp only [if_true] at hmm
    subst hmm
    have hsp : 0 < len → a.spot = none := fun h0 => by
      obtain ⟨cs', hc', -⟩ := hi 0 (by omega)
      rw [hC] at hc'
      obtain ⟨_, hcl, hat⟩ := World.cells?_some hc'
      have := hat 0 hs
      rw [List.getElem?_eq_getElem (by omega)] at this
      simpa [Addr.add] using World.cell?_spot this
    obtain ⟨xs, hxl, hq⟩ := list_of (Q := fun i (x : α) => inn x ∧ ∃ b off, a = ⟨b, off, none⟩ ∧ PCells (frzOf w) b (off + i * s) (c x)) (n := len) (fun i hin => by
      obtain ⟨cs', hc', ht'⟩ := hi i (by omega)
      rw [hC] at hc'
      obtain ⟨x, ⟨h1, h2⟩, h3⟩ := hT.open_ ht'
      obtain ⟨_, hcl, hat⟩ := World.cells?_some hc'
      obtain ⟨b, off, spot⟩ := a
      obtain rfl : spot = none := hsp (by omega)
      refine ⟨x, h3, b, off, rfl, PCells.mk_ fun j p hj => ?_⟩
      have hjs : j < s := by
        rw [← hc x]
        exact (List.getElem?_eq_some_iff.1 hj).1
      obtain ⟨v, g1, g2⟩ := h1.get hj
      have h5 := hat j hjs
      rw [g1] at h5
      refine ⟨v, rcell_of ?_, h2 v (List.mem_of_getElem? g1), g2⟩
      rw [← h5, Go.WideShapes.add_plain, Go.WideShapes.add_plain])
    refine ⟨xs, ⟨⟨?_, trivial⟩, fun v hv => by rw [List.mem_singleton.1 hv]; rfl⟩, ⟨by unfold maxLen at hm; omega, fun x hx => ?_⟩⟩
    · simp only [PRep, List.length_map]
      refine ⟨some a, m, by rw [hxl], by omega, PRows.mk_ fun k r hk => ?_⟩
      rw [List.getElem?_map, Option.map_eq_some_iff] at hk
      obtain ⟨x, hx, rfl⟩ := hk
      obtain ⟨hkl, rfl⟩ := List.getElem?_eq_some_iff.1 hx
      obtain ⟨-, b, off, rfl, h6⟩ := hq k hkl
      exact ⟨hc _, b, off, rfl, by rw [Nat.zero_add]; exact h6⟩
    · obtain ⟨i, hi2, rfl⟩ := List.getElem_of_mem hx
      exact (hq i hi2).1⟩
theorem fld {α : Type} {c : α → List PV} {inn : α → Prop} {H : Type} {enc : TypeId × Value → H} {w : World} {n : Nat} {cs : List Value} {fs : Array Field} {ys : List (DataW H × List MemPlace)}
    (hg : ∀ (i : Nat) (f : Field), fs[i]? = some f → DataW.trod enc P w 0 (fun _ => true) true n f.type ((cs.drop f.offset).take (P.cellsOf f.type)) = ys[i]?) (hyl : ys.length = fs.size) (o s : Nat) (hT : OpenT P t c inn) (j : Nat) {f : Field} (hf : fs[j]? = some f) (ht : f.type = t) (ho : f.offset = o) (hC : P.cellsOf t = s) :
    ∃ x, CR (frzOf w) (c x) ((cs.drop o).take s) ∧ inn x := by
  have h := hg j f hf
  rw [ht, ho, hC, List.getElem?_eq_getElem (by rw [hyl]; exact (Array.getElem?_eq_some_iff.1 hf).1)] at h
  exact hT.open_ h
theorem arg_slice {α : Type} {c : α → List PV} {inn : List α → Prop} {s : Nat} {H : Type} {enc : TypeId × Value → H} {w : World} {v : Value} {d : DataW H} {p : List MemPlace} {r : Reach} {b0 : Nat} (ht : P.underlying t = some (.slice e)) (hv : Value.okWide P w r b0 t v) (h : DataW.Trod enc P w 0 (fun _ => true) true t v d p)
    (hT : OpenT P t (fun xs : List α => [.sl s (xs.map c)]) inn) : ∃ xs : List α, Rep (lawEnv w) (.sl s (xs.map c)) v ∧ inn xs := by
  obtain ⟨a, n, cp, rfl⟩ := okWide_slice ht hv
  obtain ⟨fuel, hf⟩ := h
  obtain ⟨xs, ⟨h1, -⟩, h2⟩ := hT.open_ hf
  exact ⟨xs, h1.1, h2⟩
end
end Go.Proofs.Ytiidfcadmdahmaa
