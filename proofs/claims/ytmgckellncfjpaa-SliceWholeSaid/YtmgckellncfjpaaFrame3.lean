/- THE ROW's STEP: a law whose contract is known; what its arguments are. -/
import Derived.Test.YtmgckellncfjpaaFrame2
import Derived.Test.YtmgckellncfjpaaE13
set_option linter.unusedSimpArgs false
set_option linter.unusedVariables false
namespace Go.Proofs.Ytmgckellncfjpaa
open Go.ChangeShapes Go.WideShapes Go.ChangeAt Go.RowKit Go.Deep

theorem slice_cap {H : Type} {enc : TypeId × Value → H} {P : Program} {w : World} {t e : TypeId} {A : Option Addr} {n c : Nat} {d : DataW H} {p : List MemPlace} (ht : P.underlying t = some (.slice e)) (h : DataW.Trod enc P w 0 (fun _ => true) true t (.slice A n c) d p) : n ≤ c := by
  obtain ⟨fuel, hf⟩ := h
  rcases open_slice ht hf with ⟨hcs, -⟩ | ⟨a, len, cap, m, n', D, Pl, hcs, -, hl, -⟩
  · simp [Value.cells] at hcs
    omega
  · simp [Value.cells] at hcs
    omega
theorem rows_map {α : Type} {w : World} {A : Option Addr} {s : Nat} {f : α → List Value} {xs : List α} (h : RowAt w A s f xs) : RowAt w A s id (xs.map f) := fun k hk => by
  obtain ⟨b, off, e, hb, hc⟩ := h k (by simpa using hk)
  refine ⟨b, off, e, hb, fun i hi => ?_⟩
  simpa using hc i hi
theorem rep_raws {ρ : Env} (l : List Value) : Rep ρ (.agg (l.map .raw)) (.agg l.toArray) := by
  simp only [Rep]
  exact ⟨l, rfl, RepL.raws l⟩
/-- a slice that is handed in, of things of which each is some cells. -/
theorem ext_map {α : Type} {w : World} {i : Nat} {A : Option Addr} {c s : Nat} {f : α → List Value} {xs : List α} (h : i < 8) (hr : RowAt w A s id (xs.map f)) (hl : ∀ x, (f x).length = s) (h1 : ∀ x, ∀ u ∈ f x, u.oneCell' = true) (hc : xs.length ≤ c) : ExtArg w (i, .slice A xs.length c, .ext s (xs.map f)) := by
  have := ext_arg (w := w) (i := i) (A := A) (c := c) (s := s) (rows := xs.map f) h hr (fun r hr => by rw [List.mem_map] at hr; obtain ⟨x, -, rfl⟩ := hr; exact hl x) (fun r hr => by rw [List.mem_map] at hr; obtain ⟨x, -, rfl⟩ := hr; exact h1 x) (by simpa using hc)
  rwa [List.length_map] at this
end Go.Proofs.Ytmgckellncfjpaa
