/- THE ROW's STEP (second engine): what a law's arguments are. -/
/- G -/
import Derived.Test.YtiidfcadmdahmaaFrame2
import Derived.Test.YtiidfcadmdahmaaG12
set_option linter.unusedSimpArgs false
set_option linter.unusedVariables false
namespace Go.Proofs.Ytiidfcadmdahmaa
open Go.ChangeShapes Go.WideShapes Go.ChangeAt Go.RowKit Go.Deep

theorem slice_cap {H : Type} {enc : TypeId × Value → H} {P : Program} {w : World} {t e : TypeId} {A : Option Addr} {n c : Nat} {d : DataW H} {p : List MemPlace} (ht : P.underlying t = some (.slice e)) (h : DataW.Trod enc P w 0 (fun _ => true) true t (.slice A n c) d p) : n ≤ c := by
  obtain ⟨fuel, hf⟩ := h
  rcases open_slice ht hf with ⟨hcs, -⟩ | ⟨a, len, cap, m, n', D, Pl, hcs, -, hl, -⟩
  · simp [Value.cells] at hcs
    omega
  · simp [Value.cells] at hcs
    omega
theorem rep_raws {ρ : Env} (l : List Value) : Rep ρ (.agg (l.map .raw)) (.agg l.toArray) := by
  simp only [Rep]
  exact ⟨l, rfl, RepL.raws l⟩
theorem ints_rowsG {w : World} {A : Option Addr} {xs : List Int} (h : IntsAt w A xs) : RowAt w A 1 (fun x : Int => [Value.int .i64 x]) xs := fun k hk => by
  obtain ⟨b, off, e, hb, hc⟩ := h k hk
  refine ⟨b, off, e, hb, fun i hi => ?_⟩
  obtain rfl : i = 0 := by omega
  simpa using hc
end Go.Proofs.Ytiidfcadmdahmaa
