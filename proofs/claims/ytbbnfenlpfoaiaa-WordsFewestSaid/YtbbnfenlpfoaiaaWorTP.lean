/- PLAIN: chapter 9: what a walk over words' ends takes; no program in sight. -/
import Derived.Test.YtbbnfenlpfoaiaaWorP
set_option linter.unusedSimpArgs false
set_option linter.unusedVariables false
namespace Go.Proofs.Ytbbnfenlpfoaiaa

def okEnd (f : Nat) (width : Int) (y : Nat × Int) : Prop := ¬ (f + 1 < y.1 ∧ width < y.2)
def lastRun (f : Nat) (pre : List (Nat × Int)) : WRun := match pre.getLast? with
  | none => ⟨0, 0, 0⟩
  | some y => ⟨f, y.1, y.2⟩
theorem lastRun_snoc (f : Nat) (pre : List (Nat × Int)) (x : Nat × Int) : lastRun f (pre ++ [x]) = ⟨f, x.1, x.2⟩ := by simp [lastRun]
theorem grow_to {xs : List Int} {sp width : Int} {f : Nat} (k : Nat) (hk : f + 1 + k ≤ xs.length) (h : ∀ j, 1 ≤ j → j ≤ k → wideN sp (seg xs f (f + j + 1)) ≤ width) :
    growT xs sp width f (xs.length - (f + 1)) (f + 1) = growT xs sp width f (xs.length - (f + 1 + k)) (f + 1 + k) := by
  induction k with
  | zero => rfl
  | succ k ih =>
    rw [ih (by omega) (fun j h1 h2 => h j h1 (by omega))]
    have := h (k + 1) (by omega) (by omega)
    exact growT_yes (t := f + 1 + k) (by omega) (by rw [show f + 1 + k + 1 = f + (k + 1) + 1 by omega]; exact this)
theorem take_of_ok {xs : List Int} {sp width : Int} {f k : Nat} (hf : f + 1 + k ≤ xs.length) (h : ∀ j, j ≤ k → okEnd f width (f + j + 1, wideN sp (seg xs f (f + j + 1))))
    (hs : f + 1 + k = xs.length ∨ ¬ okEnd f width (f + (k + 1) + 1, wideN sp (seg xs f (f + (k + 1) + 1)))) : takeT xs sp width f = f + 1 + k := by
  unfold takeT
  rw [grow_to k hf (fun j h1 h2 => by
    have := h j h2
    unfold okEnd at this
    dsimp only at this
    omega)]
  refine growT_no fun hh => ?_
  rcases hs with hs | hs
  · omega
  · refine hs ?_
    unfold okEnd
    dsimp only
    have := hh.2
    rw [show f + 1 + k + 1 = f + (k + 1) + 1 by omega] at this
    omega
end Go.Proofs.Ytbbnfenlpfoaiaa
