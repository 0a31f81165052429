/- PLAIN: words and lines, as chapter 9 has them; no program in sight. -/
import Derived.Test.YtbbnfenlpfoaiaaChecked
set_option linter.unusedSimpArgs false
set_option linter.unusedVariables false
namespace Go.Proofs.Ytbbnfenlpfoaiaa

structure WRun where
  f : Int
  t : Int
  w : Int

/-- how wide words are with spaces between; of none: less a space. -/
def wideN (sp : Int) (ys : List Int) : Int := ys.sum + ((ys.length : Int) - 1) * sp
/-- the words from one place to another one. -/
def seg (xs : List Int) (f t : Nat) : List Int := (xs.drop f).take (t - f)
theorem seg_same (xs : List Int) (f : Nat) : seg xs f f = [] := by simp [seg]
theorem seg_succ (xs : List Int) (f t : Nat) (h : f ≤ t) (ht : t < xs.length) : seg xs f (t + 1) = seg xs f t ++ [xs[t]] := by
  unfold seg
  rw [show t + 1 - f = (t - f) + 1 by omega, List.take_succ_eq_append_getElem (by simp; omega)]
  simp only [List.getElem_drop]
  congr 3
  omega
theorem seg_len (xs : List Int) (f t : Nat) (ht : t ≤ xs.length) : (seg xs f t).length = t - f := by
  unfold seg; rw [List.length_take, List.length_drop]; omega
theorem wide_succ (sp : Int) (ys : List Int) (x : Int) : wideN sp (ys ++ [x]) = wideN sp ys + (sp + x) := by
  unfold wideN
  rw [List.sum_append, List.length_append]
  have e : ((ys.length + [x].length : Nat) : Int) - 1 = ((ys.length : Int) - 1) + 1 := by rw [List.length_singleton]; omega
  rw [e, Int.add_mul]
  simp
  omega
theorem wide_seg (sp : Int) (xs : List Int) (f t : Nat) (h : f ≤ t) (ht : t < xs.length) : wideN sp (seg xs f (t + 1)) = wideN sp (seg xs f t) + (sp + xs[t]) := by rw [seg_succ xs f t h ht, wide_succ]
theorem wide_none (sp : Int) (xs : List Int) (f : Nat) : wideN sp (seg xs f f) = -sp := by rw [seg_same]; simp [wideN]

/-- near: from 0 to 2^45. -/
def nr9 (x : Int) : Bool := decide (0 ≤ x ∧ x ≤ 35184372088832)
def near9 (xs : List Int) (sp width : Int) : Bool := nr9 sp && nr9 width && xs.all nr9
theorem near9_at {xs : List Int} (h : xs.all nr9 = true) (k : Nat) (hk : k < xs.length) : 0 ≤ xs[k] ∧ xs[k] ≤ 35184372088832 := by
  rw [List.all_eq_true] at h
  have := h _ (List.getElem_mem hk)
  simpa [nr9] using this
theorem wide_bd {sp : Int} {xs : List Int} (h : xs.all nr9 = true) (hs : 0 ≤ sp ∧ sp ≤ 35184372088832) (f : Nat) : ∀ t, f ≤ t → t ≤ xs.length → -sp ≤ wideN sp (seg xs f t) ∧ wideN sp (seg xs f t) ≤ 70368744177664 * ((t : Int) - f) - sp := by
  intro t
  induction t with
  | zero => intro h1 _; obtain rfl : f = 0 := by omega
            rw [wide_none]; omega
  | succ t ih =>
    intro h1 h2
    by_cases e : f = t + 1
    · subst e; rw [wide_none]; omega
    · have := ih (by omega) (by omega)
      rw [wide_seg sp xs f t (by omega) (by omega)]
      have := near9_at h t (by omega)
      omega

def wideF (xs : List Int) (sp f t : Int) : Int := if f < 0 ∨ (xs.length : Int) ≤ f ∨ t ≤ f ∨ (xs.length : Int) < t then 0 else wideN sp (seg xs f.toNat t.toNat)

/-- how far a line goes that holds the words from f to t. -/
def growT (xs : List Int) (sp width : Int) (f : Nat) : Nat → Nat → Nat
  | 0, t => t
  | n + 1, t => if t < xs.length ∧ wideN sp (seg xs f (t + 1)) ≤ width then growT xs sp width f n (t + 1) else t
def takeT (xs : List Int) (sp width : Int) (f : Nat) : Nat := growT xs sp width f (xs.length - (f + 1)) (f + 1)
theorem growT_ge (xs : List Int) (sp width : Int) (f : Nat) : ∀ n t, t ≤ growT xs sp width f n t
  | 0, t => Nat.le_refl _
  | n + 1, t => by
    unfold growT
    split
    · have := growT_ge xs sp width f n (t + 1); omega
    · exact Nat.le_refl _
theorem growT_le (xs : List Int) (sp width : Int) (f : Nat) : ∀ n t, t ≤ xs.length → growT xs sp width f n t ≤ xs.length
  | 0, t, h => h
  | n + 1, t, h => by
    unfold growT
    split
    · next h1 => exact growT_le xs sp width f n (t + 1) (by omega)
    · exact h
theorem growT_yes {xs : List Int} {sp width : Int} {f t : Nat} (h : t < xs.length) (hw : wideN sp (seg xs f (t + 1)) ≤ width) : growT xs sp width f (xs.length - t) t = growT xs sp width f (xs.length - (t + 1)) (t + 1) := by
  rw [show xs.length - t = (xs.length - (t + 1)) + 1 by omega]
  show (if _ then _ else _) = _
  rw [if_pos ⟨h, hw⟩]
theorem growT_no {xs : List Int} {sp width : Int} {f t : Nat} (h : ¬ (t < xs.length ∧ wideN sp (seg xs f (t + 1)) ≤ width)) : growT xs sp width f (xs.length - t) t = t := by
  cases e : xs.length - t with
  | zero => rfl
  | succ n => show (if _ then _ else _) = _; rw [if_neg h]
def takeF (xs : List Int) (sp width f : Int) : WRun := if f < 0 ∨ (xs.length : Int) ≤ f then ⟨0, 0, 0⟩ else ⟨f, (takeT xs sp width f.toNat : Nat), wideN sp (seg xs f.toNat (takeT xs sp width f.toNat))⟩
theorem takeT_bd (xs : List Int) (sp width : Int) (f : Nat) (h : f < xs.length) : f < takeT xs sp width f ∧ takeT xs sp width f ≤ xs.length := by
  have h1 := growT_ge xs sp width f (xs.length - (f + 1)) (f + 1)
  have h2 := growT_le xs sp width f (xs.length - (f + 1)) (f + 1) (by omega)
  unfold takeT
  omega
/-- all lines from a place on. -/
def allG (xs : List Int) (sp width : Int) : Nat → Nat → List WRun
  | 0, _ => []
  | n + 1, f => if f < xs.length then takeF xs sp width f :: allG xs sp width n (takeT xs sp width f) else []
def allF (xs : List Int) (sp width : Int) : List WRun := allG xs sp width xs.length 0
end Go.Proofs.Ytbbnfenlpfoaiaa
