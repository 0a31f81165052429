/- PLAIN: chapter 9's laws of lines; no program in sight. -/
import Derived.Test.YtbbnfenlpfoaiaaWorP
set_option linter.unusedSimpArgs false
set_option linter.unusedVariables false
namespace Go.Proofs.Ytbbnfenlpfoaiaa

theorem seg_all {xs : List Int} (h : xs.all nr9 = true) (f t : Nat) : (seg xs f t).all nr9 = true := by
  rw [List.all_eq_true] at h ⊢
  intro x hx
  exact h x (List.mem_of_mem_drop (List.mem_of_mem_take hx))
theorem sum_nonneg {xs : List Int} (h : xs.all nr9 = true) : 0 ≤ xs.sum := by
  induction xs with
  | nil => simp
  | cons x xs ih =>
    simp only [List.all_cons, Bool.and_eq_true, nr9, decide_eq_true_eq] at h
    have := ih h.2
    rw [List.sum_cons]
    omega
theorem seg_app (xs : List Int) {f m t : Nat} (h1 : f ≤ m) (h2 : m ≤ t) : seg xs f t = seg xs f m ++ seg xs m t := by
  unfold seg
  have e1 : xs.drop m = (xs.drop f).drop (m - f) := by rw [List.drop_drop]; congr 1; omega
  have e2 : t - f = (m - f) + (t - m) := by omega
  rw [e1, e2, List.take_add]
/-- from a later word on: no wider. -/
theorem wide_anti {xs : List Int} {sp : Int} (h : xs.all nr9 = true) (hs : 0 ≤ sp) {f m t : Nat} (h1 : f ≤ m) (h2 : m < t) (ht : t ≤ xs.length) : wideN sp (seg xs m t) ≤ wideN sp (seg xs f t) := by
  rw [seg_app xs h1 (Nat.le_of_lt h2)]
  unfold wideN
  rw [List.sum_append, List.length_append]
  have hn := sum_nonneg (seg_all h f m)
  have e : ((((seg xs f m).length + (seg xs m t).length : Nat) : Int) - 1) * sp = ((seg xs m t).length - 1 : Int) * sp + ((seg xs f m).length : Int) * sp := by
    rw [← Int.add_mul]; congr 1; omega
  rw [e]
  have := Int.mul_nonneg (show 0 ≤ ((seg xs f m).length : Int) by omega) hs
  omega
theorem wide_mono {xs : List Int} {sp : Int} (h : xs.all nr9 = true) (hs : 0 ≤ sp) {f : Nat} : ∀ {e t : Nat}, f ≤ e → e ≤ t → t ≤ xs.length → wideN sp (seg xs f e) ≤ wideN sp (seg xs f t) := by
  intro e t h1 h2
  induction t with
  | zero => intro _; obtain rfl : e = 0 := by omega
            exact Int.le_refl _
  | succ t ih =>
    intro ht
    by_cases he : e = t + 1
    · rw [he]; exact Int.le_refl _
    · have := ih (by omega) (by omega)
      rw [wide_seg sp xs f t (by omega) (by omega)]
      have := near9_at h t (by omega)
      omega
theorem growT_reach {xs : List Int} {sp w : Int} {f : Nat} (h : xs.all nr9 = true) (hs : 0 ≤ sp) {e : Nat} (he : e ≤ xs.length) (hw : wideN sp (seg xs f e) ≤ w) : ∀ n t, f ≤ t → t ≤ e → e ≤ t + n → e ≤ growT xs sp w f n t := by
  intro n
  induction n with
  | zero => intro t _ h1 h2; exact h2
  | succ n ih =>
    intro t h0 h1 h2
    unfold growT
    by_cases ht : t = e
    · split
      · have := growT_ge xs sp w f n (t + 1); omega
      · omega
    · have := wide_mono h hs (f := f) (e := t + 1) (t := e) (by omega) (by omega) he
      rw [if_pos ⟨by omega, by omega⟩]
      exact ih (t + 1) (by omega) (by omega) (by omega)
theorem growT_fits {xs : List Int} {sp w : Int} {f : Nat} : ∀ n t, growT xs sp w f n t = t ∨ wideN sp (seg xs f (growT xs sp w f n t)) ≤ w := by
  intro n
  induction n with
  | zero => intro t; exact .inl rfl
  | succ n ih =>
    intro t
    unfold growT
    split
    · next h => rcases ih (t + 1) with h1 | h1
                · right; rw [h1]; exact h.2
                · exact .inr h1
    · exact .inl rfl
theorem growT_full {xs : List Int} {sp w : Int} {f : Nat} : ∀ n t, xs.length ≤ t + n → growT xs sp w f n t < xs.length → w < wideN sp (seg xs f (growT xs sp w f n t + 1)) := by
  intro n
  induction n with
  | zero => intro t h1 h2; unfold growT at h2; omega
  | succ n ih =>
    intro t h1
    unfold growT
    split
    · exact ih (t + 1) (by omega)
    · next h => intro h2; omega
theorem takeT_reach {xs : List Int} {sp w : Int} (h : xs.all nr9 = true) (hs : 0 ≤ sp) {f e : Nat} (hf : f < xs.length) (he : e ≤ xs.length) (hw : e ≤ f + 1 ∨ wideN sp (seg xs f e) ≤ w) : e ≤ takeT xs sp w f := by
  by_cases h1 : e ≤ f + 1
  · have := (takeT_bd xs sp w f hf).1; omega
  · exact growT_reach h hs he (by omega) _ _ (by omega) (by omega) (by omega)
theorem takeT_fits (xs : List Int) (sp w : Int) (f : Nat) : takeT xs sp w f = f + 1 ∨ wideN sp (seg xs f (takeT xs sp w f)) ≤ w := growT_fits _ _
theorem takeT_full {xs : List Int} {sp w : Int} {f : Nat} (hf : f < xs.length) (h : takeT xs sp w f < xs.length) : w < wideN sp (seg xs f (takeT xs sp w f + 1)) := growT_full _ _ (by omega) h
theorem takeT_mono {xs : List Int} {sp w w' : Int} (h : xs.all nr9 = true) (hs : 0 ≤ sp) (hw : w ≤ w') {f f' : Nat} (hf : f ≤ f') (hf' : f' < xs.length) : takeT xs sp w f ≤ takeT xs sp w' f' := by
  have hb := takeT_bd xs sp w f (by omega)
  refine takeT_reach h hs hf' hb.2 ?_
  by_cases h1 : takeT xs sp w f ≤ f' + 1
  · exact .inl h1
  · right
    have := wide_anti h hs hf (show f' < takeT xs sp w f by omega) hb.2
    rcases takeT_fits xs sp w f with h2 | h2 <;> omega
/-- rows of lines, the next one from where the one ahead ends; the last one at the end. -/
def Lines (xs : List Int) (sp w : Int) : Nat → List WRun → Prop
  | f, [] => f = xs.length
  | f, r :: l => f < xs.length ∧ r = ⟨f, (takeT xs sp w f : Nat), wideN sp (seg xs f (takeT xs sp w f))⟩ ∧ Lines xs sp w (takeT xs sp w f) l
theorem allG_lines (xs : List Int) (sp w : Int) : ∀ n f, xs.length ≤ f + n → f ≤ xs.length → Lines xs sp w f (allG xs sp w n f) := by
  intro n
  induction n with
  | zero => intro f h1 h2; show f = _; omega
  | succ n ih =>
    intro f h1 h2
    show Lines xs sp w f (if _ then _ else _)
    split
    · next h =>
      have hb := takeT_bd xs sp w f h
      refine ⟨h, ?_, ih _ (by omega) hb.2⟩
      unfold takeF
      rw [if_neg (by omega)]
      simp
    · show f = _; omega
theorem all_lines (xs : List Int) (sp w : Int) : Lines xs sp w 0 (allF xs sp w) := allG_lines xs sp w _ 0 (by omega) (by omega)
theorem lines_le {xs : List Int} {sp w w' : Int} (h : xs.all nr9 = true) (hs : 0 ≤ sp) (hw : w ≤ w') : ∀ {l l' : List WRun} {f f' : Nat}, f ≤ f' → Lines xs sp w f l → Lines xs sp w' f' l' → l'.length ≤ l.length := by
  intro l l'
  induction l' generalizing l with
  | nil => intro _ _ _ _ _; exact Nat.zero_le _
  | cons r' l' ih =>
    intro f f' hf h1 h2
    cases l with
    | nil => have h1 : f = _ := h1; have := h2.1; omega
    | cons r l =>
      have := ih (takeT_mono h hs hw hf h2.1) h1.2.2 h2.2.2
      simp only [List.length_cons]
      omega
/-- one line more of another parting: lines that are taken go as far. -/
theorem lines_step {xs : List Int} {sp w : Int} (h : xs.all nr9 = true) (hs : 0 ≤ sp) {l : List WRun} {f g e : Nat} (hfg : f ≤ g) (hl : Lines xs sp w g l) (hf : f < e) (he : e ≤ xs.length) (hw : e ≤ f + 1 ∨ wideN sp (seg xs f e) ≤ w) : ∃ g', e ≤ g' ∧ Lines xs sp w g' (l.drop 1) := by
  cases l with
  | nil => have hl' : g = _ := hl; exact ⟨g, by omega, hl⟩
  | cons r l =>
    refine ⟨takeT xs sp w g, ?_, hl.2.2⟩
    have h1 := takeT_reach h hs (show f < xs.length by omega) he hw
    have h2 := takeT_mono h hs (Int.le_refl w) hfg hl.1
    omega
end Go.Proofs.Ytbbnfenlpfoaiaa
