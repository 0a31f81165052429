/- PLAIN: pens and steps, as chapter 13 has them; no program in sight. -/
import Derived.Test.YtbbnfenlpfoaiaaChecked
namespace Go.Proofs.Ytbbnfenlpfoaiaa

structure Pen where
  y : Int
  m : Int
structure Step where
  kind : Int
  a : Int
  b : Int

def padF (p : Pen) (n : Int) : Pen := if 0 < n then ⟨p.y + p.m + n, 0⟩ else p
def widenF (p : Pen) (margin : Int) : Pen := ⟨p.y, max p.m margin⟩
def enterF (p : Pen) (margin n : Int) : Pen := padF (widenF p margin) n
def leaveF (p : Pen) (margin n : Int) : Pen := widenF (padF p n) margin
def clearF (p : Pen) (low : Int) : Pen := if p.y + p.m < low then ⟨low, 0⟩ else p
def stepF (s : Pen × List Int) (x : Step) : Pen × List Int :=
  if x.kind = 1 then (enterF s.1 x.a x.b, s.2)
  else if x.kind = 2 then (leaveF s.1 x.a x.b, s.2)
  else if x.kind = 3 then (clearF s.1 x.a, s.2)
  else if x.kind = 4 then (⟨s.1.y + s.1.m + x.a, 0⟩, s.2 ++ [s.1.y + s.1.m])
  else s
def runF (p : Pen) (l : List Step) : Pen × List Int := l.foldl stepF (p, [])
theorem runF_take (p : Pen) (l : List Step) (k : Nat) (h : k < l.length) : runF p (l.take (k + 1)) = stepF (runF p (l.take k)) l[k] := by
  unfold runF; rw [List.take_succ_eq_append_getElem h, List.foldl_append]; rfl

/-- near: from -2^50 to 2^50. -/
def nr (x : Int) : Bool := decide (-1125899906842624 ≤ x ∧ x ≤ 1125899906842624)
theorem nr_iff {x : Int} : nr x = true ↔ -1125899906842624 ≤ x ∧ x ≤ 1125899906842624 := by simp [nr]
def nearF (xs : List Int) : Bool := xs.all nr
theorem nearF_take (xs : List Int) (k : Nat) (h : k < xs.length) : nearF (xs.take (k+1)) = (nearF (xs.take k) && nr xs[k]) := by
  unfold nearF; rw [List.take_succ_eq_append_getElem h, List.all_append]; simp only [List.all_cons, List.all_nil, Bool.and_true]
theorem nearF_no (xs : List Int) (k : Nat) (h : k < xs.length) (hn : nr xs[k] = false) : nearF xs = false := by
  unfold nearF; rw [List.all_eq_false]; exact ⟨_, List.getElem_mem h, by simp [hn]⟩
theorem nearF_at (xs : List Int) (h : nearF xs = true) (k : Nat) (hk : k < xs.length) : -1125899906842624 ≤ xs[k] ∧ xs[k] ≤ 1125899906842624 := by
  unfold nearF at h; rw [List.all_eq_true] at h; exact nr_iff.1 (h _ (List.getElem_mem hk))

def nearS (l : List Step) : Bool := l.all fun x => nearF [x.a, x.b]
theorem nearS_take (xs : List Step) (k : Nat) (h : k < xs.length) : nearS (xs.take (k+1)) = (nearS (xs.take k) && nearF [xs[k].a, xs[k].b]) := by
  unfold nearS; rw [List.take_succ_eq_append_getElem h, List.all_append]; simp only [List.all_cons, List.all_nil, Bool.and_true]
theorem nearS_no (xs : List Step) (k : Nat) (h : k < xs.length) (hn : nearF [xs[k].a, xs[k].b] = false) : nearS xs = false := by
  unfold nearS; rw [List.all_eq_false]; exact ⟨_, List.getElem_mem h, by simp [hn]⟩
theorem nearF2 {a b : Int} (h : nearF [a, b] = true) : (-1125899906842624 ≤ a ∧ a ≤ 1125899906842624) ∧ (-1125899906842624 ≤ b ∧ b ≤ 1125899906842624) := by
  simp [nearF, nr] at h; omega
theorem nearF2_mk {a b : Int} (h1 : -1125899906842624 ≤ a ∧ a ≤ 1125899906842624) (h2 : -1125899906842624 ≤ b ∧ b ≤ 1125899906842624) : nearF [a, b] = true := by
  simp [nearF, nr]; omega
theorem nearS_at (xs : List Step) (h : nearS xs = true) (k : Nat) (hk : k < xs.length) : nearF [xs[k].a, xs[k].b] = true := by
  unfold nearS at h; rw [List.all_eq_true] at h; exact h _ (List.getElem_mem hk)

/-- how far a pen may have gone behind k steps. -/
def Far (k : Nat) (p : Pen) : Prop := -(1125899906842624 * (3 * (k : Int) + 1)) ≤ p.y ∧ p.y ≤ 1125899906842624 * (3 * (k : Int) + 1) ∧ -1125899906842624 ≤ p.m ∧ p.m ≤ 1125899906842624
theorem far_step {k : Nat} {s : Pen × List Int} {x : Step} (h : Far k s.1) (hx : nearF [x.a, x.b] = true) : Far (k + 1) (stepF s x).1 := by
  have hx := nearF2 hx
  obtain ⟨h1, h2, h3, h4⟩ := h
  unfold Far stepF enterF leaveF padF widenF clearF at *
  have e : ((k + 1 : Nat) : Int) = (k : Int) + 1 := by omega
  rw [e]
  (repeat' split) <;> (try dsimp only at *) <;> omega
theorem far_run (p : Pen) (l : List Step) (hp : nearF [p.y, p.m] = true) (hl : nearS l = true) : ∀ k, k ≤ l.length → Far k (runF p (l.take k)).1 := by
  intro k
  induction k with
  | zero =>
    intro _
    have := nearF2 hp
    unfold Far runF
    simp only [List.take_zero, List.foldl_nil]
    omega
  | succ k ih =>
    intro hk
    rw [runF_take p l k (by omega)]
    exact far_step (ih (by omega)) (nearS_at l hl k (by omega))
theorem len_run (p : Pen) (l : List Step) : ∀ k, k ≤ l.length → (runF p (l.take k)).2.length ≤ k := by
  intro k
  induction k with
  | zero => intro _; simp [runF]
  | succ k ih =>
    intro hk
    rw [runF_take p l k (by omega)]
    have := ih (by omega)
    unfold stepF
    (repeat' split) <;> simp <;> omega
end Go.Proofs.Ytbbnfenlpfoaiaa
