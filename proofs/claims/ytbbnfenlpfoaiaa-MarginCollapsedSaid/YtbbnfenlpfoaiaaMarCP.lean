/- PLAIN: collapsed margins of chapter 13; no program in sight. -/
import Derived.Test.YtbbnfenlpfoaiaaMarP
namespace Go.Proofs.Ytbbnfenlpfoaiaa

def altSteps (xs : List Int) (k : Nat) : List Step := (List.range k).map fun (i : Nat) => ⟨1 + (i : Int) % 2, xs.getD i 0, 0⟩
def turnSteps (xs : List Int) (k : Nat) : List Step := (List.range k).map fun (i : Nat) => ⟨2 - (i : Int) % 2, xs.getD (xs.length - 1 - i) 0, 0⟩
theorem alt_succ (xs : List Int) (k : Nat) : altSteps xs (k + 1) = altSteps xs k ++ [⟨1 + (k : Int) % 2, xs.getD k 0, 0⟩] := by unfold altSteps; rw [List.range_succ, List.map_append]; rfl
theorem turn_succ (xs : List Int) (k : Nat) : turnSteps xs (k + 1) = turnSteps xs k ++ [⟨2 - (k : Int) % 2, xs.getD (xs.length - 1 - k) 0, 0⟩] := by unfold turnSteps; rw [List.range_succ, List.map_append]; rfl
theorem alt_len (xs : List Int) (k : Nat) : (altSteps xs k).length = k := by simp [altSteps]
theorem turn_len (xs : List Int) (k : Nat) : (turnSteps xs k).length = k := by simp [turnSteps]
def mostF (m : Int) (xs : List Int) : Int := xs.foldl max m
theorem most_succ (m : Int) (xs : List Int) (k : Nat) (h : k < xs.length) : mostF m (xs.take (k + 1)) = max (mostF m (xs.take k)) xs[k] := by
  unfold mostF; rw [List.take_succ_eq_append_getElem h, List.foldl_append]; rfl
theorem max_out (m a : Int) (xs : List Int) : xs.foldl max (max m a) = max (xs.foldl max m) a := by
  induction xs generalizing m with
  | nil => rfl
  | cons x xs ih => rw [List.foldl_cons, List.foldl_cons, ← ih]; congr 1; omega
theorem most_rev (m : Int) (xs : List Int) : mostF m xs.reverse = mostF m xs := by
  unfold mostF
  induction xs generalizing m with
  | nil => rfl
  | cons x xs ih =>
    rw [List.reverse_cons, List.foldl_append]
    show max (xs.reverse.foldl max m) x = xs.foldl max (max m x)
    rw [ih, max_out]
theorem step_alt (s : Pen × List Int) (x : Step) (h : x.kind = 1 ∨ x.kind = 2) (hb : x.b = 0) : stepF s x = (⟨s.1.y, max s.1.m x.a⟩, s.2) := by
  unfold stepF enterF leaveF padF widenF
  rcases h with h | h <;> simp [h, hb]
theorem run_alt (p : Pen) (at_ : List Int) (l : List Step) (h : ∀ x ∈ l, (x.kind = 1 ∨ x.kind = 2) ∧ x.b = 0) : l.foldl stepF (p, at_) = (⟨p.y, (l.map (·.a)).foldl max p.m⟩, at_) := by
  induction l generalizing p with
  | nil => rfl
  | cons x l ih =>
    have hx := h x (by simp)
    rw [List.foldl_cons, step_alt _ x hx.1 hx.2, ih _ (fun y hy => h y (by simp [hy]))]
    rfl
theorem alt_a (xs : List Int) : (altSteps xs xs.length).map (·.a) = xs := by
  apply List.ext_getElem (by simp [altSteps])
  intro i h1 h2
  simp [altSteps, List.getD_eq_getElem?_getD, h2]
theorem turn_a (xs : List Int) : (turnSteps xs xs.length).map (·.a) = xs.reverse := by
  apply List.ext_getElem (by simp [turnSteps])
  intro i h1 h2
  have h3 : i < xs.length := by simpa using h2
  have h4 : xs.length - 1 - i < xs.length := by omega
  simp [turnSteps, List.getD_eq_getElem?_getD, List.getElem_reverse, List.getElem?_eq_getElem h4]
theorem alt_kinds (xs : List Int) (k : Nat) : ∀ x ∈ altSteps xs k, (x.kind = 1 ∨ x.kind = 2) ∧ x.b = 0 := by
  intro x hx
  obtain ⟨i, -, rfl⟩ := List.mem_map.1 hx
  dsimp only
  omega
theorem turn_kinds (xs : List Int) (k : Nat) : ∀ x ∈ turnSteps xs k, (x.kind = 1 ∨ x.kind = 2) ∧ x.b = 0 := by
  intro x hx
  obtain ⟨i, -, rfl⟩ := List.mem_map.1 hx
  dsimp only
  omega
theorem put_end (p : Pen) (at_ : List Int) (high : Int) : stepF (p, at_) ⟨4, high, 0⟩ = (⟨p.y + p.m + high, 0⟩, at_ ++ [p.y + p.m]) := by
  simp [stepF]
theorem run_collapsed (p : Pen) (xs : List Int) (high : Int) : runF p (altSteps xs xs.length ++ [⟨4, high, 0⟩]) = (⟨p.y + mostF p.m xs + high, 0⟩, [p.y + mostF p.m xs]) := by
  unfold runF
  rw [List.foldl_append, run_alt _ _ _ (alt_kinds xs _), alt_a]
  exact put_end _ _ _
theorem run_turned (p : Pen) (xs : List Int) (high : Int) : runF p (turnSteps xs xs.length ++ [⟨4, high, 0⟩]) = (⟨p.y + mostF p.m xs + high, 0⟩, [p.y + mostF p.m xs]) := by
  unfold runF
  rw [List.foldl_append, run_alt _ _ _ (turn_kinds xs _), turn_a, ← most_rev p.m xs]
  exact put_end _ _ _
theorem getD_near {xs : List Int} (h : nearF xs = true) (k : Nat) : nr (xs.getD k 0) = true := by
  rw [nr_iff, List.getD_eq_getElem?_getD]
  by_cases hk : k < xs.length
  · have := nearF_at xs h k hk
    rw [List.getElem?_eq_getElem hk]
    exact this
  · rw [List.getElem?_eq_none (by omega)]
    exact (nr_iff.1 (by decide : nr 0 = true))
theorem nearS_alt {xs : List Int} {high : Int} (h : nearF xs = true) (hh : nr high = true) (k : Nat) : nearS (altSteps xs k ++ [⟨4, high, 0⟩]) = true := by
  unfold nearS
  rw [List.all_append, Bool.and_eq_true]
  refine ⟨?_, ?_⟩
  · rw [List.all_eq_true]
    intro x hx
    obtain ⟨i, -, rfl⟩ := List.mem_map.1 hx
    exact nearF2_mk (nr_iff.1 (getD_near h i)) (nr_iff.1 (by decide : nr 0 = true))
  · simp only [List.all_cons, List.all_nil, Bool.and_true]
    exact nearF2_mk (nr_iff.1 hh) (by decide)
theorem nearS_turn {xs : List Int} {high : Int} (h : nearF xs = true) (hh : nr high = true) (k : Nat) : nearS (turnSteps xs k ++ [⟨4, high, 0⟩]) = true := by
  unfold nearS
  rw [List.all_append, Bool.and_eq_true]
  refine ⟨?_, ?_⟩
  · rw [List.all_eq_true]
    intro x hx
    obtain ⟨i, -, rfl⟩ := List.mem_map.1 hx
    exact nearF2_mk (nr_iff.1 (getD_near h _)) (nr_iff.1 (by decide : nr 0 = true))
  · simp only [List.all_cons, List.all_nil, Bool.and_true]
    exact nearF2_mk (nr_iff.1 hh) (by decide)
theorem most_near {m : Int} {xs : List Int} (hm : nr m = true) (h : nearF xs = true) : nr (mostF m xs) = true := by
  unfold mostF
  induction xs generalizing m with
  | nil => exact hm
  | cons x xs ih =>
    unfold nearF at h ih
    rw [List.all_cons, Bool.and_eq_true] at h
    rw [List.foldl_cons]
    refine ih ?_ h.2
    rw [nr_iff] at hm ⊢
    have := nr_iff.1 h.1
    omega
theorem near3 {a b c : Int} : nearF [a, b, c] = (nr a && (nr b && nr c)) := by simp [nearF]
end Go.Proofs.Ytbbnfenlpfoaiaa
