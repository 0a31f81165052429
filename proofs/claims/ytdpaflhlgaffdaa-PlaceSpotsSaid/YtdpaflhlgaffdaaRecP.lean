/- PLAIN: spans and rectangles, as chapters 2 and 3 have them; no program in sight. -/
import Derived.Test.YtdpaflhlgaffdaaChecked
set_option linter.unusedSimpArgs false
set_option linter.unusedVariables false
namespace Go.Proofs.Ytdpaflhlgaffdaa

structure LSpan where
  a : Int
  b : Int
deriving DecidableEq
structure LRect where
  x : Int
  y : Int
  w : Int
  h : Int
deriving DecidableEq
def emS (s : LSpan) : Bool := decide (s.b ≤ s.a)
def lenS (s : LSpan) : Int := if s.b ≤ s.a then 0 else s.b - s.a
def noneR (r : LRect) : Bool := decide (r.w < 1 ∨ r.h < 1)
def acr (r : LRect) : LSpan := ⟨r.x, r.x + r.w⟩
def dwn (r : LRect) : LSpan := ⟨r.y, r.y + r.h⟩
def ofS (c d : LSpan) : LRect := if lenS c < 1 ∨ lenS d < 1 then ⟨0, 0, 0, 0⟩ else ⟨c.a, d.a, lenS c, lenS d⟩
def ofE (l r t b : Int) : LRect := if r ≤ l ∨ b ≤ t then ⟨0, 0, 0, 0⟩ else ⟨l, t, r - l, b - t⟩
def meetS (a b : LSpan) : LSpan := if a.b ≤ a.a ∨ b.b ≤ b.a ∨ min a.b b.b ≤ max a.a b.a then ⟨0, 0⟩ else ⟨max a.a b.a, min a.b b.b⟩
def hullT (o s : LSpan) : LSpan := if s.b ≤ s.a then o else if o.a = 0 ∧ o.b = 0 then s else ⟨min o.a s.a, max o.b s.b⟩
def hullS (l : List LSpan) : LSpan := l.foldl hullT ⟨0, 0⟩
def somes3 (l : List LRect) : List LRect := l.filter fun r => !noneR r
def hullR (l : List LRect) : LRect := ofS (hullS ((somes3 l).map acr)) (hullS ((somes3 l).map dwn))
def rhullT (o r : LRect) : LRect := if noneR r then o else
  let o := if noneR o then r else o
  ofE (min o.x r.x) (max (o.x + o.w) (r.x + r.w)) (min o.y r.y) (max (o.y + o.h) (r.y + r.h))
def rhullR (l : List LRect) : LRect := l.foldl rhullT ⟨0, 0, 0, 0⟩

theorem snoc_ind {α : Type} {p : List α → Prop} (h0 : p []) (h1 : ∀ l a, p l → p (l ++ [a])) (l : List α) : p l := by
  rw [← List.reverse_reverse l]
  induction l.reverse with
  | nil => exact h0
  | cons a l ih => rw [List.reverse_cons]; exact h1 _ _ ih
theorem ofE_ofS (l r t b : Int) : ofE l r t b = ofS ⟨l, r⟩ ⟨t, b⟩ := by
  unfold ofE ofS lenS
  simp only
  by_cases h1 : r ≤ l <;> by_cases h2 : b ≤ t
  · simp [h1, h2]
  · simp [h1, h2]
  · simp [h1, h2]
  · rw [if_neg (by omega), if_neg h1, if_neg h2, if_neg (by omega)]
theorem hullT_ne {o s : LSpan} (h : s.a < s.b) (h1 : o.a < o.b) : hullT o s = ⟨min o.a s.a, max o.b s.b⟩ := by
  unfold hullT
  rw [if_neg (by omega), if_neg (by omega)]
theorem hullT_first {s : LSpan} (h : s.a < s.b) : hullT ⟨0, 0⟩ s = s := by
  unfold hullT
  rw [if_neg (by omega), if_pos ⟨rfl, rfl⟩]
theorem hullS_snoc (l : List LSpan) (s : LSpan) : hullS (l ++ [s]) = hullT (hullS l) s := by simp [hullS]
theorem rhullR_snoc (l : List LRect) (r : LRect) : rhullR (l ++ [r]) = rhullT (rhullR l) r := by simp [rhullR]
theorem somes3_snoc (l : List LRect) (r : LRect) : somes3 (l ++ [r]) = if noneR r then somes3 l else somes3 l ++ [r] := by
  unfold somes3
  rw [List.filter_append]
  cases h : noneR r <;> simp [h]
/-- nothing, or both ways something. -/
def Both (a d : LSpan) : Prop := (a = ⟨0, 0⟩ ∧ d = ⟨0, 0⟩) ∨ (a.a < a.b ∧ d.a < d.b)
theorem both_snoc {a d : LSpan} (h : Both a d) {r : LRect} (hr : noneR r = false) : Both (hullT a (acr r)) (hullT d (dwn r)) := by
  simp only [noneR, decide_eq_false_iff_not, not_or, Int.not_lt] at hr
  have ha : (acr r).a < (acr r).b := by simp only [acr]; omega
  have hd : (dwn r).a < (dwn r).b := by simp only [dwn]; omega
  right
  rcases h with ⟨rfl, rfl⟩ | ⟨h1, h2⟩
  · rw [hullT_first ha, hullT_first hd]; exact ⟨ha, hd⟩
  · rw [hullT_ne ha h1, hullT_ne hd h2]
    simp only
    omega
theorem both_hull (l : List LRect) : Both (hullS ((somes3 l).map acr)) (hullS ((somes3 l).map dwn)) := by
  refine snoc_ind (p := fun l => Both (hullS ((somes3 l).map acr)) (hullS ((somes3 l).map dwn))) (Or.inl ⟨rfl, rfl⟩) (fun l r ih => ?_) l
  rw [somes3_snoc]
  cases h : noneR r
  · simp only [Bool.false_eq_true, if_false, List.map_append, List.map_cons, List.map_nil, hullS_snoc]
    exact both_snoc ih h
  · exact ih
theorem rhull_step {a d : LSpan} (h : Both a d) (r : LRect) (hr : noneR r = false) : rhullT (ofS a d) r = ofS (hullT a (acr r)) (hullT d (dwn r)) := by
  have hr' := hr
  simp only [noneR, decide_eq_false_iff_not, not_or, Int.not_lt] at hr'
  have ha : (acr r).a < (acr r).b := by simp only [acr]; omega
  have hd : (dwn r).a < (dwn r).b := by simp only [dwn]; omega
  unfold rhullT
  rw [hr]
  simp only [Bool.false_eq_true, if_false, ofE_ofS]
  rcases h with ⟨rfl, rfl⟩ | ⟨h1, h2⟩
  · have e : ofS ⟨0, 0⟩ ⟨0, 0⟩ = ⟨0, 0, 0, 0⟩ := by decide
    have e3 : noneR ⟨0, 0, 0, 0⟩ = true := by decide
    rw [e, hullT_first ha, hullT_first hd, e3]
    simp only [if_true, Int.min_self, Int.max_self]
    rfl
  · have e : ofS a d = ⟨a.a, d.a, a.b - a.a, d.b - d.a⟩ := by
      unfold ofS lenS
      rw [if_neg (show ¬ a.b ≤ a.a by omega), if_neg (show ¬ d.b ≤ d.a by omega), if_neg (by omega)]
    have e3 : noneR ⟨a.a, d.a, a.b - a.a, d.b - d.a⟩ = false := by simp only [noneR, decide_eq_false_iff_not]; omega
    rw [e, hullT_ne ha h1, hullT_ne hd h2, e3]
    simp only [Bool.false_eq_true, if_false]
    rw [show a.a + (a.b - a.a) = a.b by omega, show d.a + (d.b - d.a) = d.b by omega]
    rfl
/-- the hull one by one is that of the spans. -/
theorem rhull_eq (l : List LRect) : rhullR l = hullR l := by
  refine snoc_ind (p := fun l => rhullR l = hullR l) (by decide) (fun l r ih => ?_) l
  rw [rhullR_snoc, ih]
  unfold hullR
  rw [somes3_snoc]
  cases h : noneR r
  · simp only [Bool.false_eq_true, if_false, List.map_append, List.map_cons, List.map_nil, hullS_snoc]
    exact rhull_step (both_hull _) r h
  · unfold rhullT; rw [h]; rfl
def nearS (s : LSpan) : Prop := -2305843009213693952 ≤ s.a ∧ s.b ≤ 2305843009213693952
theorem hullS_bd (l : List LSpan) (h : ∀ s ∈ l, nearS s) : nearS (hullS l) := by
  revert h
  refine snoc_ind (p := fun l => (∀ s ∈ l, nearS s) → nearS (hullS l)) (fun _ => by simp [hullS, nearS]) (fun l s ih h => ?_) l
  rw [hullS_snoc]
  have h1 := ih (fun s hs => h s (List.mem_append_left _ hs))
  have h2 := h s (by simp)
  unfold hullT
  split
  · exact h1
  · split
    · exact h2
    · unfold nearS at *; simp only; omega

/-! slices -/
def nr3 (n : Int) : Bool := decide (-1152921504606846976 ≤ n ∧ n ≤ 1152921504606846976)
def nearR (r : LRect) : Bool := nr3 r.x && nr3 r.y && nr3 r.w && nr3 r.h
theorem nearR_iff {r : LRect} : nearR r = true ↔ (-1152921504606846976 ≤ r.x ∧ r.x ≤ 1152921504606846976) ∧ (-1152921504606846976 ≤ r.y ∧ r.y ≤ 1152921504606846976) ∧ (-1152921504606846976 ≤ r.w ∧ r.w ≤ 1152921504606846976) ∧ (-1152921504606846976 ≤ r.h ∧ r.h ≤ 1152921504606846976) := by
  simp [nearR, nr3, and_assoc]
def sliceN (r : LRect) (high : Int) : Nat := if noneR r ∨ high < 1 ∨ 32768 ≤ (r.h - 1) / high then 0 else ((r.h - 1) / high + 1).toNat
def sliceR (r : LRect) (high : Int) (i : Nat) : LRect := ⟨r.x, r.y + i * high, r.w, min high (r.h - i * high)⟩
def slicesR (r : LRect) (high : Int) : List LRect := (List.range (sliceN r high)).map (sliceR r high)
theorem sliceN_lt {r : LRect} {high : Int} (h1 : noneR r = false) (h2 : 1 ≤ high) (h3 : (r.h - 1) / high < 32768) (i : Nat) : i < sliceN r high ↔ (i : Int) * high < r.h := by
  have h1' := h1
  simp only [noneR, decide_eq_false_iff_not, not_or, Int.not_lt] at h1'
  unfold sliceN
  rw [h1, if_neg (by simp; omega)]
  have := Int.ediv_nonneg (show 0 ≤ r.h - 1 by omega) (show 0 ≤ high by omega)
  have h4 := Int.le_ediv_iff_mul_le (a := i) (b := r.h - 1) (c := high) (by omega)
  omega
theorem sliceN_le {r : LRect} {high : Int} : sliceN r high ≤ 32768 := by
  unfold sliceN
  split
  · omega
  · omega
end Go.Proofs.Ytdpaflhlgaffdaa
