/- PLAIN: lengths within their limits, as chapter 1 has them; no program in sight. -/
import Derived.Test.YtbbnfenlpfoaiaaChecked
namespace Go.Proofs.Ytbbnfenlpfoaiaa

def clampF (n : Int) : Int := if n < -1099511627776 then -1099511627776 else if 1099511627776 < n then 1099511627776 else n
def mayF (n : Int) : Bool := decide (1 ≤ n ∧ n ≤ 1099511627776)
def addF (l : List Int) : Int := l.foldl (fun s n => clampF (s + clampF n)) 0
def mulF (a n : Int) : Int := clampF (clampF a * clampF n)
def partsF (a b : Int) : Int := if clampF a < 0 ∨ clampF b < 1 then 0 else (clampF a + clampF b - 1) / clampF b
def partsB (a b : Int) : Bool := decide (0 ≤ clampF a ∧ 1 ≤ clampF b)
def bestF (lt : Int → Int → Bool) : List Int → Int
  | [] => 0
  | x :: l => l.foldl (fun out y => if lt y out then y else out) x
def ltF (a b : Int) : Bool := decide (a < b)
def gtF (a b : Int) : Bool := decide (b < a)

theorem clampF_bd (n : Int) : -1099511627776 ≤ clampF n ∧ clampF n ≤ 1099511627776 := by unfold clampF; split <;> (try split) <;> omega
theorem clampF_id {n : Int} (h1 : -1099511627776 ≤ n) (h2 : n ≤ 1099511627776) : clampF n = n := by unfold clampF; split <;> (try split) <;> omega
theorem clampF_hi {n : Int} (h : 1099511627776 ≤ n) : clampF n = 1099511627776 := by unfold clampF; split <;> (try split) <;> omega
theorem clampF_lo {n : Int} (h : n ≤ -1099511627776) : clampF n = -1099511627776 := by unfold clampF; split <;> (try split) <;> omega
theorem clampF_neg (n : Int) : clampF (-n) = -clampF n := by unfold clampF; split <;> (try split) <;> (try split) <;> (try split) <;> omega
theorem clampF_clampF (n : Int) : clampF (clampF n) = clampF n := clampF_id (clampF_bd n).1 (clampF_bd n).2
theorem clampF_nn {n : Int} (h : 0 ≤ n) : 0 ≤ clampF n := by unfold clampF; split <;> (try split) <;> omega
theorem clampF_mono {a b : Int} (h : a ≤ b) : clampF a ≤ clampF b := by unfold clampF; split <;> (try split) <;> (try split) <;> (try split) <;> omega
theorem clampF_step (x y q : Int) (hx : 0 ≤ x) (hy : 0 ≤ y) (hq : 0 ≤ q) : clampF (clampF x + clampF y * q) = clampF (x + y * q) := by
  have hyq : 0 ≤ y * q := Int.mul_nonneg hy hq
  by_cases h1 : x ≤ 1099511627776
  · rw [clampF_id (n := x) (by omega) h1]
    by_cases h2 : y ≤ 1099511627776
    · rw [clampF_id (n := y) (by omega) h2]
    · rw [clampF_hi (n := y) (by omega)]
      by_cases h3 : q = 0
      · subst h3; simp
      · have e1 : y ≤ y * q := by
          have : y * 1 ≤ y * q := Int.mul_le_mul_of_nonneg_left (by omega) hy
          omega
        rw [clampF_hi (n := x + y * q) (by omega), clampF_hi (by omega)]
  · have h2 : 0 ≤ clampF y * q := Int.mul_nonneg (clampF_nn hy) hq
    rw [clampF_hi (n := x) (by omega), clampF_hi (by omega), clampF_hi (by omega)]

theorem addF_bd (l : List Int) : -1099511627776 ≤ addF l ∧ addF l ≤ 1099511627776 := by
  unfold addF
  rcases List.eq_nil_or_concat l with rfl | ⟨l', x, rfl⟩
  · simp
  · rw [List.concat_eq_append, List.foldl_append]; exact clampF_bd _
theorem addF_take (xs : List Int) (k : Nat) (h : k < xs.length) : addF (xs.take (k + 1)) = clampF (addF (xs.take k) + clampF xs[k]) := by
  unfold addF; rw [List.take_succ_eq_append_getElem h, List.foldl_append]; rfl
theorem bestF_take (lt : Int → Int → Bool) (xs : List Int) (k : Nat) (h : k < xs.length) (h0 : 0 < k) :
    bestF lt (xs.take (k + 1)) = if lt xs[k] (bestF lt (xs.take k)) then xs[k] else bestF lt (xs.take k) := by
  rw [List.take_succ_eq_append_getElem h]
  match xs, h with
  | x :: l, h =>
    match k, h0 with
    | k + 1, _ =>
      simp only [List.take_succ_cons, List.cons_append, bestF, List.foldl_append, List.foldl_cons, List.foldl_nil]
      rfl
theorem bestF_take0 (lt : Int → Int → Bool) (xs : List Int) (h : 0 < xs.length) : bestF lt (xs.take (0 + 1)) = xs[0] := by
  match xs, h with
  | x :: l, _ => rfl

theorem mul_over {a n : Int} (hn : n ≠ 0) : (1099511627776 / max n (-n) < a) ↔ 1099511627776 < a * max n (-n) := by
  have hm : 0 < max n (-n) := by omega
  generalize max n (-n) = m at *
  rw [Int.ediv_lt_iff_lt_mul hm]
theorem mul_under {a n : Int} (hn : n ≠ 0) : (a < -(1099511627776 / max n (-n))) ↔ 1099511627776 < (-a) * max n (-n) := by
  have := mul_over (a := -a) hn
  omega
theorem mulF_comm (a b : Int) : mulF a b = mulF b a := by unfold mulF; rw [Int.mul_comm]
end Go.Proofs.Ytbbnfenlpfoaiaa
