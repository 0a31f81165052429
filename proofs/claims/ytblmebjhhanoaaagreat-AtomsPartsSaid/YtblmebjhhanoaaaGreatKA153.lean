/- CONTRACTS of the functions, and plain laws, joined out of: GAtoA GAtmB GParA GFloE GFloF GFloG GFloH G17 GChkF GChkG GFloW GScrD GScrE GScrF GFloX GTreT GParB. -/
import Derived.Test.YtblmebjhhanoaaaGreatKA152
/- CHAPTER 15: atoms: what they are asked; which a node holds. -/
/- G -/
/- BOOLS -/
/- GET ex_atA ex_atA' -/
set_option linter.unusedSimpArgs false
set_option linter.unusedVariables false
namespace Go.Proofs.YtblmebjhhanoaaaGreat
open Go.RowKit

theorem half_eq {z : Int} (h : 0 ≤ z) (h2 : z ≤ 4611686018427387904) : IntKind.wrap .i64 ((IntKind.wrap .u64 z).fdiv (2 ^ min (Int.toNat 1) 64)) = z / 2 := by
  have e1 : IntKind.wrap .u64 z = z := by
    have hb : IntKind.u64.bits = 64 := rfl
    simp [IntKind.wrap, hb, IntKind.signed]
    omega
  rw [e1]
  have e2 : (2 : Int) ^ min (Int.toNat 1) 64 = 2 := by decide
  rw [e2, Int.fdiv_eq_ediv_of_nonneg _ (by omega)]
  exact IntWalk.i64_in _ (by omega)
/-- the first place that is so; n: there is none. -/
def firstF (pr : Nat → Bool) : Nat → Nat → Nat
  | 0, k => k
  | n + 1, k => if pr k then k else firstF pr n (k + 1)
def firstP (pr : Nat → Bool) (n : Nat) : Nat := firstF pr n 0
theorem firstF_eq {pr : Nat → Bool} {r : Nat} : ∀ (n k : Nat), k ≤ r → r ≤ k + n → (∀ j, k ≤ j → j < r → pr j = false) → (r < k + n → pr r = true) → firstF pr n k = r
  | 0, k, h1, h2, _, _ => by show k = r; omega
  | n + 1, k, h1, h2, h3, h4 => by
    show (if pr k then k else firstF pr n (k + 1)) = r
    rcases Nat.eq_or_lt_of_le h1 with h | h
    · subst h; rw [if_pos (h4 (by omega))]
    · rw [if_neg (by rw [h3 k (Nat.le_refl _) h]; decide)]
      exact firstF_eq n (k + 1) h (by omega) (fun j hj => h3 j (by omega)) (fun h5 => h4 (by omega))
theorem firstP_eq {pr : Nat → Bool} {n r : Nat} (h2 : r ≤ n) (h3 : ∀ j, j < r → pr j = false) (h4 : r < n → pr r = true) : firstP pr n = r := firstF_eq n 0 (Nat.zero_le _) (by omega) (fun j _ => h3 j) (fun h => h4 (by omega))
/-- a search under way: ahead of i none is so, from j on all are. -/
structure SrX where
  i : Nat
  j : Nat
def SrInv (pr : Nat → Bool) (n : Nat) (z : SrX) : Prop := z.i ≤ z.j ∧ z.j ≤ n ∧ (∀ k, k < z.i → pr k = false) ∧ (∀ k, z.j ≤ k → k < n → pr k = true)
theorem sr_first (pr : Nat → Bool) (n : Nat) : SrInv pr n ⟨0, n⟩ := ⟨Nat.zero_le _, Nat.le_refl _, (fun k h => absurd h (Nat.not_lt_zero k)), (fun k h1 h2 => absurd h2 (Nat.not_lt.2 h1))⟩
theorem sr_no {pr : Nat → Bool} {n i j h : Nat} (hm : ∀ a b, a ≤ b → b < n → pr a = true → pr b = true) (hi : SrInv pr n ⟨i, j⟩) (h1 : h < j) (e : pr h = false) : SrInv pr n ⟨h + 1, j⟩ := by
  obtain ⟨a, b, c, d⟩ := hi
  simp only at a b c d
  refine ⟨h1, b, fun k hk => ?_, d⟩
  simp only at hk
  cases hp : pr k with
  | false => rfl
  | true => rw [hm k h (by omega) (by omega) hp] at e; cases e
theorem sr_yes {pr : Nat → Bool} {n i j h : Nat} (hm : ∀ a b, a ≤ b → b < n → pr a = true → pr b = true) (hi : SrInv pr n ⟨i, j⟩) (h1 : i ≤ h ∧ h < j) (e : pr h = true) : SrInv pr n ⟨i, h⟩ := by
  obtain ⟨a, b, c, d⟩ := hi
  simp only at a b c d
  exact ⟨h1.1, by simp only; omega, c, fun k hk hn => hm h k hk hn e⟩
theorem sr_last {pr : Nat → Bool} {n i j : Nat} (hi : SrInv pr n ⟨i, j⟩) (h : ¬ (i : Int) < j) : firstP pr n = i := by
  obtain ⟨a, b, c, d⟩ := hi
  simp only at a b c d
  exact firstP_eq (by omega) c (fun hn => d i (by omega) hn)

theorem firstF_spec (pr : Nat → Bool) : ∀ n k, k ≤ firstF pr n k ∧ firstF pr n k ≤ k + n ∧ (∀ j, k ≤ j → j < firstF pr n k → pr j = false) ∧ (firstF pr n k < k + n → pr (firstF pr n k) = true)
  | 0, k => ⟨Nat.le_refl _, Nat.le_refl _, fun j h1 h2 => absurd h2 (Nat.not_lt.2 h1), fun h => absurd h (Nat.lt_irrefl _)⟩
  | n + 1, k => by
    rw [firstF]
    split
    · next h => exact ⟨Nat.le_refl _, by omega, fun j h1 h2 => by omega, fun _ => h⟩
    · next h =>
      obtain ⟨a, b, c, d⟩ := firstF_spec pr n (k + 1)
      refine ⟨by omega, by omega, fun j h1 h2 => ?_, fun q => d (by omega)⟩
      by_cases e : j = k
      · subst e; simpa using h
      · exact c j (by omega) h2
def geA (l : List LAt) (v : Int) (k : Nat) : Bool := decide (v ≤ (atA l k).node)
/-- the place of the first whose node is not below one. -/
def loA (l : List LAt) (v : Int) : Nat := firstP (geA l v) l.length
def MonoA (l : List LAt) : Prop := ∀ i j : Nat, i ≤ j → j < l.length → (atA l i).node ≤ (atA l j).node
theorem geA_mono {l : List LAt} {v : Int} (hm : MonoA l) : ∀ a b, a ≤ b → b < l.length → geA l v a = true → geA l v b = true := fun a b h1 h2 h3 => by
  have := hm a b h1 h2
  simp only [geA, decide_eq_true_eq] at h3 ⊢
  omega
theorem loA_le (l : List LAt) (v : Int) : loA l v ≤ l.length := by
  have := (firstF_spec (geA l v) l.length 0).2.1
  unfold loA firstP
  omega
theorem loA_iff {l : List LAt} {v : Int} (hm : MonoA l) {k : Nat} (hk : k < l.length) : k < loA l v ↔ (atA l k).node < v := by
  obtain ⟨-, h2, h3, h4⟩ := firstF_spec (geA l v) l.length 0
  constructor
  · intro h
    have := h3 k (Nat.zero_le _) h
    simp only [geA, decide_eq_false_iff_not] at this
    omega
  · intro h
    refine Nat.lt_of_not_le fun q => ?_
    have q : firstF (geA l v) l.length 0 ≤ k := q
    have h5 := h4 (by omega)
    have h6 := geA_mono hm _ _ q hk h5
    simp only [geA, decide_eq_true_eq] at h6
    omega
theorem near_mono {l : List LAt} (h : Near15 l) : MonoA l := by
  intro i j hij hj
  induction j with
  | zero => obtain rfl : i = 0 := by omega
            exact Int.le_refl _
  | succ j ih =>
    by_cases e : i = j + 1
    · subst e; exact Int.le_refl _
    · have h1 := ih (by omega) (by omega)
      have h2 := (h ((j + 1 : Nat) : Int) (by omega) (by omega)).2 (by omega)
      have e2 : ((j + 1 : Nat) : Int) - 1 = j := by omega
      rw [e2] at h2
      omega
def botA (l : List LAt) (k : Int) : Int := if 0 ≤ k ∧ k < l.length then (atA l k).y + (atA l k).h else 0
def gapA (l : List LAt) (k : Int) : Int := if 0 ≤ k ∧ k < l.length then (atA l k).y - botA l (k - 1) else 0
def ofsA (l : List LAt) (i k : Int) : Int := if (0 ≤ i ∧ i < l.length) ∧ 0 ≤ k ∧ k < l.length then (atA l k).y - (atA l i).y else 0
def higA (l : List LAt) (i k : Int) : Int := if (0 ≤ i ∧ i < l.length) ∧ i < k ∧ k ≤ l.length then (atA l (k - 1)).y + (atA l (k - 1)).h - (atA l i).y else 0
structure WiA where
  a : Nat
  b : Nat
def witA (l : List LAt) (u v : Int) : WiA := if loA l u < loA l v then ⟨loA l u, loA l v⟩ else ⟨0, 0⟩
def winA (ns : List LNo) (l : List LAt) (n : Int) : WiA := if 0 ≤ n ∧ n < ns.length then witA l n (n + (ndN ns n.toNat).size) else ⟨0, 0⟩
theorem witA_le (l : List LAt) (u v : Int) : (witA l u v).a ≤ l.length ∧ (witA l u v).b ≤ l.length := by
  have h1 := loA_le l u
  have h2 := loA_le l v
  unfold witA
  split
  · exact ⟨h1, h2⟩
  · exact ⟨Nat.zero_le _, Nat.zero_le _⟩
theorem winA_le (ns : List LNo) (l : List LAt) (n : Int) : (winA ns l n).a ≤ l.length ∧ (winA ns l n).b ≤ l.length := by
  unfold winA
  split
  · exact witA_le l _ _
  · exact ⟨Nat.zero_le _, Nat.zero_le _⟩
def aWi (z : WiA) : AV := .tup [.raw (.int .i64 z.a), .raw (.int .i64 z.b)]
attribute [go_sem] aWi
abbrev wiO (l : List LAt) (v : Int) : List (Nat × AO) := [(1, .cells 25 [.sl 8 (l.map cAt)]), (2, .cells 3 [.raw (.int .i64 v)])]
set_option maxRecDepth 100000 in
theorem hasAt_ok (l : List LAt) (k : Int) : FnOk Tryz.prog 82 [.sl 8 (l.map cAt), .raw (.int .i64 k)] [] (.raw (.bool (decide (0 ≤ k ∧ k < l.length)))) [] := by
  refine fn_of_awp Tryz.func82 rfl (by kernel_rfl) (by kernel_rfl) (Nat.le_of_ble_eq_true rfl) Tryz.results82 ?_
  simp only [go_sem, Bool.not_eq_true', Bool.not_eq_false', List.length_map]
  repeat' first | contradiction | intro _ | refine And.intro ?_ ?_ | refine ex_atA (by omega) ?_ | refine ex_atA' (by omega) ?_ | refine ex_get (by omega) ?_ | (show drawB _ _ = true; kernel_rfl) | (refine ret2 [] (by simp only [go_sem, Bool.not_eq_true', Bool.not_eq_false']; rfl) ?_; simp only [go_sem, Bool.not_eq_true', Bool.not_eq_false'])
  all_goals first
    | omega
    | (simp; done)
    | (simp; omega)
set_option maxRecDepth 100000 in
theorem hasNo_ok (l : List LNo) (k : Int) : FnOk Tryz.prog 52 [.sl 20 (l.map cNo), .raw (.int .i64 k)] [] (.raw (.bool (decide (0 ≤ k ∧ k < l.length)))) [] := by
  refine fn_of_awp Tryz.func52 rfl (by kernel_rfl) (by kernel_rfl) (Nat.le_of_ble_eq_true rfl) Tryz.results52 ?_
  simp only [go_sem, Bool.not_eq_true', Bool.not_eq_false', List.length_map]
  repeat' first | contradiction | intro _ | refine And.intro ?_ ?_ | refine ex_atA (by omega) ?_ | refine ex_atA' (by omega) ?_ | refine ex_get (by omega) ?_ | (show drawB _ _ = true; kernel_rfl) | (refine ret2 [] (by simp only [go_sem, Bool.not_eq_true', Bool.not_eq_false']; rfl) ?_; simp only [go_sem, Bool.not_eq_true', Bool.not_eq_false'])
  all_goals first
    | omega
    | (simp; done)
    | (simp; omega)
set_option maxRecDepth 100000 in
theorem abot_ok (a : LAt) (h : -4611686018427387904 ≤ a.y + a.h ∧ a.y + a.h ≤ 4611686018427387904) : FnOk Tryz.prog 83 [aAt a] [] (.raw (.int .i64 (a.y + a.h))) [] := by
  refine fn_of_awp Tryz.func83 rfl (by kernel_rfl) (by kernel_rfl) (Nat.le_of_ble_eq_true rfl) Tryz.results83 ?_
  simp only [go_sem, Bool.not_eq_true', Bool.not_eq_false']
  repeat' first | contradiction | intro _ | refine And.intro ?_ ?_ | refine ex_atA (by omega) ?_ | refine ex_atA' (by omega) ?_ | refine ex_get (by omega) ?_ | (show drawB _ _ = true; kernel_rfl) | (refine ret2 [] (by simp only [go_sem, Bool.not_eq_true', Bool.not_eq_false']; rfl) ?_; simp only [go_sem, Bool.not_eq_true', Bool.not_eq_false'])
  all_goals omega
/-- numbers that may be added. -/
def SmA (l : List LAt) : Prop := ∀ q : Int, 0 ≤ q → q < l.length → (-1125899906842624 ≤ (atA l q).y ∧ (atA l q).y ≤ 1125899906842624) ∧ (-1125899906842624 ≤ (atA l q).h ∧ (atA l q).h ≤ 1125899906842624)
theorem near_sm {l : List LAt} (h : Near15 l) : SmA l := fun q h1 h2 => by
  have := (h q h1 h2).1
  omega
theorem botA_bd {l : List LAt} (h : SmA l) (k : Int) : -2251799813685248 ≤ botA l k ∧ botA l k ≤ 2251799813685248 := by
  unfold botA
  split
  · have := h k (by omega) (by omega); omega
  · omega
set_option maxRecDepth 100000 in
theorem bota_ok (l : List LAt) (k : Int) (h : SmA l) : FnOk Tryz.prog 46 [.sl 8 (l.map cAt), .raw (.int .i64 k)] [] (.raw (.int .i64 (botA l k))) [] := by
  refine fn_of_awp Tryz.func46 rfl (by kernel_rfl) (by kernel_rfl) (Nat.le_of_ble_eq_true rfl) Tryz.results46 ?_
  simp only [go_sem, Bool.not_eq_true', Bool.not_eq_false']
  (refine acall2 [] (hasAt_ok l k) (by simp only [go_sem, Bool.not_eq_true', Bool.not_eq_false']; rfl) (fit_of (by simp only [go_sem, Bool.not_eq_true', Bool.not_eq_false']) (by simp only [go_sem, Bool.not_eq_true', Bool.not_eq_false']) (by simp only [go_sem, Bool.not_eq_true', Bool.not_eq_false']) (by simp only [go_sem, Bool.not_eq_true', Bool.not_eq_false']) (by simp only [go_sem, Bool.not_eq_true', Bool.not_eq_false']) (by simp only [go_sem, Bool.not_eq_true', Bool.not_eq_false']) (by simp only [go_sem, Bool.not_eq_true', Bool.not_eq_false'])) ?_; simp only [go_sem, Bool.not_eq_true', Bool.not_eq_false'])
  by_cases q : 0 ≤ k ∧ k < l.length
  · have e : botA l k = (atA l k).y + (atA l k).h := if_pos q
    have hb := h k q.1 q.2
    rw [e]
    refine ⟨fun w => absurd q w, fun _ => ?_⟩
    repeat' first | contradiction | intro _ | refine And.intro ?_ ?_ | refine ex_atA (by omega) ?_ | refine ex_atA' (by omega) ?_ | refine ex_get (by omega) ?_ | (show drawB _ _ = true; kernel_rfl) | (refine ret2 [] (by simp only [go_sem, Bool.not_eq_true', Bool.not_eq_false', List.length_map]; rfl) ?_; simp only [go_sem, Bool.not_eq_true', Bool.not_eq_false', List.length_map]) | (refine acall2 [] (abot_ok (atA l k) (by omega)) (by simp only [go_sem, Bool.not_eq_true', Bool.not_eq_false']; rfl) (fit_of (by simp only [go_sem, Bool.not_eq_true', Bool.not_eq_false']) (by simp only [go_sem, Bool.not_eq_true', Bool.not_eq_false']) (by simp only [go_sem, Bool.not_eq_true', Bool.not_eq_false']) (by simp only [go_sem, Bool.not_eq_true', Bool.not_eq_false']) (by simp only [go_sem, Bool.not_eq_true', Bool.not_eq_false']) (by simp only [go_sem, Bool.not_eq_true', Bool.not_eq_false']) (by simp only [go_sem, Bool.not_eq_true', Bool.not_eq_false'])) ?_; simp only [go_sem, Bool.not_eq_true', Bool.not_eq_false', List.length_map])
    all_goals omega
  · have e : botA l k = 0 := if_neg q
    rw [e]
    exact ⟨fun _ => rfl, fun w => absurd w q⟩
set_option maxRecDepth 100000 in
theorem gapa_ok (l : List LAt) (k : Int) (h : SmA l) (hl : l.length ≤ 4000) : FnOk Tryz.prog 47 [.sl 8 (l.map cAt), .raw (.int .i64 k)] [] (.raw (.int .i64 (gapA l k))) [] := by
  have hbb := botA_bd h (k - 1)
  refine fn_of_awp Tryz.func47 rfl (by kernel_rfl) (by kernel_rfl) (Nat.le_of_ble_eq_true rfl) Tryz.results47 ?_
  simp only [go_sem, Bool.not_eq_true', Bool.not_eq_false']
  (refine acall2 [] (hasAt_ok l k) (by simp only [go_sem, Bool.not_eq_true', Bool.not_eq_false']; rfl) (fit_of (by simp only [go_sem, Bool.not_eq_true', Bool.not_eq_false']) (by simp only [go_sem, Bool.not_eq_true', Bool.not_eq_false']) (by simp only [go_sem, Bool.not_eq_true', Bool.not_eq_false']) (by simp only [go_sem, Bool.not_eq_true', Bool.not_eq_false']) (by simp only [go_sem, Bool.not_eq_true', Bool.not_eq_false']) (by simp only [go_sem, Bool.not_eq_true', Bool.not_eq_false']) (by simp only [go_sem, Bool.not_eq_true', Bool.not_eq_false'])) ?_; simp only [go_sem, Bool.not_eq_true', Bool.not_eq_false'])
  by_cases q : 0 ≤ k ∧ k < l.length
  · have e : gapA l k = (atA l k).y - botA l (k - 1) := if_pos q
    have hb := h k q.1 q.2
    rw [e]
    refine ⟨fun w => absurd q w, fun _ => ?_⟩
    repeat' first | contradiction | intro _ | refine And.intro ?_ ?_ | refine ex_atA (by omega) ?_ | refine ex_atA' (by omega) ?_ | refine ex_get (by omega) ?_ | (show drawB _ _ = true; kernel_rfl) | (refine ret2 [] (by simp only [go_sem, Bool.not_eq_true', Bool.not_eq_false', List.length_map]; rfl) ?_; simp only [go_sem, Bool.not_eq_true', Bool.not_eq_false', List.length_map]) | (refine acall2 [] (bota_ok l (k - 1) h) (by simp only [go_sem, Bool.not_eq_true', Bool.not_eq_false']; rfl) (fit_of (by simp only [go_sem, Bool.not_eq_true', Bool.not_eq_false']) (by simp only [go_sem, Bool.not_eq_true', Bool.not_eq_false']) (by simp only [go_sem, Bool.not_eq_true', Bool.not_eq_false']) (by simp only [go_sem, Bool.not_eq_true', Bool.not_eq_false']) (by simp only [go_sem, Bool.not_eq_true', Bool.not_eq_false']) (by simp only [go_sem, Bool.not_eq_true', Bool.not_eq_false']) (by simp only [go_sem, Bool.not_eq_true', Bool.not_eq_false'])) ?_; simp only [go_sem, Bool.not_eq_true', Bool.not_eq_false', List.length_map])
    all_goals omega
  · have e : gapA l k = 0 := if_neg q
    rw [e]
    exact ⟨fun _ => rfl, fun w => absurd w q⟩
set_option maxRecDepth 100000 in
theorem ofsa_ok (l : List LAt) (i k : Int) (h : SmA l) : FnOk Tryz.prog 48 [.sl 8 (l.map cAt), .raw (.int .i64 i), .raw (.int .i64 k)] [] (.raw (.int .i64 (ofsA l i k))) [] := by
  refine fn_of_awp Tryz.func48 rfl (by kernel_rfl) (by kernel_rfl) (Nat.le_of_ble_eq_true rfl) Tryz.results48 ?_
  simp only [go_sem, Bool.not_eq_true', Bool.not_eq_false']
  (refine acall2 [] (hasAt_ok l i) (by simp only [go_sem, Bool.not_eq_true', Bool.not_eq_false']; rfl) (fit_of (by simp only [go_sem, Bool.not_eq_true', Bool.not_eq_false']) (by simp only [go_sem, Bool.not_eq_true', Bool.not_eq_false']) (by simp only [go_sem, Bool.not_eq_true', Bool.not_eq_false']) (by simp only [go_sem, Bool.not_eq_true', Bool.not_eq_false']) (by simp only [go_sem, Bool.not_eq_true', Bool.not_eq_false']) (by simp only [go_sem, Bool.not_eq_true', Bool.not_eq_false']) (by simp only [go_sem, Bool.not_eq_true', Bool.not_eq_false'])) ?_; simp only [go_sem, Bool.not_eq_true', Bool.not_eq_false'])
  by_cases q : (0 ≤ i ∧ i < l.length) ∧ 0 ≤ k ∧ k < l.length
  · have e : ofsA l i k = (atA l k).y - (atA l i).y := if_pos q
    have hb := h k q.2.1 q.2.2
    have hc := h i q.1.1 q.1.2
    rw [e]
    repeat' first | contradiction | intro _ | refine And.intro ?_ ?_ | refine ex_atA (by omega) ?_ | refine ex_atA' (by omega) ?_ | refine ex_get (by omega) ?_ | (show drawB _ _ = true; kernel_rfl) | (refine ret2 [] (by simp only [go_sem, Bool.not_eq_true', Bool.not_eq_false', List.length_map]; rfl) ?_; simp only [go_sem, Bool.not_eq_true', Bool.not_eq_false', List.length_map]) | (refine acall2 [] (hasAt_ok l k) (by simp only [go_sem, Bool.not_eq_true', Bool.not_eq_false']; rfl) (fit_of (by simp only [go_sem, Bool.not_eq_true', Bool.not_eq_false']) (by simp only [go_sem, Bool.not_eq_true', Bool.not_eq_false']) (by simp only [go_sem, Bool.not_eq_true', Bool.not_eq_false']) (by simp only [go_sem, Bool.not_eq_true', Bool.not_eq_false']) (by simp only [go_sem, Bool.not_eq_true', Bool.not_eq_false']) (by simp only [go_sem, Bool.not_eq_true', Bool.not_eq_false']) (by simp only [go_sem, Bool.not_eq_true', Bool.not_eq_false'])) ?_; simp only [go_sem, Bool.not_eq_true', Bool.not_eq_false', List.length_map])
    all_goals first
      | omega
      | skip
  · have e : ofsA l i k = 0 := if_neg q
    rw [e]
    repeat' first | contradiction | intro _ | refine And.intro ?_ ?_ | refine ex_atA (by omega) ?_ | refine ex_atA' (by omega) ?_ | refine ex_get (by omega) ?_ | (show drawB _ _ = true; kernel_rfl) | (refine ret2 [] (by simp only [go_sem, Bool.not_eq_true', Bool.not_eq_false', List.length_map]; rfl) ?_; simp only [go_sem, Bool.not_eq_true', Bool.not_eq_false', List.length_map]) | (refine acall2 [] (hasAt_ok l k) (by simp only [go_sem, Bool.not_eq_true', Bool.not_eq_false']; rfl) (fit_of (by simp only [go_sem, Bool.not_eq_true', Bool.not_eq_false']) (by simp only [go_sem, Bool.not_eq_true', Bool.not_eq_false']) (by simp only [go_sem, Bool.not_eq_true', Bool.not_eq_false']) (by simp only [go_sem, Bool.not_eq_true', Bool.not_eq_false']) (by simp only [go_sem, Bool.not_eq_true', Bool.not_eq_false']) (by simp only [go_sem, Bool.not_eq_true', Bool.not_eq_false']) (by simp only [go_sem, Bool.not_eq_true', Bool.not_eq_false'])) ?_; simp only [go_sem, Bool.not_eq_true', Bool.not_eq_false', List.length_map])
    all_goals first
      | omega
      | skip
set_option maxRecDepth 100000 in
theorem higa_ok (l : List LAt) (i k : Int) (h : SmA l) (hl : l.length ≤ 4000) : FnOk Tryz.prog 49 [.sl 8 (l.map cAt), .raw (.int .i64 i), .raw (.int .i64 k)] [] (.raw (.int .i64 (higA l i k))) [] := by
  refine fn_of_awp Tryz.func49 rfl (by kernel_rfl) (by kernel_rfl) (Nat.le_of_ble_eq_true rfl) Tryz.results49 ?_
  simp only [go_sem, Bool.not_eq_true', Bool.not_eq_false']
  (refine acall2 [] (hasAt_ok l i) (by simp only [go_sem, Bool.not_eq_true', Bool.not_eq_false']; rfl) (fit_of (by simp only [go_sem, Bool.not_eq_true', Bool.not_eq_false']) (by simp only [go_sem, Bool.not_eq_true', Bool.not_eq_false']) (by simp only [go_sem, Bool.not_eq_true', Bool.not_eq_false']) (by simp only [go_sem, Bool.not_eq_true', Bool.not_eq_false']) (by simp only [go_sem, Bool.not_eq_true', Bool.not_eq_false']) (by simp only [go_sem, Bool.not_eq_true', Bool.not_eq_false']) (by simp only [go_sem, Bool.not_eq_true', Bool.not_eq_false'])) ?_; simp only [go_sem, Bool.not_eq_true', Bool.not_eq_false', List.length_map])
  by_cases q : (0 ≤ i ∧ i < l.length) ∧ i < k ∧ k ≤ l.length
  · have e : higA l i k = (atA l (k - 1)).y + (atA l (k - 1)).h - (atA l i).y := if_pos q
    have hb := h (k - 1) (by omega) (by omega)
    have hc := h i q.1.1 q.1.2
    rw [e]
    repeat' first | contradiction | intro _ | refine And.intro ?_ ?_ | refine ex_atA (by omega) ?_ | refine ex_atA' (by omega) ?_ | refine ex_get (by omega) ?_ | (show drawB _ _ = true; kernel_rfl) | (refine ret2 [] (by simp only [go_sem, Bool.not_eq_true', Bool.not_eq_false', List.length_map]; rfl) ?_; simp only [go_sem, Bool.not_eq_true', Bool.not_eq_false', List.length_map]) | (refine acall2 [] (abot_ok (atA l (k - 1)) (by omega)) (by simp only [go_sem, Bool.not_eq_true', Bool.not_eq_false']; rfl) (fit_of (by simp only [go_sem, Bool.not_eq_true', Bool.not_eq_false']) (by simp only [go_sem, Bool.not_eq_true', Bool.not_eq_false']) (by simp only [go_sem, Bool.not_eq_true', Bool.not_eq_false']) (by simp only [go_sem, Bool.not_eq_true', Bool.not_eq_false']) (by simp only [go_sem, Bool.not_eq_true', Bool.not_eq_false']) (by simp only [go_sem, Bool.not_eq_true', Bool.not_eq_false']) (by simp only [go_sem, Bool.not_eq_true', Bool.not_eq_false'])) ?_; simp only [go_sem, Bool.not_eq_true', Bool.not_eq_false', List.length_map])
    all_goals first
      | omega
      | skip
  · have e : higA l i k = 0 := if_neg q
    rw [e]
    repeat' first | contradiction | intro _ | refine And.intro ?_ ?_ | refine ex_atA (by omega) ?_ | refine ex_atA' (by omega) ?_ | refine ex_get (by omega) ?_ | (show drawB _ _ = true; kernel_rfl) | (refine ret2 [] (by simp only [go_sem, Bool.not_eq_true', Bool.not_eq_false', List.length_map]; rfl) ?_; simp only [go_sem, Bool.not_eq_true', Bool.not_eq_false', List.length_map]) | (refine acall2 [] (abot_ok (atA l (k - 1)) (by have := h (k - 1) (by omega) (by omega); omega)) (by simp only [go_sem, Bool.not_eq_true', Bool.not_eq_false']; rfl) (fit_of (by simp only [go_sem, Bool.not_eq_true', Bool.not_eq_false']) (by simp only [go_sem, Bool.not_eq_true', Bool.not_eq_false']) (by simp only [go_sem, Bool.not_eq_true', Bool.not_eq_false']) (by simp only [go_sem, Bool.not_eq_true', Bool.not_eq_false']) (by simp only [go_sem, Bool.not_eq_true', Bool.not_eq_false']) (by simp only [go_sem, Bool.not_eq_true', Bool.not_eq_false']) (by simp only [go_sem, Bool.not_eq_true', Bool.not_eq_false'])) ?_; simp only [go_sem, Bool.not_eq_true', Bool.not_eq_false', List.length_map])
    all_goals first
      | omega
      | skip
set_option maxRecDepth 100000 in
theorem wc1_ok (l : List LAt) (v : Int) (k : Nat) (hk : k < l.length) : FnOk Tryz.prog 54 [.raw (.int .i64 k), .hdr 1, .hdr 2] (wiO l v) (.raw (.bool (geA l v k))) (wiO l v) := by
  refine fn_of_awp Tryz.func54 rfl (by kernel_rfl) (by kernel_rfl) (Nat.le_of_ble_eq_true rfl) Tryz.results54 ?_
  simp only [go_sem, Bool.not_eq_true', Bool.not_eq_false', List.length_map]
  repeat' first | contradiction | intro _ | refine And.intro ?_ ?_ | refine ex_atA (by omega) ?_ | refine ex_atA' (by omega) ?_ | refine ex_get (by omega) ?_ | (show drawB _ _ = true; kernel_rfl) | (refine ret2 [] (by simp only [go_sem, Bool.not_eq_true', Bool.not_eq_false', List.length_map]; rfl) ?_; simp only [go_sem, Bool.not_eq_true', Bool.not_eq_false', List.length_map])
  all_goals first
    | omega
    | rfl
set_option maxRecDepth 100000 in
theorem ws1_ok (l : List LAt) (v : Int) (hm : MonoA l) (hl : l.length ≤ 4000) : FnOk Tryz.prog 53 [.raw (.int .i64 l.length), .clo (.func 54) [.hdr 1, .hdr 2]] (wiO l v) (.raw (.int .i64 (loA l v))) (wiO l v) := by
  refine fn_of_awp Tryz.func53 rfl (by kernel_rfl) (by kernel_rfl) (Nat.le_of_ble_eq_true rfl) Tryz.results53 ?_
  simp only [go_sem, Bool.not_eq_true', Bool.not_eq_false', List.length_map]
  refine aloop2 [] (fun z : SrX => ⟨[(1, .clo (.func 54) [.hdr 1, .hdr 2]), (4, .raw (.int .i64 0)), (5, .raw (.int .i64 z.i)), (6, .raw (.int .i64 z.j))], [(1, some (.cells 25 [.sl 8 (l.map cAt)])), (2, some (.cells 3 [.raw (.int .i64 v)]))], none⟩) (SrInv (geA l v) l.length) (fun z => z.j - z.i) 2 ⟨0, l.length⟩ (by simp only [go_sem, Bool.not_eq_true', Bool.not_eq_false']; rfl) (by simp only [go_sem, Bool.not_eq_true', Bool.not_eq_false']) ?_ ?_
  · exact sr_first _ _
  · rintro ⟨i, j⟩ hi
    have hb := hi
    obtain ⟨b1, b2, -, -⟩ := hb
    simp only at b1 b2
    obtain ⟨h, hh⟩ : ∃ h : Nat, h = (i + j) / 2 := ⟨_, rfl⟩
    have e : IntKind.wrap .i64 ((IntKind.wrap .u64 ((i : Int) + j)).fdiv (2 ^ min 1 64)) = h := by
      have := half_eq (z := (i : Int) + j) (by omega) (by omega)
      rw [Int.toNat_one] at this
      rw [this]
      omega
    have mono := geA_mono (v := v) hm
    simp only [go_sem, Bool.not_eq_true', Bool.not_eq_false', e, List.length_map]
    repeat' first | contradiction | intro _ | refine And.intro ?_ ?_ | refine ex_atA (by omega) ?_ | refine ex_atA' (by omega) ?_ | refine ex_get (by omega) ?_ | (show drawB _ _ = true; kernel_rfl) | (refine ret2 [] (by simp only [go_sem, Bool.not_eq_true', Bool.not_eq_false', e, List.length_map]; rfl) ?_; simp only [go_sem, Bool.not_eq_true', Bool.not_eq_false', e, List.length_map]) | (refine acall2 [] (wc1_ok l v h (by omega)) (by simp only [go_sem, Bool.not_eq_true', Bool.not_eq_false']; rfl) (fit_of (by simp only [go_sem, Bool.not_eq_true', Bool.not_eq_false']) (by simp only [go_sem, Bool.not_eq_true', Bool.not_eq_false']) (by simp only [go_sem, Bool.not_eq_true', Bool.not_eq_false']) (by simp only [go_sem, Bool.not_eq_true', Bool.not_eq_false']) (by simp only [go_sem, Bool.not_eq_true', Bool.not_eq_false']) (by simp only [go_sem, Bool.not_eq_true', Bool.not_eq_false']) (by simp only [go_sem, Bool.not_eq_true', Bool.not_eq_false'])) ?_; simp only [go_sem, Bool.not_eq_true', Bool.not_eq_false', e, List.length_map])
    all_goals try omega
    all_goals first | (have eL : loA l v = i := sr_last hi (by assumption); rw [eL]; done) | ((refine loop_end [] (⟨h + 1, j⟩) (by simp only [go_sem, Bool.not_eq_true', Bool.not_eq_false']; rfl) ?_ ?_ ?_; (focus first | omega | (simp only; omega)); (focus (simp only [go_sem, Bool.not_eq_true', Bool.not_eq_false']; done))); exact sr_no mono hi (by omega) (by assumption)) | ((refine loop_end [] (⟨i, h⟩) (by simp only [go_sem, Bool.not_eq_true', Bool.not_eq_false']; rfl) ?_ ?_ ?_; (focus first | omega | (simp only; omega)); (focus (simp only [go_sem, Bool.not_eq_true', Bool.not_eq_false']; done))); exact sr_yes mono hi (by omega) (by assumption))
set_option maxRecDepth 100000 in
theorem wc2_ok (l : List LAt) (v : Int) (k : Nat) (hk : k < l.length) : FnOk Tryz.prog 55 [.raw (.int .i64 k), .hdr 1, .hdr 2] (wiO l v) (.raw (.bool (geA l v k))) (wiO l v) := by
  refine fn_of_awp Tryz.func55 rfl (by kernel_rfl) (by kernel_rfl) (Nat.le_of_ble_eq_true rfl) Tryz.results55 ?_
  simp only [go_sem, Bool.not_eq_true', Bool.not_eq_false', List.length_map]
  repeat' first | contradiction | intro _ | refine And.intro ?_ ?_ | refine ex_atA (by omega) ?_ | refine ex_atA' (by omega) ?_ | refine ex_get (by omega) ?_ | (show drawB _ _ = true; kernel_rfl) | (refine ret2 [] (by simp only [go_sem, Bool.not_eq_true', Bool.not_eq_false', List.length_map]; rfl) ?_; simp only [go_sem, Bool.not_eq_true', Bool.not_eq_false', List.length_map])
  all_goals first
    | omega
    | rfl
set_option maxRecDepth 100000 in
theorem ws2_ok (l : List LAt) (v : Int) (hm : MonoA l) (hl : l.length ≤ 4000) : FnOk Tryz.prog 53 [.raw (.int .i64 l.length), .clo (.func 55) [.hdr 1, .hdr 2]] (wiO l v) (.raw (.int .i64 (loA l v))) (wiO l v) := by
  refine fn_of_awp Tryz.func53 rfl (by kernel_rfl) (by kernel_rfl) (Nat.le_of_ble_eq_true rfl) Tryz.results53 ?_
  simp only [go_sem, Bool.not_eq_true', Bool.not_eq_false', List.length_map]
  refine aloop2 [] (fun z : SrX => ⟨[(1, .clo (.func 55) [.hdr 1, .hdr 2]), (4, .raw (.int .i64 0)), (5, .raw (.int .i64 z.i)), (6, .raw (.int .i64 z.j))], [(1, some (.cells 25 [.sl 8 (l.map cAt)])), (2, some (.cells 3 [.raw (.int .i64 v)]))], none⟩) (SrInv (geA l v) l.length) (fun z => z.j - z.i) 2 ⟨0, l.length⟩ (by simp only [go_sem, Bool.not_eq_true', Bool.not_eq_false']; rfl) (by simp only [go_sem, Bool.not_eq_true', Bool.not_eq_false']) ?_ ?_
  · exact sr_first _ _
  · rintro ⟨i, j⟩ hi
    have hb := hi
    obtain ⟨b1, b2, -, -⟩ := hb
    simp only at b1 b2
    obtain ⟨h, hh⟩ : ∃ h : Nat, h = (i + j) / 2 := ⟨_, rfl⟩
    have e : IntKind.wrap .i64 ((IntKind.wrap .u64 ((i : Int) + j)).fdiv (2 ^ min 1 64)) = h := by
      have := half_eq (z := (i : Int) + j) (by omega) (by omega)
      rw [Int.toNat_one] at this
      rw [this]
      omega
    have mono := geA_mono (v := v) hm
    simp only [go_sem, Bool.not_eq_true', Bool.not_eq_false', e, List.length_map]
    repeat' first | contradiction | intro _ | refine And.intro ?_ ?_ | refine ex_atA (by omega) ?_ | refine ex_atA' (by omega) ?_ | refine ex_get (by omega) ?_ | (show drawB _ _ = true; kernel_rfl) | (refine ret2 [] (by simp only [go_sem, Bool.not_eq_true', Bool.not_eq_false', e, List.length_map]; rfl) ?_; simp only [go_sem, Bool.not_eq_true', Bool.not_eq_false', e, List.length_map]) | (refine acall2 [] (wc2_ok l v h (by omega)) (by simp only [go_sem, Bool.not_eq_true', Bool.not_eq_false']; rfl) (fit_of (by simp only [go_sem, Bool.not_eq_true', Bool.not_eq_false']) (by simp only [go_sem, Bool.not_eq_true', Bool.not_eq_false']) (by simp only [go_sem, Bool.not_eq_true', Bool.not_eq_false']) (by simp only [go_sem, Bool.not_eq_true', Bool.not_eq_false']) (by simp only [go_sem, Bool.not_eq_true', Bool.not_eq_false']) (by simp only [go_sem, Bool.not_eq_true', Bool.not_eq_false']) (by simp only [go_sem, Bool.not_eq_true', Bool.not_eq_false'])) ?_; simp only [go_sem, Bool.not_eq_true', Bool.not_eq_false', e, List.length_map])
    all_goals try omega
    all_goals first | (have eL : loA l v = i := sr_last hi (by assumption); rw [eL]; done) | ((refine loop_end [] (⟨h + 1, j⟩) (by simp only [go_sem, Bool.not_eq_true', Bool.not_eq_false']; rfl) ?_ ?_ ?_; (focus first | omega | (simp only; omega)); (focus (simp only [go_sem, Bool.not_eq_true', Bool.not_eq_false']; done))); exact sr_no mono hi (by omega) (by assumption)) | ((refine loop_end [] (⟨i, h⟩) (by simp only [go_sem, Bool.not_eq_true', Bool.not_eq_false']; rfl) ?_ ?_ ?_; (focus first | omega | (simp only; omega)); (focus (simp only [go_sem, Bool.not_eq_true', Bool.not_eq_false']; done))); exact sr_yes mono hi (by omega) (by assumption))
set_option maxRecDepth 100000 in
theorem wina_ok (ns : List LNo) (l : List LAt) (n : Int) (hm : MonoA l) (hl : l.length ≤ 4000) (hs : ∀ x ∈ ns, 0 ≤ x.size ∧ x.size ≤ 1000) (hn : ns.length ≤ 1000) : FnOk Tryz.prog 19 [.sl 20 (ns.map cNo), .sl 8 (l.map cAt), .raw (.int .i64 n)] [] (aWi (winA ns l n)) [] := by
  refine fn_of_awp Tryz.func19 rfl (by kernel_rfl) (by kernel_rfl) (Nat.le_of_ble_eq_true rfl) Tryz.results19 ?_
  simp only [go_sem, Bool.not_eq_true', Bool.not_eq_false']
  (refine acall2 [] (hasNo_ok ns n) (by simp only [go_sem, Bool.not_eq_true', Bool.not_eq_false']; rfl) (fit_of (by simp only [go_sem, Bool.not_eq_true', Bool.not_eq_false']) (by simp only [go_sem, Bool.not_eq_true', Bool.not_eq_false']) (by simp only [go_sem, Bool.not_eq_true', Bool.not_eq_false']) (by simp only [go_sem, Bool.not_eq_true', Bool.not_eq_false']) (by simp only [go_sem, Bool.not_eq_true', Bool.not_eq_false']) (by simp only [go_sem, Bool.not_eq_true', Bool.not_eq_false']) (by simp only [go_sem, Bool.not_eq_true', Bool.not_eq_false'])) ?_; simp only [go_sem, Bool.not_eq_true', Bool.not_eq_false', List.length_map])
  by_cases q : 0 ≤ n ∧ n < ns.length
  · have e : winA ns l n = witA l n (n + (ndN ns n.toNat).size) := if_pos q
    have hk : n.toNat < ns.length := by omega
    have hsz := hs _ (List.getElem_mem hk)
    rw [e]
    refine ⟨fun w => absurd q w, fun _ => ⟨⟨by omega, by omega⟩, _, List.getElem?_eq_getElem hk, ?_⟩⟩
    rw [← ndN_get hk] at hsz ⊢
    refine ⟨⟨by omega, by omega⟩, (show drawB _ _ = true by kernel_rfl), ?_⟩
    (refine acall2 [] (ws1_ok l n hm hl) (by simp only [go_sem, Bool.not_eq_true', Bool.not_eq_false']; rfl) (fit_of (by simp only [go_sem, Bool.not_eq_true', Bool.not_eq_false']) (by simp only [go_sem, Bool.not_eq_true', Bool.not_eq_false']) (by simp only [go_sem, Bool.not_eq_true', Bool.not_eq_false']) (by simp only [go_sem, Bool.not_eq_true', Bool.not_eq_false']) (by simp only [go_sem, Bool.not_eq_true', Bool.not_eq_false']) (by simp only [go_sem, Bool.not_eq_true', Bool.not_eq_false']) (by simp only [go_sem, Bool.not_eq_true', Bool.not_eq_false'])) ?_; simp only [go_sem, Bool.not_eq_true', Bool.not_eq_false', List.length_map])
    (refine acall2 [] (ws2_ok l (n + (ndN ns n.toNat).size) hm hl) (by simp only [go_sem, Bool.not_eq_true', Bool.not_eq_false']; rfl) (fit_of (by simp only [go_sem, Bool.not_eq_true', Bool.not_eq_false']) (by simp only [go_sem, Bool.not_eq_true', Bool.not_eq_false']) (by simp only [go_sem, Bool.not_eq_true', Bool.not_eq_false']) (by simp only [go_sem, Bool.not_eq_true', Bool.not_eq_false']) (by simp only [go_sem, Bool.not_eq_true', Bool.not_eq_false']) (by simp only [go_sem, Bool.not_eq_true', Bool.not_eq_false']) (by simp only [go_sem, Bool.not_eq_true', Bool.not_eq_false'])) ?_; simp only [go_sem, Bool.not_eq_true', Bool.not_eq_false', List.length_map])
    refine ⟨fun w => ?_, fun w => ?_⟩
    · have e2 : witA l n (n + (ndN ns n.toNat).size) = ⟨0, 0⟩ := if_neg (by omega)
      rw [e2]
      exact ⟨rfl, rfl⟩
    · have e2 : witA l n (n + (ndN ns n.toNat).size) = ⟨loA l n, loA l (n + (ndN ns n.toNat).size)⟩ := if_pos (by omega)
      rw [e2]
      exact ⟨rfl, rfl⟩
  · have e : winA ns l n = ⟨0, 0⟩ := if_neg q
    rw [e]
    exact ⟨fun _ => ⟨rfl, rfl⟩, fun w => absurd w q⟩
end Go.Proofs.YtblmebjhhanoaaaGreat
/- CHAPTER 15: the floats that are anchored in a part: slices.DeleteFunc. -/
/- G -/
/- BOOLS -/
set_option linter.unusedSimpArgs false
set_option linter.unusedVariables false
namespace Go.Proofs.YtblmebjhhanoaaaGreat
open Go.RowKit

def offF (a b : Int) (f : LFl) : Bool := decide (f.anchor < a) || decide (b ≤ f.anchor)
def ancF (a b : Int) (f : LFl) : Bool := !offF a b f
def anchF (l : List LFl) (a b : Int) : List LFl := l.filter (ancF a b)
set_option maxRecDepth 100000 in
theorem anc1_ok (f : LFl) (a b : Int) : FnOk Tryz.prog 59 [aFl f, .hdr 0, .hdr 1] [(0, .cells 3 [.raw (.int .i64 a)]), (1, .cells 3 [.raw (.int .i64 b)])] (.raw (.bool (offF a b f))) [(0, .cells 3 [.raw (.int .i64 a)]), (1, .cells 3 [.raw (.int .i64 b)])] := by
  refine fn_of_awp Tryz.func59 rfl (by kernel_rfl) (by kernel_rfl) (Nat.le_of_ble_eq_true rfl) Tryz.results59 ?_
  simp only [go_sem, Bool.not_eq_true', Bool.not_eq_false']
  repeat' first | contradiction | intro _ | refine And.intro ?_ ?_ | refine ex_get (by omega) ?_ | (show drawB _ _ = true; kernel_rfl) | (refine ret2 [] (by simp only [go_sem, Bool.not_eq_true', Bool.not_eq_false']; rfl) ?_; simp only [go_sem, Bool.not_eq_true', Bool.not_eq_false'])
  all_goals (simp [offF] <;> omega)
set_option maxRecDepth 100000 in
theorem clone_ok (l : List LFl) (hl : l.length ≤ 1000) : FnOk Tryz.prog 58 [.sl 7 (l.map cFl)] [] (.hdr 8) [(8, .row 62 7 (l.map cFl))] := by
  refine fn_of_awp Tryz.func58 rfl (by kernel_rfl) (by kernel_rfl) (Nat.le_of_ble_eq_true rfl) Tryz.results58 ?_
  simp only [go_sem, Bool.not_eq_true', Bool.not_eq_false', List.length_map]
  repeat' first | contradiction | intro _ | refine And.intro ?_ ?_ | refine ex_get (by omega) ?_ | (show drawB _ _ = true; kernel_rfl) | (refine ret2 [] (by simp only [go_sem, Bool.not_eq_true', Bool.not_eq_false', List.length_map]; rfl) ?_; simp only [go_sem, Bool.not_eq_true', Bool.not_eq_false', List.length_map])
  all_goals first
    | omega
    | (have e : l = [] := List.eq_nil_of_length_eq_zero (by simp_all)
       rw [e]; rfl)
/-- the place of the first that is so; below 0: none is. -/
def idxF (p : LFl → Bool) (l : List LFl) : Int := if l.findIdx p < l.length then l.findIdx p else -1
theorem idxF_at {p : LFl → Bool} {l : List LFl} {k : Nat} (hk : k < l.length) (h : ∀ j (hj : j < l.length), j < k → p l[j] = false) (hp : p l[k] = true) : idxF p l = k := by
  have e : l.findIdx p = k := by
    rw [List.findIdx_eq hk]
    exact ⟨hp, fun j hj => by have := h j (by omega) hj; simpa using this⟩
  unfold idxF
  rw [if_pos (by omega), e]
theorem idxF_no {p : LFl → Bool} {l : List LFl} (h : ∀ j (hj : j < l.length), p l[j] = false) : idxF p l = -1 := by
  unfold idxF
  rw [if_neg]
  intro hlt
  have := List.findIdx_getElem (w := hlt)
  rw [h _ hlt] at this
  cases this
set_option maxRecDepth 100000 in
theorem index_ok (l : List LFl) (a b : Int) (hl : l.length ≤ 1000) : FnOk Tryz.prog 87 [.sl 7 (l.map cFl), .clo (.func 59) [.hdr 0, .hdr 1]] [(0, .cells 3 [.raw (.int .i64 a)]), (1, .cells 3 [.raw (.int .i64 b)])] (.raw (.int .i64 (idxF (offF a b) l))) [(0, .cells 3 [.raw (.int .i64 a)]), (1, .cells 3 [.raw (.int .i64 b)])] := by
  refine fn_of_awp Tryz.func87 rfl (by kernel_rfl) (by kernel_rfl) (Nat.le_of_ble_eq_true rfl) Tryz.results87 ?_
  simp only [go_sem, Bool.not_eq_true', Bool.not_eq_false', List.length_map]
  refine aloop2 [] (fun k : Nat => ⟨[(0, .sl 7 (l.map cFl)), (1, .clo (.func 59) [.hdr 0, .hdr 1]), (7, .raw (.int .i64 l.length)), (8, .raw (.int .i64 k))], [(0, some (.cells 3 [.raw (.int .i64 a)])), (1, some (.cells 3 [.raw (.int .i64 b)]))], none⟩) (fun k => k ≤ l.length ∧ ∀ j (hj : j < l.length), j < k → offF a b l[j] = false) (fun k => l.length - k) 4 0 (by simp only [go_sem, Bool.not_eq_true', Bool.not_eq_false']; rfl) (by simp only [go_sem, Bool.not_eq_true', Bool.not_eq_false']) ?_ ?_
  · exact ⟨Nat.zero_le _, fun j _ h => absurd h (Nat.not_lt_zero j)⟩
  · rintro k ⟨h1, h2⟩
    simp only [go_sem, Bool.not_eq_true', Bool.not_eq_false', List.length_map]
    refine ⟨fun h5 => ?_, fun h5 => ?_⟩
    · have hk : k < l.length := by omega
      refine ⟨by omega, ex_get hk ?_⟩
      (refine acall2 [] (anc1_ok l[k] a b) (by simp only [go_sem, Bool.not_eq_true', Bool.not_eq_false']; rfl) (fit_of (by simp only [go_sem, Bool.not_eq_true', Bool.not_eq_false']) (by simp only [go_sem, Bool.not_eq_true', Bool.not_eq_false']) (by simp only [go_sem, Bool.not_eq_true', Bool.not_eq_false']) (by simp only [go_sem, Bool.not_eq_true', Bool.not_eq_false']) (by simp only [go_sem, Bool.not_eq_true', Bool.not_eq_false']) (by simp only [go_sem, Bool.not_eq_true', Bool.not_eq_false']) (by simp only [go_sem, Bool.not_eq_true', Bool.not_eq_false'])) ?_; simp only [go_sem, Bool.not_eq_true', Bool.not_eq_false'])
      refine ⟨fun h6 => ?_, fun h6 => ⟨by omega, ?_⟩⟩
      · rw [idxF_at hk h2 h6]
        (refine ret2 [] (by simp only [go_sem, Bool.not_eq_true', Bool.not_eq_false']; rfl) ?_; simp only [go_sem, Bool.not_eq_true', Bool.not_eq_false'])
      · (refine loop_end [] (k + 1) (by simp only [go_sem, Bool.not_eq_true', Bool.not_eq_false']; rfl) ?_ ?_ ?_; (focus first | omega | (simp only; omega)); (focus (simp only [go_sem, Bool.not_eq_true', Bool.not_eq_false']; done)))
        refine ⟨by omega, fun j hj h7 => ?_⟩
        rcases Nat.lt_succ_iff_lt_or_eq.1 h7 with h8 | h8
        · exact h2 j hj h8
        · subst h8; exact h6
    · rw [idxF_no (fun j hj => h2 j hj (by omega))]
      (refine ret2 [] (by simp only [go_sem, Bool.not_eq_true', Bool.not_eq_false']; rfl) ?_; simp only [go_sem, Bool.not_eq_true', Bool.not_eq_false'])
structure LDel where
  k : Nat
  mid : List LFl
def kepF (l : List LFl) (a b : Int) (k : Nat) : List LFl := (l.take k).filter (ancF a b)
theorem kepF_len (l : List LFl) (a b : Int) (k : Nat) : (kepF l a b k).length ≤ k := Nat.le_trans (List.length_filter_le _ _) (by simp; omega)
theorem kepF_succ {l : List LFl} {a b : Int} {k : Nat} (hk : k < l.length) : kepF l a b (k + 1) = if ancF a b l[k] = true then kepF l a b k ++ [l[k]] else kepF l a b k := by
  unfold kepF
  rw [List.take_succ_eq_append_getElem hk, List.filter_append]
  split
  · next h => simp [h]
  · next h => simp [h]
def rowD (l : List LFl) (a b : Int) (z : LDel) : List LFl := kepF l a b z.k ++ z.mid ++ l.drop z.k
theorem rowD_get {l : List LFl} {a b : Int} {k : Nat} {mid : List LFl} (hk : k < l.length) (h : (kepF l a b k).length + mid.length = k) : (rowD l a b ⟨k, mid⟩)[k]? = some l[k] := by
  unfold rowD
  rw [List.getElem?_append_right (by simp; omega), List.length_append, h, Nat.sub_self, List.getElem?_drop]
  simp [hk]
theorem rowD_keep {l : List LFl} {a b : Int} {k : Nat} {mid : List LFl} (hk : k < l.length) (h0 : 0 < mid.length) (h : ancF a b l[k] = true) : (rowD l a b ⟨k, mid⟩).set (kepF l a b k).length l[k] = rowD l a b ⟨k + 1, mid.tail ++ [l[k]]⟩ := by
  unfold rowD
  cases mid with
  | nil => simp at h0
  | cons x mid =>
    have e1 : l.drop k = l[k] :: l.drop (k + 1) := List.drop_eq_getElem_cons hk
    rw [kepF_succ hk, if_pos h, e1]
    simp
theorem rowD_skip {l : List LFl} {a b : Int} {k : Nat} {mid : List LFl} (hk : k < l.length) (h : ¬ ancF a b l[k] = true) : rowD l a b ⟨k, mid⟩ = rowD l a b ⟨k + 1, mid ++ [l[k]]⟩ := by
  unfold rowD
  have e1 : l.drop k = l[k] :: l.drop (k + 1) := List.drop_eq_getElem_cons hk
  rw [kepF_succ hk, if_neg h, e1]
  simp
theorem rowD_len {l : List LFl} {a b : Int} {k : Nat} {mid : List LFl} (hk : k ≤ l.length) (h : (kepF l a b k).length + mid.length = k) : (rowD l a b ⟨k, mid⟩).length = l.length := by
  unfold rowD
  simp
  omega
theorem kepF_pre {l : List LFl} {a b : Int} {k : Nat} (h : ∀ j (hj : j < l.length), j < k → offF a b l[j] = false) : kepF l a b k = l.take k := by
  unfold kepF
  rw [List.filter_eq_self]
  intro x hx
  obtain ⟨j, hj, rfl⟩ := List.getElem_of_mem hx
  simp only [List.length_take] at hj
  rw [List.getElem_take]
  unfold ancF
  rw [h j (by omega) (by omega)]
  rfl
theorem idxF_cases (p : LFl → Bool) (l : List LFl) : (idxF p l = -1 ∧ ∀ j (hj : j < l.length), p l[j] = false) ∨ ∃ k : Nat, idxF p l = k ∧ ∃ hk : k < l.length, p l[k] = true ∧ ∀ j (hj : j < l.length), j < k → p l[j] = false := by
  unfold idxF
  by_cases h : l.findIdx p < l.length
  · right
    rw [if_pos h]
    refine ⟨l.findIdx p, rfl, h, List.findIdx_getElem (w := h), fun j hj hlt => ?_⟩
    have := List.not_of_lt_findIdx hlt
    simpa using this
  · left
    rw [if_neg h]
    refine ⟨rfl, fun j hj => ?_⟩
    have := List.not_of_lt_findIdx (p := p) (xs := l) (i := j) (by omega)
    simpa using this
set_option maxRecDepth 100000 in
set_option maxHeartbeats 4000000 in
theorem delete_ok (l : List LFl) (a b : Int) (hl : l.length ≤ 1000) : FnOk Tryz.prog 57 [.hdr 0, .clo (.func 59) [.hdr 1, .hdr 2]] [(0, .row 62 7 (l.map cFl)), (1, .cells 3 [.raw (.int .i64 a)]), (2, .cells 3 [.raw (.int .i64 b)])] (.hdr 8) [(8, .row 62 7 ((anchF l a b).map cFl)), (1, .cells 3 [.raw (.int .i64 a)]), (2, .cells 3 [.raw (.int .i64 b)])] := by
  refine fn_of_swp Tryz.func57 rfl (by kernel_rfl) (by kernel_rfl) (Nat.le_of_ble_eq_true rfl) Tryz.results57 ?_
  (refine swp_seqW ?_; simp only [go_sem, Bool.not_eq_true', Bool.not_eq_false'])
  (refine swp_seqW ?_; simp only [go_sem, Bool.not_eq_true', Bool.not_eq_false'])
  (refine acall2 [0 ] ( index_ok l a b hl) (by simp only [go_sem, Bool.not_eq_true', Bool.not_eq_false']; rfl) (fit_of (by simp only [go_sem, Bool.not_eq_true', Bool.not_eq_false']) (by simp only [go_sem, Bool.not_eq_true', Bool.not_eq_false']) (by simp only [go_sem, Bool.not_eq_true', Bool.not_eq_false']) (by simp only [go_sem, Bool.not_eq_true', Bool.not_eq_false']) (by simp only [go_sem, Bool.not_eq_true', Bool.not_eq_false']) (by simp only [go_sem, Bool.not_eq_true', Bool.not_eq_false']) (by simp only [go_sem, Bool.not_eq_true', Bool.not_eq_false'])) ?_; simp only [go_sem, Bool.not_eq_true', Bool.not_eq_false'])
  rcases idxF_cases (offF a b) l with ⟨e0, hno⟩ | ⟨i0, e0, hi0, hp0, hb0⟩
  · rw [e0]
    have e1 : anchF l a b = l := by
      have := kepF_pre (l := l) (a := a) (b := b) (k := l.length) (fun j hj _ => hno j hj)
      unfold kepF at this
      rw [List.take_length] at this
      exact this
    rw [e1]
    (refine swp_lastW ?_; simp only [go_sem, Bool.not_eq_true', Bool.not_eq_false'])
    repeat' first | contradiction | intro _ | refine And.intro ?_ ?_ | refine ex_get (by omega) ?_ | (show drawB _ _ = true; kernel_rfl) | (refine ret2 [] (by simp only [go_sem, Bool.not_eq_true', Bool.not_eq_false']; rfl) ?_; simp only [go_sem, Bool.not_eq_true', Bool.not_eq_false'])
    all_goals skip
  · rw [e0]
    have ek := kepF_pre (l := l) (a := a) (b := b) (k := i0) hb0
    have eks : kepF l a b (i0 + 1) = l.take i0 := by
      rw [kepF_succ hi0, if_neg (by unfold ancF; rw [hp0]; decide), ek]
    have elen : (kepF l a b (i0 + 1)).length = i0 := by rw [eks]; simp; omega
    have erow : rowD l a b ⟨i0 + 1, [l[i0]]⟩ = l := by
      unfold rowD
      dsimp only
      rw [eks]
      simp
    (refine swp_seqW ?_; simp only [go_sem, Bool.not_eq_true', Bool.not_eq_false', List.length_map])
    refine swp_seqS ?_
    (refine swp_seqW ?_; simp only [go_sem, Bool.not_eq_true', Bool.not_eq_false'])
    refine ⟨by omega, ?_⟩
    refine swp_block ?_
    refine swp_loop2 [] (fun z : LDel => ⟨[(0, .hdr 0), (1, .clo (.func 59) [.hdr 1, .hdr 2]), (5, .raw (.int .i64 (kepF l a b z.k).length)), (6, .raw (.int .i64 z.k))], [(0, some (.row 62 7 ((rowD l a b z).map cFl))), (1, some (.cells 3 [.raw (.int .i64 a)])), (2, some (.cells 3 [.raw (.int .i64 b)]))], none⟩) (fun z => z.k ≤ l.length ∧ 0 < z.mid.length ∧ (kepF l a b z.k).length + z.mid.length = z.k) (fun z => l.length - z.k) 4 ⟨i0 + 1, [l[i0]]⟩ (by simp only [go_sem, Bool.not_eq_true', Bool.not_eq_false']; rfl) (by simp only [go_sem, Bool.not_eq_true', Bool.not_eq_false', elen, erow]) ?_ ?_
    · exact ⟨hi0, by simp, by rw [elen]; simp⟩
    · rintro ⟨k, mid⟩ ⟨h1, h2, h3⟩
      simp only at h1 h2 h3
      have hlen := rowD_len h1 h3
      (refine swp_seqW ?_; simp only [go_sem, Bool.not_eq_true', Bool.not_eq_false', List.length_map])
      refine ⟨fun h5 => ?_, fun h5 => ?_⟩
      · have hk : k < l.length := by omega
        have hget := rowD_get hk h3
        have hK := kepF_len l a b k
        (refine swp_lastW ?_; simp only [go_sem, Bool.not_eq_true', Bool.not_eq_false', List.length_map])
        refine ⟨by omega, l[k], hget, ?_⟩
        (refine acall2 [] (anc1_ok l[k] a b) (by simp only [go_sem, Bool.not_eq_true', Bool.not_eq_false']; rfl) (fit_of (by simp only [go_sem, Bool.not_eq_true', Bool.not_eq_false']) (by simp only [go_sem, Bool.not_eq_true', Bool.not_eq_false']) (by simp only [go_sem, Bool.not_eq_true', Bool.not_eq_false']) (by simp only [go_sem, Bool.not_eq_true', Bool.not_eq_false']) (by simp only [go_sem, Bool.not_eq_true', Bool.not_eq_false']) (by simp only [go_sem, Bool.not_eq_true', Bool.not_eq_false']) (by simp only [go_sem, Bool.not_eq_true', Bool.not_eq_false'])) ?_; simp only [go_sem, Bool.not_eq_true', Bool.not_eq_false'])
        refine ⟨fun h6 => ?_, fun h6 => ?_⟩
        · have h7 : ancF a b l[k] = true := by unfold ancF; rw [h6]; rfl
          have hset := rowD_keep hk h2 h7
          have hs2 : (List.map cFl (rowD l a b ⟨k, mid⟩)).set (kepF l a b k).length (cFl l[k]) = List.map cFl (rowD l a b ⟨k + 1, mid.tail ++ [l[k]]⟩) := by rw [← hset, List.map_set]
          simp only [cFl] at hs2
          have hks : kepF l a b (k + 1) = kepF l a b k ++ [l[k]] := by rw [kepF_succ hk, if_pos h7]
          have hi2 : (rowD l a b ⟨k, mid⟩)[(kepF l a b k).length]? = some (rowD l a b ⟨k, mid⟩)[(kepF l a b k).length] := List.getElem?_eq_getElem (by omega)
          refine ⟨by omega, _, hi2, ?_⟩
          refine ⟨by omega, by omega, ?_⟩
          (refine loop_end [] (⟨k + 1, mid.tail ++ [l[k]]⟩) (by simp only [go_sem, Bool.not_eq_true', Bool.not_eq_false']; rfl) ?_ ?_ ?_; (focus first | omega | (simp only; omega)); (focus (simp only [go_sem, Bool.not_eq_true', Bool.not_eq_false', hks, hs2, List.length_append, List.length_cons, List.length_nil]; done)))
          exact ⟨by show k + 1 ≤ l.length; omega, by simp, by rw [hks]; simp; omega⟩
        · have h7 : ¬ ancF a b l[k] = true := by unfold ancF; rw [h6]; decide
          rw [rowD_skip hk h7]
          have hks : kepF l a b (k + 1) = kepF l a b k := by rw [kepF_succ hk, if_neg h7]
          refine ⟨by omega, ?_⟩
          (refine loop_end [] (⟨k + 1, mid ++ [l[k]]⟩) (by simp only [go_sem, Bool.not_eq_true', Bool.not_eq_false']; rfl) ?_ ?_ ?_; (focus first | omega | (simp only; omega)); (focus (simp only [go_sem, Bool.not_eq_true', Bool.not_eq_false', hks]; done)))
          exact ⟨by show k + 1 ≤ l.length; omega, by simp, by rw [hks]; simp; omega⟩
      · have ekl : k = l.length := by omega
        have eA : kepF l a b k = anchF l a b := by unfold kepF; rw [ekl, List.take_length]; rfl
        have et : List.take (kepF l a b k).length (rowD l a b ⟨k, mid⟩) = kepF l a b k := by unfold rowD; simp
        (refine swp_lastW ?_; simp only [go_sem, Bool.not_eq_true', Bool.not_eq_false', List.length_map])
        rw [et]
        refine ⟨by omega, by omega, ?_, ?_⟩
        · simp; omega
        · have e9 : ∀ X Y : List (List PV), List.take (kepF l a b k).length (List.map cFl (kepF l a b k) ++ X ++ Y) = List.map cFl (anchF l a b) := fun X Y => by
            rw [List.append_assoc, ← eA]
            exact List.take_left' (by simp)
          rw [e9]
          (refine ret2 [] (by simp only [go_sem, Bool.not_eq_true', Bool.not_eq_false']; rfl) ?_; simp only [go_sem, Bool.not_eq_true', Bool.not_eq_false'])
set_option maxRecDepth 100000 in
theorem anchored_ok (l : List LFl) (a b : Int) (hl : l.length ≤ 1000) : FnOk Tryz.prog 21 [.sl 7 (l.map cFl), .raw (.int .i64 a), .raw (.int .i64 b)] [] (.hdr 8) [(8, .row 62 7 ((anchF l a b).map cFl))] := by
  refine fn_of_awp Tryz.func21 rfl (by kernel_rfl) (by kernel_rfl) (Nat.le_of_ble_eq_true rfl) Tryz.results21 ?_
  simp only [go_sem, Bool.not_eq_true', Bool.not_eq_false']
  (refine acall2 [] (clone_ok l hl) (by simp only [go_sem, Bool.not_eq_true', Bool.not_eq_false']; rfl) (fit_of (by simp only [go_sem, Bool.not_eq_true', Bool.not_eq_false']) (by simp only [go_sem, Bool.not_eq_true', Bool.not_eq_false']) (by simp only [go_sem, Bool.not_eq_true', Bool.not_eq_false']) (by simp only [go_sem, Bool.not_eq_true', Bool.not_eq_false']) (by simp only [go_sem, Bool.not_eq_true', Bool.not_eq_false']) (by simp only [go_sem, Bool.not_eq_true', Bool.not_eq_false']) (by simp only [go_sem, Bool.not_eq_true', Bool.not_eq_false'])) ?_; simp only [go_sem, Bool.not_eq_true', Bool.not_eq_false'])
  (refine acall2 [] (delete_ok l a b hl) (by simp only [go_sem, Bool.not_eq_true', Bool.not_eq_false']; rfl) (fit_of (by simp only [go_sem, Bool.not_eq_true', Bool.not_eq_false']) (by simp only [go_sem, Bool.not_eq_true', Bool.not_eq_false']) (by simp only [go_sem, Bool.not_eq_true', Bool.not_eq_false']) (by simp only [go_sem, Bool.not_eq_true', Bool.not_eq_false']) (by simp only [go_sem, Bool.not_eq_true', Bool.not_eq_false']) (by simp only [go_sem, Bool.not_eq_true', Bool.not_eq_false']) (by simp only [go_sem, Bool.not_eq_true', Bool.not_eq_false'])) ?_; simp only [go_sem, Bool.not_eq_true', Bool.not_eq_false'])
  (refine ret2 [] (by simp only [go_sem, Bool.not_eq_true', Bool.not_eq_false']; rfl) ?_; simp only [go_sem, Bool.not_eq_true', Bool.not_eq_false'])
end Go.Proofs.YtblmebjhhanoaaaGreat
/- CHAPTER 15: a galley's atoms, and a node's: in plain words. -/
/- G -/
set_option linter.unusedSimpArgs false
set_option linter.unusedVariables false
namespace Go.Proofs.YtblmebjhhanoaaaGreat
open Go.RowKit

theorem linC_node {x : LNo} {j : Nat} : ∀ (L : List LAt) (f : Nat), LinC x j f L → ∀ a ∈ L, a.node = j
  | [], _, _, a, ha => by cases ha
  | b :: L, f, h, a, ha => by
    obtain ⟨h1, h2, h3, h4, t, h5, h6, h7, h8, h9⟩ := h
    rcases List.mem_cons.1 ha with rfl | ha
    · exact h2
    · exact linC_node L t h9 a ha
theorem seg_node {x : LNo} {j : Nat} {L : List LAt} (h : SegC x j L) : ∀ a ∈ L, a.node = j := by
  unfold SegC at h
  split at h
  · exact linC_node L 0 h
  · split at h
    · obtain ⟨b, rfl, h1, h2, h3, h4⟩ := h
      intro a ha
      rw [List.mem_singleton] at ha
      subst ha
      exact h2
    · subst h
      intro a ha
      cases ha
theorem nA_le {ss : List (List LAt)} : ∀ {i j : Nat}, i ≤ j → j ≤ ss.length → nA ss i ≤ nA ss j := by
  intro i j hij hj
  induction j with
  | zero => obtain rfl : i = 0 := by omega
            exact Nat.le_refl _
  | succ j ih =>
    by_cases e : i = j + 1
    · subst e; exact Nat.le_refl _
    · have h1 := ih (by omega) (by omega)
      have h2 := nA_succ (ss := ss) (i := j) (by omega)
      omega
theorem flat_dec {ss : List (List LAt)} : ∀ (m : Nat), m ≤ ss.length → ∀ k, k < nA ss m → ∃ j q, ∃ (hj : j < ss.length), j < m ∧ q < ss[j].length ∧ k = nA ss j + q
  | 0, _, k, hk => by rw [nA_zero] at hk; omega
  | m + 1, hm, k, hk => by
    rw [nA_succ (by omega)] at hk
    by_cases h : k < nA ss m
    · obtain ⟨j, q, hj, h1, h2, h3⟩ := flat_dec m (by omega) k h
      exact ⟨j, q, hj, by omega, h2, h3⟩
    · exact ⟨m, k - nA ss m, by omega, Nat.lt_succ_self _, by omega, by omega⟩
/-- whose an atom is. -/
theorem atom_of {l : List LNo} {ss : List (List LAt)} {g : LGal} (h : OnG l ss g) {k : Nat} (hk : k < g.a.length) : ∃ j, j < l.length ∧ (atA g.a k).node = j ∧ nA ss j ≤ k ∧ k < nA ss (j + 1) := by
  have e : nA ss ss.length = g.a.length := by rw [nA_all, h.flat]
  obtain ⟨j, q, hj, h1, h2, h3⟩ := flat_dec ss.length (Nat.le_refl _) k (by omega)
  have h4 := flat_at hj h2
  rw [← h.flat, ← h3] at h4
  have h5 : atA g.a k = ss[j][q] := by
    unfold atA
    rw [Int.toNat_natCast, h4]
    rfl
  refine ⟨j, by rw [← h.len]; exact hj, ?_, by omega, by rw [nA_succ hj]; omega⟩
  rw [h5]
  exact seg_node (h.seg j hj) _ (List.getElem_mem h2)
theorem ong_mono {l : List LNo} {ss : List (List LAt)} {g : LGal} (h : OnG l ss g) : MonoA g.a := by
  intro i j hij hj
  obtain ⟨a, a1, a2, a3, a4⟩ := atom_of h (k := i) (by omega)
  obtain ⟨b, b1, b2, b3, b4⟩ := atom_of h hj
  rw [a2, b2]
  have hl := h.len
  by_cases e : a ≤ b
  · omega
  · have := nA_le (ss := ss) (i := b + 1) (j := a) (by omega) (by omega)
    omega
theorem lo_eq {l : List LNo} {ss : List (List LAt)} {g : LGal} (h : OnG l ss g) {j : Nat} (hj : j ≤ l.length) : loA g.a j = nA ss j := by
  have hm := ong_mono h
  have hl := h.len
  have hle : nA ss j ≤ g.a.length := by
    have := nA_mono (ss := ss) (i := j)
    rw [← h.flat] at this
    exact this
  have key : ∀ k, k < g.a.length → (k < loA g.a j ↔ k < nA ss j) := fun k hk => by
    obtain ⟨b, b1, b2, b3, b4⟩ := atom_of h hk
    rw [loA_iff hm hk, b2]
    constructor
    · intro q
      have := nA_le (ss := ss) (i := b + 1) (j := j) (by omega) (by omega)
      omega
    · intro q
      refine Decidable.byContradiction fun w => ?_
      have := nA_le (ss := ss) (i := j) (j := b) (by omega) (by omega)
      omega
  have h2 := loA_le g.a j
  refine Nat.le_antisymm (Nat.le_of_not_lt fun q => ?_) (Nat.le_of_not_lt fun q => ?_)
  · have := (key (nA ss j) (by omega)).1 q
    omega
  · have := (key (loA g.a j) (by omega)).2 q
    omega
/-- which atoms a node's are. -/
theorem win_eq {l : List LNo} {ss : List (List LAt)} {g : LGal} (hv : isS l = true) (h : OnG l ss g) {j : Nat} (hj : j < l.length) : winA l g.a j = if nA ss j < nA ss (j + (ndN l j).size.toNat) then ⟨nA ss j, nA ss (j + (ndN l j).size.toNat)⟩ else ⟨0, 0⟩ := by
  have hL := isS_lam hv
  have h1 := hL.pos j hj
  have h2 := hL.fin j hj
  rw [← ndN_siz] at h1 h2
  have e : (j : Int) + (ndN l j).size = (j + (ndN l j).size.toNat : Nat) := by omega
  unfold winA
  rw [if_pos ⟨by omega, by omega⟩, Int.toNat_natCast, e]
  unfold witA
  rw [lo_eq h (by omega), lo_eq h (by omega)]
theorem abvP_mem {l : List LNo} {i : Int} : ∀ {k : Nat} {a : Int}, a ∈ abvD l i k → ∃ n : Nat, a = n ∧ n < k ∧ i < n + sizN l n
  | 0, a, h => by cases h
  | k + 1, a, h => by
    rw [abvD] at h
    split at h
    · rcases List.mem_cons.1 h with rfl | h
      · exact ⟨k, rfl, Nat.lt_succ_self _, by assumption⟩
      · obtain ⟨n, h1, h2, h3⟩ := abvP_mem h
        exact ⟨n, h1, by omega, h3⟩
    · obtain ⟨n, h1, h2, h3⟩ := abvP_mem h
      exact ⟨n, h1, by omega, h3⟩
/-- who is above a place holds it. -/
theorem abvQ_mem {l : List LNo} (hv : isS l = true) {i : Nat} {a : Int} (h : a ∈ abvN l i) : ∃ n : Nat, a = n ∧ n < l.length ∧ n ≤ i ∧ (i : Int) < n + (ndN l n).size := by
  rw [abv_eq hv] at h
  unfold abvR at h
  split at h
  · next q =>
    simp only [hasN, Bool.and_eq_true, decide_eq_true_eq] at q
    rw [Int.toNat_natCast] at h
    obtain ⟨n, h1, h2, h3⟩ := abvP_mem h
    exact ⟨n, h1, by omega, by omega, by rw [ndN_siz]; exact h3⟩
  · cases h
/-- an atom is one of its node's, and of all above. -/
theorem part_in {l : List LNo} {ss : List (List LAt)} {g : LGal} (hv : isS l = true) (h : OnG l ss g) {k : Nat} (hk : k < g.a.length) {a : Int} (ha : a = (atA g.a k).node ∨ a ∈ abvN l (atA g.a k).node) : (winA l g.a a).a ≤ k ∧ k < (winA l g.a a).b := by
  obtain ⟨j, j1, j2, j3, j4⟩ := atom_of h hk
  have hl := h.len
  have hL := isS_lam hv
  rw [j2] at ha
  have key : ∀ n : Nat, n < l.length → n ≤ j → (j : Int) < n + (ndN l n).size → (winA l g.a n).a ≤ k ∧ k < (winA l g.a n).b := fun n n1 n2 n3 => by
    have f2 := hL.fin n n1
    rw [← ndN_siz] at f2
    have h1 := nA_le (ss := ss) (i := n) (j := j) n2 (by omega)
    have h2 := nA_le (ss := ss) (i := j + 1) (j := n + (ndN l n).size.toNat) (by omega) (by omega)
    rw [win_eq hv h n1, if_pos (by omega)]
    exact ⟨by show nA ss n ≤ k; omega, by show k < nA ss (n + (ndN l n).size.toNat); omega⟩
  rcases ha with rfl | ha
  · have := hL.pos j j1
    rw [← ndN_siz] at this
    exact key j j1 (Nat.le_refl _) (by omega)
  · obtain ⟨n, rfl, n1, n2, n3⟩ := abvQ_mem hv ha
    exact key n n1 n2 n3
/-- kids' atoms, from one on: where the next is, and how many there were. -/
structure KdX where
  at_ : Nat
  many : Nat
def kdT (l : List LNo) (A : List LAt) (z : KdX) (c : Int) : KdX := if (winA l A c).a < (winA l A c).b then ⟨(winA l A c).b, z.many + ((winA l A c).b - (winA l A c).a)⟩ else z
theorem kids_go {l : List LNo} {ss : List (List LAt)} {g : LGal} (hv : isS l = true) (h : OnG l ss g) {a : Int} {e : Int} {base : Nat} {full : Bool} : ∀ (f k : Nat) (z : KdX), Row l a e k → e - k ≤ f →
    (full = true → z.at_ = nA ss k ∧ z.many + base = nA ss k) → (full = false → z.at_ = 0 ∧ z.many = 0 ∧ nA ss k = nA ss e.toNat) →
    (∀ i, i < (kidS l e f k).length → ∀ c, (kidS l e f k)[i]? = some c → (winA l g.a c).a < (winA l g.a c).b → (winA l g.a c).a = (((kidS l e f k).take i).foldl (kdT l g.a) z).at_) ∧
    (full = true → ((kidS l e f k).foldl (kdT l g.a) z).at_ = nA ss e.toNat ∧ ((kidS l e f k).foldl (kdT l g.a) z).many + base = nA ss e.toNat) ∧ (full = false → ((kidS l e f k).foldl (kdT l g.a) z).at_ = 0 ∧ ((kidS l e f k).foldl (kdT l g.a) z).many = 0)
  | 0, k, z, hr, hf, h1, h2 => by
    have hle := hr.le
    have ek : k = e.toNat := by omega
    refine ⟨fun i hi => absurd hi (Nat.not_lt_zero _), fun q => ?_, fun q => ⟨(h2 q).1, (h2 q).2.1⟩⟩
    rw [← ek]
    exact h1 q
  | f + 1, k, z, hr, hf, h1, h2 => by
    rw [kidS]
    split
    · next q =>
      have hen := hr.en
      have hL := isS_lam hv
      have hk : k < l.length := by omega
      have hp := hL.pos k hk
      have hfi := hL.fin k hk
      have hnx := hr.next hL q
      have hnl := hnx.le
      have hl := h.len
      have hw := win_eq hv h hk
      rw [ndN_siz] at hw
      have hm1 := nA_le (ss := ss) (i := k) (j := k + (sizN l k).toNat) (by omega) (by omega)
      have hm2 := nA_le (ss := ss) (i := k + (sizN l k).toNat) (j := e.toNat) (by omega) (by omega)
      have st1 : full = true → (kdT l g.a z k).at_ = nA ss (k + (sizN l k).toNat) ∧ (kdT l g.a z k).many + base = nA ss (k + (sizN l k).toNat) := fun w => by
        obtain ⟨w1, w2⟩ := h1 w
        unfold kdT
        by_cases p : nA ss k < nA ss (k + (sizN l k).toNat)
        · rw [hw, if_pos p, if_pos p]
          exact ⟨rfl, by show z.many + (nA ss (k + (sizN l k).toNat) - nA ss k) + base = _; omega⟩
        · rw [hw, if_neg p, if_neg (Nat.lt_irrefl _)]
          exact ⟨by omega, by omega⟩
      have st2 : full = false → (kdT l g.a z k).at_ = 0 ∧ (kdT l g.a z k).many = 0 ∧ nA ss (k + (sizN l k).toNat) = nA ss e.toNat := fun w => by
        obtain ⟨w1, w2, w3⟩ := h2 w
        unfold kdT
        rw [hw, if_neg (show ¬ nA ss k < nA ss (k + (sizN l k).toNat) by omega), if_neg (Nat.lt_irrefl _)]
        exact ⟨w1, w2, by omega⟩
      obtain ⟨i1, i2, i3⟩ := kids_go hv h (base := base) (full := full) f (k + (sizN l k).toNat) (kdT l g.a z k) hnx (by omega) st1 st2
      refine ⟨fun i hi c hc hcc => ?_, i2, i3⟩
      cases i with
      | zero =>
        obtain rfl : (k : Int) = c := by simpa using hc
        rw [List.take_zero, List.foldl_nil]
        rw [hw] at hcc ⊢
        by_cases p : nA ss k < nA ss (k + (sizN l k).toNat)
        · rw [if_pos p]
          cases full with
          | true => exact (h1 rfl).1.symm
          | false => have := (h2 rfl).2.2; omega
        · rw [if_neg p] at hcc
          exact absurd hcc (Nat.lt_irrefl _)
      | succ i =>
        rw [List.take_succ_cons, List.foldl_cons]
        exact i1 i (by simpa using hi) c (by simpa using hc) hcc
    · next q =>
      have hle := hr.le
      have ek : k = e.toNat := by omega
      refine ⟨fun i hi => absurd hi (Nat.not_lt_zero _), fun q => ?_, fun q => ⟨(h2 q).1, (h2 q).2.1⟩⟩
      rw [← ek]
      exact h1 q
theorem kdT_bd {l : List LNo} {A : List LAt} {c : Int} {z : KdX} {k : Nat} (h : z.at_ ≤ 4000 ∧ z.many ≤ 4000 * k) (hA : A.length ≤ 4000) : (kdT l A z c).at_ ≤ 4000 ∧ (kdT l A z c).many ≤ 4000 * (k + 1) := by
  have := winA_le l A c
  unfold kdT
  split
  · exact ⟨by simp only; omega, by simp only; omega⟩
  · exact ⟨by omega, by omega⟩
/-- a block's atoms are its kids', one behind the other. -/
theorem kids_parts {l : List LNo} {ss : List (List LAt)} {g : LGal} (hv : isS l = true) (h : OnG l ss g) {n : Nat} (hn : n < l.length) (hb : (ndN l n).kind = 1) :
    (∀ i, i < (kidN l n).length → ∀ c, (kidN l n)[i]? = some c → (winA l g.a c).a < (winA l g.a c).b → (winA l g.a c).a = (((kidN l n).take i).foldl (kdT l g.a) ⟨(winA l g.a n).a, 0⟩).at_) ∧
    ((kidN l n).foldl (kdT l g.a) ⟨(winA l g.a n).a, 0⟩).at_ = (winA l g.a n).b ∧ ((kidN l n).foldl (kdT l g.a) ⟨(winA l g.a n).a, 0⟩).many + (winA l g.a n).a = (winA l g.a n).b := by
  have hL := isS_lam hv
  have hp := hL.pos n hn
  have hf := hL.fin n hn
  have hl := h.len
  have hw := win_eq hv h hn
  have hns : n < ss.length := by omega
  have hseg := h.seg n hns
  unfold SegC at hseg
  rw [if_neg (by omega), if_neg (by omega)] at hseg
  have e1 : nA ss (n + 1) = nA ss n := by rw [nA_succ hns, hseg]; rfl
  have hhas : hasN l n = true := by simp only [hasN, Bool.and_eq_true, decide_eq_true_eq]; omega
  have ek : kidN l n = kidS l (n + sizN l n) l.length (n + 1) := by
    unfold kidN
    rw [if_neg (by omega), if_pos hhas, Int.toNat_natCast]
  have ee : ((n : Int) + sizN l n).toNat = n + (sizN l n).toNat := by omega
  rw [ndN_siz] at hw
  rw [ek]
  by_cases p : nA ss n < nA ss (n + (sizN l n).toNat)
  · rw [if_pos p] at hw
    rw [hw]
    obtain ⟨k1, k2, k3⟩ := kids_go hv h (base := nA ss n) (full := true) l.length (n + 1) ⟨nA ss n, 0⟩ (Row.down hL hn) (by omega) (fun _ => ⟨e1.symm, by show 0 + nA ss n = _; omega⟩) (fun q => by cases q)
    rw [ee] at k2
    exact ⟨k1, (k2 rfl).1, (k2 rfl).2⟩
  · rw [if_neg p] at hw
    rw [hw]
    have hm := nA_le (ss := ss) (i := n) (j := n + (sizN l n).toNat) (by omega) (by omega)
    obtain ⟨k1, k2, k3⟩ := kids_go hv h (base := 0) (full := false) l.length (n + 1) ⟨0, 0⟩ (Row.down hL hn) (by omega) (fun q => by cases q) (fun _ => ⟨rfl, rfl, by rw [ee]; omega⟩)
    exact ⟨k1, (k3 rfl).1, (k3 rfl).2⟩
/-! floats that are anchored in two parts -/
theorem anch_two {F : List LFl} {n : Nat} {c : Int} (hc : 0 ≤ c ∧ c ≤ n) (h : ∀ f ∈ F, 0 ≤ f.anchor ∧ f.anchor ≤ n) : (anchF F 0 c).length + (anchF F c ((n : Int) + 1)).length = F.length := by
  induction F with
  | nil => rfl
  | cons f F ih =>
    have ih := ih fun g hg => h g (List.mem_cons_of_mem _ hg)
    have hf := h f List.mem_cons_self
    unfold anchF at ih ⊢
    by_cases q : f.anchor < c
    · have e1 : ancF 0 c f = true := by simp [ancF, offF]; omega
      have e2 : ¬ ancF c ((n : Int) + 1) f = true := by simp [ancF, offF]; omega
      rw [List.filter_cons_of_pos e1, List.filter_cons_of_neg e2]
      simp only [List.length_cons]
      omega
    · have e1 : ¬ ancF 0 c f = true := by simp [ancF, offF]; omega
      have e2 : ancF c ((n : Int) + 1) f = true := by simp [ancF, offF]; omega
      rw [List.filter_cons_of_neg e1, List.filter_cons_of_pos e2]
      simp only [List.length_cons]
      omega
theorem res_anc {l : List LNo} {w : Int} (hl : l.length ≤ 60) : ∀ f ∈ (resG l w).f, 0 ≤ f.anchor ∧ f.anchor ≤ (resG l w).a.length := by
  unfold resG
  split
  · next q =>
    have hP := errG_ok hl q
    have hA := anc_all hP
    intro f hf
    simp only [endG, List.mem_map] at hf ⊢
    obtain ⟨g, hg, rfl⟩ := hf
    have := hA g hg
    simp only [endF]
    split <;> omega
  · intro f hf
    cases hf
end Go.Proofs.YtblmebjhhanoaaaGreat
/- CHAPTER 14: flow: the walker: atoms, texts, boxes, floats. -/
/- G -/
/- BOOLS -/
set_option linter.unusedSimpArgs false
set_option linter.unusedVariables false
namespace Go.Proofs.YtblmebjhhanoaaaGreat
open Go.RowKit

abbrev wkO (l : List LNo) (w : Int) (p : LPen) (a f : Nat) (h : Int) : AO := .cells 67 [.hdr a, .hdr f, .raw (.int .i64 h), .raw (.int .i64 p.y), .raw (.int .i64 p.m), .sl 20 (l.map cNo), .sl 2 ((rmsR l w l.length).map cRm)]
theorem rmsR_get {l : List LNo} {w : Int} {k : Nat} (hk : k < l.length) : (rmsR l w l.length)[k]? = some (rmR l w l.length k) := by
  unfold rmsR
  rw [List.getElem?_map, List.getElem?_range hk]
  rfl
set_option maxRecDepth 100000 in
theorem win_ok {l : List LNo} {w : Int} (hP : FlwP l w) (p : LPen) (h : Int) {k : Nat} (hk : k < l.length) : FnOk Tryz.prog 89 [.hdr 0, .raw (.int .i64 k)] [(0, wkO l w p 1 2 h)] (aSpan (spK l w k)) [(0, wkO l w p 1 2 h)] := by
  obtain ⟨r1, r2, r3, r4⟩ := rmR_ok' hP k
  have hlen := hP.len
  have hln := rmsR_len l w l.length
  refine fn_of_awp Tryz.func89 rfl (by kernel_rfl) (by kernel_rfl) (Nat.le_of_ble_eq_true rfl) Tryz.results89 ?_
  simp only [go_sem, Bool.not_eq_true', Bool.not_eq_false', List.length_map, hln]
  refine ⟨by omega, _, rmsR_get hk, by omega, ?_⟩
  (refine ret2 [] (by simp only [go_sem, Bool.not_eq_true', Bool.not_eq_false', spK_a, spK_b]; rfl) ?_; simp only [go_sem, Bool.not_eq_true', Bool.not_eq_false', spK_a, spK_b])
set_option maxRecDepth 100000 in
theorem pput2_ok (p : LPen) (a b : Int) (h : (-4503599627370496 ≤ a ∧ a ≤ 4503599627370496) ∧ (-4503599627370496 ≤ b ∧ b ≤ 4503599627370496)) : FnOk Tryz.prog 43 [aPen p, .raw (.int .i64 a), .raw (.int .i64 b)] [] (.agg [.raw (.int .i64 (a + b)), .raw (.int .i64 0)]) [] := by
  refine fn_of_awp Tryz.func43 rfl (by kernel_rfl) (by kernel_rfl) (Nat.le_of_ble_eq_true rfl) Tryz.results43 ?_
  simp only [go_sem, Bool.not_eq_true', Bool.not_eq_false']
  repeat' first | contradiction | intro _ | refine And.intro ?_ ?_ | refine ex_get (by omega) ?_ | (show drawB _ _ = true; kernel_rfl) | (refine ret2 [] (by simp only [go_sem, Bool.not_eq_true', Bool.not_eq_false']; rfl) ?_; simp only [go_sem, Bool.not_eq_true', Bool.not_eq_false'])
  all_goals omega
set_option maxRecDepth 100000 in
theorem wput_ok (l : List LNo) (w : Int) (s : LGs) (a : LAt) (h : Int) (hl : s.a.length ≤ 4000) (ha : -4611686018427387904 ≤ a.y + a.h ∧ a.y + a.h ≤ 4611686018427387904) (hy : (-4503599627370496 ≤ a.y ∧ a.y ≤ 4503599627370496) ∧ (-4503599627370496 ≤ a.h ∧ a.h ≤ 4503599627370496)) : FnOk Tryz.prog 90 [.hdr 0, aAt a] [(0, wkO l w s.p 1 2 h), (1, rowA s)] (.tup []) [(0, wkO l w ⟨a.y + a.h, 0⟩ 8 2 h), (8, .row 47 8 ((s.a ++ [a]).map cAt))] := by
  have em : List.map cAt s.a ++ [cAt a] = List.map cAt (s.a ++ [a]) := by simp
  simp only [cAt] at em
  refine fn_of_swp Tryz.func90 rfl (by kernel_rfl) (by kernel_rfl) (Nat.le_of_ble_eq_true rfl) Tryz.results90 ?_
  (refine swp_seqW ?_; simp only [go_sem, Bool.not_eq_true', Bool.not_eq_false'])
  (refine swp_seqW ?_; simp only [go_sem, Bool.not_eq_true', Bool.not_eq_false', List.length_map])
  repeat' first | contradiction | intro _ | refine And.intro ?_ ?_ | refine ex_get (by omega) ?_ | (show drawB _ _ = true; kernel_rfl) | (refine ret2 [] (by simp only [go_sem, Bool.not_eq_true', Bool.not_eq_false']; rfl) ?_; simp only [go_sem, Bool.not_eq_true', Bool.not_eq_false'])
  all_goals try omega
  rw [em]
  (refine swp_lastW ?_; simp only [go_sem, Bool.not_eq_true', Bool.not_eq_false'])
  (refine acall2 [] (pput2_ok s.p a.y a.h hy) (by simp only [go_sem, Bool.not_eq_true', Bool.not_eq_false']; rfl) (fit_of (by simp only [go_sem, Bool.not_eq_true', Bool.not_eq_false']) (by simp only [go_sem, Bool.not_eq_true', Bool.not_eq_false']) (by simp only [go_sem, Bool.not_eq_true', Bool.not_eq_false']) (by simp only [go_sem, Bool.not_eq_true', Bool.not_eq_false']) (by simp only [go_sem, Bool.not_eq_true', Bool.not_eq_false']) (by simp only [go_sem, Bool.not_eq_true', Bool.not_eq_false']) (by simp only [go_sem, Bool.not_eq_true', Bool.not_eq_false'])) ?_; simp only [go_sem, Bool.not_eq_true', Bool.not_eq_false'])
  repeat' first | contradiction | intro _ | refine And.intro ?_ ?_ | refine ex_get (by omega) ?_ | (show drawB _ _ = true; kernel_rfl) | (refine ret2 [] (by simp only [go_sem, Bool.not_eq_true', Bool.not_eq_false']; rfl) ?_; simp only [go_sem, Bool.not_eq_true', Bool.not_eq_false'])
  all_goals skip
end Go.Proofs.YtblmebjhhanoaaaGreat
/- CHAPTER 14: flow: the walker lays nodes out. -/
/- G -/
/- BOOLS -/
set_option linter.unusedSimpArgs false
set_option linter.unusedVariables false
namespace Go.Proofs.YtblmebjhhanoaaaGreat
open Go.RowKit

set_option maxRecDepth 100000 in
set_option maxHeartbeats 8000000 in
theorem wtext_ok {l : List LNo} {w : Int} (hP : FlwP l w) {k : Nat} {s : LGs} {B : Int} (hk : k < l.length) (q : (ndN l k).kind = 2) (hs : GsOk l B k s) (hB : B + (hall l - hsN l k) ≤ 1099511627776) :
    FnOk Tryz.prog 61 [.hdr 0, .raw (.int .i64 k)] [(0, wkO l w s.p 1 2 0), (1, rowA s), (2, rowF s)] (.tup []) [(0, wkO l w (txtG (spK l w k) k (ndN l k) s).p 8 9 0), (8, rowA (txtG (spK l w k) k (ndN l k) s)), (9, rowF (txtG (spK l w k) k (ndN l k) s))] := by
  have hnb := nod_at hP.v hk
  have hlen := hP.len
  have hsp := hP.sp k
  have hmono := hs_mono hP.v (show k ≤ l.length by omega) (Nat.le_refl _)
  have hB1 : B ≤ 1099511627776 := by unfold hall at hB; omega
  have hat := hs.at hB1
  have hb := nodB_txt hnb q
  have hln := hb.line
  have hwo := wor_ok hP hk rfl hb q
  have hh1 := hsN_succ hk
  have e1 : hgtN (ndN l k) = (ndN l k).line * (ndN l k).words.length := by unfold hgtN; rw [if_neg (by omega), if_pos q]
  have hmono1 := hs_mono hP.v (show k + 1 ≤ l.length by omega) (Nat.le_refl _)
  have hta := tex_all (ws := (ndN l k).words) (sp := (ndN l k).space) (s := spK l w k) hln.1 (fun g hg => (hs.fs g hg).y.2) (ndN l k).words.length 0 (atP s.p) B (Nat.zero_le _) hs.b (Int.le_refl _)
  have e0 : ((ndN l k).words.length : Int) - (0 : Nat) = (ndN l k).words.length := by omega
  rw [e0, ← e1] at hta
  unfold hall at hB
  have hal := hs.al
  have hps := ps_mono (l := l) (show k ≤ l.length by omega) (Nat.le_refl _)
  have hpa := hP.ps
  have hwl := hwo.len
  unfold pall at hpa
  have htl : (texF s.f (ndN l k).words (ndN l k).space (ndN l k).line (atP s.p) (spK l w k)).length ≤ (ndN l k).words.length := tex_len _ _ _
  have htx := text12_ok s.f (ndN l k).words (ndN l k).space (ndN l k).line (atP s.p) (spK l w k) (hs.lin hB1 (by omega) ⟨by omega, by omega⟩ hsp) hwo ⟨by omega, by omega⟩ ⟨by omega, by omega⟩
  have etx : txtG (spK l w k) k (ndN l k) s = (texF s.f (ndN l k).words (ndN l k).space (ndN l k).line (atP s.p) (spK l w k)).foldl (setG k (ndN l k).line) s := rfl
  rw [etx]
  have hta : ∀ z ∈ texF s.f (ndN l k).words (ndN l k).space (ndN l k).line (atP s.p) (spK l w k), atP s.p ≤ z.y ∧ z.y + (ndN l k).line ≤ B + hgtN (ndN l k) := hta
  have hpy := hs.y
  have hpm := hs.m
  have hpb := hs.b
  have hpn := tex_pen (l := s.f) (ws := (ndN l k).words) (sp := (ndN l k).space) (s := spK l w k) (k := k) hln.1 (fun g hg => (hs.fs g hg).y.2)
  generalize texF s.f (ndN l k).words (ndN l k).space (ndN l k).line (atP s.p) (spK l w k) = T at *
  clear hpn
  refine fn_of_swp Tryz.func61 rfl (by kernel_rfl) (by kernel_rfl) (Nat.le_of_ble_eq_true rfl) Tryz.results61 ?_
  (refine swp_seqW ?_; simp only [go_sem, Bool.not_eq_true', Bool.not_eq_false'])
  refine ⟨by omega, ex_get hk ?_⟩
  rw [← ndN_get hk]
  (refine swp_seqW ?_; simp only [go_sem, Bool.not_eq_true', Bool.not_eq_false'])
  (refine acall2 [] (pat_ok s.p ⟨by omega, by omega, by omega, by omega⟩) (by simp only [go_sem, Bool.not_eq_true', Bool.not_eq_false']; rfl) (fit_of (by simp only [go_sem, Bool.not_eq_true', Bool.not_eq_false']) (by simp only [go_sem, Bool.not_eq_true', Bool.not_eq_false']) (by simp only [go_sem, Bool.not_eq_true', Bool.not_eq_false']) (by simp only [go_sem, Bool.not_eq_true', Bool.not_eq_false']) (by simp only [go_sem, Bool.not_eq_true', Bool.not_eq_false']) (by simp only [go_sem, Bool.not_eq_true', Bool.not_eq_false']) (by simp only [go_sem, Bool.not_eq_true', Bool.not_eq_false'])) ?_; simp only [go_sem, Bool.not_eq_true', Bool.not_eq_false'])
  (refine acallR2 [0 ] [] ( win_ok hP s.p 0 hk) (by simp only [go_sem, Bool.not_eq_true', Bool.not_eq_false']; rfl) (fit_of (by simp only [go_sem, Bool.not_eq_true', Bool.not_eq_false']) (by simp only [go_sem, Bool.not_eq_true', Bool.not_eq_false']) (by simp only [go_sem, Bool.not_eq_true', Bool.not_eq_false']) (by simp only [go_sem, Bool.not_eq_true', Bool.not_eq_false']) (by simp only [go_sem, Bool.not_eq_true', Bool.not_eq_false']) (by simp only [go_sem, Bool.not_eq_true', Bool.not_eq_false']) (by simp only [go_sem, Bool.not_eq_true', Bool.not_eq_false'])) (by simp only [go_sem, Bool.not_eq_true', Bool.not_eq_false', callEff]; first | done | kernel_rfl) ?_; simp only [go_sem, Bool.not_eq_true', Bool.not_eq_false'])
  rw [show atP s.p = s.p.y + s.p.m from rfl] at htx
  (refine acall2 [2 ] ( htx) (by simp only [go_sem, Bool.not_eq_true', Bool.not_eq_false']; rfl) (fit_of (by simp only [go_sem, Bool.not_eq_true', Bool.not_eq_false']) (by simp only [go_sem, Bool.not_eq_true', Bool.not_eq_false']) (by simp only [go_sem, Bool.not_eq_true', Bool.not_eq_false']) (by simp only [go_sem, Bool.not_eq_true', Bool.not_eq_false']) (by simp only [go_sem, Bool.not_eq_true', Bool.not_eq_false']) (by simp only [go_sem, Bool.not_eq_true', Bool.not_eq_false']) (by simp only [go_sem, Bool.not_eq_true', Bool.not_eq_false'])) ?_; simp only [go_sem, Bool.not_eq_true', Bool.not_eq_false'])
  (refine ⟨(show drawB _ _ = true by kernel_rfl), ?_⟩)
  refine swp_block ?_
  refine swp_loop2 [] (fun i : Nat => ⟨[(0, .hdr 0), (1, .raw (.int .i64 k)), (4, .hdr 800), (33, .hdr 801), (34, .raw (.int .i64 T.length)), (35, .raw (.int .i64 i))], [(0, some (wkO l w ((T.take i).foldl (setG k (ndN l k).line) s).p 802 803 0)), (802, some (rowA ((T.take i).foldl (setG k (ndN l k).line) s))), (803, some (rowF ((T.take i).foldl (setG k (ndN l k).line) s))), (800, some (.cells 56 (lNo (ndN l k)))), (801, some (.row 116 5 (T.map cSet)))], none⟩) (fun i => i ≤ T.length) (fun i => T.length - i) 120 0 (by simp only [go_sem, Bool.not_eq_true', Bool.not_eq_false']; rfl) (by simp only [go_sem, Bool.not_eq_true', Bool.not_eq_false', List.length_map, List.take_zero, List.foldl_nil]) ?_ ?_
  · exact Nat.zero_le _
  intro i hi
  have hfo := setG_fold k (ndN l k).line (T.take i) s
  (refine swp_seqW ?_; simp only [go_sem, Bool.not_eq_true', Bool.not_eq_false'])
  (refine swp_seqW ?_; simp only [go_sem, Bool.not_eq_true', Bool.not_eq_false'])
  refine ⟨fun h5 => ?_, fun h5 => ?_⟩
  · have hit : i < T.length := by omega
    have hst := take_setG (k := k) (H := (ndN l k).line) (s := s) hit
    have hti := hta T[i] (List.getElem_mem hit)
    generalize hZ : T[i] = z at hst hti
    have hal2 : ((T.take i).foldl (setG k (ndN l k).line) s).a.length ≤ 4000 := by rw [hfo.1, List.length_append, List.length_map, List.length_take]; omega
    generalize (T.take i).foldl (setG k (ndN l k).line) s = s2 at hst hal2 ⊢
    have hput := wput_ok l w s2 ⟨1, k, z.f, z.t, z.x, z.y, z.w, (ndN l k).line⟩ 0 hal2 ⟨by simp only; omega, by simp only; omega⟩ ⟨⟨by simp only; omega, by simp only; omega⟩, ⟨by simp only; omega, by simp only; omega⟩⟩
    dsimp only at hput
    have hst : List.foldl (setG k (ndN l k).line) s (List.take (i + 1) T) = ⟨s2.a ++ [⟨1, k, z.f, z.t, z.x, z.y, z.w, (ndN l k).line⟩], s2.f, ⟨z.y + (ndN l k).line, 0⟩⟩ := hst
    refine swp_seqS ?_
    refine swp_block ?_
    (refine swp_seqW ?_; simp only [go_sem, Bool.not_eq_true', Bool.not_eq_false', List.length_map])
    refine ⟨by omega, ex_get hit ?_⟩
    rw [hZ]
    (refine swp_lastW ?_; simp only [go_sem, Bool.not_eq_true', Bool.not_eq_false'])
    (refine acall2 [] (hput) (by simp only [go_sem, Bool.not_eq_true', Bool.not_eq_false']; rfl) (fit_of (by simp only [go_sem, Bool.not_eq_true', Bool.not_eq_false']) (by simp only [go_sem, Bool.not_eq_true', Bool.not_eq_false']) (by simp only [go_sem, Bool.not_eq_true', Bool.not_eq_false']) (by simp only [go_sem, Bool.not_eq_true', Bool.not_eq_false']) (by simp only [go_sem, Bool.not_eq_true', Bool.not_eq_false']) (by simp only [go_sem, Bool.not_eq_true', Bool.not_eq_false']) (by simp only [go_sem, Bool.not_eq_true', Bool.not_eq_false'])) ?_; simp only [go_sem, Bool.not_eq_true', Bool.not_eq_false'])
    (refine swp_lastW ?_; simp only [go_sem, Bool.not_eq_true', Bool.not_eq_false'])
    refine ⟨by omega, ?_⟩
    (refine loop_end [] (i + 1) (by simp only [go_sem, Bool.not_eq_true', Bool.not_eq_false']; rfl) ?_ ?_ ?_; (focus first | omega | (simp only; omega)); (focus (simp only [go_sem, Bool.not_eq_true', Bool.not_eq_false', hst]; done)))
    omega
  · obtain rfl : i = T.length := by omega
    rw [List.take_length]
    (refine ret2 [] (by simp only [go_sem, Bool.not_eq_true', Bool.not_eq_false']; rfl) ?_; simp only [go_sem, Bool.not_eq_true', Bool.not_eq_false'])
set_option maxRecDepth 100000 in
set_option maxHeartbeats 8000000 in
theorem wmono_ok {l : List LNo} {w : Int} (hP : FlwP l w) {k : Nat} {s : LGs} {B : Int} (hk : k < l.length) (q : (ndN l k).kind = 3) (hs : GsOk l B k s) (hB : B + (hall l - hsN l k) ≤ 1099511627776) :
    FnOk Tryz.prog 62 [.hdr 0, .raw (.int .i64 k)] [(0, wkO l w s.p 1 2 0), (1, rowA s), (2, rowF s)] (.tup []) [(0, wkO l w (monG (spK l w k) k (ndN l k) s).p 8 9 0), (8, rowA (monG (spK l w k) k (ndN l k) s)), (9, rowF (monG (spK l w k) k (ndN l k) s))] := by
  have hnb := nod_at hP.v hk
  have hlen := hP.len
  have hsp := hP.sp k
  have hmono := hs_mono hP.v (show k ≤ l.length by omega) (Nat.le_refl _)
  have hB1 : B ≤ 1099511627776 := by unfold hall at hB; omega
  have hat := hs.at hB1
  have hb := nodB_mono hnb q
  have hxh := hb.h
  have hal := hs.al
  have hps := ps_mono (l := l) (show k ≤ l.length by omega) (Nat.le_refl _)
  have hpa := hP.ps
  unfold pall at hpa
  have hpy := hs.y
  have hpm := hs.m
  have hpb := hs.b
  have hro := room12_ok s.f (ndN l k).w (ndN l k).h (atP s.p) (spK l w k) (hs.lin hB1 (by omega) ⟨by omega, by omega⟩ hsp) ⟨by omega, by omega⟩
  have hy1 := rom_ge s.f (ndN l k).w (ndN l k).h (atP s.p) (spK l w k)
  have hy2 := rom_le (w := (ndN l k).w) (H := (ndN l k).h) (s := spK l w k) (y := atP s.p) hs.b (fun g hg => (hs.fs g hg).y.2)
  have emo : monG (spK l w k) k (ndN l k) s = ⟨s.a ++ [⟨2, k, 0, 0, (bandF s.f (romY s.f (ndN l k).w (ndN l k).h (atP s.p) (spK l w k)) (ndN l k).h (spK l w k)).a, romY s.f (ndN l k).w (ndN l k).h (atP s.p) (spK l w k), (ndN l k).w, (ndN l k).h⟩], s.f, ⟨romY s.f (ndN l k).w (ndN l k).h (atP s.p) (spK l w k) + (ndN l k).h, 0⟩⟩ := rfl
  rw [emo]
  unfold aRoo at hro
  generalize romY s.f (ndN l k).w (ndN l k).h (atP s.p) (spK l w k) = Y at *
  generalize bandF s.f Y (ndN l k).h (spK l w k) = bd at *
  rw [show atP s.p = s.p.y + s.p.m from rfl] at hro
  have hput := wput_ok l w s ⟨2, k, 0, 0, bd.a, Y, (ndN l k).w, (ndN l k).h⟩ 0 (by omega) ⟨by simp only; omega, by simp only; omega⟩ ⟨⟨by simp only; omega, by simp only; omega⟩, ⟨by simp only; omega, by simp only; omega⟩⟩
  dsimp only at hput
  refine fn_of_swp Tryz.func62 rfl (by kernel_rfl) (by kernel_rfl) (Nat.le_of_ble_eq_true rfl) Tryz.results62 ?_
  (refine swp_seqW ?_; simp only [go_sem, Bool.not_eq_true', Bool.not_eq_false'])
  refine ⟨by omega, ex_get hk ?_⟩
  rw [← ndN_get hk]
  (refine swp_seqW ?_; simp only [go_sem, Bool.not_eq_true', Bool.not_eq_false'])
  (refine acall2 [] (pat_ok s.p ⟨by omega, by omega, by omega, by omega⟩) (by simp only [go_sem, Bool.not_eq_true', Bool.not_eq_false']; rfl) (fit_of (by simp only [go_sem, Bool.not_eq_true', Bool.not_eq_false']) (by simp only [go_sem, Bool.not_eq_true', Bool.not_eq_false']) (by simp only [go_sem, Bool.not_eq_true', Bool.not_eq_false']) (by simp only [go_sem, Bool.not_eq_true', Bool.not_eq_false']) (by simp only [go_sem, Bool.not_eq_true', Bool.not_eq_false']) (by simp only [go_sem, Bool.not_eq_true', Bool.not_eq_false']) (by simp only [go_sem, Bool.not_eq_true', Bool.not_eq_false'])) ?_; simp only [go_sem, Bool.not_eq_true', Bool.not_eq_false'])
  (refine acallR2 [0 ] [] ( win_ok hP s.p 0 hk) (by simp only [go_sem, Bool.not_eq_true', Bool.not_eq_false']; rfl) (fit_of (by simp only [go_sem, Bool.not_eq_true', Bool.not_eq_false']) (by simp only [go_sem, Bool.not_eq_true', Bool.not_eq_false']) (by simp only [go_sem, Bool.not_eq_true', Bool.not_eq_false']) (by simp only [go_sem, Bool.not_eq_true', Bool.not_eq_false']) (by simp only [go_sem, Bool.not_eq_true', Bool.not_eq_false']) (by simp only [go_sem, Bool.not_eq_true', Bool.not_eq_false']) (by simp only [go_sem, Bool.not_eq_true', Bool.not_eq_false'])) (by simp only [go_sem, Bool.not_eq_true', Bool.not_eq_false', callEff]; first | done | kernel_rfl) ?_; simp only [go_sem, Bool.not_eq_true', Bool.not_eq_false'])
  (refine acall2 [2 ] ( hro) (by simp only [go_sem, Bool.not_eq_true', Bool.not_eq_false']; rfl) (fit_of (by simp only [go_sem, Bool.not_eq_true', Bool.not_eq_false']) (by simp only [go_sem, Bool.not_eq_true', Bool.not_eq_false']) (by simp only [go_sem, Bool.not_eq_true', Bool.not_eq_false']) (by simp only [go_sem, Bool.not_eq_true', Bool.not_eq_false']) (by simp only [go_sem, Bool.not_eq_true', Bool.not_eq_false']) (by simp only [go_sem, Bool.not_eq_true', Bool.not_eq_false']) (by simp only [go_sem, Bool.not_eq_true', Bool.not_eq_false'])) ?_; simp only [go_sem, Bool.not_eq_true', Bool.not_eq_false'])
  (refine ⟨(show drawB _ _ = true by kernel_rfl), ?_⟩)
  (refine swp_lastW ?_; simp only [go_sem, Bool.not_eq_true', Bool.not_eq_false'])
  (refine acall2 [] (hput) (by simp only [go_sem, Bool.not_eq_true', Bool.not_eq_false']; rfl) (fit_of (by simp only [go_sem, Bool.not_eq_true', Bool.not_eq_false']) (by simp only [go_sem, Bool.not_eq_true', Bool.not_eq_false']) (by simp only [go_sem, Bool.not_eq_true', Bool.not_eq_false']) (by simp only [go_sem, Bool.not_eq_true', Bool.not_eq_false']) (by simp only [go_sem, Bool.not_eq_true', Bool.not_eq_false']) (by simp only [go_sem, Bool.not_eq_true', Bool.not_eq_false']) (by simp only [go_sem, Bool.not_eq_true', Bool.not_eq_false'])) ?_; simp only [go_sem, Bool.not_eq_true', Bool.not_eq_false'])
  (refine ret2 [] (by simp only [go_sem, Bool.not_eq_true', Bool.not_eq_false']; rfl) ?_; simp only [go_sem, Bool.not_eq_true', Bool.not_eq_false'])
set_option maxRecDepth 100000 in
set_option maxHeartbeats 8000000 in
theorem wfloat_ok {l : List LNo} {w : Int} (hP : FlwP l w) {k : Nat} {s : LGs} {B : Int} (hk : k < l.length) (q : (ndN l k).kind = 4) (hs : GsOk l B k s) (hB : B + (hall l - hsN l k) ≤ 1099511627776) :
    FnOk Tryz.prog 63 [.hdr 0, .raw (.int .i64 k)] [(0, wkO l w s.p 1 2 0), (1, rowA s), (2, rowF s)] (.tup []) [(0, wkO l w (fltG (spK l w k) k (ndN l k) s).p 8 9 0), (8, rowA (fltG (spK l w k) k (ndN l k) s)), (9, rowF (fltG (spK l w k) k (ndN l k) s))] := by
  have hnb := nod_at hP.v hk
  have hlen := hP.len
  have hsp := hP.sp k
  have hmono := hs_mono hP.v (show k ≤ l.length by omega) (Nat.le_refl _)
  have hB1 : B ≤ 1099511627776 := by unfold hall at hB; omega
  have hat := hs.at hB1
  obtain ⟨hb, hsd⟩ := nodB_flt hnb q
  have hal := hs.al
  have hps := ps_mono (l := l) (show k ≤ l.length by omega) (Nat.le_refl _)
  have hpa := hP.ps
  unfold pall at hpa
  have hpy := hs.y
  have hpm := hs.m
  have hpb := hs.b
  have hpu := put11_ok s.f (newF k (ndN l k) s) (atP s.p) (spK l w k) (hs.pla hB1 (by omega) hb hsp)
  have efl : fltG (spK l w k) k (ndN l k) s = ⟨s.a, putP s.f (newF k (ndN l k) s) (atP s.p) (spK l w k), s.p⟩ := rfl
  rw [efl]
  generalize putP s.f (newF k (ndN l k) s) (atP s.p) (spK l w k) = f2 at hpu ⊢
  have enf : newF k (ndN l k) s = ⟨k, (ndN l k).side, s.a.length, 0, 0, (ndN l k).w, (ndN l k).h⟩ := rfl
  rw [enf, show atP s.p = s.p.y + s.p.m from rfl] at hpu
  refine fn_of_swp Tryz.func63 rfl (by kernel_rfl) (by kernel_rfl) (Nat.le_of_ble_eq_true rfl) Tryz.results63 ?_
  (refine swp_seqW ?_; simp only [go_sem, Bool.not_eq_true', Bool.not_eq_false'])
  refine ⟨by omega, ex_get hk ?_⟩
  rw [← ndN_get hk]
  (refine swp_seqW ?_; simp only [go_sem, Bool.not_eq_true', Bool.not_eq_false', List.length_map])
  repeat' first | contradiction | intro _ | refine And.intro ?_ ?_ | refine ex_get (by omega) ?_ | (show drawB _ _ = true; kernel_rfl) | (refine ret2 [] (by simp only [go_sem, Bool.not_eq_true', Bool.not_eq_false']; rfl) ?_; simp only [go_sem, Bool.not_eq_true', Bool.not_eq_false'])
  all_goals try omega
  (refine swp_lastW ?_; simp only [go_sem, Bool.not_eq_true', Bool.not_eq_false'])
  (refine acall2 [] (pat_ok s.p ⟨by omega, by omega, by omega, by omega⟩) (by simp only [go_sem, Bool.not_eq_true', Bool.not_eq_false']; rfl) (fit_of (by simp only [go_sem, Bool.not_eq_true', Bool.not_eq_false']) (by simp only [go_sem, Bool.not_eq_true', Bool.not_eq_false']) (by simp only [go_sem, Bool.not_eq_true', Bool.not_eq_false']) (by simp only [go_sem, Bool.not_eq_true', Bool.not_eq_false']) (by simp only [go_sem, Bool.not_eq_true', Bool.not_eq_false']) (by simp only [go_sem, Bool.not_eq_true', Bool.not_eq_false']) (by simp only [go_sem, Bool.not_eq_true', Bool.not_eq_false'])) ?_; simp only [go_sem, Bool.not_eq_true', Bool.not_eq_false'])
  (refine acallR2 [0 ] [] ( win_ok hP s.p 0 hk) (by simp only [go_sem, Bool.not_eq_true', Bool.not_eq_false']; rfl) (fit_of (by simp only [go_sem, Bool.not_eq_true', Bool.not_eq_false']) (by simp only [go_sem, Bool.not_eq_true', Bool.not_eq_false']) (by simp only [go_sem, Bool.not_eq_true', Bool.not_eq_false']) (by simp only [go_sem, Bool.not_eq_true', Bool.not_eq_false']) (by simp only [go_sem, Bool.not_eq_true', Bool.not_eq_false']) (by simp only [go_sem, Bool.not_eq_true', Bool.not_eq_false']) (by simp only [go_sem, Bool.not_eq_true', Bool.not_eq_false'])) (by simp only [go_sem, Bool.not_eq_true', Bool.not_eq_false', callEff]; first | done | kernel_rfl) ?_; simp only [go_sem, Bool.not_eq_true', Bool.not_eq_false'])
  (refine acall2 [2 ] ( hpu) (by simp only [go_sem, Bool.not_eq_true', Bool.not_eq_false']; rfl) (fit_of (by simp only [go_sem, Bool.not_eq_true', Bool.not_eq_false']) (by simp only [go_sem, Bool.not_eq_true', Bool.not_eq_false']) (by simp only [go_sem, Bool.not_eq_true', Bool.not_eq_false']) (by simp only [go_sem, Bool.not_eq_true', Bool.not_eq_false']) (by simp only [go_sem, Bool.not_eq_true', Bool.not_eq_false']) (by simp only [go_sem, Bool.not_eq_true', Bool.not_eq_false']) (by simp only [go_sem, Bool.not_eq_true', Bool.not_eq_false'])) ?_; simp only [go_sem, Bool.not_eq_true', Bool.not_eq_false'])
  (refine ⟨(show drawB _ _ = true by kernel_rfl), ?_⟩)
  (refine ret2 [] (by simp only [go_sem, Bool.not_eq_true', Bool.not_eq_false']; rfl) ?_; simp only [go_sem, Bool.not_eq_true', Bool.not_eq_false'])
end Go.Proofs.YtblmebjhhanoaaaGreat
/- CHAPTER 14: flow: the walker lays rows of nodes out. -/
/- G -/
/- BOOLS -/
set_option linter.unusedSimpArgs false
set_option linter.unusedVariables false
namespace Go.Proofs.YtblmebjhhanoaaaGreat
open Go.RowKit

abbrev wkS (l : List LNo) (w : Int) (s : LGs) (a f : Nat) : List (Nat × AO) := [(0, wkO l w s.p a f 0), (a, rowA s), (f, rowF s)]
set_option maxRecDepth 100000 in
set_option maxHeartbeats 8000000 in
theorem wblock_ok {l : List LNo} {w : Int} (hP : FlwP l w) {k : Nat} {s : LGs} {B : Int} (hk : k < l.length) (q : (ndN l k).kind = 1) (hs : GsOk l B k s) (hB : B + (hall l - hsN l k) ≤ 1099511627776) {g : Nat} (hn : nst l g (k + 1) (k + (ndN l k).size))
    (hrow : ∀ s', GsOk l (B + (ndN l k).st.top + (ndN l k).st.padTop) (k + 1) s' → FnOk Tryz.prog 26 [.hdr 0, .raw (.int .i64 ((k : Int) + 1)), .raw (.int .i64 (k + (ndN l k).size))] (wkS l w s' 1 2) (.tup []) (wkS l w (rowG l w g (k + 1) (k + (ndN l k).size) s') 8 9)) :
    FnOk Tryz.prog 60 [.hdr 0, .raw (.int .i64 k)] (wkS l w s 1 2) (.tup []) (wkS l w (lvG (ndN l k) (rowG l w g (k + 1) (k + (ndN l k).size) (entG (ndN l k) s))) 8 9) := by
  have hnb := nod_at hP.v hk
  have hlen := hP.len
  have hmono := hs_mono hP.v (show k ≤ l.length by omega) (Nat.le_refl _)
  have hB1 : B ≤ 1099511627776 := by unfold hall at hB; omega
  have hat := hs.at hB1
  have hb := nodB_blk hnb q
  have hclr := clr_bd (ndN l k) hs
  have hent := ent_ok hk hb hs
  have hh1 := hsN_succ hk
  have e1 : hgtN (ndN l k) = (ndN l k).st.top + (ndN l k).st.bottom + (ndN l k).st.padTop + (ndN l k).st.padBottom + (ndN l k).st.head := by unfold hgtN; rw [if_pos q]
  have hclt : (lowO (ndN l k).st.clear s.f).is = true → clrG (ndN l k) s = penC s.p (lowO (ndN l k).st.clear s.f).n := fun w => if_pos w
  have hclf : ¬ (lowO (ndN l k).st.clear s.f).is = true → clrG (ndN l k) s = s.p := fun w => if_neg w
  have hlo : (lowO (ndN l k).st.clear s.f).is = true → 0 ≤ (lowO (ndN l k).st.clear s.f).n ∧ (lowO (ndN l k).st.clear s.f).n ≤ B := fun w => by
    obtain ⟨f, hf, e⟩ := most_at w
    have e : (lowO (ndN l k).st.clear s.f).n = f.y + f.h := e
    have h4 := (hs.fs f hf).y
    have h5 := (hs.fs f hf).h
    omega
  have hne := hs.near hB1 (show k ≤ 60 by omega)
  have hfl := hs.fl
  have hy := hs.y
  have hm := hs.m
  have hbb := hs.b
  have ersz := isS_lam hP.v
  have hL1 := ersz.pos k hk
  have hL2 := ersz.fin k hk
  rw [← ndN_siz] at hL1 hL2
  have hlc : FnOk Tryz.prog 64 [.sl 7 (s.f.map cFl), .raw (.int .i64 (ndN l k).st.clear)] [] (aIs (lowO (ndN l k).st.clear s.f)) [] := blow_ok s.f (ndN l k).st.clear (by omega) hne
  refine fn_of_swp Tryz.func60 rfl (by kernel_rfl) (by kernel_rfl) (Nat.le_of_ble_eq_true rfl) Tryz.results60 ?_
  (refine swp_seqW ?_; simp only [go_sem, Bool.not_eq_true', Bool.not_eq_false'])
  refine ⟨by omega, ex_get hk ?_⟩
  rw [← ndN_get hk]
  refine swp_cutS (fun _ : Unit => ⟨[(0, .hdr 0), (1, .raw (.int .i64 k)), (4, .hdr 800)], [(0, some (wkO l w (clrG (ndN l k) s) 1 2 0)), (1, some (rowA s)), (2, some (rowF s)), (800, some (.cells 54 (lSty (ndN l k).st)))], none⟩) (fun _ => True) 120 ?_ ?_
  · (refine swp_seqW ?_; simp only [go_sem, Bool.not_eq_true', Bool.not_eq_false'])
    (refine acall2 [2 ] ( hlc) (by simp only [go_sem, Bool.not_eq_true', Bool.not_eq_false']; rfl) (fit_of (by simp only [go_sem, Bool.not_eq_true', Bool.not_eq_false']) (by simp only [go_sem, Bool.not_eq_true', Bool.not_eq_false']) (by simp only [go_sem, Bool.not_eq_true', Bool.not_eq_false']) (by simp only [go_sem, Bool.not_eq_true', Bool.not_eq_false']) (by simp only [go_sem, Bool.not_eq_true', Bool.not_eq_false']) (by simp only [go_sem, Bool.not_eq_true', Bool.not_eq_false']) (by simp only [go_sem, Bool.not_eq_true', Bool.not_eq_false'])) ?_; simp only [go_sem, Bool.not_eq_true', Bool.not_eq_false'])
    (refine ⟨(show drawB _ _ = true by kernel_rfl), ?_⟩)
    (refine swp_seqW ?_; simp only [go_sem, Bool.not_eq_true', Bool.not_eq_false'])
    (refine swp_condW ?_; simp only [go_sem, Bool.not_eq_true', Bool.not_eq_false'])
    refine ⟨fun hi => ?_, fun hi => ?_⟩
    · rw [hclt hi]
      have := hlo hi
      (refine swp_lastW ?_; simp only [go_sem, Bool.not_eq_true', Bool.not_eq_false'])
      (refine acall2 [] (pclear_ok s.p (lowO (ndN l k).st.clear s.f).n ⟨by omega, by omega, by omega, by omega⟩) (by simp only [go_sem, Bool.not_eq_true', Bool.not_eq_false']; rfl) (fit_of (by simp only [go_sem, Bool.not_eq_true', Bool.not_eq_false']) (by simp only [go_sem, Bool.not_eq_true', Bool.not_eq_false']) (by simp only [go_sem, Bool.not_eq_true', Bool.not_eq_false']) (by simp only [go_sem, Bool.not_eq_true', Bool.not_eq_false']) (by simp only [go_sem, Bool.not_eq_true', Bool.not_eq_false']) (by simp only [go_sem, Bool.not_eq_true', Bool.not_eq_false']) (by simp only [go_sem, Bool.not_eq_true', Bool.not_eq_false'])) ?_; simp only [go_sem, Bool.not_eq_true', Bool.not_eq_false'])
      repeat' first | contradiction | intro _ | refine And.intro ?_ ?_ | refine ex_get (by omega) ?_ | (show drawB _ _ = true; kernel_rfl) | (refine ret2 [] (by simp only [go_sem, Bool.not_eq_true', Bool.not_eq_false']; rfl) ?_; simp only [go_sem, Bool.not_eq_true', Bool.not_eq_false'])
      all_goals
        (refine cut_end [] (()) (by simp only [go_sem, Bool.not_eq_true', Bool.not_eq_false']; rfl) ?_ ?_; (focus (simp only [go_sem, Bool.not_eq_true', Bool.not_eq_false']; done)))
        trivial
    · have hi : (lowO (ndN l k).st.clear s.f).is = false := hi
      rw [hclf (by rw [hi]; decide)]
      (refine swp_lastW ?_; simp only [go_sem, Bool.not_eq_true', Bool.not_eq_false'])
      (refine cut_end [] (()) (by simp only [go_sem, Bool.not_eq_true', Bool.not_eq_false']; rfl) ?_ ?_; (focus (simp only [go_sem, Bool.not_eq_true', Bool.not_eq_false']; done)))
      trivial
  rintro - -
  have eent : entG (ndN l k) s = ⟨s.a, s.f, penE (clrG (ndN l k) s) (ndN l k).st.top (ndN l k).st.padTop⟩ := rfl
  have hrow := hrow _ hent
  have hrw := rowG_ok hP g (k + 1) (k + (ndN l k).size) _ _ hn (by omega) hent
  have e3 : ((k : Int) + (ndN l k).size).toNat = k + (ndN l k).size.toNat := by omega
  rw [e3] at hrw
  have hmono2 := hs_mono hP.v (show k + (ndN l k).size.toNat ≤ l.length by omega) (Nat.le_refl _)
  have hmono0 := hs_mono hP.v (show k + 1 ≤ k + (ndN l k).size.toNat by omega) (by omega)
  have hhd := hb.head
  have hbo := hb.bottom
  have hpb := hb.padBottom
  have htp := hb.top
  have hpt := hb.padTop
  unfold hall at hB
  rw [eent] at hrow hrw ⊢
  have elv : ∀ z : LGs, lvG (ndN l k) z = ⟨z.a, z.f, penL z.p (ndN l k).st.bottom (ndN l k).st.padBottom⟩ := fun z => rfl
  rw [elv]
  generalize rowG l w g (k + 1) (k + (ndN l k).size) _ = z at hrow hrw ⊢
  have y1 := hrw.y
  have y2 := hrw.m
  have y3 := hrw.b
  (refine swp_seqW ?_; simp only [go_sem, Bool.not_eq_true', Bool.not_eq_false'])
  (refine acall2 [] (penter_ok (clrG (ndN l k) s) (ndN l k).st.top (ndN l k).st.padTop ⟨by omega, by omega, by omega, by omega⟩) (by simp only [go_sem, Bool.not_eq_true', Bool.not_eq_false']; rfl) (fit_of (by simp only [go_sem, Bool.not_eq_true', Bool.not_eq_false']) (by simp only [go_sem, Bool.not_eq_true', Bool.not_eq_false']) (by simp only [go_sem, Bool.not_eq_true', Bool.not_eq_false']) (by simp only [go_sem, Bool.not_eq_true', Bool.not_eq_false']) (by simp only [go_sem, Bool.not_eq_true', Bool.not_eq_false']) (by simp only [go_sem, Bool.not_eq_true', Bool.not_eq_false']) (by simp only [go_sem, Bool.not_eq_true', Bool.not_eq_false'])) ?_; simp only [go_sem, Bool.not_eq_true', Bool.not_eq_false'])
  (refine ⟨(show drawB _ _ = true by kernel_rfl), ?_⟩)
  (refine swp_seqW ?_; simp only [go_sem, Bool.not_eq_true', Bool.not_eq_false'])
  repeat' first | contradiction | intro _ | refine And.intro ?_ ?_ | refine ex_get (by omega) ?_ | (show drawB _ _ = true; kernel_rfl) | (refine ret2 [] (by simp only [go_sem, Bool.not_eq_true', Bool.not_eq_false']; rfl) ?_; simp only [go_sem, Bool.not_eq_true', Bool.not_eq_false'])
  all_goals try omega
  all_goals rw [← ndN_get hk]
  all_goals try omega
  (refine acall2 [] (hrow) (by simp only [go_sem, Bool.not_eq_true', Bool.not_eq_false']; rfl) (fit_of (by simp only [go_sem, Bool.not_eq_true', Bool.not_eq_false']) (by simp only [go_sem, Bool.not_eq_true', Bool.not_eq_false']) (by simp only [go_sem, Bool.not_eq_true', Bool.not_eq_false']) (by simp only [go_sem, Bool.not_eq_true', Bool.not_eq_false']) (by simp only [go_sem, Bool.not_eq_true', Bool.not_eq_false']) (by simp only [go_sem, Bool.not_eq_true', Bool.not_eq_false']) (by simp only [go_sem, Bool.not_eq_true', Bool.not_eq_false'])) ?_; simp only [go_sem, Bool.not_eq_true', Bool.not_eq_false'])
  (refine swp_lastW ?_; simp only [go_sem, Bool.not_eq_true', Bool.not_eq_false'])
  (refine acall2 [] (pleave_ok z.p (ndN l k).st.bottom (ndN l k).st.padBottom ⟨by omega, by omega, by omega, by omega⟩) (by simp only [go_sem, Bool.not_eq_true', Bool.not_eq_false']; rfl) (fit_of (by simp only [go_sem, Bool.not_eq_true', Bool.not_eq_false']) (by simp only [go_sem, Bool.not_eq_true', Bool.not_eq_false']) (by simp only [go_sem, Bool.not_eq_true', Bool.not_eq_false']) (by simp only [go_sem, Bool.not_eq_true', Bool.not_eq_false']) (by simp only [go_sem, Bool.not_eq_true', Bool.not_eq_false']) (by simp only [go_sem, Bool.not_eq_true', Bool.not_eq_false']) (by simp only [go_sem, Bool.not_eq_true', Bool.not_eq_false'])) ?_; simp only [go_sem, Bool.not_eq_true', Bool.not_eq_false'])
  (refine ⟨(show drawB _ _ = true by kernel_rfl), ?_⟩)
  (refine ret2 [] (by simp only [go_sem, Bool.not_eq_true', Bool.not_eq_false']; rfl) ?_; simp only [go_sem, Bool.not_eq_true', Bool.not_eq_false'])
set_option maxRecDepth 100000 in
set_option maxHeartbeats 8000000 in
theorem wrow_ok {l : List LNo} {w : Int} (hP : FlwP l w) : ∀ (F g : Nat), g ≤ F → ∀ (k : Nat) (e : Int) (s : LGs) (B : Int), nst l g k e → e ≤ l.length → GsOk l B k s → B + (hall l - hsN l k) ≤ 1099511627776 →
    FnOk Tryz.prog 26 [.hdr 0, .raw (.int .i64 k), .raw (.int .i64 e)] (wkS l w s 1 2) (.tup []) (wkS l w (rowG l w g k e s) 8 9)
  | 0, g, hg, k, e, s, B, hn, he, hs, hB => by
    obtain rfl : g = 0 := by omega
    exact absurd hn (by simp [nst])
  | F + 1, g, hg, k, e, s, B, hn, he, hs, hB => by
    have hlen := hP.len
    refine fn_of_swp Tryz.func26 rfl (by kernel_rfl) (by kernel_rfl) (Nat.le_of_ble_eq_true rfl) Tryz.results26 ?_
    (refine swp_seqW ?_; simp only [go_sem, Bool.not_eq_true', Bool.not_eq_false'])
    refine swp_block ?_
    refine swp_loop2 [] (fun z : KY LGs => ⟨[(0, .hdr 0), (1, .raw (.int .i64 z.k)), (2, .raw (.int .i64 e)), (6, .hdr 800)], [(0, some (wkO l w z.o.p 802 803 0)), (802, some (rowA z.o)), (803, some (rowF z.o)), (800, some (.cells 107 [.raw Value.nilFunc, .bnd (.func 60) [.hdr 0], .bnd (.func 61) [.hdr 0], .bnd (.func 62) [.hdr 0], .bnd (.func 63) [.hdr 0]]))], none⟩) (fun z => ∃ B' g', g' ≤ g ∧ nst l g' z.k e ∧ GsOk l B' z.k z.o ∧ B' + (hall l - hsN l z.k) ≤ 1099511627776 ∧ rowG l w g' z.k e z.o = rowG l w g k e s) (fun z => l.length - z.k) 120 ⟨k, s⟩ (by simp only [go_sem, Bool.not_eq_true', Bool.not_eq_false']; rfl) (by simp only [go_sem, Bool.not_eq_true', Bool.not_eq_false']) ?_ ?_
    · exact ⟨B, g, Nat.le_refl _, hn, hs, hB, rfl⟩
    rintro ⟨kk, z⟩ ⟨B', g', z1, z2, z3, z4, z5⟩
    simp only at z1 z2 z3 z4 z5
    (refine swp_seqW ?_; simp only [go_sem, Bool.not_eq_true', Bool.not_eq_false'])
    refine ⟨fun h5 => ?_, fun h5 => ?_⟩
    rotate_left
    · have e5 : rowG l w g' kk e z = z := by
        cases g' with
        | zero => rfl
        | succ m => rw [rowG, if_neg h5]
      rw [← z5, e5]
      (refine ret2 [] (by simp only [go_sem, Bool.not_eq_true', Bool.not_eq_false']; rfl) ?_; simp only [go_sem, Bool.not_eq_true', Bool.not_eq_false'])
    obtain ⟨m, rfl⟩ : ∃ m, g' = m + 1 := by
      cases g' with
      | zero => exact absurd z2 (by simp [nst])
      | succ m => exact ⟨m, rfl⟩
    obtain ⟨u1, u2, u3, u4⟩ := z2.2 h5
    rw [← ndN_siz] at u1 u2 u3 u4
    have hkk : kk < l.length := by omega
    rw [rowG, if_pos h5] at z5
    have hnb := nod_at hP.v hkk
    have hnx := nod_next hP hkk u3 z3
    have hm1 := hs_mono hP.v (show kk + (ndN l kk).size.toNat ≤ l.length by omega) (Nat.le_refl _)
    have hm0 := hs_mono hP.v (show kk ≤ kk + (ndN l kk).size.toNat by omega) (by omega)
    have hcl : FnOk Tryz.prog (if (ndN l kk).kind = 1 then 60 else if (ndN l kk).kind = 2 then 61 else if (ndN l kk).kind = 3 then 62 else 63) [.hdr 0, .raw (.int .i64 kk)] (wkS l w z 1 2) (.tup []) (wkS l w (nodG l w (rowG l w m) kk z) 8 9) := by
      unfold nodG
      rcases nodB_kind hnb with q | q | q | q
      · rw [if_pos q, if_pos q]
        have hb := nodB_blk hnb q
        have hhd := hb.head
        have hbo := hb.bottom
        have hpb := hb.padBottom
        have hh1 := hsN_succ hkk
        have e1 : hgtN (ndN l kk) = (ndN l kk).st.top + (ndN l kk).st.bottom + (ndN l kk).st.padTop + (ndN l kk).st.padBottom + (ndN l kk).st.head := by unfold hgtN; rw [if_pos q]
        exact wblock_ok hP hkk q z3 z4 u3 fun s' hs' => wrow_ok hP F m (by omega) (kk + 1) _ s' _ u3 (by omega) hs' (by omega)
      · rw [if_neg (by omega), if_pos q, if_neg (by omega), if_pos q]
        exact wtext_ok hP hkk q z3 z4
      · rw [if_neg (by omega), if_neg (by omega), if_pos q, if_neg (by omega), if_neg (by omega), if_pos q]
        exact wmono_ok hP hkk q z3 z4
      · rw [if_neg (by omega), if_neg (by omega), if_neg (by omega), if_neg (by omega), if_neg (by omega), if_neg (by omega)]
        exact wfloat_ok hP hkk q z3 z4
    generalize nodG l w (rowG l w m) kk z = z' at hcl hnx z5
    obtain ⟨sz, hsz2⟩ : ∃ sz : Nat, (ndN l kk).size = sz := ⟨(ndN l kk).size.toNat, by omega⟩
    rw [hsz2] at u1 u2 u3 u4 z5 hnx hm1 hm0
    rw [Int.toNat_natCast] at u4 z5 hnx hm1 hm0
    refine swp_seqS ?_
    refine swp_block ?_
    (refine swp_lastW ?_; simp only [go_sem, Bool.not_eq_true', Bool.not_eq_false'])
    refine ⟨by omega, ex_get hkk ?_⟩
    rw [← ndN_get hkk]
    rcases nodB_kind hnb with q | q | q | q
    all_goals
      rw [q]
      rw [q] at hcl
      simp only [if_true, Int.reduceEq, if_false] at hcl
      refine ⟨⟨by omega, by omega⟩, by omega, ?_⟩
      simp only [go_sem, Bool.not_eq_true', Bool.not_eq_false', Int.reduceToNat, Int.reduceLT, Int.reduceLE, Int.reduceEq, Int.reduceAdd, Int.reduceSub, Int.reduceMul, Int.reduceNeg, Int.reduceNe, decide_false, Int.cast_ofNat_Int, kSet, List.getElem?_cons_succ, List.getElem?_cons_zero, List.set_cons_succ, List.set_cons_zero, exists_eq_left', forall_const, true_implies, List.drop_zero, List.drop_succ_cons, List.take_succ_cons, List.take_zero, List.headD_cons]
      (refine acallM2 [] (hcl) (by simp only [go_sem, Bool.not_eq_true', Bool.not_eq_false']; rfl) (fit_of (by simp only [go_sem, Bool.not_eq_true', Bool.not_eq_false']) (by simp only [go_sem, Bool.not_eq_true', Bool.not_eq_false']) (by simp only [go_sem, Bool.not_eq_true', Bool.not_eq_false']) (by simp only [go_sem, Bool.not_eq_true', Bool.not_eq_false']) (by simp only [go_sem, Bool.not_eq_true', Bool.not_eq_false']) (by simp only [go_sem, Bool.not_eq_true', Bool.not_eq_false']) (by simp only [go_sem, Bool.not_eq_true', Bool.not_eq_false'])) ?_; simp only [go_sem, Bool.not_eq_true', Bool.not_eq_false'])
      (refine swp_lastW ?_; simp only [go_sem, Bool.not_eq_true', Bool.not_eq_false'])
      refine ⟨by omega, ex_get hkk ?_⟩
      rw [← ndN_get hkk, hsz2]
      refine ⟨⟨by omega, by omega⟩, ?_⟩
      (refine loop_end [] (⟨kk + sz, z'⟩) (by simp only [go_sem, Bool.not_eq_true', Bool.not_eq_false']; rfl) ?_ ?_ ?_; (focus first | omega | (simp only; omega)); (focus (simp only [go_sem, Bool.not_eq_true', Bool.not_eq_false']; done)))
      exact ⟨_, m, by omega, u4, hnx, by show _ + (hall l - hsN l (kk + sz)) ≤ _; omega, z5⟩
end Go.Proofs.YtblmebjhhanoaaaGreat
/- CHAPTER 14: flow.Of. -/
/- G -/
/- BOOLS -/
set_option linter.unusedSimpArgs false
set_option linter.unusedVariables false
namespace Go.Proofs.YtblmebjhhanoaaaGreat
open Go.RowKit

theorem low3 {f : LFl} (h : f.side = 1 ∨ f.side = 2) : lowF 3 f = ⟨f.y + f.h, true⟩ := by
  unfold lowF
  have : decide (andI f.side 3 ≠ 0) = true := by rcases h with e | e <;> (rw [e]; decide)
  rw [this]
theorem hgt_fold : ∀ (fs : List LFl) (b : Int) (o : LIs), (∀ f ∈ fs, f.side = 1 ∨ f.side = 2) → o.is = true → (fs.foldl (mostT (lowF 3)) o).is = true ∧ hgtS (max b o.n) fs = max b (fs.foldl (mostT (lowF 3)) o).n
  | [], b, o, _, ho => ⟨ho, rfl⟩
  | f :: fs, b, o, hf, ho => by
    have hl := low3 (hf f List.mem_cons_self)
    have e : mostT (lowF 3) o f = ⟨max o.n (f.y + f.h), true⟩ := by
      unfold mostT
      rw [hl]
      simp only [true_and]
      split
      · next h => have := h ho; congr 1; omega
      · next h =>
        have h1 : ¬ o.n < f.y + f.h := fun w => h fun _ => w
        cases o with
        | mk n is =>
          simp only at ho h1 ⊢
          rw [ho]
          congr 1
          omega
    obtain ⟨i1, i2⟩ := hgt_fold fs b ⟨max o.n (f.y + f.h), true⟩ (fun g hg => hf g (List.mem_cons_of_mem _ hg)) rfl
    rw [List.foldl_cons, e]
    refine ⟨i1, ?_⟩
    rw [← i2]
    show hgtS (max (max b o.n) (f.y + f.h)) fs = _
    congr 1
    simp only
    omega
theorem hgt_low {fs : List LFl} {b : Int} (hf : ∀ f ∈ fs, f.side = 1 ∨ f.side = 2) : hgtS b fs = if (lowO 3 fs).is = true then max b (lowO 3 fs).n else b := by
  cases fs with
  | nil => rfl
  | cons f fs =>
    have hl := low3 (hf f List.mem_cons_self)
    have e : lowO 3 (f :: fs) = fs.foldl (mostT (lowF 3)) ⟨f.y + f.h, true⟩ := by
      show fs.foldl (mostT (lowF 3)) (mostT (lowF 3) ⟨0, false⟩ f) = _
      congr 1
      unfold mostT
      rw [hl]
      simp
    obtain ⟨i1, i2⟩ := hgt_fold fs b ⟨f.y + f.h, true⟩ (fun g hg => hf g (List.mem_cons_of_mem _ hg)) rfl
    rw [e, if_pos i1, ← i2]
    rfl
abbrev wkH (l : List LNo) (w : Int) (p : LPen) (a f : Nat) (h : Int) : AO := wkO l w p a f h
set_option maxRecDepth 100000 in
set_option maxHeartbeats 8000000 in
theorem wend_ok {l : List LNo} {w : Int} (hP : FlwP l w) {s : LGs} (hA : GsOk l (hall l) l.length s) (hc : AncP l.length s) :
    FnOk Tryz.prog 27 [.hdr 0] (wkS l w s 1 2) (.tup []) [(0, wkO l w s.p 1 9 (hgtS (atP s.p) s.f)), (1, rowA s), (9, .row 62 7 ((s.f.map (endF s.a.length)).map cFl))] := by
  have hlen := hP.len
  have hH := hP.hi
  have hpp := hP.ps
  unfold pall at hpp
  have hy := hA.y
  have hm := hA.m
  have hb := hA.b
  have hfl := hA.fl
  have hal := hA.al
  have hne := hA.near hH hlen
  have hfs2 : ∀ f ∈ s.f, 0 ≤ f.y + f.h ∧ f.y + f.h ≤ 1099511627776 := fun f hf => by
    have h1 := (hA.fs f hf).y
    have h2 := (hA.fs f hf).h
    omega
  have hgl := hgt_low (b := atP s.p) (fun f hf => (hA.fs f hf).side)
  have hlc : FnOk Tryz.prog 64 [.sl 7 (s.f.map cFl), .raw (.int .i64 3)] [] (aIs (lowO 3 s.f)) [] := blow_ok s.f 3 (by omega) hne
  unfold atP at hgl ⊢
  refine fn_of_swp Tryz.func27 rfl (by kernel_rfl) (by kernel_rfl) (Nat.le_of_ble_eq_true rfl) Tryz.results27 ?_
  (refine swp_seqW ?_; simp only [go_sem, Bool.not_eq_true', Bool.not_eq_false'])
  (refine acall2 [] (pat_ok s.p ⟨by omega, by omega, by omega, by omega⟩) (by simp only [go_sem, Bool.not_eq_true', Bool.not_eq_false']; rfl) (fit_of (by simp only [go_sem, Bool.not_eq_true', Bool.not_eq_false']) (by simp only [go_sem, Bool.not_eq_true', Bool.not_eq_false']) (by simp only [go_sem, Bool.not_eq_true', Bool.not_eq_false']) (by simp only [go_sem, Bool.not_eq_true', Bool.not_eq_false']) (by simp only [go_sem, Bool.not_eq_true', Bool.not_eq_false']) (by simp only [go_sem, Bool.not_eq_true', Bool.not_eq_false']) (by simp only [go_sem, Bool.not_eq_true', Bool.not_eq_false'])) ?_; simp only [go_sem, Bool.not_eq_true', Bool.not_eq_false'])
  refine swp_cutS (fun _ : Unit => ⟨[(0, .hdr 0)], [(0, some (wkO l w s.p 1 2 (hgtS (s.p.y + s.p.m) s.f))), (1, some (rowA s)), (2, some (rowF s))], none⟩) (fun _ => True) 120 ?_ ?_
  · (refine swp_seqW ?_; simp only [go_sem, Bool.not_eq_true', Bool.not_eq_false'])
    (refine acall2 [2 ] ( hlc) (by simp only [go_sem, Bool.not_eq_true', Bool.not_eq_false']; rfl) (fit_of (by simp only [go_sem, Bool.not_eq_true', Bool.not_eq_false']) (by simp only [go_sem, Bool.not_eq_true', Bool.not_eq_false']) (by simp only [go_sem, Bool.not_eq_true', Bool.not_eq_false']) (by simp only [go_sem, Bool.not_eq_true', Bool.not_eq_false']) (by simp only [go_sem, Bool.not_eq_true', Bool.not_eq_false']) (by simp only [go_sem, Bool.not_eq_true', Bool.not_eq_false']) (by simp only [go_sem, Bool.not_eq_true', Bool.not_eq_false'])) ?_; simp only [go_sem, Bool.not_eq_true', Bool.not_eq_false'])
    (refine swp_seqW ?_; simp only [go_sem, Bool.not_eq_true', Bool.not_eq_false'])
    (refine swp_condW ?_; simp only [go_sem, Bool.not_eq_true', Bool.not_eq_false'])
    refine ⟨fun hi => ?_, fun hi => ?_⟩
    · rw [hgl, if_pos hi]
      (refine swp_lastW ?_; simp only [go_sem, Bool.not_eq_true', Bool.not_eq_false'])
      repeat' first | contradiction | intro _ | refine And.intro ?_ ?_ | refine ex_get (by omega) ?_ | (show drawB _ _ = true; kernel_rfl) | (refine ret2 [] (by simp only [go_sem, Bool.not_eq_true', Bool.not_eq_false']; rfl) ?_; simp only [go_sem, Bool.not_eq_true', Bool.not_eq_false'])
      all_goals
        (refine cut_end [] (()) (by simp only [go_sem, Bool.not_eq_true', Bool.not_eq_false']; rfl) ?_ ?_; (focus (simp only [go_sem, Bool.not_eq_true', Bool.not_eq_false']; done)))
        trivial
    · have hi : (lowO 3 s.f).is = false := hi
      rw [hgl, if_neg (by rw [hi]; decide)]
      (refine swp_lastW ?_; simp only [go_sem, Bool.not_eq_true', Bool.not_eq_false'])
      (refine cut_end [] (()) (by simp only [go_sem, Bool.not_eq_true', Bool.not_eq_false']; rfl) ?_ ?_; (focus (simp only [go_sem, Bool.not_eq_true', Bool.not_eq_false']; done)))
      trivial
  rintro - -
  (refine swp_seqW ?_; simp only [go_sem, Bool.not_eq_true', Bool.not_eq_false', List.length_map])
  refine swp_block ?_
  generalize hgtS (s.p.y + s.p.m) s.f = ht
  refine swp_loop2 [] (fun i : Nat => ⟨[(0, .hdr 0), (40, .raw (.int .i64 s.f.length)), (41, .raw (.int .i64 i))], [(0, some (wkO l w s.p 1 802 ht)), (1, some (rowA s)), (802, some (.row 62 7 ((flE s.a.length s.f i).map cFl)))], none⟩) (fun i => i ≤ s.f.length) (fun i => s.f.length - i) 120 0 (by simp only [go_sem, Bool.not_eq_true', Bool.not_eq_false']; rfl) (by simp only [go_sem, Bool.not_eq_true', Bool.not_eq_false', flE_zero]) ?_ ?_
  · exact Nat.zero_le _
  intro i hi
  have hln := @flE_len s.a.length s.f i
  (refine swp_seqW ?_; simp only [go_sem, Bool.not_eq_true', Bool.not_eq_false'])
  (refine swp_seqW ?_; simp only [go_sem, Bool.not_eq_true', Bool.not_eq_false'])
  refine ⟨fun h5 => ?_, fun h5 => ?_⟩
  rotate_left
  · obtain rfl : i = s.f.length := by omega
    rw [flE_all]
    (refine ret2 [] (by simp only [go_sem, Bool.not_eq_true', Bool.not_eq_false']; rfl) ?_; simp only [go_sem, Bool.not_eq_true', Bool.not_eq_false'])
  have hii : i < s.f.length := by omega
  have hg := flE_get (n := s.a.length) hii
  have hst := flE_set (n := s.a.length) hii
  have hfi := hfs2 _ (List.getElem_mem hii)
  have hci := hc _ (List.getElem_mem hii)
  generalize hE : flE s.a.length s.f i = E at *
  have eS : ∀ f', endF s.a.length s.f[i] = f' → (E.map cFl).set i (cFl f') = (flE s.a.length s.f (i + 1)).map cFl := fun f' e => by rw [← e, ← hst, List.map_set]
  generalize s.f[i] = f at *
  have ef : endF s.a.length f = ⟨f.node, f.side, max 0 (min f.anchor ((s.a.length : Int) - 1)), f.x, f.y, f.w, f.h⟩ := by
    unfold endF
    congr 1
    split <;> omega
  have e := eS _ ef
  simp only [cFl] at e
  refine swp_seqS ?_
  refine swp_block ?_
  (refine swp_seqW ?_; simp only [go_sem, Bool.not_eq_true', Bool.not_eq_false'])
  (refine swp_lastW ?_; simp only [go_sem, Bool.not_eq_true', Bool.not_eq_false', List.length_map])
  refine ⟨by omega, f, hg, ?_⟩
  refine ⟨⟨by omega, by omega⟩, ⟨by omega, by omega⟩, f, hg, ?_⟩
  (refine ⟨(show drawB _ _ = true by kernel_rfl), ?_⟩)
  (refine swp_lastW ?_; simp only [go_sem, Bool.not_eq_true', Bool.not_eq_false'])
  refine ⟨by omega, ?_⟩
  (refine loop_end [] (i + 1) (by simp only [go_sem, Bool.not_eq_true', Bool.not_eq_false']; rfl) ?_ ?_ ?_; (focus first | omega | (simp only; omega)); (focus (simp only [go_sem, Bool.not_eq_true', Bool.not_eq_false', e]; done)))
  omega
set_option maxRecDepth 100000 in
theorem umay14_ok (n : Int) : FnOk Tryz.prog 25 [.raw (.int .i64 n)] [] (.raw (.bool (decide (1 ≤ n ∧ n ≤ 1099511627776)))) [] := by
  refine fn_of_awp Tryz.func25 rfl (by kernel_rfl) (by kernel_rfl) (Nat.le_of_ble_eq_true rfl) Tryz.results25 ?_
  simp only [go_sem, Bool.not_eq_true', Bool.not_eq_false']
  repeat' first | contradiction | intro _ | refine And.intro ?_ ?_ | refine ex_get (by omega) ?_ | (show drawB _ _ = true; kernel_rfl) | (refine ret2 [] (by simp only [go_sem, Bool.not_eq_true', Bool.not_eq_false']; rfl) ?_; simp only [go_sem, Bool.not_eq_true', Bool.not_eq_false'])
  all_goals first
    | omega
    | (simp; omega)
end Go.Proofs.YtblmebjhhanoaaaGreat
/- ENGINE (second) 17: a drawn statement with a sum that may wrap; over any program. -/
/- G -/
set_option linter.unusedSimpArgs false
set_option linter.unusedVariables false
namespace Go.Proofs.YtblmebjhhanoaaaGreat
open Go.RowKit

set_option maxHeartbeats 1000000 in
/-- a statement whose order is open, from what each operation does. -/
theorem draw_chain {P : Program} {ops : List Oper} {K : Nat → AS → Prop} {n : Nat} {S : AS} (hmx : P.follows .mixedOrders = true) (h : ∃ Es Sf, Chain P (ops.map (·.dst)) ops n ⟨S.t, S.s, some []⟩ Es Sf ∧ drawK ops K (n + ops.length) Sf) : ADraw P ops K n S := by
  intro rd m0 c id p ρ a w Q hd hmod hn ha hQ
  obtain ⟨Es, Sf, hch, hK⟩ := h
  obtain ⟨hlen, hat, hfg, hfo, hfl⟩ := chain_at ops n _ Es Sf hch
  have hlg := hfl [] rfl
  unfold drawK at hK
  rw [hlg] at hK
  dsimp only at hK
  obtain ⟨hB, hK⟩ := hK
  unfold drawB at hB
  simp only [List.append_nil, List.reverse_reverse, Bool.and_eq_true] at hB
  obtain ⟨⟨-, hback⟩, hcross⟩ := hB
  have hback : ∀ i o, ops[i]? = some o → ∀ e ∈ o.after, Region.binds .any e = true → e.on < i := fun i o ho e he hb => by
    have h1 := List.all_eq_true.1 hback (o, i) (by rw [List.mem_iff_getElem?]; exact ⟨i, by simp [ho]⟩)
    have h2 := List.all_eq_true.1 h1 e (by simpa using he)
    simpa [hb] using h2
  -- two that are not ordered do not cross
  have hpair : ∀ i j x y Ex Ey, i < j → ops[i]? = some x → ops[j]? = some y → Es[i]? = some Ex → Es[j]? = some Ey → (((bfm ops [])[j]?).getD 0).testBit i = true ∨
      (crossB ops x y = false ∧ (∀ q ∈ Ex.objs.map (·.1), q ∉ Ey.reads ∧ q ∉ Ey.objs.map (·.1)) ∧ ∀ q ∈ Ey.objs.map (·.1), q ∉ Ex.reads) := by
    intro i j x y Ex Ey hij hx hy hEx hEy
    have hjl : j < ops.length := (List.getElem?_eq_some_iff.1 hy).1
    have h1 := List.all_eq_true.1 (List.all_eq_true.1 hcross j (List.mem_range.2 hjl)) i (List.mem_range.2 hij)
    rw [Bool.or_eq_true] at h1
    rcases h1 with h1 | h1
    · exact .inl h1
    · refine .inr ?_
      simp only [hx, hy, List.getElem?_map, hEx, hEy, Option.map_some, Bool.and_eq_true, Bool.not_eq_true'] at h1
      obtain ⟨⟨h2, h3⟩, h4⟩ := h1
      refine ⟨h2, fun q hq => ?_, meetB_none h4⟩
      have := meetB_none h3 q hq
      rw [List.mem_append] at this
      exact ⟨fun e => this (.inl e), fun e => this (.inr e)⟩
  have hEs : ∀ i o, ops[i]? = some o → ∃ E, Es[i]? = some E := fun i o ho => ⟨_, List.getElem?_eq_getElem (by rw [hlen]; exact (List.getElem?_eq_some_iff.1 ho).1)⟩
  have hwr := @wrs_get ops Es
  -- the blocks of names in use
  have key : ∀ (f : Nat) (listed : Array Bool) (ρ' : Env) (a' : Act) (w' : World), HeadInv .any ops.toArray ops.length listed → cnt (fun j => !listed.getD j false) ops.length = f →
      Mod c (fun i => p i ∨ ∃ j, j < ops.length ∧ listed.getD j false = true ∧ i / 8 = n + j) ρ' (ap (wrs ops Es) (fun j => listed.getD j false) S) a'.tmps w' → DefOk c a' w' → wpAnyIn (FW rd) m0 P .any ops.toArray Q f listed a' w' := by
    intro f
    induction f with
    | zero =>
      intro listed ρ' a' w' inv hc hm ha'
      have hall := cnt_zero _ hc
      have hl : ∀ j, j < ops.length → listed.getD j false = true := fun j hj => by simpa using hall j hj
      refine ⟨?_, ?_⟩
      · refine List.eq_nil_iff_forall_not_mem.2 fun i hi => ?_
        obtain ⟨h1, o, ho, -⟩ := mem_ready.1 hi
        have hi' : i < ops.length := by have := (Array.getElem?_eq_some_iff.1 ho).1; simpa using this
        have := hl i hi'
        rw [getD_both h1] at this
        cases this
      · refine hQ _ _ _ ρ' a' w' hK (hm.same (fun t => ?_) (fun q => ?_)) (fun i hi => ?_) ha'
        · rw [ap_get]
          exact (hfg t).trans (gL_congr fun k d E hk _ => by
            obtain ⟨o, ho, -⟩ := (hwr k d E).1 hk
            rw [hl k (List.getElem?_eq_some_iff.1 ho).1])
        · rw [ap_obj]
          exact (hfo q).trans (oL_congr fun k d E hk _ => by
            obtain ⟨o, ho, -⟩ := (hwr k d E).1 hk
            rw [hl k (List.getElem?_eq_some_iff.1 ho).1])
        · rcases hi with hi | ⟨j, h1, -, h3⟩
          · have := hn i hi; omega
          · omega
    | succ f ih =>
      intro listed ρ' a' w' inv hc hm ha'
      have hLcl : ∀ j m, (bfm ops [])[j]? = some m → listed.getD j false = true → ∀ i, m.testBit i = true → listed.getD i false = true := by
        refine bfm_closed (L := fun j => listed.getD j false) ops [] 0 rfl (fun i o ho hL e he hb => ?_) (fun j m hj => by simp at hj)
        rw [Nat.zero_add] at hL ⊢
        exact ⟨hback i o ho e he hb, inv.closed i o (by simpa using ho) hL e he hb⟩
      obtain ⟨m, hm', hm1, hm2⟩ := cnt_pos ops.length (by rw [hc]; omega)
      have hmun : listed.getD m false = false := by simpa using hm1
      have hmr : m ∈ Region.ready .any ops.toArray listed := by
        refine mem_ready.2 ⟨getD_in (by rw [inv.size]; simpa using hm') hmun, ops[m], by simp [hm'], fun e he hb => ?_⟩
        have := hm2 e.on (hback m ops[m] (List.getElem?_eq_getElem hm') e he hb)
        simpa using this
      refine ⟨fun h0 => (by rw [h0] at hmr; cases hmr), fun i hi => ?_⟩
      obtain ⟨hiun, o, ho, hall⟩ := mem_ready.1 hi
      have hiun' : listed.getD i false = false := getD_both hiun
      have ho' : ops[i]? = some o := by simpa using ho
      have hil : i < ops.length := (List.getElem?_eq_some_iff.1 ho').1
      obtain ⟨E, ran, Si, hE, ⟨hG, hD, hS⟩, hgi, hoi⟩ := hat i o ho'
      -- those who come up later don't reach here
      have hlater : ∀ k, listed.getD k false = true → (((bfm ops [])[k]?).getD 0).testBit i = true → False := fun k hk ht => by
        cases hb : (bfm ops [])[k]? with
        | none => rw [hb] at ht; simp at ht
        | some m => rw [hb] at ht; have := hLcl k m hb hk i ht; rw [hiun'] at this; cases this
      have hmine : ∀ k, (((bfm ops [])[i]?).getD 0).testBit k = true → listed.getD k false = true := fun k ht => by
        cases hb : (bfm ops [])[i]? with
        | none => rw [hb] at ht; simp at ht
        | some m =>
          rw [hb] at ht
          have hh : (fun j => listed.getD j false || decide (j = i)) k = true := by
            refine bfm_closed (L := fun j => listed.getD j false || decide (j = i)) ops [] 0 rfl (fun j oj hj hL e he hbd => ?_) (fun j m hj => by simp at hj) i m hb (by simp) k ht
            rw [Nat.zero_add] at hL ⊢
            refine ⟨hback j oj hj e he hbd, ?_⟩
            simp only [Bool.or_eq_true, decide_eq_true_eq] at hL ⊢
            rcases hL with hL | rfl
            · exact .inl (inv.closed j oj (by simpa using hj) hL e he hbd)
            · rw [ho'] at hj
              injection hj with hj
              subst hj
              exact .inl (hall e he hbd)
          simp only [Bool.or_eq_true, decide_eq_true_eq] at hh
          rcases hh with h | h
          · exact h
          · subst h
            exact absurd (bfm_lt ops [] 0 rfl (fun i o ho e he hb => by rw [Nat.zero_add]; exact hback i o ho e he hb) (fun j m hj => by simp at hj) k m hb k ht) (Nat.lt_irrefl _)
      -- what it looks at is as it was in the text's order
      have hsame : ∀ t, t ∈ slotsOf ops o → (ap (wrs ops Es) (fun j => listed.getD j false) S).get t = Si.get t := fun t ht => by
        rw [ap_get, hgi t]
        refine gL_congr fun k d Ek hk hdk => ?_
        obtain ⟨ok, hok, hEk, hdst⟩ := (hwr k d Ek).1 hk
        subst hdk
        rcases Nat.lt_trichotomy k i with hlt | heq | hgt
        · simp only [hlt, decide_true]
          rcases hpair k i ok o Ek E hlt hok ho' hEk hE with h1 | ⟨h1, -⟩
          · exact hmine k h1
          · exact absurd ht ((crossB_none h1).1 t hdst).1
        · subst heq; simp [hiun']
        · simp only [show ¬ k < i by omega, decide_false]
          rcases hpair i k o ok E Ek hgt ho' hok hE hEk with h1 | ⟨h1, -⟩
          · cases hL : listed.getD k false with
            | false => rfl
            | true => exact (hlater k hL h1).elim
          · exact absurd ht ((crossB_none h1).2 t hdst)
      have hsameo : ∀ q, q ∈ E.reads → (ap (wrs ops Es) (fun j => listed.getD j false) S).obj q = Si.obj q := fun q hq => by
        rw [ap_obj, hoi q]
        refine oL_congr fun k d Ek hk hfk => ?_
        obtain ⟨ok, hok, hEk, hdst⟩ := (hwr k d Ek).1 hk
        have hkey := find_keys.1 hfk
        rcases Nat.lt_trichotomy k i with hlt | heq | hgt
        · simp only [hlt, decide_true]
          rcases hpair k i ok o Ek E hlt hok ho' hEk hE with h1 | ⟨-, h1, -⟩
          · exact hmine k h1
          · exact absurd hq (h1 q hkey).1
        · subst heq; simp [hiun']
        · simp only [show ¬ k < i by omega, decide_false]
          rcases hpair i k o ok E Ek hgt ho' hok hE hEk with h1 | ⟨-, -, h1⟩
          · cases hL : listed.getD k false with
            | false => rfl
            | true => exact (hlater k hL h1).elim
          · exact absurd hq (h1 q hkey)
      -- the state behind it
      have hLi : (fun j => (listed.setIfInBounds i true).getD j false) = fun j => if j = i then true else listed.getD j false := by
        funext j
        by_cases hji : j = i
        · subst hji
          have : j < listed.size := by rw [inv.size]; simpa using hil
          simp [this]
        · rw [if_neg hji, getD_set_ne false (Ne.symm hji)]
      have hLi0 : (fun j => if j = i then false else listed.getD j false) = fun j => listed.getD j false := by
        funext j
        by_cases hji : j = i
        · subst hji; simp [hiun']
        · rw [if_neg hji]
      have hwi : (wrs ops Es)[i]? = some (o.dst, E) := (hwr i o.dst E).2 ⟨o, ho', hE, rfl⟩
      have hnew : ∀ S1 : AS, (∀ t, S1.get t = if o.dst = some t then E.val else (ap (wrs ops Es) (fun j => listed.getD j false) S).get t) → (∀ q, S1.obj q = match find E.objs q with | some r => r | none => (ap (wrs ops Es) (fun j => listed.getD j false) S).obj q) →
          (∀ t, (ap (wrs ops Es) (fun j => (listed.setIfInBounds i true).getD j false) S).get t = S1.get t) ∧ (∀ q, (ap (wrs ops Es) (fun j => (listed.setIfInBounds i true).getD j false) S).obj q = S1.obj q) := fun S1 e1 e2 => by
        refine ⟨fun t => ?_, fun q => ?_⟩
        · rw [e1 t, ap_get, ap_get, hLi, gL_add hwi (fun k d' E' hlt hk hd1 hd2 => ?_), hLi0]
          obtain ⟨ok, hok, hEk, hdst⟩ := (hwr k d' E').1 hk
          rcases hpair i k o ok E E' hlt ho' hok hE hEk with h1 | ⟨h1, -⟩
          · cases hL : listed.getD k false with
            | false => rfl
            | true => exact (hlater k hL h1).elim
          · exact absurd (hdst.trans (hd1.trans hd2)) ((crossB_none h1).1 t hd2).2
        · rw [e2 q, ap_obj, ap_obj, hLi, oL_add hwi (fun k d' E' hlt hk hd1 hd2 => ?_), hLi0]
          · rfl
          obtain ⟨ok, hok, hEk, hdst⟩ := (hwr k d' E').1 hk
          rcases hpair i k o ok E E' hlt ho' hok hE hEk with h1 | ⟨-, h1, -⟩
          · cases hL : listed.getD k false with
            | false => rfl
            | true => exact (hlater k hL h1).elim
          · exact absurd (find_keys.1 hd1) (h1 q (find_keys.1 hd2)).2
      have hpp : ∀ j, (fun q => p q ∨ ∃ j, j < ops.length ∧ listed.getD j false = true ∧ q / 8 = n + j) j ∨ j / 8 = n + i → p j ∨ ∃ k, k < ops.length ∧ (listed.setIfInBounds i true).getD k false = true ∧ j / 8 = n + k := by
        rintro j ((h | ⟨k, h1, h2, h3⟩) | h)
        · exact .inl h
        · exact .inr ⟨k, h1, getD_set_true h2, h3⟩
        · refine .inr ⟨i, hil, ?_, h⟩
          have := congrFun hLi i
          simpa using this
      have hcnt : cnt (fun j => !(listed.setIfInBounds i true).getD j false) ops.length = f := by
        have h1 := cnt_set (p := fun j => !listed.getD j false) (i := i) (by simp only [hiun']; rfl) ops.length hil
        have h2 : cnt (fun j => !(listed.setIfInBounds i true).getD j false) ops.length = cnt (set1 (fun j => !listed.getD j false) i false) ops.length := by
          refine cnt_congr _ fun j _ => ?_
          have := congrFun hLi j
          show (!(listed.setIfInBounds i true).getD j false) = set1 (fun j => !listed.getD j false) i false j
          rw [show (listed.setIfInBounds i true).getD j false = if j = i then true else listed.getD j false from this]
          unfold set1
          by_cases hji : j = i
          · simp [hji]
          · simp [hji]
        omega
      have hdd : ∀ v, DefOk c (a'.put o.dst v) w' := fun v => ha'.put o.dst v
      -- is it asked for?
      have hwant : Region.wanted o (yielded ops.toArray a'.tmps) = ran := by
        unfold GuardIs at hG
        unfold Region.wanted
        cases hg : o.guard with
        | none => rw [hg] at hG; simp [hG]
        | some q =>
          obtain ⟨j, want⟩ := q
          rw [hg] at hG
          obtain ⟨d, b, h1, h2, h3⟩ := hG
          have hbind : (ops.toArray[j]?).bind (·.dst) = some d := by
            rw [List.getElem?_map] at h1
            cases hoj : ops[j]? with
            | none => rw [hoj] at h1; simp at h1
            | some oj => rw [hoj] at h1; simp at h1; simp [hoj, h1]
          have hsl : d ∈ slotsOf ops o := mem_slots.2 (.inr ⟨j, want, hg, by simpa using hbind⟩)
          have hb : a'.tmps.getD d undef = b := by
            have := hm.tmps d
            rw [hsame d hsl, h2] at this
            simpa [Rep] using this
          simp only [yielded_bv hbind hb, h3]
      unfold wpOpIn
      rw [ho]
      show if Region.wanted o _ then _ else _
      rw [hwant]
      cases ran with
      | false =>
        rw [if_neg (by simp)]
        have hE0 := hS rfl
        subst hE0
        obtain ⟨n1, n2⟩ := hnew ((ap (wrs ops Es) (fun j => listed.getD j false) S).putO o.dst (.raw undef)) (fun t => putO_get _ _ _ t) (fun q => by rw [putO_obj]; rfl)
        refine ⟨fun _ _ => trivial, ?_⟩
        exact ih _ ρ' _ w' (inv.set hi (by simpa using hil)) hcnt (((hm.put o.dst (v := .raw undef) (by simp [Rep]) (hd o (List.mem_of_getElem? ho'))).same n1 n2).mono fun j hj => hpp j (.inl hj)) (hdd undef)
      | true =>
        rw [if_pos rfl]
        refine hD rfl (ap (wrs ops Es) (fun j => listed.getD j false) S) (fun x hx => ?_) hsameo rd m0 (c.anew (ap (wrs ops Es) (fun j => listed.getD j false) S) ρ' w') _ ρ' a' w' hm.rebase (fun q hq e => ?_) _ Q fun v ρ2 w2 hm2' hv => ?_
        · cases x with
          | tmp t => exact hsame t (mem_slots.2 (.inl hx))
          | _ => rfl
        · rcases hq with hq | ⟨j, h1, h2, h3⟩
          · have := hn q hq; omega
          · have : j = i := by omega
            subst this
            rw [hiun'] at h2
            cases h2
        · obtain ⟨n1, n2⟩ := hnew (((ap (wrs ops Es) (fun j => listed.getD j false) S).upd E.objs).putO o.dst E.val) (fun t => putO_get _ _ _ t) (fun q => (putO_obj _ _ _ q).trans (upd_obj _ _ q))
          have hm2 := hm.back hm2'
          exact ih _ ρ2 _ w2 (inv.set hi (by simpa using hil)) hcnt (((hm2.put o.dst hv (hd o (List.mem_of_getElem? ho'))).same n1 n2).mono hpp) ((ha'.keep hm hm2').put o.dst v)
  have hcn : ∀ k, cnt (fun j => !(Array.replicate ops.toArray.size false).getD j false) k = k := by
    intro k
    induction k with
    | zero => rfl
    | succ k ih => unfold cnt; rw [ih, getD_replicate_false]; rfl
  refine wpIn_region_any hmx ?_
  have := key ops.length (Array.replicate ops.toArray.size false) ρ a { w with drawn := w.drawn + 1 } ⟨by simp, fun j oj _ hl => (by rw [getD_replicate_false] at hl; cases hl), fun t h1 h2 => by simp at h2; omega⟩ (hcn _)
    ((hmod.drew.same (fun t => ?_) (fun q => ?_)).mono fun i hi => .inl hi) ha
  · simpa using this
  · rw [ap_get]
    exact (gL_congr (L' := fun _ => false) fun k _ _ _ _ => getD_replicate_false _ _).trans (gL_none _ _ _)
  · rw [ap_obj]
    exact (oL_congr (L' := fun _ => false) fun k _ _ _ _ => getD_replicate_false _ _).trans (oL_none _ _ _)
theorem chain_app {P : Program} {D : List (Option Nat)} : ∀ (a b : List Oper) (n : Nat) (S : AS) (Ea Eb : List Eff) (Sa Sf : AS), Chain P D a n S Ea Sa → Chain P D b (n + a.length) Sa Eb Sf → Chain P D (a ++ b) n S (Ea ++ Eb) Sf
  | [], b, n, S, Ea, Eb, Sa, Sf, h1, h2 => by
    obtain ⟨rfl, rfl⟩ := h1
    exact h2
  | o :: a, b, n, S, Ea, Eb, Sa, Sf, h1, h2 => by
    obtain ⟨E, ran, S1, Es', rfl, hs, hst, hr⟩ := h1
    rw [List.length_cons, Nat.add_comm a.length 1, ← Nat.add_assoc] at h2
    exact ⟨E, ran, S1, Es' ++ Eb, rfl, hs, hst, chain_app a b _ _ _ _ _ _ hr h2⟩
/-- a drawn statement, one of whose operations is a sum that may wrap. -/
theorem swp_addw {P : Program} {id : Nat} {l : List Oper} {Q : Exit → Nat → AS → Prop} {n : Nat} {S : AS} (k : Nat) (kx ky : Int) {o : Oper} {x y : Operand} {t u : TypeId} (hmx : P.follows .mixedOrders = true) (hk : (l.take k).length = k) (e : l.take k ++ o :: l.drop (k + 1) = l) (ho : o.op = .binOp .add t x y u) (hg : o.guard = none)
    (h : AOps P (W (l.map (·.dst))) (W (l.take k)) (fun n' S' => S'.val x = .raw (.int .i64 kx) ∧ S'.val y = .raw (.int .i64 ky) ∧ AOps P (W (l.map (·.dst))) (W (l.drop (k + 1))) (drawK (W l) (Q .normal)) (n' + 1) (fin o.dst ⟨.raw (.int .i64 (IntKind.i64.wrap (kx + ky))), [], []⟩ S')) n ⟨S.t, S.s, some []⟩) : SWP P (.region id l.toArray true) Q n S := by
  refine .mk ?_
  intro rd m0 c p ρ a w hrg hd hm hn ha
  have hd' : ∀ o ∈ l, ∀ d, o.dst = some d → d < c.N := fun o ho d e => by
    have := List.all_eq_true.1 hd o (by simpa using ho)
    rw [e] at this
    simpa using this
  obtain ⟨E1, S1, c1, hx, hy, h2⟩ := aops_chain (D := l.map (·.dst)) (l.take k) n _ rfl h
  obtain ⟨-, -, -, -, hfl⟩ := chain_at (l.take k) n _ E1 S1 c1
  have hlg := hfl [] rfl
  obtain ⟨E2, S2, c2, h3⟩ := aops_chain (D := l.map (·.dst)) (l.drop (k + 1)) _ _ (by rw [fin_lg, hlg]; rfl) h2
  have hst : StepIs P (l.map (·.dst)) o (n + (l.take k).length) S1 ⟨.raw (.int .i64 (IntKind.i64.wrap (kx + ky))), [], []⟩ true := by
    refine ⟨by unfold GuardIs; rw [hg], fun _ S' h1 _ => ?_, fun q => by cases q⟩
    exact does_addw ho (by rw [h1 x (by rw [ho]; simp [Op.operands]), hx]) (by rw [h1 y (by rw [ho]; simp [Op.operands]), hy])
  have hc := chain_app (l.take k) (o :: l.drop (k + 1)) n _ E1 (_ :: E2) S1 S2 c1 ⟨_, true, S1, E2, rfl, ⟨fun _ => rfl, fun _ => rfl, rfl⟩, hst, c2⟩
  rw [e] at hc
  refine draw_chain hmx ⟨_, S2, hc, ?_⟩ rd m0 c id p ρ a w (Lift c Q) hd' hm hn ha (fun n' S' p' ρ' a' w' h1 h2 h3 h4 => ⟨h4, n', S', p', ρ', h1, h2, h3⟩)
  have el : n + l.length = n + (l.take k).length + 1 + (l.drop (k + 1)).length := by
    have := congrArg List.length e
    rw [List.length_append, List.length_cons] at this
    omega
  rw [el]
  exact h3
theorem sli_same {P : Program} {A : Array Oper} {Q : Exit → Nat → AS → Prop} {ops : List Oper} {n : Nat} {S S1 : AS} (h1 : ∀ d, S1.get d = S.get d) (h2 : ∀ i, S1.obj i = S.obj i) (h : SLi P A Q ops n S1) : SLi P A Q ops n S :=
  ⟨fun rd m0 c p ρ a w hd hm hn ha => h.h rd m0 c p ρ a w hd (hm.same h1 h2) hn ha⟩
theorem chain_sli {P : Program} {D : List (Option Nat)} {A : Array Oper} {Q : Exit → Nat → AS → Prop} : ∀ (ops : List Oper) (n : Nat) (S : AS) (Es : List Eff) (Sf : AS), (∀ o ∈ ops, o.guard = none) → Chain P D ops n S Es Sf → Q .normal (n + ops.length) ⟨Sf.t, Sf.s, none⟩ → SLi P A Q ops n S
  | [], n, S, Es, Sf, _, h, hq => by
    obtain ⟨rfl, rfl⟩ := h
    exact sli_same (S1 := ⟨Sf.t, Sf.s, none⟩) (fun _ => rfl) (fun _ => rfl) (sli_nil hq)
  | o :: rest, n, S, Es, Sf, hg, h, hq => by
    obtain ⟨E, ran, S1, Es', rfl, hs, ⟨hgi, hst, -⟩, hr⟩ := h
    have g := hg o List.mem_cons_self
    unfold GuardIs at hgi
    rw [g] at hgi
    refine sli_same hs.1 hs.2.1 (sli_cons g (hst hgi S1 (fun _ _ => rfl) (fun _ _ => rfl)) (chain_sli rest (n + 1) _ Es' Sf (fun o ho => hg o (List.mem_cons_of_mem _ ho)) hr ?_))
    rw [List.length_cons, Nat.add_comm rest.length 1, ← Nat.add_assoc] at hq
    exact hq
/-- a statement in the text's order, one of whose operations is a sum that may wrap. -/
theorem swp_addv {P : Program} {id : Nat} {l : List Oper} {Q : Exit → Nat → AS → Prop} {n : Nat} {S : AS} (k : Nat) (kx ky : Int) {o : Oper} {x y : Operand} {t u : TypeId} (hgs : ∀ o ∈ l, o.guard = none) (hk : (l.take k).length = k) (e : l.take k ++ o :: l.drop (k + 1) = l) (ho : o.op = .binOp .add t x y u) (hg : o.guard = none)
    (h : AOps P (W (l.map (·.dst))) (W (l.take k)) (fun n' S' => S'.val x = .raw (.int .i64 kx) ∧ S'.val y = .raw (.int .i64 ky) ∧ AOps P (W (l.map (·.dst))) (W (l.drop (k + 1))) (fun n' S' => Q .normal n' ⟨S'.t, S'.s, none⟩) (n' + 1) (fin o.dst ⟨.raw (.int .i64 (IntKind.i64.wrap (kx + ky))), [], []⟩ S')) n ⟨S.t, S.s, some []⟩) : SWP P (.region id l.toArray false) Q n S := by
  obtain ⟨E1, S1, c1, hx, hy, h2⟩ := aops_chain (D := l.map (·.dst)) (l.take k) n _ rfl h
  obtain ⟨-, -, -, -, hfl⟩ := chain_at (l.take k) n _ E1 S1 c1
  have hlg := hfl [] rfl
  obtain ⟨E2, S2, c2, h3⟩ := aops_chain (D := l.map (·.dst)) (l.drop (k + 1)) _ _ (by rw [fin_lg, hlg]; rfl) h2
  have hst : StepIs P (l.map (·.dst)) o (n + (l.take k).length) S1 ⟨.raw (.int .i64 (IntKind.i64.wrap (kx + ky))), [], []⟩ true := by
    refine ⟨by unfold GuardIs; rw [hg], fun _ S' h1 _ => ?_, fun q => by cases q⟩
    exact does_addw ho (by rw [h1 x (by rw [ho]; simp [Op.operands]), hx]) (by rw [h1 y (by rw [ho]; simp [Op.operands]), hy])
  have hc := chain_app (l.take k) (o :: l.drop (k + 1)) n _ E1 (_ :: E2) S1 S2 c1 ⟨_, true, S1, E2, rfl, ⟨fun _ => rfl, fun _ => rfl, rfl⟩, hst, c2⟩
  rw [e] at hc
  refine swp_region (sli_same (S1 := ⟨S.t, S.s, some []⟩) (fun _ => rfl) (fun _ => rfl) (chain_sli l n _ _ S2 hgs hc ?_))
  have el : n + l.length = n + (l.take k).length + 1 + (l.drop (k + 1)).length := by
    have := congrArg List.length e
    rw [List.length_append, List.length_cons] at this
    omega
  rw [el]
  exact h3
end Go.Proofs.YtblmebjhhanoaaaGreat
/- CHAPTER 06: valid: Count, Check: the words' number may wrap. -/
/- G -/
/- BOOLS -/
set_option linter.unusedSimpArgs false
set_option linter.unusedVariables false
namespace Go.Proofs.YtblmebjhhanoaaaGreat
open Go.RowKit

def cntW (c : LCt) (es : List Int) (i : Nat) (x : LNo) : LCt := ⟨if x.kind = 1 then max c.d (endT es i x).length else c.d, if x.kind = 1 then c.p else IntKind.i64.wrap (c.p + pcsN x), c.n + 1, cutM (c.h + hgtN x)⟩
set_option maxRecDepth 100000 in
set_option maxHeartbeats 8000000 in
theorem node6w_ok (c : LCt) (es : List Int) (i : Nat) (x : LNo) (hx : nodB x = true) (he : es.length ≤ 999) (hi : i ≤ 1000) (hs : 0 ≤ x.size ∧ x.size ≤ 1000) (hw : x.words.length ≤ 9223372036854775807) (hh : 0 ≤ c.h ∧ c.h ≤ 1099511627777) (hn : 0 ≤ c.n ∧ c.n ≤ 1000) :
    FnOk Tryz.prog 75 [.hdr 0, .raw (.int .i64 i), aNo x] [cO c 1, (1, .row 3 1 (es.map cInt))] (.tup []) [cO (cntW c es i x) 8, (8, .row 3 1 ((endT es i x).map cInt))] := by
  have hgl : (gtL es i).length ≤ es.length := List.length_filter_le _ _
  refine fn_of_swp Tryz.func75 rfl (by kernel_rfl) (by kernel_rfl) (Nat.le_of_ble_eq_true rfl) Tryz.results75 ?_
  (refine swp_seqW ?_; simp only [go_sem, Bool.not_eq_true', Bool.not_eq_false'])
  (refine swp_seqW ?_; simp only [go_sem, Bool.not_eq_true', Bool.not_eq_false'])
  (refine acall2 [] (deleteE_ok es i (by omega)) (by simp only [go_sem, Bool.not_eq_true', Bool.not_eq_false']; rfl) (fit_of (by simp only [go_sem, Bool.not_eq_true', Bool.not_eq_false']) (by simp only [go_sem, Bool.not_eq_true', Bool.not_eq_false']) (by simp only [go_sem, Bool.not_eq_true', Bool.not_eq_false']) (by simp only [go_sem, Bool.not_eq_true', Bool.not_eq_false']) (by simp only [go_sem, Bool.not_eq_true', Bool.not_eq_false']) (by simp only [go_sem, Bool.not_eq_true', Bool.not_eq_false']) (by simp only [go_sem, Bool.not_eq_true', Bool.not_eq_false'])) ?_; simp only [go_sem, Bool.not_eq_true', Bool.not_eq_false'])
  (refine swp_seqW ?_; simp only [go_sem, Bool.not_eq_true', Bool.not_eq_false'])
  repeat' first | contradiction | intro _ | refine And.intro ?_ ?_ | refine ex_get (by omega) ?_ | (show drawB _ _ = true; kernel_rfl) | (refine ret2 [] (by simp only [go_sem, Bool.not_eq_true', Bool.not_eq_false']; rfl) ?_; simp only [go_sem, Bool.not_eq_true', Bool.not_eq_false'])
  all_goals try omega
  (refine swp_seqW ?_; simp only [go_sem, Bool.not_eq_true', Bool.not_eq_false'])
  refine swp_block ?_
  (refine swp_seqW ?_; simp only [go_sem, Bool.not_eq_true', Bool.not_eq_false'])
  (refine swp_condW ?_; simp only [go_sem, Bool.not_eq_true', Bool.not_eq_false'])
  rcases nodB_kind hx with q | q | q | q
  · have hb := nodB_blk hx q
    have e1 : endT es i x = gtL es i ++ [(i : Int) + x.size] := if_pos q
    have e2 : cntW c es i x = ⟨max c.d (endT es i x).length, c.p, c.n + 1, [x.st.top, x.st.bottom, x.st.padTop, x.st.padBottom, x.st.head].foldl (hghT 1) c.h⟩ := by
      obtain ⟨h1, h2, h3, h4, h5, h6, -⟩ := hb
      have e3 : [x.st.top, x.st.bottom, x.st.padTop, x.st.padBottom, x.st.head].foldl (hghT 1) c.h = cutM (c.h + (x.st.top + x.st.bottom + x.st.padTop + x.st.padBottom + x.st.head)) := by
        simp only [List.foldl_cons, List.foldl_nil, hghT, cutM, Int.mul_one]
        omega
      rw [e3]
      unfold cntW pcsN hgtN
      simp only [if_pos q, Int.add_zero]
    refine ⟨fun _ => ?_, fun w => absurd q w⟩
    have el : (gtL es i ++ [(i : Int) + x.size]).length = (gtL es i).length + 1 := by simp
    have em : List.map cInt (gtL es i) ++ [[PV.raw (.int .i64 ((i : Int) + x.size))]] = List.map cInt (gtL es i ++ [(i : Int) + x.size]) := by simp [cInt]
    (refine swp_seqW ?_; simp only [go_sem, Bool.not_eq_true', Bool.not_eq_false'])
    repeat' first | contradiction | intro _ | refine And.intro ?_ ?_ | refine ex_get (by omega) ?_ | (show drawB _ _ = true; kernel_rfl) | (refine ret2 [] (by simp only [go_sem, Bool.not_eq_true', Bool.not_eq_false']; rfl) ?_; simp only [go_sem, Bool.not_eq_true', Bool.not_eq_false'])
    all_goals try omega
    rw [em]
    (refine swp_seqW ?_; simp only [go_sem, Bool.not_eq_true', Bool.not_eq_false', List.length_map])
    repeat' first | contradiction | intro _ | refine And.intro ?_ ?_ | refine ex_get (by omega) ?_ | (show drawB _ _ = true; kernel_rfl) | (refine ret2 [] (by simp only [go_sem, Bool.not_eq_true', Bool.not_eq_false']; rfl) ?_; simp only [go_sem, Bool.not_eq_true', Bool.not_eq_false'])
    all_goals try omega
    (refine swp_seqW ?_; simp only [go_sem, Bool.not_eq_true', Bool.not_eq_false'])
    (refine swp_lastW ?_; simp only [go_sem, Bool.not_eq_true', Bool.not_eq_false'])
    have h5 : ∀ y ∈ [x.st.top, x.st.bottom, x.st.padTop, x.st.padBottom, x.st.head], 0 ≤ y ∧ y ≤ 1099511627776 := by
      obtain ⟨h1, h2, h3, h4, h5, h6, -⟩ := hb
      simp only [List.mem_cons, List.not_mem_nil, or_false]
      rintro y (rfl | rfl | rfl | rfl | rfl) <;> assumption
    rw [e2, e1]
    (refine acallF2 [576 ] [] ( high6_ok ⟨max c.d (gtL es i ++ [(i : Int) + x.size]).length, c.p, c.n + 1, c.h⟩ 1 (gtL es i ++ [(i : Int) + x.size]) [x.st.top, x.st.bottom, x.st.padTop, x.st.padBottom, x.st.head] (by omega) (by simp) h5 hh) (by simp only [go_sem, Bool.not_eq_true', Bool.not_eq_false']; rfl) (fit_of (by simp only [go_sem, Bool.not_eq_true', Bool.not_eq_false']) (by simp only [go_sem, Bool.not_eq_true', Bool.not_eq_false']) (by simp only [go_sem, Bool.not_eq_true', Bool.not_eq_false']) (by simp only [go_sem, Bool.not_eq_true', Bool.not_eq_false']) (by simp only [go_sem, Bool.not_eq_true', Bool.not_eq_false']) (by simp only [go_sem, Bool.not_eq_true', Bool.not_eq_false']) (by simp only [go_sem, Bool.not_eq_true', Bool.not_eq_false'])) ?_; simp only [go_sem, Bool.not_eq_true', Bool.not_eq_false', List.map])

    (refine ret2 [] (by simp only [go_sem, Bool.not_eq_true', Bool.not_eq_false']; rfl) ?_; simp only [go_sem, Bool.not_eq_true', Bool.not_eq_false'])
  · refine ⟨fun w => by omega, fun _ => ?_⟩
    have hb := nodB_txt hx q
    have e1 : endT es i x = gtL es i := if_neg (by omega)
    have e4 : pcsN x = x.words.length := by unfold pcsN; rw [if_neg (by omega), if_pos q]
    have e2 : cntW c es i x = ⟨c.d, IntKind.i64.wrap (c.p + x.words.length), c.n + 1, [x.line].foldl (hghT x.words.length) c.h⟩ := by
      have hm := Int.mul_nonneg (show 0 ≤ x.line by have := hb.line; omega) (show 0 ≤ (x.words.length : Int) by omega)
      have e3 : [x.line].foldl (hghT x.words.length) c.h = cutM (c.h + x.line * x.words.length) := by
        simp only [List.foldl_cons, List.foldl_nil, hghT, cutM]
        omega
      rw [e3]
      unfold cntW pcsN hgtN
      simp only [if_neg (show ¬ x.kind = 1 by omega), if_pos q]
    (refine swp_seqW ?_; simp only [go_sem, Bool.not_eq_true', Bool.not_eq_false'])
    (refine swp_condW ?_; simp only [go_sem, Bool.not_eq_true', Bool.not_eq_false'])
    refine ⟨fun _ => ?_, fun w => absurd q w⟩
    refine swp_seqS ?_
    refine swp_addw 8 c.p x.words.length (by simp only [go_sem, Bool.not_eq_true', Bool.not_eq_false']) rfl rfl rfl rfl ?_
    simp only [go_sem, Bool.not_eq_true', Bool.not_eq_false', List.take_succ_cons, List.take_zero, List.drop_succ_cons, List.drop_zero, List.map_cons, List.map_nil, List.length_map]
    (refine ⟨(show drawB _ _ = true by kernel_rfl), ?_⟩)
    (refine swp_lastW ?_; simp only [go_sem, Bool.not_eq_true', Bool.not_eq_false', List.length_map])
    rw [e2, e1]
    (refine acallF2 [384 ] [] ( high6_ok ⟨c.d, IntKind.i64.wrap (c.p + x.words.length), c.n + 1, c.h⟩ x.words.length (gtL es i) [x.line] (by omega) (by simp) (fun y hy => by rw [List.mem_singleton] at hy; subst hy; have := hb.line; omega) hh) (by simp only [go_sem, Bool.not_eq_true', Bool.not_eq_false']; rfl) (fit_of (by simp only [go_sem, Bool.not_eq_true', Bool.not_eq_false']) (by simp only [go_sem, Bool.not_eq_true', Bool.not_eq_false']) (by simp only [go_sem, Bool.not_eq_true', Bool.not_eq_false']) (by simp only [go_sem, Bool.not_eq_true', Bool.not_eq_false']) (by simp only [go_sem, Bool.not_eq_true', Bool.not_eq_false']) (by simp only [go_sem, Bool.not_eq_true', Bool.not_eq_false']) (by simp only [go_sem, Bool.not_eq_true', Bool.not_eq_false'])) ?_; simp only [go_sem, Bool.not_eq_true', Bool.not_eq_false', List.map])
    (refine ret2 [] (by simp only [go_sem, Bool.not_eq_true', Bool.not_eq_false']; rfl) ?_; simp only [go_sem, Bool.not_eq_true', Bool.not_eq_false'])
  all_goals
    refine ⟨fun w => by omega, fun _ => ?_⟩
    have hb : Box6 x := by first | exact nodB_mono hx q | exact (nodB_flt hx q).1
    have e1 : endT es i x = gtL es i := if_neg (by omega)
    have e4 : pcsN x = 1 := by unfold pcsN; rw [if_neg (by omega), if_neg (by omega)]
    have e2 : cntW c es i x = ⟨c.d, IntKind.i64.wrap (c.p + 1), c.n + 1, [x.h].foldl (hghT 1) c.h⟩ := by
      have e3 : [x.h].foldl (hghT 1) c.h = cutM (c.h + x.h) := by
        have := hb.h
        simp only [List.foldl_cons, List.foldl_nil, hghT, cutM, Int.mul_one]
        omega
      rw [e3]
      unfold cntW pcsN hgtN
      simp only [if_neg (show ¬ x.kind = 1 by omega), if_neg (show ¬ x.kind = 2 by omega)]
    (refine swp_seqW ?_; simp only [go_sem, Bool.not_eq_true', Bool.not_eq_false'])
    (refine swp_condW ?_; simp only [go_sem, Bool.not_eq_true', Bool.not_eq_false'])
    refine ⟨fun w => by omega, fun _ => ?_⟩
    refine swp_seqS ?_
    refine swp_addv 5 c.p 1 (by simp) rfl rfl rfl rfl ?_
    simp only [go_sem, Bool.not_eq_true', Bool.not_eq_false', List.take_succ_cons, List.take_zero, List.drop_succ_cons, List.drop_zero, List.map_cons, List.map_nil, List.length_map]
    (refine swp_lastW ?_; simp only [go_sem, Bool.not_eq_true', Bool.not_eq_false', List.length_map])
    rw [e2, e1]
    (refine acallF2 [336 ] [] ( high6_ok ⟨c.d, IntKind.i64.wrap (c.p + 1), c.n + 1, c.h⟩ 1 (gtL es i) [x.h] (by omega) (by simp) (fun y hy => by rw [List.mem_singleton] at hy; subst hy; have := hb.h; omega) hh) (by simp only [go_sem, Bool.not_eq_true', Bool.not_eq_false']; rfl) (fit_of (by simp only [go_sem, Bool.not_eq_true', Bool.not_eq_false']) (by simp only [go_sem, Bool.not_eq_true', Bool.not_eq_false']) (by simp only [go_sem, Bool.not_eq_true', Bool.not_eq_false']) (by simp only [go_sem, Bool.not_eq_true', Bool.not_eq_false']) (by simp only [go_sem, Bool.not_eq_true', Bool.not_eq_false']) (by simp only [go_sem, Bool.not_eq_true', Bool.not_eq_false']) (by simp only [go_sem, Bool.not_eq_true', Bool.not_eq_false'])) ?_; simp only [go_sem, Bool.not_eq_true', Bool.not_eq_false', List.map])
    (refine ret2 [] (by simp only [go_sem, Bool.not_eq_true', Bool.not_eq_false']; rfl) ?_; simp only [go_sem, Bool.not_eq_true', Bool.not_eq_false'])
end Go.Proofs.YtblmebjhhanoaaaGreat
/- CHAPTER 06: valid: Count, Check: the words' number may wrap: the rest. -/
/- G -/
/- BOOLS -/
set_option linter.unusedSimpArgs false
set_option linter.unusedVariables false
namespace Go.Proofs.YtblmebjhhanoaaaGreat
open Go.RowKit

def pwN (l : List LNo) : Nat → Int
  | 0 => 0
  | k + 1 => if (ndN l k).kind = 1 then pwN l k else IntKind.i64.wrap (pwN l k + pcsN (ndN l k))
def cntWC (l : List LNo) (k : Nat) : LCt := ⟨dpN l k, pwN l k, k, cutM (hsN l k)⟩
theorem cntw_step {l : List LNo} {es : List Int} {k : Nat} (hk : k < l.length) (h0 : 0 ≤ hgtN (ndN l k)) (h1 : 1 ≤ (ndN l k).size) (he : gtL es k = opE l k k) : cntW (cntWC l k) es k (ndN l k) = cntWC l (k + 1) := by
  unfold cntW
  rw [end_op h1 he]
  unfold cntWC
  simp only [dpN, pwN, hsN_succ hk, LCt.mk.injEq, true_and]
  exact ⟨by omega, by unfold cutM; omega⟩
theorem pcs_hgt {x : LNo} (h : nodB x = true) : 0 ≤ pcsN x ∧ pcsN x ≤ hgtN x := by
  unfold pcsN hgtN
  rcases nodB_kind h with k | k | k | k
  · obtain ⟨a, b, c, d, e, f, -⟩ := nodB_blk h k
    rw [if_pos k, if_pos k]; omega
  · have hb := (nodB_txt h k).line
    have n1 : ¬ x.kind = 1 := by omega
    simp only [if_neg n1, if_pos k]
    have := Int.mul_le_mul_of_nonneg_right hb.1 (show (0 : Int) ≤ x.words.length by omega)
    omega
  · have hb := (nodB_mono h k).h
    have n1 : ¬ x.kind = 1 := by omega
    have n2 : ¬ x.kind = 2 := by omega
    simp only [if_neg n1, if_neg n2]; omega
  · have hb := (nodB_flt h k).1.h
    have n1 : ¬ x.kind = 1 := by omega
    have n2 : ¬ x.kind = 2 := by omega
    simp only [if_neg n1, if_neg n2]; omega
theorem pw_eq {l : List LNo} (hv : isS l = true) : ∀ k, k ≤ l.length → hsN l k ≤ 1099511627776 → pwN l k = psN l k ∧ 0 ≤ psN l k ∧ psN l k ≤ hsN l k
  | 0, _, _ => ⟨rfl, Int.le_refl _, Int.le_refl _⟩
  | k + 1, hk, hh => by
    have hn := nod_at hv (show k < l.length by omega)
    have hp := pcs_hgt hn
    have e1 := psN_succ (l := l) (show k < l.length by omega)
    have e2 := hsN_succ (l := l) (show k < l.length by omega)
    obtain ⟨i1, i2, i3⟩ := pw_eq hv k (by omega) (by omega)
    refine ⟨?_, by omega, by omega⟩
    rw [pwN, i1]
    split
    · next q =>
      have : pcsN (ndN l k) = 0 := by unfold pcsN; rw [if_pos q]
      omega
    · rw [IntWalk.i64_in _ (by omega)]
      omega
theorem chk_limw {l : List LNo} (h : isS l = true) : chkN l = if 16 < (cntWC l l.length).d ∨ 2000 < (cntWC l l.length).p ∨ 2000 < (cntWC l l.length).n ∨ 1099511627776 < (cntWC l l.length).h then 2 else 0 := by
  rw [chk_lim h]
  have e : 1099511627776 < hsN l l.length ↔ 1099511627776 < cutM (hsN l l.length) := by
    unfold cutM
    omega
  by_cases q : 1099511627776 < hsN l l.length
  · rw [if_pos (.inr (.inr (.inr (e.1 q)))), if_pos (.inr (.inr (.inr (e.1 q))))]
  · obtain ⟨i1, -⟩ := pw_eq h l.length (Nat.le_refl _) (by omega)
    have ec : cntWC l l.length = cntC l l.length := by
      unfold cntWC cntC
      rw [i1]
    rw [ec]
theorem cntWC_d (l : List LNo) : (cntWC l 0).d = 0 := rfl
theorem cntWC_p (l : List LNo) : (cntWC l 0).p = 0 := rfl
theorem cntWC_n (l : List LNo) : (cntWC l 0).n = 0 := rfl
theorem cntWC_h (l : List LNo) : (cntWC l 0).h = 0 := rfl
def sumW (l : List LNo) : LCt := if isS l = true then cntWC l l.length else ⟨0, 0, 0, 0⟩
def aSumW (l : List LNo) : AV := .tup [.agg [.raw (.int .i64 (sumW l).d), .raw (.int .i64 (sumW l).p), .raw (.int .i64 (sumW l).n), .raw (.int .i64 (sumW l).h)], .raw (.int .i64 (eC l))]
attribute [go_sem] aSumW
set_option maxRecDepth 100000 in
set_option maxHeartbeats 8000000 in
theorem count6w_ok (l : List LNo) (hl : l.length ≤ 900) (hw : ∀ x ∈ l, x.words.length ≤ 9223372036854775807) : FnOk Tryz.prog 35 [.sl 20 (l.map cNo)] [] (aSumW l) [] := by
  refine fn_of_swp Tryz.func35 rfl (by kernel_rfl) (by kernel_rfl) (Nat.le_of_ble_eq_true rfl) Tryz.results35 ?_
  (refine swp_seqW ?_; simp only [go_sem, Bool.not_eq_true', Bool.not_eq_false'])
  (refine swp_seqW ?_; simp only [go_sem, Bool.not_eq_true', Bool.not_eq_false'])
  (refine acall2 [] (is6_ok l (by omega) hw) (by simp only [go_sem, Bool.not_eq_true', Bool.not_eq_false']; rfl) (fit_of (by simp only [go_sem, Bool.not_eq_true', Bool.not_eq_false']) (by simp only [go_sem, Bool.not_eq_true', Bool.not_eq_false']) (by simp only [go_sem, Bool.not_eq_true', Bool.not_eq_false']) (by simp only [go_sem, Bool.not_eq_true', Bool.not_eq_false']) (by simp only [go_sem, Bool.not_eq_true', Bool.not_eq_false']) (by simp only [go_sem, Bool.not_eq_true', Bool.not_eq_false']) (by simp only [go_sem, Bool.not_eq_true', Bool.not_eq_false'])) ?_; simp only [go_sem, Bool.not_eq_true', Bool.not_eq_false'])
  refine ⟨fun hv => ?_, fun hv => ?_⟩
  · have e1 : sumW l = ⟨0, 0, 0, 0⟩ := by unfold sumW; rw [hv]; rfl
    have e2 : eC l = 4 := by unfold eC; rw [hv]; rfl
    simp only [aSumW, e1, e2]
    (refine ret2 [] (by simp only [go_sem, Bool.not_eq_true', Bool.not_eq_false']; rfl) ?_; simp only [go_sem, Bool.not_eq_true', Bool.not_eq_false'])
  have e1 : sumW l = cntWC l l.length := by unfold sumW; rw [hv]; rfl
  have e2 : eC l = 0 := by unfold eC; rw [hv]; rfl
  simp only [aSumW, e1, e2]
  have hpos := isS_sizes hv
  (refine swp_seqW ?_; simp only [go_sem, Bool.not_eq_true', Bool.not_eq_false'])
  refine swp_cutS (fun _ : Unit => ⟨[(2, .hdr 8), (3, .raw (.int .i64 0)), (4, .hdr 800)], [(8, some (.cells 81 [.raw (.int .i64 0), .raw (.int .i64 0), .raw (.int .i64 0), .raw (.int .i64 0)])), (800, some (cO (cntWC l l.length) 801).2)], none⟩) (fun _ => True) 120 ?_ ?_
  · (refine swp_seqW ?_; simp only [go_sem, Bool.not_eq_true', Bool.not_eq_false', List.length_map])
    refine swp_block ?_
    refine swp_loop2 [] (fun z : KY (List Int) => ⟨[(2, .hdr 8), (3, .raw (.int .i64 0)), (4, .hdr 800), (11, .sl 20 (l.map cNo)), (12, .raw (.int .i64 l.length)), (13, .raw (.int .i64 z.k))], [(8, some (.cells 81 [.raw (.int .i64 0), .raw (.int .i64 0), .raw (.int .i64 0), .raw (.int .i64 0)])), (800, some (cO (cntWC l z.k) 801).2), (801, some (.row 3 1 (z.o.map cInt)))], none⟩) (fun z => z.k ≤ l.length ∧ gtL z.o z.k = opE l z.k z.k ∧ z.o.length ≤ z.k) (fun z => l.length - z.k) 120 ⟨0, []⟩ (by simp only [go_sem, Bool.not_eq_true', Bool.not_eq_false']; rfl) (by simp only [go_sem, Bool.not_eq_true', Bool.not_eq_false', List.map_nil, cntWC_d, cntWC_p, cntWC_n, cntWC_h]) ?_ ?_
    · exact ⟨Nat.zero_le _, rfl, Nat.le_refl _⟩
    rintro ⟨k, o⟩ ⟨h1, h2, h3⟩
    simp only at h1 h2 h3
    (refine swp_seqW ?_; simp only [go_sem, Bool.not_eq_true', Bool.not_eq_false'])
    (refine swp_seqW ?_; simp only [go_sem, Bool.not_eq_true', Bool.not_eq_false'])
    refine ⟨fun h5 => ?_, fun h5 => ?_⟩
    · have hk : k < l.length := by omega
      have hn := nod_at hv hk
      have hsz := hpos l[k] (List.getElem_mem hk)
      have hwk := hw l[k] (List.getElem_mem hk)
      have hst := cntw_step hk (hgt_nn hn) (by rw [ndN_get hk]; exact hsz.1) h2
      have hen := end_op (k := k) (by rw [ndN_get hk]; exact hsz.1) h2
      have hh0 := hs_mono hv (show 0 ≤ k by omega) (show k ≤ l.length by omega)
      have hol := opE_len l k (k + 1)
      have hnx := end_next (l := l) (k := k)
      have hnod := node6w_ok (cntWC l k) o k (ndN l k) hn (by omega) (by omega) (by rw [ndN_get hk]; omega) (by rw [ndN_get hk]; exact hwk) (by have : (cntWC l k).h = cutM (hsN l k) := rfl; rw [hsN_zero] at hh0; unfold cutM at this; omega) (by have : (cntWC l k).n = k := rfl; omega)
      rw [hst, hen, ndN_get hk] at hnod
      generalize opE l k (k + 1) = o2 at *
      generalize hc2 : cntWC l (k + 1) = c2 at *
      generalize cntWC l k = c1 at *
      refine swp_seqS ?_
      refine swp_block ?_
      (refine swp_seqW ?_; simp only [go_sem, Bool.not_eq_true', Bool.not_eq_false'])
      refine ⟨by omega, ex_get hk ?_⟩
      (refine swp_lastW ?_; simp only [go_sem, Bool.not_eq_true', Bool.not_eq_false'])
      (refine acall2 [] (hnod) (by simp only [go_sem, Bool.not_eq_true', Bool.not_eq_false']; rfl) (fit_of (by simp only [go_sem, Bool.not_eq_true', Bool.not_eq_false']) (by simp only [go_sem, Bool.not_eq_true', Bool.not_eq_false']) (by simp only [go_sem, Bool.not_eq_true', Bool.not_eq_false']) (by simp only [go_sem, Bool.not_eq_true', Bool.not_eq_false']) (by simp only [go_sem, Bool.not_eq_true', Bool.not_eq_false']) (by simp only [go_sem, Bool.not_eq_true', Bool.not_eq_false']) (by simp only [go_sem, Bool.not_eq_true', Bool.not_eq_false'])) ?_; simp only [go_sem, Bool.not_eq_true', Bool.not_eq_false'])
      (refine swp_lastW ?_; simp only [go_sem, Bool.not_eq_true', Bool.not_eq_false'])
      refine ⟨by omega, ?_⟩
      (refine loop_end [] (⟨k + 1, o2⟩) (by simp only [go_sem, Bool.not_eq_true', Bool.not_eq_false']; rfl) ?_ ?_ ?_; (focus first | omega | (simp only; omega)); (focus (simp only [go_sem, Bool.not_eq_true', Bool.not_eq_false', hc2]; done)))
      exact ⟨hk, hnx, hol⟩
    · obtain rfl : k = l.length := by omega
      (refine cut_end [] (()) (by simp only [go_sem, Bool.not_eq_true', Bool.not_eq_false']; rfl) ?_ ?_; (focus (simp only [go_sem, Bool.not_eq_true', Bool.not_eq_false']; done)))
      trivial
  rintro - -
  (refine swp_lastW ?_; simp only [go_sem, Bool.not_eq_true', Bool.not_eq_false'])
  (refine ret2 [] (by simp only [go_sem, Bool.not_eq_true', Bool.not_eq_false']; rfl) ?_; simp only [go_sem, Bool.not_eq_true', Bool.not_eq_false'])
set_option maxRecDepth 100000 in
set_option maxHeartbeats 8000000 in
theorem check6w_ok (l : List LNo) (hl : l.length ≤ 900) (hw : ∀ x ∈ l, x.words.length ≤ 9223372036854775807) : FnOk Tryz.prog 13 [.sl 20 (l.map cNo)] [] (.raw (.int .i64 (chkN l))) [] := by
  refine fn_of_swp Tryz.func13 rfl (by kernel_rfl) (by kernel_rfl) (Nat.le_of_ble_eq_true rfl) Tryz.results13 ?_
  (refine swp_seqW ?_; simp only [go_sem, Bool.not_eq_true', Bool.not_eq_false'])
  (refine swp_seqW ?_; simp only [go_sem, Bool.not_eq_true', Bool.not_eq_false'])
  (refine acall2 [] (count6w_ok l hl hw) (by simp only [go_sem, Bool.not_eq_true', Bool.not_eq_false']; rfl) (fit_of (by simp only [go_sem, Bool.not_eq_true', Bool.not_eq_false']) (by simp only [go_sem, Bool.not_eq_true', Bool.not_eq_false']) (by simp only [go_sem, Bool.not_eq_true', Bool.not_eq_false']) (by simp only [go_sem, Bool.not_eq_true', Bool.not_eq_false']) (by simp only [go_sem, Bool.not_eq_true', Bool.not_eq_false']) (by simp only [go_sem, Bool.not_eq_true', Bool.not_eq_false']) (by simp only [go_sem, Bool.not_eq_true', Bool.not_eq_false'])) ?_; simp only [go_sem, Bool.not_eq_true', Bool.not_eq_false'])
  (refine swp_seqW ?_; simp only [go_sem, Bool.not_eq_true', Bool.not_eq_false'])
  rcases hv : isS l with _ | _
  · have e2 : eC l = 4 := by unfold eC; rw [hv]; rfl
    rw [e2, chk_no hv]
    exact ⟨fun _ => rfl, fun w => absurd w (by decide)⟩
  have e1 : sumW l = cntWC l l.length := by unfold sumW; rw [hv]; rfl
  have e2 : eC l = 0 := by unfold eC; rw [hv]; rfl
  rw [e1, e2, chk_limw hv]
  generalize cntWC l l.length = c
  refine ⟨fun w => absurd rfl w, fun _ => ?_⟩
  (refine swp_seqW ?_; simp only [go_sem, Bool.not_eq_true', Bool.not_eq_false'])
  refine swp_cutS (fun _ : Unit => ⟨[], [], none⟩) (fun _ => ¬ (16 < c.d ∨ 2000 < c.p ∨ 2000 < c.n ∨ 1099511627776 < c.h)) 120 ?_ ?_
  · (refine swp_seqW ?_; simp only [go_sem, Bool.not_eq_true', Bool.not_eq_false'])
    refine swp_block ?_
    refine swp_loop2 [] (fun i : Nat => ⟨[(5, .hdr 96), (25, .agg [.raw (.int .i64 16), .raw (.int .i64 2000), .raw (.int .i64 2000), .raw (.int .i64 1099511627776)]), (26, .raw (.int .i64 i))], [(96, some (.cells 84 [.raw (.int .i64 c.d), .raw (.int .i64 c.p), .raw (.int .i64 c.n), .raw (.int .i64 c.h)]))], none⟩) (fun i => i ≤ 4 ∧ (0 < i → ¬ 16 < c.d) ∧ (1 < i → ¬ 2000 < c.p) ∧ (2 < i → ¬ 2000 < c.n) ∧ (3 < i → ¬ 1099511627776 < c.h)) (fun i => 4 - i) 120 0 (by simp only [go_sem, Bool.not_eq_true', Bool.not_eq_false']; rfl) (by simp only [go_sem, Bool.not_eq_true', Bool.not_eq_false']) ?_ ?_
    · exact ⟨by omega, by omega, by omega, by omega, by omega⟩
    rintro i ⟨h1, h2, h3, h4, h5⟩
    (refine swp_seqW ?_; simp only [go_sem, Bool.not_eq_true', Bool.not_eq_false'])
    (refine swp_seqW ?_; simp only [go_sem, Bool.not_eq_true', Bool.not_eq_false'])
    refine ⟨fun q => ?_, fun q => ?_⟩
    · refine swp_seqS ?_
      refine swp_block ?_
      rcases (by omega : i = 0 ∨ i = 1 ∨ i = 2 ∨ i = 3) with rfl | rfl | rfl | rfl
      all_goals
        (refine swp_seqW ?_; simp only [go_sem, Bool.not_eq_true', Bool.not_eq_false'])
        refine ⟨⟨by omega, by omega⟩, _, rfl, ?_⟩
        (refine swp_seqW ?_; simp only [go_sem, Bool.not_eq_true', Bool.not_eq_false', Int.reduceToNat, Int.reduceLT, Int.reduceLE, Int.reduceEq, Int.reduceAdd, Int.reduceSub, Int.reduceMul, Int.reduceNeg, Int.reduceNe, decide_false, Int.cast_ofNat_Int, kSet, List.getElem?_cons_succ, List.getElem?_cons_zero, List.set_cons_succ, List.set_cons_zero, exists_eq_left', forall_const, true_implies, Int.natCast_zero, Int.natCast_one, List.drop_zero, List.drop_succ_cons, List.take_succ_cons, List.take_zero, List.headD_cons])
        (refine swp_condW ?_; simp only [go_sem, Bool.not_eq_true', Bool.not_eq_false'])
        refine ⟨fun w => ?_, fun w => ?_⟩
        · rw [if_pos (by omega)]
          (refine swp_lastW ?_; simp only [go_sem, Bool.not_eq_true', Bool.not_eq_false'])
        · (refine swp_lastW ?_; simp only [go_sem, Bool.not_eq_true', Bool.not_eq_false'])
          (refine swp_lastW ?_; simp only [go_sem, Bool.not_eq_true', Bool.not_eq_false'])
          first
            | (refine ⟨by omega, loop_end [] (0 + 1) (by simp only [go_sem, Bool.not_eq_true', Bool.not_eq_false']; rfl) (by omega) (by simp only [go_sem, Bool.not_eq_true', Bool.not_eq_false']; omega) (by omega)⟩)
            | (refine ⟨by omega, loop_end [] (1 + 1) (by simp only [go_sem, Bool.not_eq_true', Bool.not_eq_false']; rfl) (by omega) (by simp only [go_sem, Bool.not_eq_true', Bool.not_eq_false']; omega) (by omega)⟩)
            | (refine ⟨by omega, loop_end [] (2 + 1) (by simp only [go_sem, Bool.not_eq_true', Bool.not_eq_false']; rfl) (by omega) (by simp only [go_sem, Bool.not_eq_true', Bool.not_eq_false']; omega) (by omega)⟩)
            | (refine ⟨by omega, loop_end [] (3 + 1) (by simp only [go_sem, Bool.not_eq_true', Bool.not_eq_false']; rfl) (by omega) (by simp only [go_sem, Bool.not_eq_true', Bool.not_eq_false']; omega) (by omega)⟩)
    · obtain rfl : i = 4 := by omega
      (refine cut_end [] (()) (by simp only [go_sem, Bool.not_eq_true', Bool.not_eq_false']; rfl) ?_ ?_; (focus (simp only [go_sem, Bool.not_eq_true', Bool.not_eq_false']; done)))
      omega
  rintro - hF
  rw [if_neg hF]
  (refine swp_lastW ?_; simp only [go_sem, Bool.not_eq_true', Bool.not_eq_false'])
end Go.Proofs.YtblmebjhhanoaaaGreat
/- CHAPTER 14: flow.Of, whatever the words. -/
/- G -/
/- BOOLS -/
set_option linter.unusedSimpArgs false
set_option linter.unusedVariables false
namespace Go.Proofs.YtblmebjhhanoaaaGreat
open Go.RowKit

set_option maxRecDepth 100000 in
set_option maxHeartbeats 8000000 in
theorem of14w_ok (l : List LNo) (w : Int) (hl : l.length ≤ 60) (hw : ∀ x ∈ l, x.words.length ≤ 9223372036854775807) :
    FnOk Tryz.prog 8 [.sl 20 (l.map cNo), .raw (.int .i64 w)] [] (.tup [aGal (resG l w) 8 9, .raw (.int .i64 (errG l w))]) [(8, .row 47 8 ((resG l w).a.map cAt)), (9, .row 62 7 ((resG l w).f.map cFl))] := by
  refine fn_of_swp Tryz.func8 rfl (by kernel_rfl) (by kernel_rfl) (Nat.le_of_ble_eq_true rfl) Tryz.results8 ?_
  (refine swp_seqW ?_; simp only [go_sem, Bool.not_eq_true', Bool.not_eq_false'])
  (refine swp_seqW ?_; simp only [go_sem, Bool.not_eq_true', Bool.not_eq_false'])
  (refine acall2 [] (umay14_ok w) (by simp only [go_sem, Bool.not_eq_true', Bool.not_eq_false']; rfl) (fit_of (by simp only [go_sem, Bool.not_eq_true', Bool.not_eq_false']) (by simp only [go_sem, Bool.not_eq_true', Bool.not_eq_false']) (by simp only [go_sem, Bool.not_eq_true', Bool.not_eq_false']) (by simp only [go_sem, Bool.not_eq_true', Bool.not_eq_false']) (by simp only [go_sem, Bool.not_eq_true', Bool.not_eq_false']) (by simp only [go_sem, Bool.not_eq_true', Bool.not_eq_false']) (by simp only [go_sem, Bool.not_eq_true', Bool.not_eq_false'])) ?_; simp only [go_sem, Bool.not_eq_true', Bool.not_eq_false'])
  by_cases hw1 : 1 ≤ w ∧ w ≤ 1099511627776
  rotate_left
  · have e1 : errG l w = 4 := if_neg hw1
    have e2 : resG l w = ⟨[], [], 0⟩ := by unfold resG; rw [e1]; rfl
    rw [e1, e2]
    refine ⟨fun _ => ?_, fun q => absurd q hw1⟩
    (refine ret2 [] (by simp only [go_sem, Bool.not_eq_true', Bool.not_eq_false', List.map_nil]; rfl) ?_; simp only [go_sem, Bool.not_eq_true', Bool.not_eq_false', List.map_nil])
  have e1 : errG l w = chkN l := if_pos hw1
  refine ⟨fun q => absurd hw1 q, fun _ => ?_⟩
  (refine swp_seqW ?_; simp only [go_sem, Bool.not_eq_true', Bool.not_eq_false'])
  (refine acall2 [] (check6w_ok l (by omega) hw) (by simp only [go_sem, Bool.not_eq_true', Bool.not_eq_false']; rfl) (fit_of (by simp only [go_sem, Bool.not_eq_true', Bool.not_eq_false']) (by simp only [go_sem, Bool.not_eq_true', Bool.not_eq_false']) (by simp only [go_sem, Bool.not_eq_true', Bool.not_eq_false']) (by simp only [go_sem, Bool.not_eq_true', Bool.not_eq_false']) (by simp only [go_sem, Bool.not_eq_true', Bool.not_eq_false']) (by simp only [go_sem, Bool.not_eq_true', Bool.not_eq_false']) (by simp only [go_sem, Bool.not_eq_true', Bool.not_eq_false'])) ?_; simp only [go_sem, Bool.not_eq_true', Bool.not_eq_false'])
  rw [e1]
  refine ⟨fun hc => ?_, fun hc => ?_⟩
  · have e2 : resG l w = ⟨[], [], 0⟩ := by unfold resG; rw [e1, if_neg hc]
    rw [e2]
    (refine ret2 [] (by simp only [go_sem, Bool.not_eq_true', Bool.not_eq_false', List.map_nil]; rfl) ?_; simp only [go_sem, Bool.not_eq_true', Bool.not_eq_false', List.map_nil])
  have hP := errG_ok hl (by rw [e1]; exact hc)
  have e2 : resG l w = endG (allS l w) := by unfold resG; rw [e1, if_pos hc]
  rw [e2, hc]
  have hrm := rooms_eq hP.v w
  have hrs : rmsN l w = rmsR l w l.length := if_pos hw1
  have hdn : docN l = l := by simp [docN, hP.v]
  have hroo := rooms8_ok l w (by omega) hw (isS_ins hP.v) (by rw [hdn]; exact isS_nst hP.v)
  rw [hrm, hrs] at hroo
  (refine swp_seqW ?_; simp only [go_sem, Bool.not_eq_true', Bool.not_eq_false'])
  (refine acall2 [] (hroo) (by simp only [go_sem, Bool.not_eq_true', Bool.not_eq_false']; rfl) (fit_of (by simp only [go_sem, Bool.not_eq_true', Bool.not_eq_false']) (by simp only [go_sem, Bool.not_eq_true', Bool.not_eq_false']) (by simp only [go_sem, Bool.not_eq_true', Bool.not_eq_false']) (by simp only [go_sem, Bool.not_eq_true', Bool.not_eq_false']) (by simp only [go_sem, Bool.not_eq_true', Bool.not_eq_false']) (by simp only [go_sem, Bool.not_eq_true', Bool.not_eq_false']) (by simp only [go_sem, Bool.not_eq_true', Bool.not_eq_false'])) ?_; simp only [go_sem, Bool.not_eq_true', Bool.not_eq_false'])
  have hrow := wrow_ok hP (l.length + 1) (l.length + 1) (Nat.le_refl _) 0 l.length ⟨[], [], ⟨0, 0⟩⟩ 0 (isS_nst hP.v) (Int.le_refl _) (gs_zero l) (by have := hP.hi; rw [hsN_zero]; omega)
  have hend := wend_ok hP (allS_ok hP) (anc_all hP)
  have eall : rowG l w (l.length + 1) 0 l.length ⟨[], [], ⟨0, 0⟩⟩ = allS l w := rfl
  rw [eall] at hrow
  unfold endG
  generalize allS l w = s at *
  (refine swp_seqW ?_; simp only [go_sem, Bool.not_eq_true', Bool.not_eq_false', List.length_map])
  (refine acallF2 [112 ] [] ( hrow) (by simp only [go_sem, Bool.not_eq_true', Bool.not_eq_false']; rfl) (fit_of (by simp only [go_sem, Bool.not_eq_true', Bool.not_eq_false']) (by simp only [go_sem, Bool.not_eq_true', Bool.not_eq_false']) (by simp only [go_sem, Bool.not_eq_true', Bool.not_eq_false']) (by simp only [go_sem, Bool.not_eq_true', Bool.not_eq_false']) (by simp only [go_sem, Bool.not_eq_true', Bool.not_eq_false']) (by simp only [go_sem, Bool.not_eq_true', Bool.not_eq_false']) (by simp only [go_sem, Bool.not_eq_true', Bool.not_eq_false'])) ?_; simp only [go_sem, Bool.not_eq_true', Bool.not_eq_false', List.map_nil])
  (refine swp_seqW ?_; simp only [go_sem, Bool.not_eq_true', Bool.not_eq_false'])
  (refine acall2 [] (hend) (by simp only [go_sem, Bool.not_eq_true', Bool.not_eq_false']; rfl) (fit_of (by simp only [go_sem, Bool.not_eq_true', Bool.not_eq_false']) (by simp only [go_sem, Bool.not_eq_true', Bool.not_eq_false']) (by simp only [go_sem, Bool.not_eq_true', Bool.not_eq_false']) (by simp only [go_sem, Bool.not_eq_true', Bool.not_eq_false']) (by simp only [go_sem, Bool.not_eq_true', Bool.not_eq_false']) (by simp only [go_sem, Bool.not_eq_true', Bool.not_eq_false']) (by simp only [go_sem, Bool.not_eq_true', Bool.not_eq_false'])) ?_; simp only [go_sem, Bool.not_eq_true', Bool.not_eq_false'])
  (refine swp_lastW ?_; simp only [go_sem, Bool.not_eq_true', Bool.not_eq_false'])
  (refine ret2 [] (by simp only [go_sem, Bool.not_eq_true', Bool.not_eq_false']; rfl) ?_; simp only [go_sem, Bool.not_eq_true', Bool.not_eq_false'])
end Go.Proofs.YtblmebjhhanoaaaGreat
/- THE SCRIPT'S READER: blocks, nodes. -/
/- G -/
/- BOOLS -/
/- GET get_tk -/
set_option linter.unusedSimpArgs false
set_option linter.unusedVariables false
namespace Go.Proofs.YtblmebjhhanoaaaGreat
open Go.RowKit

def pushB (t : ByteArray) (c : Int) : ByteArray := t ++ ByteArray.empty.push (UInt8.ofNat c.toNat)
def attrS (l : List LTk) : Nat → Nat → ByteArray → LSty → Option (LSty × Nat)
  | 0, _, _, _ => none
  | f + 1, k, told, st => if letterS l k told = 0 then some (st, k)
    else if k + 1 < l.length ∧ told.size < 100 ∧ (pushB told (letterS l k told)).size < 100 ∧ numB l (k + 1) (limA (letterS l k told)) (limB (letterS l k told)) = true then attrS l f (k + 2) (pushB told (letterS l k told)) (withS st (letterS l k told) (tkAt l (k + 1)).n) else none
def sty2 : LSty := ⟨0, 0, 0, 0, 0, 2, 2, 0, 0, 0, 0, 0⟩
attribute [go_sem] sty2
section
variable (rec : Nat → Option (List LNo × Nat)) (l : List LTk)
def blockS (k : Nat) : Option (List LNo × Nat) :=
  if k < l.length then match attrS l (l.length + 1) (k + 1) ⟨#[]⟩ sty2 with
    | some (st, k1) => match rec k1 with
      | some (ns, k2) => if k1 ≤ l.length ∧ ns.length < 1000 ∧ signB l k2 93 = true then some (⟨1, 1 + ns.length, st, 0, 0, [], 0, 0, 0⟩ :: ns, k2 + 1) else none
      | none => none
    | none => none
  else none
def oneS (k : Nat) : Option (List LNo × Nat) :=
  if signB l k 91 = true then blockS rec l k
  else if signB l k 40 = true then textS l k
  else if signB l k 123 = true then boxS l (k + 1) ⟨3, 1, sty0, 0, 0, [], 0, 0, 0⟩ 125
  else if signB l (k + 1) 76 = true then boxS l (k + 2) ⟨4, 1, sty0, 0, 0, [], 1, 0, 0⟩ 62
  else if signB l (k + 1) 82 = true then boxS l (k + 2) ⟨4, 1, sty0, 0, 0, [], 2, 0, 0⟩ 62
  else none
def startB (k : Nat) : Bool := signB l k 91 || signB l k 40 || signB l k 123 || signB l k 60
def nodesG : Nat → Nat → Option (List LNo × Nat)
  | 0, _ => none
  | g + 1, k => if k ≤ l.length then
      (if startB l k = true then match oneS rec l k with
        | some (ns, k1) => if k < k1 then match nodesG g k1 with
          | some (r, k2) => if ns.length + r.length < 1000 then some (ns ++ r, k2) else none
          | none => none
          else none
        | none => none
      else some ([], k))
    else none
end
def nodesS (l : List LTk) : Nat → Nat → Option (List LNo × Nat)
  | 0, _ => none
  | f + 1, k => nodesG (nodesS l f) l (l.length + 1) k
structure LBl where
  k : Nat
  told : ByteArray
  st : LSty
set_option maxRecDepth 100000 in
set_option maxHeartbeats 8000000 in
theorem block5_ok (rec : Nat → Option (List LNo × Nat)) (l : List LTk) (hrec : ∀ k r, k ≤ l.length → rec k = some r → FnOk Tryz.prog 81 [.sl 4 (l.map cTk), .raw (.int .i64 k)] [] (aGot r) []) (k : Nat) (r : List LNo × Nat) (hl : l.length ≤ 1000) (h : blockS rec l k = some r) : FnOk Tryz.prog 134 [.sl 4 (l.map cTk), .raw (.int .i64 k)] [] (aGot r) [] := by
  refine fn_of_swp Tryz.func134 rfl (by kernel_rfl) (by kernel_rfl) (Nat.le_of_ble_eq_true rfl) Tryz.results134 ?_
  unfold blockS at h
  split at h
  case isFalse => cases h
  next hk =>
  split at h
  case h_2 => cases h
  next st k1 ha =>
  split at h
  case h_2 => cases h
  next ns k2 hr =>
  split at h
  case isFalse => cases h
  next hh =>
  obtain ⟨hk1, hns, h93⟩ := hh
  injection h with h
  subst h
  have hk2 : k2 < l.length := (of_decide_eq_true h93).1
  have hnode := hrec k1 (ns, k2) hk1 hr
  (refine swp_seqW ?_; simp only [go_sem, Bool.not_eq_true', Bool.not_eq_false'])
  (refine swp_seqW ?_; simp only [go_sem, Bool.not_eq_true', Bool.not_eq_false'])
  refine ⟨by omega, ?_⟩
  (refine swp_seqW ?_; simp only [go_sem, Bool.not_eq_true', Bool.not_eq_false'])
  (refine swp_seqW ?_; simp only [go_sem, Bool.not_eq_true', Bool.not_eq_false'])
  refine swp_cutS (fun _ : Unit => ⟨[(0, .sl 4 (l.map cTk)), (1, .raw (.int .i64 k1)), (4, .hdr 8), (5, .hdr 16)], [(8, some (.cells 133 [.hdr 9, .raw (.int .i64 0), .raw (.int .i64 0)])), (9, some (.row 56 20 [])), (16, some (.cells 54 (lSty st)))], none⟩) (fun _ => True) 4 ?_ ?_
  · refine swp_block ?_
    refine swp_loop2 [] (fun z : LBl => ⟨[(0, .sl 4 (l.map cTk)), (1, .raw (.int .i64 z.k)), (4, .hdr 8), (5, .hdr 16), (6, .raw (.string z.told))], [(8, some (.cells 133 [.hdr 9, .raw (.int .i64 0), .raw (.int .i64 0)])), (9, some (.row 56 20 [])), (16, some (.cells 54 (lSty z.st)))], none⟩) (fun z => z.k ≤ l.length ∧ z.told.size < 100 ∧ ∃ f, attrS l f z.k z.told z.st = some (st, k1)) (fun z => l.length - z.k) 30 ⟨k + 1, ⟨#[]⟩, sty2⟩ (by simp only [go_sem, Bool.not_eq_true', Bool.not_eq_false']; rfl) (by simp only [go_sem, Bool.not_eq_true', Bool.not_eq_false']) ?_ ?_
    · exact ⟨hk, by show (0 : Nat) < 100; omega, _, ha⟩
    · rintro ⟨kk, told, s⟩ ⟨q1, q2, f, q3⟩
      simp only at q1 q2 q3
      obtain ⟨g, rfl⟩ : ∃ g, f = g + 1 := by
        cases f with
        | zero => simp [attrS] at q3
        | succ g => exact ⟨g, rfl⟩
      rw [attrS] at q3
      (refine swp_seqW ?_; simp only [go_sem, Bool.not_eq_true', Bool.not_eq_false'])
      (refine acall2 [] (letter5_ok l kk told hl (by omega)) (by simp only [go_sem, Bool.not_eq_true', Bool.not_eq_false']; rfl) (fit_of (by simp only [go_sem, Bool.not_eq_true', Bool.not_eq_false']) (by simp only [go_sem, Bool.not_eq_true', Bool.not_eq_false']) (by simp only [go_sem, Bool.not_eq_true', Bool.not_eq_false']) (by simp only [go_sem, Bool.not_eq_true', Bool.not_eq_false']) (by simp only [go_sem, Bool.not_eq_true', Bool.not_eq_false']) (by simp only [go_sem, Bool.not_eq_true', Bool.not_eq_false']) (by simp only [go_sem, Bool.not_eq_true', Bool.not_eq_false'])) ?_; simp only [go_sem, Bool.not_eq_true', Bool.not_eq_false'])
      refine ⟨fun h7 => ?_, fun h7 => ?_⟩
      · rw [if_neg h7] at q3
        split at q3
        case isFalse => cases q3
        next hh =>
        obtain ⟨w1, w2, w3, w4⟩ := hh
        have e1 : ∀ c : UInt8, (ByteArray.empty.push c).size = 1 := fun c => rfl
        (refine swp_lastW ?_; simp only [go_sem, Bool.not_eq_true', Bool.not_eq_false', List.length_map])
        (refine acall2 [] (letter5_ok l kk told hl (by omega)) (by simp only [go_sem, Bool.not_eq_true', Bool.not_eq_false']; rfl) (fit_of (by simp only [go_sem, Bool.not_eq_true', Bool.not_eq_false']) (by simp only [go_sem, Bool.not_eq_true', Bool.not_eq_false']) (by simp only [go_sem, Bool.not_eq_true', Bool.not_eq_false']) (by simp only [go_sem, Bool.not_eq_true', Bool.not_eq_false']) (by simp only [go_sem, Bool.not_eq_true', Bool.not_eq_false']) (by simp only [go_sem, Bool.not_eq_true', Bool.not_eq_false']) (by simp only [go_sem, Bool.not_eq_true', Bool.not_eq_false'])) ?_; simp only [go_sem, Bool.not_eq_true', Bool.not_eq_false'])
        generalize letterS l kk told = c at w3 w4 q3 h7
        (refine acall2 [] (limits5_ok c) (by simp only [go_sem, Bool.not_eq_true', Bool.not_eq_false']; rfl) (fit_of (by simp only [go_sem, Bool.not_eq_true', Bool.not_eq_false']) (by simp only [go_sem, Bool.not_eq_true', Bool.not_eq_false']) (by simp only [go_sem, Bool.not_eq_true', Bool.not_eq_false']) (by simp only [go_sem, Bool.not_eq_true', Bool.not_eq_false']) (by simp only [go_sem, Bool.not_eq_true', Bool.not_eq_false']) (by simp only [go_sem, Bool.not_eq_true', Bool.not_eq_false']) (by simp only [go_sem, Bool.not_eq_true', Bool.not_eq_false'])) ?_; simp only [go_sem, Bool.not_eq_true', Bool.not_eq_false'])
        refine ⟨by omega, ?_⟩
        (refine acall2 [] (num5_ok l (kk + 1) (limA c) (limB c) hl) (by simp only [go_sem, Bool.not_eq_true', Bool.not_eq_false']; rfl) (fit_of (by simp only [go_sem, Bool.not_eq_true', Bool.not_eq_false']) (by simp only [go_sem, Bool.not_eq_true', Bool.not_eq_false']) (by simp only [go_sem, Bool.not_eq_true', Bool.not_eq_false']) (by simp only [go_sem, Bool.not_eq_true', Bool.not_eq_false']) (by simp only [go_sem, Bool.not_eq_true', Bool.not_eq_false']) (by simp only [go_sem, Bool.not_eq_true', Bool.not_eq_false']) (by simp only [go_sem, Bool.not_eq_true', Bool.not_eq_false'])) ?_; simp only [go_sem, Bool.not_eq_true', Bool.not_eq_false', w4])
        refine ⟨by omega, by omega, get_tk (by omega) ?_⟩
        generalize (tkAt l (kk + 1)).n = n at q3
        (refine acall2 [] (with5_ok s c n) (by simp only [go_sem, Bool.not_eq_true', Bool.not_eq_false']; rfl) (fit_of (by simp only [go_sem, Bool.not_eq_true', Bool.not_eq_false']) (by simp only [go_sem, Bool.not_eq_true', Bool.not_eq_false']) (by simp only [go_sem, Bool.not_eq_true', Bool.not_eq_false']) (by simp only [go_sem, Bool.not_eq_true', Bool.not_eq_false']) (by simp only [go_sem, Bool.not_eq_true', Bool.not_eq_false']) (by simp only [go_sem, Bool.not_eq_true', Bool.not_eq_false']) (by simp only [go_sem, Bool.not_eq_true', Bool.not_eq_false'])) ?_; simp only [go_sem, Bool.not_eq_true', Bool.not_eq_false'])
        refine ⟨(by kernel_rfl), ?_⟩
        repeat' first | refine And.intro ?_ ?_
        all_goals first
          | omega
          | (rw [e1]; omega)
          | ((refine loop_end [] (⟨kk + 2, pushB told c, withS s c n⟩) (by simp only [go_sem, Bool.not_eq_true', Bool.not_eq_false']; rfl) ?_ ?_ ?_; (focus first | omega | (simp only; omega)); (focus (simp only [go_sem, Bool.not_eq_true', Bool.not_eq_false', pushB]; done)))
             exact ⟨by show kk + 2 ≤ l.length; omega, w3, g, q3⟩)
      · rw [if_pos h7] at q3
        injection q3 with q3
        injection q3 with q5 q6
        subst q5; subst q6
        (refine cut_end [] (()) (by simp only [go_sem, Bool.not_eq_true', Bool.not_eq_false']; rfl) ?_ ?_; (focus (simp only [go_sem, Bool.not_eq_true', Bool.not_eq_false']; done)))
        trivial
  rintro - -
  (refine swp_seqW ?_; simp only [go_sem, Bool.not_eq_true', Bool.not_eq_false'])
  (refine acall2 [] (hnode) (by simp only [go_sem, Bool.not_eq_true', Bool.not_eq_false']; rfl) (fit_of (by simp only [go_sem, Bool.not_eq_true', Bool.not_eq_false']) (by simp only [go_sem, Bool.not_eq_true', Bool.not_eq_false']) (by simp only [go_sem, Bool.not_eq_true', Bool.not_eq_false']) (by simp only [go_sem, Bool.not_eq_true', Bool.not_eq_false']) (by simp only [go_sem, Bool.not_eq_true', Bool.not_eq_false']) (by simp only [go_sem, Bool.not_eq_true', Bool.not_eq_false']) (by simp only [go_sem, Bool.not_eq_true', Bool.not_eq_false'])) ?_; simp only [go_sem, Bool.not_eq_true', Bool.not_eq_false'])
  (refine swp_seqW ?_; simp only [go_sem, Bool.not_eq_true', Bool.not_eq_false', Int.reduceToNat, Int.reduceLT, Int.reduceLE, Int.reduceEq, Int.reduceAdd, Int.reduceSub, Int.reduceMul, Int.reduceNeg, Int.reduceNe, decide_false, Int.cast_ofNat_Int, kSet, List.getElem?_cons_succ, List.getElem?_cons_zero, List.set_cons_succ, List.set_cons_zero, exists_eq_left', forall_const, true_implies])
  (refine swp_seqW ?_; simp only [go_sem, Bool.not_eq_true', Bool.not_eq_false'])
  (refine acall2 [] (sign5_ok l k2 93 hl) (by simp only [go_sem, Bool.not_eq_true', Bool.not_eq_false']; rfl) (fit_of (by simp only [go_sem, Bool.not_eq_true', Bool.not_eq_false']) (by simp only [go_sem, Bool.not_eq_true', Bool.not_eq_false']) (by simp only [go_sem, Bool.not_eq_true', Bool.not_eq_false']) (by simp only [go_sem, Bool.not_eq_true', Bool.not_eq_false']) (by simp only [go_sem, Bool.not_eq_true', Bool.not_eq_false']) (by simp only [go_sem, Bool.not_eq_true', Bool.not_eq_false']) (by simp only [go_sem, Bool.not_eq_true', Bool.not_eq_false'])) ?_; simp only [go_sem, Bool.not_eq_true', Bool.not_eq_false', h93])
  (refine swp_lastW ?_; simp only [go_sem, Bool.not_eq_true', Bool.not_eq_false', List.length_map])
  repeat' first | refine And.intro ?_ ?_
  all_goals first
    | omega
    | (show drawB _ _ = true; kernel_rfl)
    | (refine ret2 [232] (by simp only [go_sem, Bool.not_eq_true', Bool.not_eq_false']; rfl) ?_; simp only [go_sem, Bool.not_eq_true', Bool.not_eq_false'])
end Go.Proofs.YtblmebjhhanoaaaGreat
/- THE SCRIPT'S READER: one node, nodes. -/
/- G -/
/- BOOLS -/
/- GET get_tk -/
set_option linter.unusedSimpArgs false
set_option linter.unusedVariables false
namespace Go.Proofs.YtblmebjhhanoaaaGreat
open Go.RowKit

set_option maxRecDepth 100000 in
set_option maxHeartbeats 4000000 in
theorem one5_ok (rec : Nat → Option (List LNo × Nat)) (l : List LTk) (hrec : ∀ k r, k ≤ l.length → rec k = some r → FnOk Tryz.prog 81 [.sl 4 (l.map cTk), .raw (.int .i64 k)] [] (aGot r) []) (k : Nat) (r : List LNo × Nat) (hl : l.length ≤ 1000) (hk : k ≤ l.length) (h : oneS rec l k = some r) : FnOk Tryz.prog 114 [.sl 4 (l.map cTk), .raw (.int .i64 k)] [] (aGot r) [] := by
  refine fn_of_swp Tryz.func114 rfl (by kernel_rfl) (by kernel_rfl) (Nat.le_of_ble_eq_true rfl) Tryz.results114 ?_
  unfold oneS at h
  (refine swp_seqW ?_; simp only [go_sem, Bool.not_eq_true', Bool.not_eq_false'])
  (refine swp_seqW ?_; simp only [go_sem, Bool.not_eq_true', Bool.not_eq_false'])
  (refine acall2 [] (sign5_ok l k 91 hl) (by simp only [go_sem, Bool.not_eq_true', Bool.not_eq_false']; rfl) (fit_of (by simp only [go_sem, Bool.not_eq_true', Bool.not_eq_false']) (by simp only [go_sem, Bool.not_eq_true', Bool.not_eq_false']) (by simp only [go_sem, Bool.not_eq_true', Bool.not_eq_false']) (by simp only [go_sem, Bool.not_eq_true', Bool.not_eq_false']) (by simp only [go_sem, Bool.not_eq_true', Bool.not_eq_false']) (by simp only [go_sem, Bool.not_eq_true', Bool.not_eq_false']) (by simp only [go_sem, Bool.not_eq_true', Bool.not_eq_false'])) ?_; simp only [go_sem, Bool.not_eq_true', Bool.not_eq_false'])
  refine ⟨fun h1 => ?_, fun h1 => ?_⟩
  · rw [if_pos h1] at h
    (refine acall2 [] (block5_ok rec l hrec k r hl h) (by simp only [go_sem, Bool.not_eq_true', Bool.not_eq_false']; rfl) (fit_of (by simp only [go_sem, Bool.not_eq_true', Bool.not_eq_false']) (by simp only [go_sem, Bool.not_eq_true', Bool.not_eq_false']) (by simp only [go_sem, Bool.not_eq_true', Bool.not_eq_false']) (by simp only [go_sem, Bool.not_eq_true', Bool.not_eq_false']) (by simp only [go_sem, Bool.not_eq_true', Bool.not_eq_false']) (by simp only [go_sem, Bool.not_eq_true', Bool.not_eq_false']) (by simp only [go_sem, Bool.not_eq_true', Bool.not_eq_false'])) ?_; simp only [go_sem, Bool.not_eq_true', Bool.not_eq_false'])
    (refine ret2 [] (by simp only [go_sem, Bool.not_eq_true', Bool.not_eq_false']; rfl) ?_; simp only [go_sem, Bool.not_eq_true', Bool.not_eq_false'])
  rw [if_neg (by rw [h1]; decide)] at h
  (refine swp_seqW ?_; simp only [go_sem, Bool.not_eq_true', Bool.not_eq_false'])
  (refine acall2 [] (sign5_ok l k 40 hl) (by simp only [go_sem, Bool.not_eq_true', Bool.not_eq_false']; rfl) (fit_of (by simp only [go_sem, Bool.not_eq_true', Bool.not_eq_false']) (by simp only [go_sem, Bool.not_eq_true', Bool.not_eq_false']) (by simp only [go_sem, Bool.not_eq_true', Bool.not_eq_false']) (by simp only [go_sem, Bool.not_eq_true', Bool.not_eq_false']) (by simp only [go_sem, Bool.not_eq_true', Bool.not_eq_false']) (by simp only [go_sem, Bool.not_eq_true', Bool.not_eq_false']) (by simp only [go_sem, Bool.not_eq_true', Bool.not_eq_false'])) ?_; simp only [go_sem, Bool.not_eq_true', Bool.not_eq_false'])
  refine ⟨fun h2 => ?_, fun h2 => ?_⟩
  · rw [if_pos h2] at h
    (refine acall2 [] (text5_ok l k r hl h) (by simp only [go_sem, Bool.not_eq_true', Bool.not_eq_false']; rfl) (fit_of (by simp only [go_sem, Bool.not_eq_true', Bool.not_eq_false']) (by simp only [go_sem, Bool.not_eq_true', Bool.not_eq_false']) (by simp only [go_sem, Bool.not_eq_true', Bool.not_eq_false']) (by simp only [go_sem, Bool.not_eq_true', Bool.not_eq_false']) (by simp only [go_sem, Bool.not_eq_true', Bool.not_eq_false']) (by simp only [go_sem, Bool.not_eq_true', Bool.not_eq_false']) (by simp only [go_sem, Bool.not_eq_true', Bool.not_eq_false'])) ?_; simp only [go_sem, Bool.not_eq_true', Bool.not_eq_false'])
    (refine ret2 [] (by simp only [go_sem, Bool.not_eq_true', Bool.not_eq_false']; rfl) ?_; simp only [go_sem, Bool.not_eq_true', Bool.not_eq_false'])
  rw [if_neg (by rw [h2]; decide)] at h
  (refine swp_seqW ?_; simp only [go_sem, Bool.not_eq_true', Bool.not_eq_false'])
  (refine acall2 [] (sign5_ok l k 123 hl) (by simp only [go_sem, Bool.not_eq_true', Bool.not_eq_false']; rfl) (fit_of (by simp only [go_sem, Bool.not_eq_true', Bool.not_eq_false']) (by simp only [go_sem, Bool.not_eq_true', Bool.not_eq_false']) (by simp only [go_sem, Bool.not_eq_true', Bool.not_eq_false']) (by simp only [go_sem, Bool.not_eq_true', Bool.not_eq_false']) (by simp only [go_sem, Bool.not_eq_true', Bool.not_eq_false']) (by simp only [go_sem, Bool.not_eq_true', Bool.not_eq_false']) (by simp only [go_sem, Bool.not_eq_true', Bool.not_eq_false'])) ?_; simp only [go_sem, Bool.not_eq_true', Bool.not_eq_false'])
  refine ⟨fun h3 => ?_, fun h3 => ?_⟩
  · rw [if_pos h3] at h
    refine ⟨by omega, ?_⟩
    (refine acallF2 [112 ] [] ( box5_ok l (k + 1) ⟨3, 1, sty0, 0, 0, [], 0, 0, 0⟩ 125 r hl h) (by simp only [go_sem, Bool.not_eq_true', Bool.not_eq_false']; rfl) (fit_of (by simp only [go_sem, Bool.not_eq_true', Bool.not_eq_false']) (by simp only [go_sem, Bool.not_eq_true', Bool.not_eq_false']) (by simp only [go_sem, Bool.not_eq_true', Bool.not_eq_false']) (by simp only [go_sem, Bool.not_eq_true', Bool.not_eq_false']) (by simp only [go_sem, Bool.not_eq_true', Bool.not_eq_false']) (by simp only [go_sem, Bool.not_eq_true', Bool.not_eq_false']) (by simp only [go_sem, Bool.not_eq_true', Bool.not_eq_false'])) ?_; simp only [go_sem, Bool.not_eq_true', Bool.not_eq_false'])
    (refine ret2 [] (by simp only [go_sem, Bool.not_eq_true', Bool.not_eq_false']; rfl) ?_; simp only [go_sem, Bool.not_eq_true', Bool.not_eq_false'])
  rw [if_neg (by rw [h3]; decide)] at h
  (refine swp_seqW ?_; simp only [go_sem, Bool.not_eq_true', Bool.not_eq_false'])
  refine ⟨by omega, ?_⟩
  (refine acall2 [] (sign5_ok l (k + 1) 76 hl) (by simp only [go_sem, Bool.not_eq_true', Bool.not_eq_false']; rfl) (fit_of (by simp only [go_sem, Bool.not_eq_true', Bool.not_eq_false']) (by simp only [go_sem, Bool.not_eq_true', Bool.not_eq_false']) (by simp only [go_sem, Bool.not_eq_true', Bool.not_eq_false']) (by simp only [go_sem, Bool.not_eq_true', Bool.not_eq_false']) (by simp only [go_sem, Bool.not_eq_true', Bool.not_eq_false']) (by simp only [go_sem, Bool.not_eq_true', Bool.not_eq_false']) (by simp only [go_sem, Bool.not_eq_true', Bool.not_eq_false'])) ?_; simp only [go_sem, Bool.not_eq_true', Bool.not_eq_false'])
  refine ⟨fun h4 => ?_, fun h4 => ?_⟩
  · rw [if_pos h4] at h
    refine ⟨by omega, ?_⟩
    (refine acallF2 [144 ] [] ( box5_ok l (k + 2) ⟨4, 1, sty0, 0, 0, [], 1, 0, 0⟩ 62 r hl h) (by simp only [go_sem, Bool.not_eq_true', Bool.not_eq_false']; rfl) (fit_of (by simp only [go_sem, Bool.not_eq_true', Bool.not_eq_false']) (by simp only [go_sem, Bool.not_eq_true', Bool.not_eq_false']) (by simp only [go_sem, Bool.not_eq_true', Bool.not_eq_false']) (by simp only [go_sem, Bool.not_eq_true', Bool.not_eq_false']) (by simp only [go_sem, Bool.not_eq_true', Bool.not_eq_false']) (by simp only [go_sem, Bool.not_eq_true', Bool.not_eq_false']) (by simp only [go_sem, Bool.not_eq_true', Bool.not_eq_false'])) ?_; simp only [go_sem, Bool.not_eq_true', Bool.not_eq_false'])
    (refine ret2 [] (by simp only [go_sem, Bool.not_eq_true', Bool.not_eq_false']; rfl) ?_; simp only [go_sem, Bool.not_eq_true', Bool.not_eq_false'])
  rw [if_neg (by rw [h4]; decide)] at h
  (refine swp_seqW ?_; simp only [go_sem, Bool.not_eq_true', Bool.not_eq_false'])
  refine ⟨by omega, ?_⟩
  (refine acall2 [] (sign5_ok l (k + 1) 82 hl) (by simp only [go_sem, Bool.not_eq_true', Bool.not_eq_false']; rfl) (fit_of (by simp only [go_sem, Bool.not_eq_true', Bool.not_eq_false']) (by simp only [go_sem, Bool.not_eq_true', Bool.not_eq_false']) (by simp only [go_sem, Bool.not_eq_true', Bool.not_eq_false']) (by simp only [go_sem, Bool.not_eq_true', Bool.not_eq_false']) (by simp only [go_sem, Bool.not_eq_true', Bool.not_eq_false']) (by simp only [go_sem, Bool.not_eq_true', Bool.not_eq_false']) (by simp only [go_sem, Bool.not_eq_true', Bool.not_eq_false'])) ?_; simp only [go_sem, Bool.not_eq_true', Bool.not_eq_false'])
  refine ⟨fun h5 => ?_, fun h5 => ?_⟩
  · rw [if_pos h5] at h
    refine ⟨by omega, ?_⟩
    (refine acallF2 [176 ] [] ( box5_ok l (k + 2) ⟨4, 1, sty0, 0, 0, [], 2, 0, 0⟩ 62 r hl h) (by simp only [go_sem, Bool.not_eq_true', Bool.not_eq_false']; rfl) (fit_of (by simp only [go_sem, Bool.not_eq_true', Bool.not_eq_false']) (by simp only [go_sem, Bool.not_eq_true', Bool.not_eq_false']) (by simp only [go_sem, Bool.not_eq_true', Bool.not_eq_false']) (by simp only [go_sem, Bool.not_eq_true', Bool.not_eq_false']) (by simp only [go_sem, Bool.not_eq_true', Bool.not_eq_false']) (by simp only [go_sem, Bool.not_eq_true', Bool.not_eq_false']) (by simp only [go_sem, Bool.not_eq_true', Bool.not_eq_false'])) ?_; simp only [go_sem, Bool.not_eq_true', Bool.not_eq_false'])
    (refine ret2 [] (by simp only [go_sem, Bool.not_eq_true', Bool.not_eq_false']; rfl) ?_; simp only [go_sem, Bool.not_eq_true', Bool.not_eq_false'])
  rw [if_neg (by rw [h5]; decide)] at h
  cases h
theorem nodesG_len (rec : Nat → Option (List LNo × Nat)) (l : List LTk) : ∀ g k r, nodesG rec l g k = some r → r.1.length < 1000
  | 0, k, r, h => by cases h
  | g + 1, k, r, h => by
    rw [nodesG] at h
    split at h
    case isFalse => cases h
    split at h
    case isFalse =>
      injection h with h
      subst h
      exact Nat.zero_lt_succ _
    split at h
    case h_2 => cases h
    split at h
    case isFalse => cases h
    split at h
    case h_2 => cases h
    split at h
    case isFalse => cases h
    next hh =>
    injection h with h
    subst h
    simp only [List.length_append]
    exact hh
structure LNd where
  k : Nat
  acc : List LNo
set_option maxRecDepth 100000 in
set_option maxHeartbeats 4000000 in
theorem nodesG_ok (rec : Nat → Option (List LNo × Nat)) (l : List LTk) (hrec : ∀ k r, k ≤ l.length → rec k = some r → FnOk Tryz.prog 81 [.sl 4 (l.map cTk), .raw (.int .i64 k)] [] (aGot r) []) (g k : Nat) (r : List LNo × Nat) (hl : l.length ≤ 1000) (hk : k ≤ l.length) (h : nodesG rec l g k = some r) : FnOk Tryz.prog 81 [.sl 4 (l.map cTk), .raw (.int .i64 k)] [] (aGot r) [] := by
  have hlen := nodesG_len rec l g k r h
  refine fn_of_swp Tryz.func81 rfl (by kernel_rfl) (by kernel_rfl) (Nat.le_of_ble_eq_true rfl) Tryz.results81 ?_
  (refine swp_seqW ?_; simp only [go_sem, Bool.not_eq_true', Bool.not_eq_false'])
  (refine swp_seqW ?_; simp only [go_sem, Bool.not_eq_true', Bool.not_eq_false'])
  refine swp_cutS (fun z : LNd => ⟨[(4, .hdr 8), (5, .hdr 16)], [(8, some (.cells 133 [.hdr 9, .raw (.int .i64 0), .raw (.int .i64 0)])), (9, some (.row 56 20 [])), (16, some (.cells 133 [.hdr 17, .raw (.int .i64 z.k), .raw (.int .i64 0)])), (17, some (.row 56 20 (z.acc.map cNo)))], none⟩) (fun z => (z.acc, z.k) = r) 4 ?_ ?_
  · refine swp_block ?_
    refine swp_loop2 [] (fun z : LNd => ⟨[(0, .sl 4 (l.map cTk)), (4, .hdr 8), (5, .hdr 16)], [(8, some (.cells 133 [.hdr 9, .raw (.int .i64 0), .raw (.int .i64 0)])), (9, some (.row 56 20 [])), (16, some (.cells 133 [.hdr 17, .raw (.int .i64 z.k), .raw (.int .i64 0)])), (17, some (.row 56 20 (z.acc.map cNo)))], none⟩) (fun z => z.k ≤ l.length ∧ ∃ f q, nodesG rec l f z.k = some q ∧ (z.acc ++ q.1, q.2) = r) (fun z => l.length - z.k) 40 ⟨k, []⟩ (by simp only [go_sem, Bool.not_eq_true', Bool.not_eq_false']; rfl) (by simp only [go_sem, Bool.not_eq_true', Bool.not_eq_false']) ?_ ?_
    · exact ⟨hk, g, r, h, rfl⟩
    · rintro ⟨kk, acc⟩ ⟨q1, f, q, q2, q3⟩
      simp only at q1 q2 q3
      obtain ⟨f, rfl⟩ : ∃ f', f = f' + 1 := by
        cases f with
        | zero => cases q2
        | succ g => exact ⟨g, rfl⟩
      rw [nodesG, if_pos q1] at q2
      (refine swp_seqW ?_; simp only [go_sem, Bool.not_eq_true', Bool.not_eq_false'])
      (refine acall2 [] (sign5_ok l kk 91 hl) (by simp only [go_sem, Bool.not_eq_true', Bool.not_eq_false']; rfl) (fit_of (by simp only [go_sem, Bool.not_eq_true', Bool.not_eq_false']) (by simp only [go_sem, Bool.not_eq_true', Bool.not_eq_false']) (by simp only [go_sem, Bool.not_eq_true', Bool.not_eq_false']) (by simp only [go_sem, Bool.not_eq_true', Bool.not_eq_false']) (by simp only [go_sem, Bool.not_eq_true', Bool.not_eq_false']) (by simp only [go_sem, Bool.not_eq_true', Bool.not_eq_false']) (by simp only [go_sem, Bool.not_eq_true', Bool.not_eq_false'])) ?_; simp only [go_sem, Bool.not_eq_true', Bool.not_eq_false'])
      refine ⟨fun c1 => ?_, fun c1 => ?_⟩
      (refine acall2 [] (sign5_ok l kk 40 hl) (by simp only [go_sem, Bool.not_eq_true', Bool.not_eq_false']; rfl) (fit_of (by simp only [go_sem, Bool.not_eq_true', Bool.not_eq_false']) (by simp only [go_sem, Bool.not_eq_true', Bool.not_eq_false']) (by simp only [go_sem, Bool.not_eq_true', Bool.not_eq_false']) (by simp only [go_sem, Bool.not_eq_true', Bool.not_eq_false']) (by simp only [go_sem, Bool.not_eq_true', Bool.not_eq_false']) (by simp only [go_sem, Bool.not_eq_true', Bool.not_eq_false']) (by simp only [go_sem, Bool.not_eq_true', Bool.not_eq_false'])) ?_; simp only [go_sem, Bool.not_eq_true', Bool.not_eq_false'])
      refine ⟨fun c2 => ?_, fun c2 => ?_⟩
      (refine acall2 [] (sign5_ok l kk 123 hl) (by simp only [go_sem, Bool.not_eq_true', Bool.not_eq_false']; rfl) (fit_of (by simp only [go_sem, Bool.not_eq_true', Bool.not_eq_false']) (by simp only [go_sem, Bool.not_eq_true', Bool.not_eq_false']) (by simp only [go_sem, Bool.not_eq_true', Bool.not_eq_false']) (by simp only [go_sem, Bool.not_eq_true', Bool.not_eq_false']) (by simp only [go_sem, Bool.not_eq_true', Bool.not_eq_false']) (by simp only [go_sem, Bool.not_eq_true', Bool.not_eq_false']) (by simp only [go_sem, Bool.not_eq_true', Bool.not_eq_false'])) ?_; simp only [go_sem, Bool.not_eq_true', Bool.not_eq_false'])
      refine ⟨fun c3 => ?_, fun c3 => ?_⟩
      (refine acall2 [] (sign5_ok l kk 60 hl) (by simp only [go_sem, Bool.not_eq_true', Bool.not_eq_false']; rfl) (fit_of (by simp only [go_sem, Bool.not_eq_true', Bool.not_eq_false']) (by simp only [go_sem, Bool.not_eq_true', Bool.not_eq_false']) (by simp only [go_sem, Bool.not_eq_true', Bool.not_eq_false']) (by simp only [go_sem, Bool.not_eq_true', Bool.not_eq_false']) (by simp only [go_sem, Bool.not_eq_true', Bool.not_eq_false']) (by simp only [go_sem, Bool.not_eq_true', Bool.not_eq_false']) (by simp only [go_sem, Bool.not_eq_true', Bool.not_eq_false'])) ?_; simp only [go_sem, Bool.not_eq_true', Bool.not_eq_false'])
      refine ⟨fun c4 => ?_, fun c4 => ?_⟩
      rotate_left
      · rw [if_neg (by simp [startB, c1, c2, c3, c4])] at q2
        injection q2 with q2
        subst q2
        (refine cut_end [] (⟨kk, acc⟩) (by simp only [go_sem, Bool.not_eq_true', Bool.not_eq_false']; rfl) ?_ ?_; (focus (simp only [go_sem, Bool.not_eq_true', Bool.not_eq_false']; done)))
        rw [← q3]; simp
      all_goals (have hs : startB l kk = true := by simp [startB, *])
      all_goals
        rw [if_pos hs] at q2
        split at q2
        case h_2 => cases q2
        next ns k1 hone =>
        split at q2
        case isFalse => cases q2
        next hk1 =>
        split at q2
        case h_2 => cases q2
        next rr k2 hrest =>
        split at q2
        case isFalse => cases q2
        next hh =>
        injection q2 with q2
        subst q2
        subst q3
        simp only [List.length_append] at hlen
        refine swp_block ?_
        (refine swp_seqW ?_; simp only [go_sem, Bool.not_eq_true', Bool.not_eq_false'])
        (refine acall2 [] (one5_ok rec l hrec kk (ns, k1) hl q1 hone) (by simp only [go_sem, Bool.not_eq_true', Bool.not_eq_false']; rfl) (fit_of (by simp only [go_sem, Bool.not_eq_true', Bool.not_eq_false']) (by simp only [go_sem, Bool.not_eq_true', Bool.not_eq_false']) (by simp only [go_sem, Bool.not_eq_true', Bool.not_eq_false']) (by simp only [go_sem, Bool.not_eq_true', Bool.not_eq_false']) (by simp only [go_sem, Bool.not_eq_true', Bool.not_eq_false']) (by simp only [go_sem, Bool.not_eq_true', Bool.not_eq_false']) (by simp only [go_sem, Bool.not_eq_true', Bool.not_eq_false'])) ?_; simp only [go_sem, Bool.not_eq_true', Bool.not_eq_false'])
        (refine swp_lastW ?_; simp only [go_sem, Bool.not_eq_true', Bool.not_eq_false', Int.reduceToNat, Int.reduceLT, Int.reduceLE, Int.reduceEq, Int.reduceAdd, Int.reduceSub, Int.reduceMul, Int.reduceNeg, Int.reduceNe, decide_false, Int.cast_ofNat_Int, kSet, List.getElem?_cons_succ, List.getElem?_cons_zero, List.set_cons_succ, List.set_cons_zero, exists_eq_left', forall_const, true_implies, List.length_map])
        refine ⟨⟨by omega, by omega⟩, ?_⟩
        have hb : k1 ≤ l.length := by
          cases f with
          | zero => cases hrest
          | succ f =>
            rw [nodesG] at hrest
            split at hrest
            case isFalse => cases hrest
            next hb => exact hb
        (refine loop_end [] (⟨k1, acc ++ ns⟩) (by simp only [go_sem, Bool.not_eq_true', Bool.not_eq_false']; rfl) ?_ ?_ ?_; (focus first | omega | (simp only; omega)); (focus (simp only [go_sem, Bool.not_eq_true', Bool.not_eq_false', List.map_append]; done)))
        exact ⟨hb, f, (rr, k2), hrest, by simp⟩
  rintro ⟨kk, acc⟩ hr
  subst hr
  (refine swp_lastW ?_; simp only [go_sem, Bool.not_eq_true', Bool.not_eq_false'])
  (refine ret2 [17] (by simp only [go_sem, Bool.not_eq_true', Bool.not_eq_false']; rfl) ?_; simp only [go_sem, Bool.not_eq_true', Bool.not_eq_false'])
end Go.Proofs.YtblmebjhhanoaaaGreat
/- THE SCRIPT'S READER: the whole. -/
/- G -/
/- BOOLS -/
set_option linter.unusedSimpArgs false
set_option linter.unusedVariables false
namespace Go.Proofs.YtblmebjhhanoaaaGreat
open Go.RowKit

theorem nodes5_ok (l : List LTk) (hl : l.length ≤ 1000) : ∀ (f k : Nat) (r : List LNo × Nat), k ≤ l.length → nodesS l f k = some r → FnOk Tryz.prog 81 [.sl 4 (l.map cTk), .raw (.int .i64 k)] [] (aGot r) []
  | 0, _, _, _, h => by cases h
  | f + 1, k, r, hk, h => nodesG_ok (nodesS l f) l (nodes5_ok l hl f) (l.length + 1) k r hl hk h
set_option maxRecDepth 100000 in
set_option maxHeartbeats 4000000 in
theorem of5_ok (s : ByteArray) (l : List LTk) (ns : List LNo) (ha : ascii s) (hs : s.size ≤ 1000) (h1 : tokS s (s.size + 1) 0 = some l) (hl : l.length ≤ 1000) (h2 : nodesS l (l.length + 1) 0 = some (ns, l.length)) : FnOk Tryz.prog 45 [.raw (.string s)] [] (.tup [.sl 20 (ns.map cNo), .raw (.int .i64 0), .raw (.int .i64 0)]) [] := by
  have hn : FnOk Tryz.prog 81 [.sl 4 (l.map cTk), .raw (.int .i64 0)] [] (aGot (ns, l.length)) [] := nodes5_ok l hl (l.length + 1) 0 (ns, l.length) (Nat.zero_le _) h2
  refine fn_of_awp Tryz.func45 rfl (by kernel_rfl) (by kernel_rfl) (Nat.le_of_ble_eq_true rfl) Tryz.results45 ?_
  simp only [go_sem, Bool.not_eq_true', Bool.not_eq_false']
  (refine acall2 [] (tok4_ok s l ha hs h1) (by simp only [go_sem, Bool.not_eq_true', Bool.not_eq_false']; rfl) (fit_of (by simp only [go_sem, Bool.not_eq_true', Bool.not_eq_false']) (by simp only [go_sem, Bool.not_eq_true', Bool.not_eq_false']) (by simp only [go_sem, Bool.not_eq_true', Bool.not_eq_false']) (by simp only [go_sem, Bool.not_eq_true', Bool.not_eq_false']) (by simp only [go_sem, Bool.not_eq_true', Bool.not_eq_false']) (by simp only [go_sem, Bool.not_eq_true', Bool.not_eq_false']) (by simp only [go_sem, Bool.not_eq_true', Bool.not_eq_false'])) ?_; simp only [go_sem, Bool.not_eq_true', Bool.not_eq_false', Int.reduceToNat, Int.reduceLT, Int.reduceLE, Int.reduceEq, Int.reduceAdd, Int.reduceSub, Int.reduceMul, Int.reduceNeg, Int.reduceNe, decide_false, Int.cast_ofNat_Int, kSet, List.getElem?_cons_succ, List.getElem?_cons_zero, List.set_cons_succ, List.set_cons_zero, exists_eq_left', forall_const, true_implies])
  (refine acallF2 [40 ] [] ( hn) (by simp only [go_sem, Bool.not_eq_true', Bool.not_eq_false']; rfl) (fit_of (by simp only [go_sem, Bool.not_eq_true', Bool.not_eq_false']) (by simp only [go_sem, Bool.not_eq_true', Bool.not_eq_false']) (by simp only [go_sem, Bool.not_eq_true', Bool.not_eq_false']) (by simp only [go_sem, Bool.not_eq_true', Bool.not_eq_false']) (by simp only [go_sem, Bool.not_eq_true', Bool.not_eq_false']) (by simp only [go_sem, Bool.not_eq_true', Bool.not_eq_false']) (by simp only [go_sem, Bool.not_eq_true', Bool.not_eq_false'])) ?_; simp only [go_sem, Bool.not_eq_true', Bool.not_eq_false', Int.reduceToNat, Int.reduceLT, Int.reduceLE, Int.reduceEq, Int.reduceAdd, Int.reduceSub, Int.reduceMul, Int.reduceNeg, Int.reduceNe, decide_false, Int.cast_ofNat_Int, kSet, List.getElem?_cons_succ, List.getElem?_cons_zero, List.set_cons_succ, List.set_cons_zero, exists_eq_left', forall_const, true_implies, List.length_map])
  refine ⟨fun q => absurd q (by omega), fun _ => ?_⟩
  (refine ret2 [] (by simp only [go_sem, Bool.not_eq_true', Bool.not_eq_false']; rfl) ?_; simp only [go_sem, Bool.not_eq_true', Bool.not_eq_false'])
def asciiB (s : ByteArray) : Bool := (List.range s.size).all (fun q => decide (byteAt s q ≤ 127))
theorem ascii_of (s : ByteArray) (h : asciiB s = true) : ascii s := fun q hq => of_decide_eq_true (List.all_eq_true.1 h q (List.mem_range.2 hq))
def rdS (s : ByteArray) : Option (List LNo) :=
  if asciiB s = true ∧ s.size ≤ 1000 then match tokS s (s.size + 1) 0 with
    | some l => if l.length ≤ 1000 then match nodesS l (l.length + 1) 0 with
      | some (ns, k) => if k = l.length then some ns else none
      | none => none
      else none
    | none => none
  else none
set_option maxRecDepth 100000 in
theorem rdS_ok (s : ByteArray) (ns : List LNo) (h : rdS s = some ns) : FnOk Tryz.prog 45 [.raw (.string s)] [] (.tup [.sl 20 (ns.map cNo), .raw (.int .i64 0), .raw (.int .i64 0)]) [] := by
  unfold rdS at h
  split at h
  case isFalse => cases h
  next ha =>
  split at h
  case h_2 => cases h
  next l h1 =>
  split at h
  case isFalse => cases h
  next hl =>
  split at h
  case h_2 => cases h
  next q k h2 =>
  split at h
  case isFalse => cases h
  next hk =>
  injection h with h
  subst h
  subst hk
  exact of5_ok s l q (ascii_of s ha.1) ha.2 h1 hl h2
def scr08 : ByteArray := { data := #[91, 105, 53, 32, 40, 49, 48, 32, 50, 32, 51, 48, 41, 91, 105, 54, 48, 32, 123, 51, 32, 52, 125, 93, 93, 123, 49, 32, 49, 125] }
def nds08 : List LNo := [⟨1, 4, ⟨0, 0, 0, 0, 5, 2, 2, 0, 0, 0, 0, 0⟩, 0, 0, [], 0, 0, 0⟩, ⟨2, 1, sty0, 10, 2, [30], 0, 0, 0⟩, ⟨1, 2, ⟨0, 0, 0, 0, 60, 2, 2, 0, 0, 0, 0, 0⟩, 0, 0, [], 0, 0, 0⟩, ⟨3, 1, sty0, 0, 0, [], 0, 3, 4⟩, ⟨3, 1, sty0, 0, 0, [], 0, 1, 1⟩]
end Go.Proofs.YtblmebjhhanoaaaGreat
/- CHAPTERS 14, 15: the chapters' examples: scripts, and their galleys. -/
/- G -/
/- BOOLS -/
/- GET ex_atA ex_atA' -/
set_option linter.unusedSimpArgs false
set_option linter.unusedVariables false
namespace Go.Proofs.YtblmebjhhanoaaaGreat
open Go.RowKit

theorem hw_of {l : List LNo} (h : l.all (fun x => decide (x.words.length ≤ 100)) = true) : ∀ x ∈ l, x.words.length ≤ 9223372036854775807 := fun x hx => by
  have := of_decide_eq_true (List.all_eq_true.1 h x hx)
  omega
def scr15 : ByteArray := { data := #[91, 109, 53, 32, 110, 55, 40, 49, 48, 32, 50, 32, 51, 48, 32, 51, 48, 32, 53, 48, 41, 93, 91, 109, 51, 123, 50, 48, 32, 56, 125, 93] }
def nds15 : List LNo := [⟨1, 2, ⟨5, 7, 0, 0, 0, 2, 2, 0, 0, 0, 0, 0⟩, 0, 0, [], 0, 0, 0⟩, ⟨2, 1, sty0, 10, 2, [30, 30, 50], 0, 0, 0⟩, ⟨1, 2, ⟨3, 0, 0, 0, 0, 2, 2, 0, 0, 0, 0, 0⟩, 0, 0, [], 0, 0, 0⟩, ⟨3, 1, sty0, 0, 0, [], 0, 20, 8⟩]
theorem rd15 : rdS scr15 = some nds15 := by kernel_rfl
theorem of15 : FnOk Tryz.prog 45 [.raw (.string { data := #[91, 109, 53, 32, 110, 55, 40, 49, 48, 32, 50, 32, 51, 48, 32, 51, 48, 32, 53, 48, 41, 93, 91, 109, 51, 123, 50, 48, 32, 56, 125, 93] })] [] (.tup [.sl 20 (nds15.map cNo), .raw (.int .i64 0), .raw (.int .i64 0)]) [] := rdS_ok scr15 nds15 rd15
theorem w15 : ∀ x ∈ nds15, x.words.length ≤ 9223372036854775807 := hw_of (by kernel_rfl)
def scr14b : ByteArray := { data := #[60, 76, 32, 51, 48, 32, 50, 53, 62, 40, 49, 48, 32, 50, 32, 51, 48, 32, 51, 48, 32, 53, 48, 41] }
def nds14b : List LNo := [⟨4, 1, sty0, 0, 0, [], 1, 30, 25⟩, ⟨2, 1, sty0, 10, 2, [30, 30, 50], 0, 0, 0⟩]
def scr14c : ByteArray := { data := #[60, 82, 32, 51, 48, 32, 50, 53, 62, 91, 99, 51, 32, 105, 49, 48, 123, 50, 48, 32, 56, 125, 93] }
def nds14c : List LNo := [⟨4, 1, sty0, 0, 0, [], 2, 30, 25⟩, ⟨1, 2, ⟨0, 0, 0, 0, 10, 2, 2, 0, 0, 0, 0, 3⟩, 0, 0, [], 0, 0, 0⟩, ⟨3, 1, sty0, 0, 0, [], 0, 20, 8⟩]
def ats15 : List LAt := [⟨1, 1, 0, 2, 0, 5, 62, 10⟩, ⟨1, 1, 2, 3, 0, 15, 50, 10⟩, ⟨2, 3, 0, 0, 0, 32, 20, 8⟩]
def ats14b : List LAt := [⟨1, 1, 0, 2, 30, 0, 62, 10⟩, ⟨1, 1, 2, 3, 30, 10, 50, 10⟩]
def fls14b : List LFl := [⟨0, 1, 0, 0, 0, 30, 25⟩]
def ats14c : List LAt := [⟨2, 2, 0, 0, 10, 25, 20, 8⟩]
def fls14c : List LFl := [⟨0, 2, 0, 70, 0, 30, 25⟩]
theorem gal15 : resG nds15 100 = ⟨ats15, [], 40⟩ := by kernel_rfl
theorem err15 : errG nds15 100 = 0 := by kernel_rfl
theorem rof15 : FnOk Tryz.prog 9 [.sl 20 (nds15.map cNo), .raw (.int .i64 100)] [] (.tup [.agg [.hdr 8, .hdr 9, .raw (.int .i64 40)], .raw (.int .i64 0)]) [(8, .row 47 8 (ats15.map cAt)), (9, .row 62 7 [])] := by
  have h := rof14_ok nds15 100 (Nat.le_of_ble_eq_true rfl) w15 (of_decide_eq_true (by kernel_rfl))
  rw [gal15, err15] at h
  exact h
theorem mono15 : MonoA ats15 := near_mono ((near15_iff ats15).1 (by kernel_rfl))
theorem sm15 : SmA ats15 := near_sm ((near15_iff ats15).1 (by kernel_rfl))
theorem siz15 : ∀ x ∈ nds15, 0 ≤ x.size ∧ x.size ≤ 1000 := by decide
theorem win15 (n : Int) (a b : Nat) (h : winA nds15 ats15 n = ⟨a, b⟩) : FnOk Tryz.prog 19 [.sl 20 (nds15.map cNo), .sl 8 (ats15.map cAt), .raw (.int .i64 n)] [] (.tup [.raw (.int .i64 a), .raw (.int .i64 b)]) [] := by
  have := wina_ok nds15 ats15 n mono15 (Nat.le_of_ble_eq_true rfl) siz15 (Nat.le_of_ble_eq_true rfl)
  rw [h] at this
  exact this
theorem bot15 (k v : Int) (h : botA ats15 k = v) : FnOk Tryz.prog 46 [.sl 8 (ats15.map cAt), .raw (.int .i64 k)] [] (.raw (.int .i64 v)) [] := h ▸ bota_ok ats15 k sm15
theorem gap15 (k v : Int) (h : gapA ats15 k = v) : FnOk Tryz.prog 47 [.sl 8 (ats15.map cAt), .raw (.int .i64 k)] [] (.raw (.int .i64 v)) [] := h ▸ gapa_ok ats15 k sm15 (Nat.le_of_ble_eq_true rfl)
theorem ofs15 (i k v : Int) (h : ofsA ats15 i k = v) : FnOk Tryz.prog 48 [.sl 8 (ats15.map cAt), .raw (.int .i64 i), .raw (.int .i64 k)] [] (.raw (.int .i64 v)) [] := h ▸ ofsa_ok ats15 i k sm15
theorem hig15 (i k v : Int) (h : higA ats15 i k = v) : FnOk Tryz.prog 49 [.sl 8 (ats15.map cAt), .raw (.int .i64 i), .raw (.int .i64 k)] [] (.raw (.int .i64 v)) [] := h ▸ higa_ok ats15 i k sm15 (Nat.le_of_ble_eq_true rfl)
set_option maxRecDepth 100000 in
set_option maxHeartbeats 8000000 in
theorem awake15_ok : FnOk Tryz.prog 17 [] [] (.raw (.bool true)) [] := by
  refine fn_of_swp Tryz.func17 rfl (by kernel_rfl) (by kernel_rfl) (Nat.le_of_ble_eq_true rfl) Tryz.results17 ?_
  (refine swp_seqW ?_; simp only [go_sem, Bool.not_eq_true', Bool.not_eq_false'])
  (refine swp_seqW ?_; simp only [go_sem, Bool.not_eq_true', Bool.not_eq_false'])
  (refine acall2 [] (of15) (by simp only [go_sem, Bool.not_eq_true', Bool.not_eq_false']; rfl) (fit_of (by simp only [go_sem, Bool.not_eq_true', Bool.not_eq_false']) (by simp only [go_sem, Bool.not_eq_true', Bool.not_eq_false']) (by simp only [go_sem, Bool.not_eq_true', Bool.not_eq_false']) (by simp only [go_sem, Bool.not_eq_true', Bool.not_eq_false']) (by simp only [go_sem, Bool.not_eq_true', Bool.not_eq_false']) (by simp only [go_sem, Bool.not_eq_true', Bool.not_eq_false']) (by simp only [go_sem, Bool.not_eq_true', Bool.not_eq_false'])) ?_; simp only [go_sem, Bool.not_eq_true', Bool.not_eq_false'])
  (refine swp_seqW ?_; simp only [go_sem, Bool.not_eq_true', Bool.not_eq_false'])
  (refine acall2 [] (rof15) (by simp only [go_sem, Bool.not_eq_true', Bool.not_eq_false']; rfl) (fit_of (by simp only [go_sem, Bool.not_eq_true', Bool.not_eq_false']) (by simp only [go_sem, Bool.not_eq_true', Bool.not_eq_false']) (by simp only [go_sem, Bool.not_eq_true', Bool.not_eq_false']) (by simp only [go_sem, Bool.not_eq_true', Bool.not_eq_false']) (by simp only [go_sem, Bool.not_eq_true', Bool.not_eq_false']) (by simp only [go_sem, Bool.not_eq_true', Bool.not_eq_false']) (by simp only [go_sem, Bool.not_eq_true', Bool.not_eq_false'])) ?_; simp only [go_sem, Bool.not_eq_true', Bool.not_eq_false'])
  (refine swp_seqW ?_; simp only [go_sem, Bool.not_eq_true', Bool.not_eq_false'])
  (refine acallF2 [88 ] [] ( win15 0 0 2 (by kernel_rfl)) (by simp only [go_sem, Bool.not_eq_true', Bool.not_eq_false']; rfl) (fit_of (by simp only [go_sem, Bool.not_eq_true', Bool.not_eq_false']) (by simp only [go_sem, Bool.not_eq_true', Bool.not_eq_false']) (by simp only [go_sem, Bool.not_eq_true', Bool.not_eq_false']) (by simp only [go_sem, Bool.not_eq_true', Bool.not_eq_false']) (by simp only [go_sem, Bool.not_eq_true', Bool.not_eq_false']) (by simp only [go_sem, Bool.not_eq_true', Bool.not_eq_false']) (by simp only [go_sem, Bool.not_eq_true', Bool.not_eq_false'])) ?_; simp only [go_sem, Bool.not_eq_true', Bool.not_eq_false'])
  (refine swp_seqW ?_; simp only [go_sem, Bool.not_eq_true', Bool.not_eq_false'])
  (refine acall2 [] (win15 2 2 3 (by kernel_rfl)) (by simp only [go_sem, Bool.not_eq_true', Bool.not_eq_false']; rfl) (fit_of (by simp only [go_sem, Bool.not_eq_true', Bool.not_eq_false']) (by simp only [go_sem, Bool.not_eq_true', Bool.not_eq_false']) (by simp only [go_sem, Bool.not_eq_true', Bool.not_eq_false']) (by simp only [go_sem, Bool.not_eq_true', Bool.not_eq_false']) (by simp only [go_sem, Bool.not_eq_true', Bool.not_eq_false']) (by simp only [go_sem, Bool.not_eq_true', Bool.not_eq_false']) (by simp only [go_sem, Bool.not_eq_true', Bool.not_eq_false'])) ?_; simp only [go_sem, Bool.not_eq_true', Bool.not_eq_false'])
  (refine swp_seqW ?_; simp only [go_sem, Bool.not_eq_true', Bool.not_eq_false'])
  (refine acall2 [] (win15 4 0 0 (by kernel_rfl)) (by simp only [go_sem, Bool.not_eq_true', Bool.not_eq_false']; rfl) (fit_of (by simp only [go_sem, Bool.not_eq_true', Bool.not_eq_false']) (by simp only [go_sem, Bool.not_eq_true', Bool.not_eq_false']) (by simp only [go_sem, Bool.not_eq_true', Bool.not_eq_false']) (by simp only [go_sem, Bool.not_eq_true', Bool.not_eq_false']) (by simp only [go_sem, Bool.not_eq_true', Bool.not_eq_false']) (by simp only [go_sem, Bool.not_eq_true', Bool.not_eq_false']) (by simp only [go_sem, Bool.not_eq_true', Bool.not_eq_false'])) ?_; simp only [go_sem, Bool.not_eq_true', Bool.not_eq_false'])
  (refine swp_lastW ?_; simp only [go_sem, Bool.not_eq_true', Bool.not_eq_false', Int.reduceToNat, Int.reduceLT, Int.reduceLE, Int.reduceEq, Int.reduceAdd, Int.reduceSub, Int.reduceMul, Int.reduceNeg, Int.reduceNe, decide_false, Int.cast_ofNat_Int, kSet, List.getElem?_cons_succ, List.getElem?_cons_zero, List.set_cons_succ, List.set_cons_zero, exists_eq_left', forall_const, true_implies])
  (refine acall2 [] (bot15 1 25 (by kernel_rfl)) (by simp only [go_sem, Bool.not_eq_true', Bool.not_eq_false']; rfl) (fit_of (by simp only [go_sem, Bool.not_eq_true', Bool.not_eq_false']) (by simp only [go_sem, Bool.not_eq_true', Bool.not_eq_false']) (by simp only [go_sem, Bool.not_eq_true', Bool.not_eq_false']) (by simp only [go_sem, Bool.not_eq_true', Bool.not_eq_false']) (by simp only [go_sem, Bool.not_eq_true', Bool.not_eq_false']) (by simp only [go_sem, Bool.not_eq_true', Bool.not_eq_false']) (by simp only [go_sem, Bool.not_eq_true', Bool.not_eq_false'])) ?_; simp only [go_sem, Bool.not_eq_true', Bool.not_eq_false', Int.reduceToNat, Int.reduceLT, Int.reduceLE, Int.reduceEq, Int.reduceAdd, Int.reduceSub, Int.reduceMul, Int.reduceNeg, Int.reduceNe, decide_false, Int.cast_ofNat_Int, kSet, List.getElem?_cons_succ, List.getElem?_cons_zero, List.set_cons_succ, List.set_cons_zero, exists_eq_left', forall_const, true_implies])
  (refine acall2 [] (gap15 0 5 (by kernel_rfl)) (by simp only [go_sem, Bool.not_eq_true', Bool.not_eq_false']; rfl) (fit_of (by simp only [go_sem, Bool.not_eq_true', Bool.not_eq_false']) (by simp only [go_sem, Bool.not_eq_true', Bool.not_eq_false']) (by simp only [go_sem, Bool.not_eq_true', Bool.not_eq_false']) (by simp only [go_sem, Bool.not_eq_true', Bool.not_eq_false']) (by simp only [go_sem, Bool.not_eq_true', Bool.not_eq_false']) (by simp only [go_sem, Bool.not_eq_true', Bool.not_eq_false']) (by simp only [go_sem, Bool.not_eq_true', Bool.not_eq_false'])) ?_; simp only [go_sem, Bool.not_eq_true', Bool.not_eq_false', Int.reduceToNat, Int.reduceLT, Int.reduceLE, Int.reduceEq, Int.reduceAdd, Int.reduceSub, Int.reduceMul, Int.reduceNeg, Int.reduceNe, decide_false, Int.cast_ofNat_Int, kSet, List.getElem?_cons_succ, List.getElem?_cons_zero, List.set_cons_succ, List.set_cons_zero, exists_eq_left', forall_const, true_implies])
  (refine acall2 [] (gap15 1 0 (by kernel_rfl)) (by simp only [go_sem, Bool.not_eq_true', Bool.not_eq_false']; rfl) (fit_of (by simp only [go_sem, Bool.not_eq_true', Bool.not_eq_false']) (by simp only [go_sem, Bool.not_eq_true', Bool.not_eq_false']) (by simp only [go_sem, Bool.not_eq_true', Bool.not_eq_false']) (by simp only [go_sem, Bool.not_eq_true', Bool.not_eq_false']) (by simp only [go_sem, Bool.not_eq_true', Bool.not_eq_false']) (by simp only [go_sem, Bool.not_eq_true', Bool.not_eq_false']) (by simp only [go_sem, Bool.not_eq_true', Bool.not_eq_false'])) ?_; simp only [go_sem, Bool.not_eq_true', Bool.not_eq_false', Int.reduceToNat, Int.reduceLT, Int.reduceLE, Int.reduceEq, Int.reduceAdd, Int.reduceSub, Int.reduceMul, Int.reduceNeg, Int.reduceNe, decide_false, Int.cast_ofNat_Int, kSet, List.getElem?_cons_succ, List.getElem?_cons_zero, List.set_cons_succ, List.set_cons_zero, exists_eq_left', forall_const, true_implies])
  (refine acall2 [] (gap15 2 7 (by kernel_rfl)) (by simp only [go_sem, Bool.not_eq_true', Bool.not_eq_false']; rfl) (fit_of (by simp only [go_sem, Bool.not_eq_true', Bool.not_eq_false']) (by simp only [go_sem, Bool.not_eq_true', Bool.not_eq_false']) (by simp only [go_sem, Bool.not_eq_true', Bool.not_eq_false']) (by simp only [go_sem, Bool.not_eq_true', Bool.not_eq_false']) (by simp only [go_sem, Bool.not_eq_true', Bool.not_eq_false']) (by simp only [go_sem, Bool.not_eq_true', Bool.not_eq_false']) (by simp only [go_sem, Bool.not_eq_true', Bool.not_eq_false'])) ?_; simp only [go_sem, Bool.not_eq_true', Bool.not_eq_false', Int.reduceToNat, Int.reduceLT, Int.reduceLE, Int.reduceEq, Int.reduceAdd, Int.reduceSub, Int.reduceMul, Int.reduceNeg, Int.reduceNe, decide_false, Int.cast_ofNat_Int, kSet, List.getElem?_cons_succ, List.getElem?_cons_zero, List.set_cons_succ, List.set_cons_zero, exists_eq_left', forall_const, true_implies])
  (refine acall2 [] (ofs15 0 2 27 (by kernel_rfl)) (by simp only [go_sem, Bool.not_eq_true', Bool.not_eq_false']; rfl) (fit_of (by simp only [go_sem, Bool.not_eq_true', Bool.not_eq_false']) (by simp only [go_sem, Bool.not_eq_true', Bool.not_eq_false']) (by simp only [go_sem, Bool.not_eq_true', Bool.not_eq_false']) (by simp only [go_sem, Bool.not_eq_true', Bool.not_eq_false']) (by simp only [go_sem, Bool.not_eq_true', Bool.not_eq_false']) (by simp only [go_sem, Bool.not_eq_true', Bool.not_eq_false']) (by simp only [go_sem, Bool.not_eq_true', Bool.not_eq_false'])) ?_; simp only [go_sem, Bool.not_eq_true', Bool.not_eq_false', Int.reduceToNat, Int.reduceLT, Int.reduceLE, Int.reduceEq, Int.reduceAdd, Int.reduceSub, Int.reduceMul, Int.reduceNeg, Int.reduceNe, decide_false, Int.cast_ofNat_Int, kSet, List.getElem?_cons_succ, List.getElem?_cons_zero, List.set_cons_succ, List.set_cons_zero, exists_eq_left', forall_const, true_implies])
  (refine acall2 [] (hig15 0 2 20 (by kernel_rfl)) (by simp only [go_sem, Bool.not_eq_true', Bool.not_eq_false']; rfl) (fit_of (by simp only [go_sem, Bool.not_eq_true', Bool.not_eq_false']) (by simp only [go_sem, Bool.not_eq_true', Bool.not_eq_false']) (by simp only [go_sem, Bool.not_eq_true', Bool.not_eq_false']) (by simp only [go_sem, Bool.not_eq_true', Bool.not_eq_false']) (by simp only [go_sem, Bool.not_eq_true', Bool.not_eq_false']) (by simp only [go_sem, Bool.not_eq_true', Bool.not_eq_false']) (by simp only [go_sem, Bool.not_eq_true', Bool.not_eq_false'])) ?_; simp only [go_sem, Bool.not_eq_true', Bool.not_eq_false', Int.reduceToNat, Int.reduceLT, Int.reduceLE, Int.reduceEq, Int.reduceAdd, Int.reduceSub, Int.reduceMul, Int.reduceNeg, Int.reduceNe, decide_false, Int.cast_ofNat_Int, kSet, List.getElem?_cons_succ, List.getElem?_cons_zero, List.set_cons_succ, List.set_cons_zero, exists_eq_left', forall_const, true_implies])
  (refine acall2 [] (hig15 1 3 25 (by kernel_rfl)) (by simp only [go_sem, Bool.not_eq_true', Bool.not_eq_false']; rfl) (fit_of (by simp only [go_sem, Bool.not_eq_true', Bool.not_eq_false']) (by simp only [go_sem, Bool.not_eq_true', Bool.not_eq_false']) (by simp only [go_sem, Bool.not_eq_true', Bool.not_eq_false']) (by simp only [go_sem, Bool.not_eq_true', Bool.not_eq_false']) (by simp only [go_sem, Bool.not_eq_true', Bool.not_eq_false']) (by simp only [go_sem, Bool.not_eq_true', Bool.not_eq_false']) (by simp only [go_sem, Bool.not_eq_true', Bool.not_eq_false'])) ?_; simp only [go_sem, Bool.not_eq_true', Bool.not_eq_false', Int.reduceToNat, Int.reduceLT, Int.reduceLE, Int.reduceEq, Int.reduceAdd, Int.reduceSub, Int.reduceMul, Int.reduceNeg, Int.reduceNe, decide_false, Int.cast_ofNat_Int, kSet, List.getElem?_cons_succ, List.getElem?_cons_zero, List.set_cons_succ, List.set_cons_zero, exists_eq_left', forall_const, true_implies])
end Go.Proofs.YtblmebjhhanoaaaGreat
/- CHAPTER 08: what TreeOnce asks, of the plain functions. -/
/- G -/
set_option linter.unusedSimpArgs false
set_option linter.unusedVariables false
namespace Go.Proofs.YtblmebjhhanoaaaGreat
open Go.RowKit

structure KidsP (l : List LNo) (a : Int) (K : List Int) : Prop where
  at_ : ∀ i (h : i < K.length), ∃ k : Nat, K[i] = k ∧ k < l.length ∧ parN l k = a
  all : ∀ k : Nat, k < l.length → parN l k = a → (k : Int) ∈ K
  lt : ∀ i j (hi : i < K.length) (hj : j < K.length), i < j → K[i] < K[j]
  len : K.length ≤ l.length
/-- how often each was seen. -/
structure SeenP (l : List LNo) (a : Int) (K : List Int) (S : List Int) : Prop where
  len : S.length = l.length
  at_ : ∀ b (h : b < S.length), S[b] = if parN l b < a ∨ (b : Int) ∈ K then 1 else 0
/-- from a place upwards. -/
def upP (l : List LNo) : Int → List Int → Prop
  | at_, [] => parN l at_ = -1
  | at_, p :: t => parN l at_ = p ∧ (0 ≤ p ∧ p < l.length) ∧ upP l p t
theorem abvN_len (l : List LNo) (a : Int) (h : isS l = true) : (abvN l a).length ≤ l.length := by
  rw [abv_eq h]
  unfold abvR
  split
  · next q =>
    simp only [hasN, Bool.and_eq_true, decide_eq_true_eq] at q
    have := abvD_len l a a.toNat
    omega
  · simp
section
variable (l : List LNo) (a b : Int) (hv : isS l = true) (hl : l.length ≤ 1000) (hw : ∀ x ∈ l, x.words.length ≤ 9223372036854775807)
include hv
include hl hw
end
end Go.Proofs.YtblmebjhhanoaaaGreat
/- CHAPTER 15: the law AtomsParts. -/
/- G -/
/- BOOLS -/
set_option linter.unusedSimpArgs false
set_option linter.unusedVariables false
namespace Go.Proofs.YtblmebjhhanoaaaGreat
open Go.RowKit

theorem kidS_len {l : List LNo} {e : Int} : ∀ (f k : Nat), (kidS l e f k).length ≤ f
  | 0, _ => Nat.le_refl _
  | f + 1, k => by
    rw [kidS]
    split
    · have := kidS_len (l := l) (e := e) f (k + (sizN l k).toNat)
      simp only [List.length_cons]
      omega
    · exact Nat.zero_le _
theorem kidN_len (l : List LNo) (a : Int) : (kidN l a).length ≤ l.length := by
  unfold kidN
  split
  · exact kidS_len _ _
  · split
    · exact kidS_len _ _
    · exact Nat.zero_le _
def stP (l : List LNo) (w n c : Int) (g : LGal) (more : List (Nat × AV)) (ob : List (Nat × Option AO) := []) : AS :=
  ⟨[(0, .sl 20 (l.map cNo)), (1, .raw (.int .i64 w)), (2, .raw (.int .i64 n)), (3, .raw (.int .i64 c)), (9, .hdr 800)] ++ more, [(800, some (.cells 28 [.sl 8 (g.a.map cAt), .sl 7 (g.f.map cFl), .raw (.int .i64 g.h)]))] ++ ob, none⟩
attribute [go_sem] stP
set_option maxRecDepth 100000 in
set_option maxHeartbeats 16000000 in
theorem atomsParts_ok (l : List LNo) (w n c : Int) (hi : l.length ≤ 9223372036854775807 ∧ ∀ x ∈ l, x.words.length ≤ 9223372036854775807) : FnOk Tryz.prog 5 [.sl 20 (l.map cNo), .raw (.int .i64 w), .raw (.int .i64 n), .raw (.int .i64 c)] [] (.raw (.bool true)) [] := by
  obtain ⟨-, hw⟩ := hi
  refine fn_of_swp Tryz.func5 rfl (by kernel_rfl) (by kernel_rfl) (Nat.le_of_ble_eq_true rfl) Tryz.results5 ?_
  (refine swp_seqW ?_; simp only [go_sem, Bool.not_eq_true', Bool.not_eq_false'])
  (refine swp_seqW ?_; simp only [go_sem, Bool.not_eq_true', Bool.not_eq_false', List.length_map])
  refine ⟨fun h1 => ?_, fun h1 => ?_⟩
  · (refine acall2 [] (awake15_ok) (by simp only [go_sem, Bool.not_eq_true', Bool.not_eq_false']; rfl) (fit_of (by simp only [go_sem, Bool.not_eq_true', Bool.not_eq_false']) (by simp only [go_sem, Bool.not_eq_true', Bool.not_eq_false']) (by simp only [go_sem, Bool.not_eq_true', Bool.not_eq_false']) (by simp only [go_sem, Bool.not_eq_true', Bool.not_eq_false']) (by simp only [go_sem, Bool.not_eq_true', Bool.not_eq_false']) (by simp only [go_sem, Bool.not_eq_true', Bool.not_eq_false']) (by simp only [go_sem, Bool.not_eq_true', Bool.not_eq_false'])) ?_; simp only [go_sem, Bool.not_eq_true', Bool.not_eq_false'])
  have hl : l.length ≤ 60 := by omega
  have r1 := (res_len (w := w) hl).1
  have r2 := (res_len (w := w) hl).2.1
  have hanc := res_anc (w := w) hl
  (refine swp_seqW ?_; simp only [go_sem, Bool.not_eq_true', Bool.not_eq_false'])
  (refine acall2 [] (of14w_ok l w hl hw) (by simp only [go_sem, Bool.not_eq_true', Bool.not_eq_false']; rfl) (fit_of (by simp only [go_sem, Bool.not_eq_true', Bool.not_eq_false']) (by simp only [go_sem, Bool.not_eq_true', Bool.not_eq_false']) (by simp only [go_sem, Bool.not_eq_true', Bool.not_eq_false']) (by simp only [go_sem, Bool.not_eq_true', Bool.not_eq_false']) (by simp only [go_sem, Bool.not_eq_true', Bool.not_eq_false']) (by simp only [go_sem, Bool.not_eq_true', Bool.not_eq_false']) (by simp only [go_sem, Bool.not_eq_true', Bool.not_eq_false'])) ?_; simp only [go_sem, Bool.not_eq_true', Bool.not_eq_false'])
  by_cases he : errG l w = 0
  rotate_left
  · (refine swp_seqW ?_; simp only [go_sem, Bool.not_eq_true', Bool.not_eq_false'])
    repeat' first | contradiction | intro _ | refine And.intro ?_ ?_ | refine ex_get (by omega) ?_ | (show drawB _ _ = true; kernel_rfl) | (refine ret2 [] (by simp only [go_sem, Bool.not_eq_true', Bool.not_eq_false']; rfl) ?_; simp only [go_sem, Bool.not_eq_true', Bool.not_eq_false']) | (refine acall2 [] (awake15_ok) (by simp only [go_sem, Bool.not_eq_true', Bool.not_eq_false']; rfl) (fit_of (by simp only [go_sem, Bool.not_eq_true', Bool.not_eq_false']) (by simp only [go_sem, Bool.not_eq_true', Bool.not_eq_false']) (by simp only [go_sem, Bool.not_eq_true', Bool.not_eq_false']) (by simp only [go_sem, Bool.not_eq_true', Bool.not_eq_false']) (by simp only [go_sem, Bool.not_eq_true', Bool.not_eq_false']) (by simp only [go_sem, Bool.not_eq_true', Bool.not_eq_false']) (by simp only [go_sem, Bool.not_eq_true', Bool.not_eq_false'])) ?_; simp only [go_sem, Bool.not_eq_true', Bool.not_eq_false'])
    all_goals first
      | omega
      | skip
  obtain ⟨ss, hO⟩ := res_once hl he
  have hP := errG_ok hl he
  have hv := hP.v
  have hd : docN l = l := by simp [docN, hv]
  have hm := ong_mono hO
  have hsz : ∀ x ∈ l, 0 ≤ x.size ∧ x.size ≤ 1000 := fun x hx => by have := isS_sizes hv x hx; omega
  generalize hg : resG l w = g at *
  rw [he]
  (refine swp_seqW ?_; simp only [go_sem, Bool.not_eq_true', Bool.not_eq_false'])
  refine swp_cutS (fun _ : Unit => stP l w n c g []) (fun _ => True) 120 ?_ ?_
  · (refine swp_seqW ?_; simp only [go_sem, Bool.not_eq_true', Bool.not_eq_false'])
    refine swp_block ?_
    refine swp_loop2 [56, 57 ]  (fun k : Nat => stP l w n c g [(11, .raw (.int .i64 k))]) (fun k => k ≤ g.a.length) (fun k => g.a.length - k) 120 0 (by simp only [go_sem, Bool.not_eq_true', Bool.not_eq_false']; rfl) (by simp only [go_sem, Bool.not_eq_true', Bool.not_eq_false']) ?_ ?_
    · exact Nat.zero_le _
    intro k hk
    (refine swp_seqW ?_; simp only [go_sem, Bool.not_eq_true', Bool.not_eq_false', List.length_map])
    refine ⟨fun h5 => ?_, fun h5 => ?_⟩
    rotate_left
    · (refine cut_end [] (()) (by simp only [go_sem, Bool.not_eq_true', Bool.not_eq_false']; rfl) ?_ ?_; (focus (simp only [go_sem, Bool.not_eq_true', Bool.not_eq_false']; done)))
      trivial
    have hkl : k < g.a.length := by omega
    have hin := fun a => part_in hv hO hkl (a := a)
    have hat : g.a[k]? = some (atA g.a k) := atA_get (q := k) (by omega)
    generalize atA g.a k = at_ at *
    have hab := above9_ok l at_.node (by omega) hw
    rw [hd] at hab
    have hal : (abvN l at_.node).length ≤ 1000 := by have := abvN_len l at_.node hv; omega
    generalize abvN l at_.node = ab at *
    refine swp_seqS ?_
    refine swp_block ?_
    (refine swp_seqW ?_; simp only [go_sem, Bool.not_eq_true', Bool.not_eq_false', List.length_map])
    refine ⟨⟨by omega, by omega⟩, _, hat, ?_⟩
    (refine swp_seqW ?_; simp only [go_sem, Bool.not_eq_true', Bool.not_eq_false'])
    (refine acall2 [] (hab) (by simp only [go_sem, Bool.not_eq_true', Bool.not_eq_false']; rfl) (fit_of (by simp only [go_sem, Bool.not_eq_true', Bool.not_eq_false']) (by simp only [go_sem, Bool.not_eq_true', Bool.not_eq_false']) (by simp only [go_sem, Bool.not_eq_true', Bool.not_eq_false']) (by simp only [go_sem, Bool.not_eq_true', Bool.not_eq_false']) (by simp only [go_sem, Bool.not_eq_true', Bool.not_eq_false']) (by simp only [go_sem, Bool.not_eq_true', Bool.not_eq_false']) (by simp only [go_sem, Bool.not_eq_true', Bool.not_eq_false'])) ?_; simp only [go_sem, Bool.not_eq_true', Bool.not_eq_false'])
    refine ⟨⟨by omega, by omega⟩, ?_⟩
    have em : [PV.raw (.int .i64 at_.node)] :: List.map cInt ab = List.map cInt (at_.node :: ab) := rfl
    rw [em]
    have hin2 : ∀ i (h : i < (at_.node :: ab).length), (winA l g.a (at_.node :: ab)[i]).a ≤ k ∧ k < (winA l g.a (at_.node :: ab)[i]).b := fun i h => hin _ (by
      have := List.getElem_mem h
      rcases List.mem_cons.1 this with e | e
      · exact .inl e
      · exact .inr e)
    have hel : (at_.node :: ab).length = ab.length + 1 := rfl
    generalize at_.node :: ab = aa at *
    (refine swp_seqW ?_; simp only [go_sem, Bool.not_eq_true', Bool.not_eq_false'])
    refine swp_block ?_
    refine swp_loop2 [] (fun i : Nat => stP l w n c g [(11, .raw (.int .i64 k)), (13, .hdr 801), (14, .raw (.int .i64 i))] [(801, some (.row 3 1 (aa.map cInt)))]) (fun i => i ≤ aa.length) (fun i => aa.length - i) 120 0 (by simp only [go_sem, Bool.not_eq_true', Bool.not_eq_false']; rfl) (by simp only [go_sem, Bool.not_eq_true', Bool.not_eq_false']) ?_ ?_
    · exact Nat.zero_le _
    intro i hi
    (refine swp_seqW ?_; simp only [go_sem, Bool.not_eq_true', Bool.not_eq_false', List.length_map])
    refine ⟨fun h6 => ?_, fun h6 => ?_⟩
    · have hia : i < aa.length := by omega
      obtain ⟨w1, w2⟩ := hin2 i hia
      have hwb := winA_le l g.a aa[i]
      have hcw := wina_ok l g.a aa[i] hm (by omega) hsz (by omega)
      generalize hA : aa[i] = a at *
      generalize winA l g.a a = W at *
      refine swp_seqS ?_
      refine swp_block ?_
      (refine swp_seqW ?_; simp only [go_sem, Bool.not_eq_true', Bool.not_eq_false', List.length_map])
      refine ⟨⟨by omega, by omega⟩, a, by rw [List.getElem?_eq_getElem hia, hA], ?_⟩
      (refine acall2 [] (hcw) (by simp only [go_sem, Bool.not_eq_true', Bool.not_eq_false']; rfl) (fit_of (by simp only [go_sem, Bool.not_eq_true', Bool.not_eq_false']) (by simp only [go_sem, Bool.not_eq_true', Bool.not_eq_false']) (by simp only [go_sem, Bool.not_eq_true', Bool.not_eq_false']) (by simp only [go_sem, Bool.not_eq_true', Bool.not_eq_false']) (by simp only [go_sem, Bool.not_eq_true', Bool.not_eq_false']) (by simp only [go_sem, Bool.not_eq_true', Bool.not_eq_false']) (by simp only [go_sem, Bool.not_eq_true', Bool.not_eq_false'])) ?_; simp only [go_sem, Bool.not_eq_true', Bool.not_eq_false'])
      (refine ⟨(show drawB _ _ = true by kernel_rfl), ?_⟩)
      (refine swp_seqW ?_; simp only [go_sem, Bool.not_eq_true', Bool.not_eq_false'])
      repeat' first | contradiction | intro _ | refine And.intro ?_ ?_ | refine ex_get (by omega) ?_ | (show drawB _ _ = true; kernel_rfl) | (refine ret2 [] (by simp only [go_sem, Bool.not_eq_true', Bool.not_eq_false']; rfl) ?_; simp only [go_sem, Bool.not_eq_true', Bool.not_eq_false'])
      all_goals try omega
      (refine swp_condW ?_; simp only [go_sem, Bool.not_eq_true', Bool.not_eq_false'])
      refine ⟨fun w => (by omega), fun _ => ?_⟩
      (refine swp_lastW ?_; simp only [go_sem, Bool.not_eq_true', Bool.not_eq_false'])
      (refine swp_lastW ?_; simp only [go_sem, Bool.not_eq_true', Bool.not_eq_false'])
      refine ⟨by omega, ?_⟩
      (refine loop_end [] (i + 1) (by simp only [go_sem, Bool.not_eq_true', Bool.not_eq_false']; rfl) ?_ ?_ ?_; (focus first | omega | (simp only; omega)); (focus (simp only [go_sem, Bool.not_eq_true', Bool.not_eq_false']; done)))
      omega
    · (refine swp_lastW ?_; simp only [go_sem, Bool.not_eq_true', Bool.not_eq_false'])
      refine ⟨by omega, ?_⟩
      (refine loop_end [] (k + 1) (by simp only [go_sem, Bool.not_eq_true', Bool.not_eq_false']; rfl) ?_ ?_ ?_; (focus first | omega | (simp only; omega)); (focus (simp only [go_sem, Bool.not_eq_true', Bool.not_eq_false']; done)))
      omega
  rintro - -
  have hwb := winA_le l g.a n
  (refine swp_seqW ?_; simp only [go_sem, Bool.not_eq_true', Bool.not_eq_false'])
  (refine acall2 [] (wina_ok l g.a n hm (by omega) hsz (by omega)) (by simp only [go_sem, Bool.not_eq_true', Bool.not_eq_false']; rfl) (fit_of (by simp only [go_sem, Bool.not_eq_true', Bool.not_eq_false']) (by simp only [go_sem, Bool.not_eq_true', Bool.not_eq_false']) (by simp only [go_sem, Bool.not_eq_true', Bool.not_eq_false']) (by simp only [go_sem, Bool.not_eq_true', Bool.not_eq_false']) (by simp only [go_sem, Bool.not_eq_true', Bool.not_eq_false']) (by simp only [go_sem, Bool.not_eq_true', Bool.not_eq_false']) (by simp only [go_sem, Bool.not_eq_true', Bool.not_eq_false'])) ?_; simp only [go_sem, Bool.not_eq_true', Bool.not_eq_false'])
  have hki := kids8_ok l n (by omega) hw
  rw [hd] at hki
  have hkl : (kidN l n).length ≤ 1000 := by have := kidN_len l n; omega
  (refine swp_seqW ?_; simp only [go_sem, Bool.not_eq_true', Bool.not_eq_false'])
  (refine acall2 [] (hki) (by simp only [go_sem, Bool.not_eq_true', Bool.not_eq_false']; rfl) (fit_of (by simp only [go_sem, Bool.not_eq_true', Bool.not_eq_false']) (by simp only [go_sem, Bool.not_eq_true', Bool.not_eq_false']) (by simp only [go_sem, Bool.not_eq_true', Bool.not_eq_false']) (by simp only [go_sem, Bool.not_eq_true', Bool.not_eq_false']) (by simp only [go_sem, Bool.not_eq_true', Bool.not_eq_false']) (by simp only [go_sem, Bool.not_eq_true', Bool.not_eq_false']) (by simp only [go_sem, Bool.not_eq_true', Bool.not_eq_false'])) ?_; simp only [go_sem, Bool.not_eq_true', Bool.not_eq_false'])
  refine swp_cutS (fun _ : Unit => stP l w n c g []) (fun _ => True) 120 ?_ ?_
  · by_cases hb : (0 ≤ n ∧ n < l.length) ∧ (ndN l n.toNat).kind = 1
    rotate_left
    · (refine swp_seqW ?_; simp only [go_sem, Bool.not_eq_true', Bool.not_eq_false', List.length_map])
      refine ⟨fun e1 => ⟨fun e2 => ⟨⟨e1, e2⟩, ndN l n.toNat, by rw [ndN_get (by omega)]; exact List.getElem?_eq_getElem _, ?_⟩, fun e2 => ?_⟩, fun e1 => ?_⟩
      · (refine swp_condW ?_; simp only [go_sem, Bool.not_eq_true', Bool.not_eq_false'])
        refine ⟨fun q => absurd ⟨⟨e1, e2⟩, q⟩ hb, fun _ => ?_⟩
        (refine swp_lastW ?_; simp only [go_sem, Bool.not_eq_true', Bool.not_eq_false'])
        (refine cut_end [] (()) (by simp only [go_sem, Bool.not_eq_true', Bool.not_eq_false']; rfl) ?_ ?_; (focus (simp only [go_sem, Bool.not_eq_true', Bool.not_eq_false']; done)))
        trivial
      · (refine swp_condW ?_; simp only [go_sem, Bool.not_eq_true', Bool.not_eq_false'])
        (refine swp_lastW ?_; simp only [go_sem, Bool.not_eq_true', Bool.not_eq_false'])
        (refine cut_end [] (()) (by simp only [go_sem, Bool.not_eq_true', Bool.not_eq_false']; rfl) ?_ ?_; (focus (simp only [go_sem, Bool.not_eq_true', Bool.not_eq_false']; done)))
        trivial
      · (refine swp_condW ?_; simp only [go_sem, Bool.not_eq_true', Bool.not_eq_false'])
        (refine swp_lastW ?_; simp only [go_sem, Bool.not_eq_true', Bool.not_eq_false'])
        (refine cut_end [] (()) (by simp only [go_sem, Bool.not_eq_true', Bool.not_eq_false']; rfl) ?_ ?_; (focus (simp only [go_sem, Bool.not_eq_true', Bool.not_eq_false']; done)))
        trivial
    obtain ⟨⟨b1, b2⟩, b3⟩ := hb
    obtain ⟨m, rfl⟩ := Int.eq_ofNat_of_zero_le b1
    rw [Int.toNat_natCast] at b3
    obtain ⟨K1, K2, K3⟩ := kids_parts hv hO (by omega) b3
    (refine swp_seqW ?_; simp only [go_sem, Bool.not_eq_true', Bool.not_eq_false', List.length_map])
    refine ⟨fun _ => ⟨fun _ => ⟨⟨b1, b2⟩, ndN l m, by rw [ndN_get (by omega)]; exact List.getElem?_eq_getElem _, ?_⟩, fun q => absurd b2 q⟩, fun q => absurd b1 q⟩
    (refine swp_condW ?_; simp only [go_sem, Bool.not_eq_true', Bool.not_eq_false'])
    refine ⟨fun _ => ?_, fun q => absurd b3 q⟩
    generalize winA l g.a m = W at *
    obtain ⟨Wa, Wb⟩ := W
    simp only at K1 K2 K3 hwb
    have hkk := kidN_len l m
    generalize kidN l m = ks at *
    (refine swp_seqW ?_; simp only [go_sem, Bool.not_eq_true', Bool.not_eq_false'])
    refine swp_seqS ?_
    (refine swp_seqW ?_; simp only [go_sem, Bool.not_eq_true', Bool.not_eq_false'])
    refine swp_block ?_
    refine swp_loop2 [] (fun z : KY KdX => stP l w m c g [(17, .raw (.int .i64 Wa)), (18, .raw (.int .i64 Wb)), (19, .hdr 1056), (20, .raw (.int .i64 z.o.at_)), (21, .raw (.int .i64 z.o.many)), (22, .raw (.int .i64 z.k))] [(1056, some (.row 3 1 (ks.map cInt)))]) (fun z => z.k ≤ ks.length ∧ z.o = (ks.take z.k).foldl (kdT l g.a) ⟨Wa, 0⟩ ∧ z.o.at_ ≤ 4000 ∧ z.o.many ≤ 4000 * z.k) (fun z => ks.length - z.k) 150 ⟨0, ⟨Wa, 0⟩⟩ (by simp only [go_sem, Bool.not_eq_true', Bool.not_eq_false']; rfl) (by simp only [go_sem, Bool.not_eq_true', Bool.not_eq_false']) ?_ ?_
    · exact ⟨Nat.zero_le _, rfl, by simp only; omega, Nat.zero_le _⟩
    · rintro ⟨k, ⟨at_, many⟩⟩ ⟨k1, k2, k3, k4⟩
      simp only at k1 k2 k3 k4
      (refine swp_seqW ?_; simp only [go_sem, Bool.not_eq_true', Bool.not_eq_false', List.length_map])
      refine ⟨fun h6 => ?_, fun h6 => ?_⟩
      · have hkk2 : k < ks.length := by omega
        have K1k := K1 k hkk2 ks[k] (List.getElem?_eq_getElem hkk2)
        rw [← k2] at K1k
        simp only at K1k
        have hwb2 := winA_le l g.a ks[k]
        have hcw := wina_ok l g.a ks[k] hm (by omega) hsz (by omega)
        have hst : kdT l g.a ⟨at_, many⟩ ks[k] = (ks.take (k + 1)).foldl (kdT l g.a) ⟨Wa, 0⟩ := by
          rw [List.take_succ_eq_append_getElem hkk2, List.foldl_append, ← k2]
          rfl
        have hbd := kdT_bd (l := l) (A := g.a) (c := ks[k]) (z := ⟨at_, many⟩) (k := k) ⟨k3, k4⟩ (by omega)
        unfold kdT at hst hbd
        generalize hA : ks[k] = a at *
        generalize winA l g.a a = V at *
        refine swp_seqS ?_
        refine swp_block ?_
        (refine swp_seqW ?_; simp only [go_sem, Bool.not_eq_true', Bool.not_eq_false', List.length_map])
        refine ⟨⟨by omega, by omega⟩, a, by rw [List.getElem?_eq_getElem hkk2, hA], ?_⟩
        (refine acall2 [] (hcw) (by simp only [go_sem, Bool.not_eq_true', Bool.not_eq_false']; rfl) (fit_of (by simp only [go_sem, Bool.not_eq_true', Bool.not_eq_false']) (by simp only [go_sem, Bool.not_eq_true', Bool.not_eq_false']) (by simp only [go_sem, Bool.not_eq_true', Bool.not_eq_false']) (by simp only [go_sem, Bool.not_eq_true', Bool.not_eq_false']) (by simp only [go_sem, Bool.not_eq_true', Bool.not_eq_false']) (by simp only [go_sem, Bool.not_eq_true', Bool.not_eq_false']) (by simp only [go_sem, Bool.not_eq_true', Bool.not_eq_false'])) ?_; simp only [go_sem, Bool.not_eq_true', Bool.not_eq_false'])
        (refine ⟨(show drawB _ _ = true by kernel_rfl), ?_⟩)
        (refine swp_seqW ?_; simp only [go_sem, Bool.not_eq_true', Bool.not_eq_false'])
        by_cases p : V.a < V.b
        · rw [if_pos p] at hst hbd
          simp only at hst hbd
          have K1p := K1k p
          (refine swp_condW ?_; simp only [go_sem, Bool.not_eq_true', Bool.not_eq_false'])
          refine ⟨fun _ => ?_, fun q => absurd p (by omega)⟩
          (refine swp_lastW ?_; simp only [go_sem, Bool.not_eq_true', Bool.not_eq_false'])
          refine ⟨fun q => absurd q (by omega), fun _ => ⟨⟨by omega, by omega⟩, ⟨by omega, by omega⟩, ?_⟩⟩
          (refine swp_lastW ?_; simp only [go_sem, Bool.not_eq_true', Bool.not_eq_false'])
          refine ⟨by omega, ?_⟩
          have c1 : ((V.b - V.a : Nat) : Int) = V.b - V.a := by omega
          have c2 : ((many + (V.b - V.a) : Nat) : Int) = many + (V.b - V.a) := by omega
          (refine loop_end [] (⟨k + 1, ⟨V.b, many + (V.b - V.a)⟩⟩) (by simp only [go_sem, Bool.not_eq_true', Bool.not_eq_false']; rfl) ?_ ?_ ?_; (focus first | omega | (simp only; omega)); (focus (simp only [go_sem, Bool.not_eq_true', Bool.not_eq_false', c1, c2]; done)))
          exact ⟨by simp only; omega, hst, hbd.1, hbd.2⟩
        · rw [if_neg p] at hst hbd
          simp only at hst hbd
          (refine swp_condW ?_; simp only [go_sem, Bool.not_eq_true', Bool.not_eq_false'])
          refine ⟨fun q => absurd q (by omega), fun _ => ?_⟩
          (refine swp_lastW ?_; simp only [go_sem, Bool.not_eq_true', Bool.not_eq_false'])
          (refine swp_lastW ?_; simp only [go_sem, Bool.not_eq_true', Bool.not_eq_false'])
          refine ⟨by omega, ?_⟩
          (refine loop_end [] (⟨k + 1, ⟨at_, many⟩⟩) (by simp only [go_sem, Bool.not_eq_true', Bool.not_eq_false']; rfl) ?_ ?_ ?_; (focus first | omega | (simp only; omega)); (focus (simp only [go_sem, Bool.not_eq_true', Bool.not_eq_false']; done)))
          exact ⟨by simp only; omega, hst, hbd.1, hbd.2⟩
      · obtain rfl : k = ks.length := by omega
        rw [List.take_length] at k2
        rw [← k2] at K2 K3
        simp only at K2 K3
        (refine swp_lastW ?_; simp only [go_sem, Bool.not_eq_true', Bool.not_eq_false'])
        refine ⟨fun _ => ⟨⟨by omega, by omega⟩, fun q => absurd (by omega) q, fun _ => ?_⟩, fun q => absurd (by omega) q⟩
        (refine cut_end [] (()) (by simp only [go_sem, Bool.not_eq_true', Bool.not_eq_false']; rfl) ?_ ?_; (focus (simp only [go_sem, Bool.not_eq_true', Bool.not_eq_false']; done)))
        trivial
  rintro - -
  (refine swp_seqW ?_; simp only [go_sem, Bool.not_eq_true', Bool.not_eq_false', List.length_map])
  have hcb : 0 ≤ max 0 (min c (g.a.length : Int)) ∧ max 0 (min c (g.a.length : Int)) ≤ g.a.length := by omega
  generalize max 0 (min c (g.a.length : Int)) = cut at *
  have hat := anch_two (F := g.f) (n := g.a.length) (c := cut) hcb hanc
  have t1 : (anchF g.f 0 cut).length ≤ g.f.length := List.length_filter_le _ _
  have t2 : (anchF g.f cut ((g.a.length : Int) + 1)).length ≤ g.f.length := List.length_filter_le _ _
  (refine swp_seqW ?_; simp only [go_sem, Bool.not_eq_true', Bool.not_eq_false', List.length_map])
  (refine acall2 [] (anchored_ok g.f 0 cut (by omega)) (by simp only [go_sem, Bool.not_eq_true', Bool.not_eq_false']; rfl) (fit_of (by simp only [go_sem, Bool.not_eq_true', Bool.not_eq_false']) (by simp only [go_sem, Bool.not_eq_true', Bool.not_eq_false']) (by simp only [go_sem, Bool.not_eq_true', Bool.not_eq_false']) (by simp only [go_sem, Bool.not_eq_true', Bool.not_eq_false']) (by simp only [go_sem, Bool.not_eq_true', Bool.not_eq_false']) (by simp only [go_sem, Bool.not_eq_true', Bool.not_eq_false']) (by simp only [go_sem, Bool.not_eq_true', Bool.not_eq_false'])) ?_; simp only [go_sem, Bool.not_eq_true', Bool.not_eq_false', List.length_map])
  refine ⟨⟨by omega, by omega⟩, ?_⟩
  (refine acall2 [] (anchored_ok g.f cut ((g.a.length : Int) + 1) (by omega)) (by simp only [go_sem, Bool.not_eq_true', Bool.not_eq_false']; rfl) (fit_of (by simp only [go_sem, Bool.not_eq_true', Bool.not_eq_false']) (by simp only [go_sem, Bool.not_eq_true', Bool.not_eq_false']) (by simp only [go_sem, Bool.not_eq_true', Bool.not_eq_false']) (by simp only [go_sem, Bool.not_eq_true', Bool.not_eq_false']) (by simp only [go_sem, Bool.not_eq_true', Bool.not_eq_false']) (by simp only [go_sem, Bool.not_eq_true', Bool.not_eq_false']) (by simp only [go_sem, Bool.not_eq_true', Bool.not_eq_false'])) ?_; simp only [go_sem, Bool.not_eq_true', Bool.not_eq_false', List.length_map])
  (refine ⟨(show drawB _ _ = true by kernel_rfl), ?_⟩)
  (refine swp_lastW ?_; simp only [go_sem, Bool.not_eq_true', Bool.not_eq_false', List.length_map])
  refine ⟨⟨by omega, by omega⟩, fun _ => ?_, fun q => absurd (by omega) q⟩
  (refine acall2 [] (awake15_ok) (by simp only [go_sem, Bool.not_eq_true', Bool.not_eq_false']; rfl) (fit_of (by simp only [go_sem, Bool.not_eq_true', Bool.not_eq_false']) (by simp only [go_sem, Bool.not_eq_true', Bool.not_eq_false']) (by simp only [go_sem, Bool.not_eq_true', Bool.not_eq_false']) (by simp only [go_sem, Bool.not_eq_true', Bool.not_eq_false']) (by simp only [go_sem, Bool.not_eq_true', Bool.not_eq_false']) (by simp only [go_sem, Bool.not_eq_true', Bool.not_eq_false']) (by simp only [go_sem, Bool.not_eq_true', Bool.not_eq_false'])) ?_; simp only [go_sem, Bool.not_eq_true', Bool.not_eq_false'])
end Go.Proofs.YtblmebjhhanoaaaGreat
