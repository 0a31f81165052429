/- CHAPTER 21: fit; the reach; sort.Search. -/
import Derived.Test.YtmgckellncfjpaaFitA
/- BOOLS -/
/- GET ex_atA ex_atA' -/
set_option linter.unusedSimpArgs false
set_option linter.unusedVariables false
namespace Go.Proofs.Ytmgckellncfjpaa
open Go.RowKit

theorem half_eq {z : Int} (h : 0 ≤ z) (h2 : z ≤ 4611686018427387904) : IntKind.wrap .i64 ((IntKind.wrap .u64 z).fdiv (2 ^ min (Int.toNat 1) 64)) = z / 2 := by
  have e1 : IntKind.wrap .u64 z = z := by
    have hb : IntKind.u64.bits = 64 := rfl
    simp [IntKind.wrap, hb, IntKind.signed]
    omega
  rw [e1]
  have e2 : (2 : Int) ^ min (Int.toNat 1) 64 = 2 := by decide
  rw [e2, Int.fdiv_eq_ediv_of_nonneg _ (by omega)]
  exact IntWalk.i64_in _ (by omega)
/-- the first place that is so; n: there is none. -/
def firstF (pr : Nat → Bool) : Nat → Nat → Nat
  | 0, k => k
  | n + 1, k => if pr k then k else firstF pr n (k + 1)
def firstP (pr : Nat → Bool) (n : Nat) : Nat := firstF pr n 0
theorem firstF_eq {pr : Nat → Bool} {r : Nat} : ∀ (n k : Nat), k ≤ r → r ≤ k + n → (∀ j, k ≤ j → j < r → pr j = false) → (r < k + n → pr r = true) → firstF pr n k = r
  | 0, k, h1, h2, _, _ => by show k = r; omega
  | n + 1, k, h1, h2, h3, h4 => by
    show (if pr k then k else firstF pr n (k + 1)) = r
    rcases Nat.eq_or_lt_of_le h1 with h | h
    · subst h; rw [if_pos (h4 (by omega))]
    · rw [if_neg (by rw [h3 k (Nat.le_refl _) h]; decide)]
      exact firstF_eq n (k + 1) h (by omega) (fun j hj => h3 j (by omega)) (fun h5 => h4 (by omega))
theorem firstP_eq {pr : Nat → Bool} {n r : Nat} (h2 : r ≤ n) (h3 : ∀ j, j < r → pr j = false) (h4 : r < n → pr r = true) : firstP pr n = r := firstF_eq n 0 (Nat.zero_le _) (by omega) (fun j _ => h3 j) (fun h => h4 (by omega))
/-- a search under way: ahead of i none is so, from j on all are. -/
structure SrX where
  i : Nat
  j : Nat
def SrInv (pr : Nat → Bool) (n : Nat) (z : SrX) : Prop := z.i ≤ z.j ∧ z.j ≤ n ∧ (∀ k, k < z.i → pr k = false) ∧ (∀ k, z.j ≤ k → k < n → pr k = true)
theorem sr_first (pr : Nat → Bool) (n : Nat) : SrInv pr n ⟨0, n⟩ := ⟨Nat.zero_le _, Nat.le_refl _, (fun k h => absurd h (Nat.not_lt_zero k)), (fun k h1 h2 => absurd h2 (Nat.not_lt.2 h1))⟩
theorem sr_no {pr : Nat → Bool} {n i j h : Nat} (hm : ∀ a b, a ≤ b → b < n → pr a = true → pr b = true) (hi : SrInv pr n ⟨i, j⟩) (h1 : h < j) (e : pr h = false) : SrInv pr n ⟨h + 1, j⟩ := by
  obtain ⟨a, b, c, d⟩ := hi
  simp only at a b c d
  refine ⟨h1, b, fun k hk => ?_, d⟩
  simp only at hk
  cases hp : pr k with
  | false => rfl
  | true => rw [hm k h (by omega) (by omega) hp] at e; cases e
theorem sr_yes {pr : Nat → Bool} {n i j h : Nat} (hm : ∀ a b, a ≤ b → b < n → pr a = true → pr b = true) (hi : SrInv pr n ⟨i, j⟩) (h1 : i ≤ h ∧ h < j) (e : pr h = true) : SrInv pr n ⟨i, h⟩ := by
  obtain ⟨a, b, c, d⟩ := hi
  simp only at a b c d
  exact ⟨h1.1, by simp only; omega, c, fun k hk hn => hm h k hk hn e⟩
theorem sr_last {pr : Nat → Bool} {n i j : Nat} (hi : SrInv pr n ⟨i, j⟩) (h : ¬ (i : Int) < j) : firstP pr n = i := by
  obtain ⟨a, b, c, d⟩ := hi
  simp only at a b c d
  exact firstP_eq (by omega) c (fun hn => d i (by omega) hn)

def fitsP (l : List LAt) (s : LSt) (kept shift body : Int) (n : Nat) : Bool := decide (body < placeS l s kept shift (s.atom + n) + (atA l (s.atom + n)).h)
def reachS (l : List LAt) (s : LSt) (kept shift body : Int) : Int := if MayP l s then s.atom + firstP (fitsP l s kept shift body) (l.length - s.atom.toNat) else 0
theorem at_mono {l : List LAt} (hA : NearA l) {i : Int} (hi : 0 ≤ i) : ∀ n : Nat, i + n < l.length → (atA l i).y + (atA l i).h ≤ (atA l (i + n)).y + (atA l (i + n)).h
  | 0, _ => by simp
  | n + 1, h => by
    have h1 := at_mono hA hi n (by omega)
    have h2 := (hA (i + (n + 1 : Nat)) (by omega) (by omega)).2.2 (by omega)
    have h3 := (hA (i + (n + 1 : Nat)) (by omega) (by omega)).2.1
    have e : i + ((n + 1 : Nat) : Int) - 1 = i + n := by omega
    rw [e] at h2
    omega
theorem fitsP_mono {l : List LAt} {s : LSt} {kept shift body : Int} (hA : NearA l) (hm : MayP l s) : ∀ a b, a ≤ b → b < l.length - s.atom.toNat → fitsP l s kept shift body a = true → fitsP l s kept shift body b = true := by
  intro a b h1 h2 h3
  unfold fitsP at h3 ⊢
  rw [decide_eq_true_eq] at h3 ⊢
  have p1 := (placeS_spec l s kept shift (s.atom + a)).1 ⟨hm, by omega, by omega⟩
  have p2 := (placeS_spec l s kept shift (s.atom + b)).1 ⟨hm, by omega, by omega⟩
  have m := at_mono hA (i := s.atom + a) (by omega) (b - a) (by omega)
  have e : s.atom + (a : Int) + ((b - a : Nat) : Int) = s.atom + b := by omega
  rw [e] at m
  omega
set_option maxRecDepth 100000 in
theorem reachc_ok (l : List LAt) (s : LSt) (kept shift body : Int) (n : Nat) (hA : NearA l) (hm : MayP l s) (hl : l.length ≤ 300) (hd : in21 s.done) (hkp : in21 kept) (hsh : in21 shift) (hn : n < l.length - s.atom.toNat) : FnOk Try.prog 58 [.raw (.int .i64 n), .hdr 1, .hdr 2, .hdr 3, .hdr 4, .hdr 5] [(0, .ext 8 (l.map cAt)), (1, .cells 24 [.raw (.int .i64 s.atom), .raw (.int .i64 s.done), .raw (.bool s.free)]), (2, .cells 22 [.hdr 0]), (3, .cells 3 [.raw (.int .i64 kept)]), (4, .cells 3 [.raw (.int .i64 shift)]), (5, .cells 3 [.raw (.int .i64 body)])] (.raw (.bool (fitsP l s kept shift body n))) [(1, .cells 24 [.raw (.int .i64 s.atom), .raw (.int .i64 s.done), .raw (.bool s.free)]), (2, .cells 22 [.hdr 0]), (3, .cells 3 [.raw (.int .i64 kept)]), (4, .cells 3 [.raw (.int .i64 shift)]), (5, .cells 3 [.raw (.int .i64 body)])] := by
  refine fn_of_awp Try.func58 rfl (by kernel_rfl) (by kernel_rfl) (Nat.le_of_ble_eq_true rfl) Try.results58 ?_
  simp only [go_sem, Nat.reduceAdd, Nat.reduceMul, Nat.reduceSub, Nat.reduceEqDiff, Nat.reduceDiv, Nat.reduceLT, Nat.reduceLeDiff, reduceCtorEq, decide_true, Int.natCast_add, Int.cast_ofNat_Int, Bool.not_eq_true', Bool.not_eq_false', List.length_map]
  have hk := hA (s.atom + n)
  have hk1 := hA s.atom
  have hs := placeS_spec l s kept shift (s.atom + n)
  repeat' first | contradiction | intro _ | refine And.intro ?_ ?_ | refine ex_atA (by omega) ?_ | refine ex_atA' (by omega) ?_ | refine ex_get (by omega) ?_ | (show drawB _ _ = true; kernel_rfl) | (refine ret2 (by simp only [go_sem, Nat.reduceAdd, Nat.reduceMul, Nat.reduceSub, Nat.reduceEqDiff, Nat.reduceDiv, Nat.reduceLT, Nat.reduceLeDiff, reduceCtorEq, decide_true, Int.natCast_add, Int.cast_ofNat_Int, Bool.not_eq_true', Bool.not_eq_false', List.length_map]; rfl) ?_; simp only [go_sem, Nat.reduceAdd, Nat.reduceMul, Nat.reduceSub, Nat.reduceEqDiff, Nat.reduceDiv, Nat.reduceLT, Nat.reduceLeDiff, reduceCtorEq, decide_true, Int.natCast_add, Int.cast_ofNat_Int, Bool.not_eq_true', Bool.not_eq_false', List.length_map]) | (refine acall2 (place_ok l s kept shift (s.atom + n) hA hd hkp hsh) (by simp only [go_sem, Nat.reduceAdd, Nat.reduceMul, Nat.reduceSub, Nat.reduceEqDiff, Nat.reduceDiv, Nat.reduceLT, Nat.reduceLeDiff, reduceCtorEq, decide_true, Int.natCast_add, Int.cast_ofNat_Int, Bool.not_eq_true', Bool.not_eq_false']; rfl) (fit_of rfl rfl (by simp only [go_sem, Nat.reduceAdd, Nat.reduceMul, Nat.reduceSub, Nat.reduceEqDiff, Nat.reduceDiv, Nat.reduceLT, Nat.reduceLeDiff, reduceCtorEq, decide_true, Int.natCast_add, Int.cast_ofNat_Int, Bool.not_eq_true', Bool.not_eq_false']) (by simp only [go_sem, Nat.reduceAdd, Nat.reduceMul, Nat.reduceSub, Nat.reduceEqDiff, Nat.reduceDiv, Nat.reduceLT, Nat.reduceLeDiff, reduceCtorEq, decide_true, Int.natCast_add, Int.cast_ofNat_Int, Bool.not_eq_true', Bool.not_eq_false']) (by simp only [go_sem, Nat.reduceAdd, Nat.reduceMul, Nat.reduceSub, Nat.reduceEqDiff, Nat.reduceDiv, Nat.reduceLT, Nat.reduceLeDiff, reduceCtorEq, decide_true, Int.natCast_add, Int.cast_ofNat_Int, Bool.not_eq_true', Bool.not_eq_false']) (by simp only [go_sem, Nat.reduceAdd, Nat.reduceMul, Nat.reduceSub, Nat.reduceEqDiff, Nat.reduceDiv, Nat.reduceLT, Nat.reduceLeDiff, reduceCtorEq, decide_true, Int.natCast_add, Int.cast_ofNat_Int, Bool.not_eq_true', Bool.not_eq_false'])) ?_; simp only [go_sem, Nat.reduceAdd, Nat.reduceMul, Nat.reduceSub, Nat.reduceEqDiff, Nat.reduceDiv, Nat.reduceLT, Nat.reduceLeDiff, reduceCtorEq, decide_true, Int.natCast_add, Int.cast_ofNat_Int, Bool.not_eq_true', Bool.not_eq_false', List.length_map])
  all_goals unfold in21 at hd hkp hsh
  all_goals first | omega | skip
  all_goals rfl
set_option maxRecDepth 100000 in
theorem search_ok (l : List LAt) (s : LSt) (kept shift body : Int) (m : Int) (n : Nat) (hmn : m = n) (hn : n = l.length - s.atom.toNat) (hA : NearA l) (hm : MayP l s) (hl : l.length ≤ 300) (hd : in21 s.done) (hkp : in21 kept) (hsh : in21 shift) : FnOk Try.prog 57 [.raw (.int .i64 m), .clo (.func 58) [.hdr 1, .hdr 2, .hdr 3, .hdr 4, .hdr 5]] [(0, .ext 8 (l.map cAt)), (1, .cells 24 [.raw (.int .i64 s.atom), .raw (.int .i64 s.done), .raw (.bool s.free)]), (2, .cells 22 [.hdr 0]), (3, .cells 3 [.raw (.int .i64 kept)]), (4, .cells 3 [.raw (.int .i64 shift)]), (5, .cells 3 [.raw (.int .i64 body)])] (.raw (.int .i64 (firstP (fitsP l s kept shift body) n))) [(1, .cells 24 [.raw (.int .i64 s.atom), .raw (.int .i64 s.done), .raw (.bool s.free)])] := by
  subst hmn
  refine fn_of_awp Try.func57 rfl (by kernel_rfl) (by kernel_rfl) (Nat.le_of_ble_eq_true rfl) Try.results57 ?_
  simp only [go_sem, Nat.reduceAdd, Nat.reduceMul, Nat.reduceSub, Nat.reduceEqDiff, Nat.reduceDiv, Nat.reduceLT, Nat.reduceLeDiff, reduceCtorEq, decide_true, Int.natCast_add, Int.cast_ofNat_Int, Bool.not_eq_true', Bool.not_eq_false', List.length_map]
  refine aloop2 (fun z : SrX => ⟨[(1, .clo (.func 58) [.hdr 1, .hdr 2, .hdr 3, .hdr 4, .hdr 5]), (4, .raw (.int .i64 0)), (5, .raw (.int .i64 z.i)), (6, .raw (.int .i64 z.j))], [(0, some (.ext 8 (l.map cAt))), (1, some (.cells 24 [.raw (.int .i64 s.atom), .raw (.int .i64 s.done), .raw (.bool s.free)])), (2, some (.cells 22 [.hdr 0])), (3, some (.cells 3 [.raw (.int .i64 kept)])), (4, some (.cells 3 [.raw (.int .i64 shift)])), (5, some (.cells 3 [.raw (.int .i64 body)]))], none⟩) (SrInv (fitsP l s kept shift body) n) (fun z => z.j - z.i) 2 ⟨0, n⟩ (by simp only [go_sem, Nat.reduceAdd, Nat.reduceMul, Nat.reduceSub, Nat.reduceEqDiff, Nat.reduceDiv, Nat.reduceLT, Nat.reduceLeDiff, reduceCtorEq, decide_true, Int.natCast_add, Int.cast_ofNat_Int, Bool.not_eq_true', Bool.not_eq_false']; rfl) (by simp only [go_sem, Nat.reduceAdd, Nat.reduceMul, Nat.reduceSub, Nat.reduceEqDiff, Nat.reduceDiv, Nat.reduceLT, Nat.reduceLeDiff, reduceCtorEq, decide_true, Int.natCast_add, Int.cast_ofNat_Int, Bool.not_eq_true', Bool.not_eq_false']) ?_ ?_
  · exact sr_first _ _
  · rintro ⟨i, j⟩ hi
    have hb := hi
    obtain ⟨b1, b2, -, -⟩ := hb
    simp only at b1 b2
    obtain ⟨h, hh⟩ : ∃ h : Nat, h = (i + j) / 2 := ⟨_, rfl⟩
    have e : IntKind.wrap .i64 ((IntKind.wrap .u64 ((i : Int) + j)).fdiv (2 ^ min 1 64)) = h := by
      have := half_eq (z := (i : Int) + j) (by omega) (by omega)
      rw [Int.toNat_one] at this
      rw [this]
      omega
    have mono := fitsP_mono (kept := kept) (shift := shift) (body := body) hA hm
    simp only [go_sem, Nat.reduceAdd, Nat.reduceMul, Nat.reduceSub, Nat.reduceEqDiff, Nat.reduceDiv, Nat.reduceLT, Nat.reduceLeDiff, reduceCtorEq, decide_true, Int.natCast_add, Int.cast_ofNat_Int, Bool.not_eq_true', Bool.not_eq_false', e, List.length_map]
    repeat' first | contradiction | intro _ | refine And.intro ?_ ?_ | refine ex_atA (by omega) ?_ | refine ex_atA' (by omega) ?_ | refine ex_get (by omega) ?_ | (show drawB _ _ = true; kernel_rfl) | (refine ret2 (by simp only [go_sem, Nat.reduceAdd, Nat.reduceMul, Nat.reduceSub, Nat.reduceEqDiff, Nat.reduceDiv, Nat.reduceLT, Nat.reduceLeDiff, reduceCtorEq, decide_true, Int.natCast_add, Int.cast_ofNat_Int, Bool.not_eq_true', Bool.not_eq_false', e, List.length_map]; rfl) ?_; simp only [go_sem, Nat.reduceAdd, Nat.reduceMul, Nat.reduceSub, Nat.reduceEqDiff, Nat.reduceDiv, Nat.reduceLT, Nat.reduceLeDiff, reduceCtorEq, decide_true, Int.natCast_add, Int.cast_ofNat_Int, Bool.not_eq_true', Bool.not_eq_false', e, List.length_map]) | (refine acall2_clo (reachc_ok l s kept shift body h hA hm hl hd hkp hsh (by omega)) (by simp only [go_sem, Nat.reduceAdd, Nat.reduceMul, Nat.reduceSub, Nat.reduceEqDiff, Nat.reduceDiv, Nat.reduceLT, Nat.reduceLeDiff, reduceCtorEq, decide_true, Int.natCast_add, Int.cast_ofNat_Int, Bool.not_eq_true', Bool.not_eq_false']; rfl) (fit_of rfl rfl (by simp only [go_sem, Nat.reduceAdd, Nat.reduceMul, Nat.reduceSub, Nat.reduceEqDiff, Nat.reduceDiv, Nat.reduceLT, Nat.reduceLeDiff, reduceCtorEq, decide_true, Int.natCast_add, Int.cast_ofNat_Int, Bool.not_eq_true', Bool.not_eq_false']) (by simp only [go_sem, Nat.reduceAdd, Nat.reduceMul, Nat.reduceSub, Nat.reduceEqDiff, Nat.reduceDiv, Nat.reduceLT, Nat.reduceLeDiff, reduceCtorEq, decide_true, Int.natCast_add, Int.cast_ofNat_Int, Bool.not_eq_true', Bool.not_eq_false']) (by simp only [go_sem, Nat.reduceAdd, Nat.reduceMul, Nat.reduceSub, Nat.reduceEqDiff, Nat.reduceDiv, Nat.reduceLT, Nat.reduceLeDiff, reduceCtorEq, decide_true, Int.natCast_add, Int.cast_ofNat_Int, Bool.not_eq_true', Bool.not_eq_false']) (by simp only [go_sem, Nat.reduceAdd, Nat.reduceMul, Nat.reduceSub, Nat.reduceEqDiff, Nat.reduceDiv, Nat.reduceLT, Nat.reduceLeDiff, reduceCtorEq, decide_true, Int.natCast_add, Int.cast_ofNat_Int, Bool.not_eq_true', Bool.not_eq_false'])) ?_; simp only [go_sem, Nat.reduceAdd, Nat.reduceMul, Nat.reduceSub, Nat.reduceEqDiff, Nat.reduceDiv, Nat.reduceLT, Nat.reduceLeDiff, reduceCtorEq, decide_true, Int.natCast_add, Int.cast_ofNat_Int, Bool.not_eq_true', Bool.not_eq_false', e, List.length_map])
    all_goals try omega
    all_goals first | (rw [sr_last hi (by assumption)]; done) | ((refine loop_end (⟨h + 1, j⟩) (by simp only [go_sem, Nat.reduceAdd, Nat.reduceMul, Nat.reduceSub, Nat.reduceEqDiff, Nat.reduceDiv, Nat.reduceLT, Nat.reduceLeDiff, reduceCtorEq, decide_true, Int.natCast_add, Int.cast_ofNat_Int, Bool.not_eq_true', Bool.not_eq_false']; rfl) ?_ ?_ ?_; (focus first | omega | (simp only; omega)); (focus (simp only [go_sem, Nat.reduceAdd, Nat.reduceMul, Nat.reduceSub, Nat.reduceEqDiff, Nat.reduceDiv, Nat.reduceLT, Nat.reduceLeDiff, reduceCtorEq, decide_true, Int.natCast_add, Int.cast_ofNat_Int, Bool.not_eq_true', Bool.not_eq_false']; done))); exact sr_no (hn ▸ mono) hi (by omega) (by assumption)) | ((refine loop_end (⟨i, h⟩) (by simp only [go_sem, Nat.reduceAdd, Nat.reduceMul, Nat.reduceSub, Nat.reduceEqDiff, Nat.reduceDiv, Nat.reduceLT, Nat.reduceLeDiff, reduceCtorEq, decide_true, Int.natCast_add, Int.cast_ofNat_Int, Bool.not_eq_true', Bool.not_eq_false']; rfl) ?_ ?_ ?_; (focus first | omega | (simp only; omega)); (focus (simp only [go_sem, Nat.reduceAdd, Nat.reduceMul, Nat.reduceSub, Nat.reduceEqDiff, Nat.reduceDiv, Nat.reduceLT, Nat.reduceLeDiff, reduceCtorEq, decide_true, Int.natCast_add, Int.cast_ofNat_Int, Bool.not_eq_true', Bool.not_eq_false']; done))); exact sr_yes (hn ▸ mono) hi (by omega) (by assumption))
theorem reachS_spec (l : List LAt) (s : LSt) (kept shift body : Int) : (MayP l s → reachS l s kept shift body = s.atom + firstP (fitsP l s kept shift body) (l.length - s.atom.toNat)) ∧ (¬ MayP l s → reachS l s kept shift body = 0) := ite_spec rfl
theorem firstF_le (pr : Nat → Bool) : ∀ n k, firstF pr n k ≤ k + n
  | 0, k => Nat.le_refl _
  | n + 1, k => by
    show (if pr k then k else firstF pr n (k + 1)) ≤ _
    split
    · omega
    · have := firstF_le pr n (k + 1); omega
theorem firstP_le (pr : Nat → Bool) (n : Nat) : firstP pr n ≤ n := by have := firstF_le pr n 0; unfold firstP; omega
set_option maxRecDepth 100000 in
theorem reach_ok (l : List LAt) (s : LSt) (kept shift body : Int) (hA : NearA l) (hl : l.length ≤ 300) (hd : in21 s.done) (hkp : in21 kept) (hsh : in21 shift) : FnOk Try.prog 25 [.hdr 0, aSt s, .raw (.int .i64 kept), .raw (.int .i64 shift), .raw (.int .i64 body)] [(0, .ext 8 (l.map cAt))] (.raw (.int .i64 (reachS l s kept shift body))) [] := by
  refine fn_of_awp Try.func25 rfl (by kernel_rfl) (by kernel_rfl) (Nat.le_of_ble_eq_true rfl) Try.results25 ?_
  simp only [go_sem, Nat.reduceAdd, Nat.reduceMul, Nat.reduceSub, Nat.reduceEqDiff, Nat.reduceDiv, Nat.reduceLT, Nat.reduceLeDiff, reduceCtorEq, decide_true, Int.natCast_add, Int.cast_ofNat_Int, Bool.not_eq_true', Bool.not_eq_false', List.length_map]
  have hs := reachS_spec l s kept shift body
  have hle := firstP_le (fitsP l s kept shift body) (l.length - s.atom.toNat)
  repeat' first | contradiction | intro _ | refine And.intro ?_ ?_ | refine ex_atA (by omega) ?_ | refine ex_atA' (by omega) ?_ | refine ex_get (by omega) ?_ | (show drawB _ _ = true; kernel_rfl) | (refine ret2 (by simp only [go_sem, Nat.reduceAdd, Nat.reduceMul, Nat.reduceSub, Nat.reduceEqDiff, Nat.reduceDiv, Nat.reduceLT, Nat.reduceLeDiff, reduceCtorEq, decide_true, Int.natCast_add, Int.cast_ofNat_Int, Bool.not_eq_true', Bool.not_eq_false', List.length_map]; rfl) ?_; simp only [go_sem, Nat.reduceAdd, Nat.reduceMul, Nat.reduceSub, Nat.reduceEqDiff, Nat.reduceDiv, Nat.reduceLT, Nat.reduceLeDiff, reduceCtorEq, decide_true, Int.natCast_add, Int.cast_ofNat_Int, Bool.not_eq_true', Bool.not_eq_false', List.length_map]) | (refine acall2 (fmay_ok l s) (by simp only [go_sem, Nat.reduceAdd, Nat.reduceMul, Nat.reduceSub, Nat.reduceEqDiff, Nat.reduceDiv, Nat.reduceLT, Nat.reduceLeDiff, reduceCtorEq, decide_true, Int.natCast_add, Int.cast_ofNat_Int, Bool.not_eq_true', Bool.not_eq_false']; rfl) (fit_of rfl rfl (by simp only [go_sem, Nat.reduceAdd, Nat.reduceMul, Nat.reduceSub, Nat.reduceEqDiff, Nat.reduceDiv, Nat.reduceLT, Nat.reduceLeDiff, reduceCtorEq, decide_true, Int.natCast_add, Int.cast_ofNat_Int, Bool.not_eq_true', Bool.not_eq_false']) (by simp only [go_sem, Nat.reduceAdd, Nat.reduceMul, Nat.reduceSub, Nat.reduceEqDiff, Nat.reduceDiv, Nat.reduceLT, Nat.reduceLeDiff, reduceCtorEq, decide_true, Int.natCast_add, Int.cast_ofNat_Int, Bool.not_eq_true', Bool.not_eq_false']) (by simp only [go_sem, Nat.reduceAdd, Nat.reduceMul, Nat.reduceSub, Nat.reduceEqDiff, Nat.reduceDiv, Nat.reduceLT, Nat.reduceLeDiff, reduceCtorEq, decide_true, Int.natCast_add, Int.cast_ofNat_Int, Bool.not_eq_true', Bool.not_eq_false']) (by simp only [go_sem, Nat.reduceAdd, Nat.reduceMul, Nat.reduceSub, Nat.reduceEqDiff, Nat.reduceDiv, Nat.reduceLT, Nat.reduceLeDiff, reduceCtorEq, decide_true, Int.natCast_add, Int.cast_ofNat_Int, Bool.not_eq_true', Bool.not_eq_false'])) ?_; simp only [go_sem, Nat.reduceAdd, Nat.reduceMul, Nat.reduceSub, Nat.reduceEqDiff, Nat.reduceDiv, Nat.reduceLT, Nat.reduceLeDiff, reduceCtorEq, decide_true, Int.natCast_add, Int.cast_ofNat_Int, Bool.not_eq_true', Bool.not_eq_false', List.length_map]) | (refine acall2 (search_ok l s kept shift body ((l.length : Int) - s.atom) (l.length - s.atom.toNat) (by omega) rfl hA (by assumption) hl hd hkp hsh) (by simp only [go_sem, Nat.reduceAdd, Nat.reduceMul, Nat.reduceSub, Nat.reduceEqDiff, Nat.reduceDiv, Nat.reduceLT, Nat.reduceLeDiff, reduceCtorEq, decide_true, Int.natCast_add, Int.cast_ofNat_Int, Bool.not_eq_true', Bool.not_eq_false']; rfl) (fit_of rfl rfl (by simp only [go_sem, Nat.reduceAdd, Nat.reduceMul, Nat.reduceSub, Nat.reduceEqDiff, Nat.reduceDiv, Nat.reduceLT, Nat.reduceLeDiff, reduceCtorEq, decide_true, Int.natCast_add, Int.cast_ofNat_Int, Bool.not_eq_true', Bool.not_eq_false']) (by simp only [go_sem, Nat.reduceAdd, Nat.reduceMul, Nat.reduceSub, Nat.reduceEqDiff, Nat.reduceDiv, Nat.reduceLT, Nat.reduceLeDiff, reduceCtorEq, decide_true, Int.natCast_add, Int.cast_ofNat_Int, Bool.not_eq_true', Bool.not_eq_false']) (by simp only [go_sem, Nat.reduceAdd, Nat.reduceMul, Nat.reduceSub, Nat.reduceEqDiff, Nat.reduceDiv, Nat.reduceLT, Nat.reduceLeDiff, reduceCtorEq, decide_true, Int.natCast_add, Int.cast_ofNat_Int, Bool.not_eq_true', Bool.not_eq_false']) (by simp only [go_sem, Nat.reduceAdd, Nat.reduceMul, Nat.reduceSub, Nat.reduceEqDiff, Nat.reduceDiv, Nat.reduceLT, Nat.reduceLeDiff, reduceCtorEq, decide_true, Int.natCast_add, Int.cast_ofNat_Int, Bool.not_eq_true', Bool.not_eq_false'])) ?_; simp only [go_sem, Nat.reduceAdd, Nat.reduceMul, Nat.reduceSub, Nat.reduceEqDiff, Nat.reduceDiv, Nat.reduceLT, Nat.reduceLeDiff, reduceCtorEq, decide_true, Int.natCast_add, Int.cast_ofNat_Int, Bool.not_eq_true', Bool.not_eq_false', List.length_map])
  all_goals omega
set_option maxRecDepth 100000 in
theorem fits_ok (l : List LAt) (s : LSt) (kept shift body : Int) (n : Nat) (hA : NearA l) (hm : MayP l s) (hn : n < l.length - s.atom.toNat) (hd : in21 s.done) (hkp : in21 kept) (hsh : in21 shift) : FnOk Try.prog 59 [.hdr 0, aSt s, .raw (.int .i64 kept), .raw (.int .i64 shift), .raw (.int .i64 body), .raw (.int .i64 (s.atom + n))] [(0, .ext 8 (l.map cAt))] (.raw (.bool (!fitsP l s kept shift body n))) [] := by
  refine fn_of_awp Try.func59 rfl (by kernel_rfl) (by kernel_rfl) (Nat.le_of_ble_eq_true rfl) Try.results59 ?_
  simp only [go_sem, Nat.reduceAdd, Nat.reduceMul, Nat.reduceSub, Nat.reduceEqDiff, Nat.reduceDiv, Nat.reduceLT, Nat.reduceLeDiff, reduceCtorEq, decide_true, Int.natCast_add, Int.cast_ofNat_Int, Bool.not_eq_true', Bool.not_eq_false', List.length_map]
  have hk := hA (s.atom + n)
  have hk1 := hA s.atom
  have hs := placeS_spec l s kept shift (s.atom + n)
  repeat' first | contradiction | intro _ | refine And.intro ?_ ?_ | refine ex_atA (by omega) ?_ | refine ex_atA' (by omega) ?_ | refine ex_get (by omega) ?_ | (show drawB _ _ = true; kernel_rfl) | (refine ret2 (by simp only [go_sem, Nat.reduceAdd, Nat.reduceMul, Nat.reduceSub, Nat.reduceEqDiff, Nat.reduceDiv, Nat.reduceLT, Nat.reduceLeDiff, reduceCtorEq, decide_true, Int.natCast_add, Int.cast_ofNat_Int, Bool.not_eq_true', Bool.not_eq_false', List.length_map]; rfl) ?_; simp only [go_sem, Nat.reduceAdd, Nat.reduceMul, Nat.reduceSub, Nat.reduceEqDiff, Nat.reduceDiv, Nat.reduceLT, Nat.reduceLeDiff, reduceCtorEq, decide_true, Int.natCast_add, Int.cast_ofNat_Int, Bool.not_eq_true', Bool.not_eq_false', List.length_map]) | (refine acall2 (rplace_ok l s kept shift (s.atom + n) hA hd hkp hsh) (by simp only [go_sem, Nat.reduceAdd, Nat.reduceMul, Nat.reduceSub, Nat.reduceEqDiff, Nat.reduceDiv, Nat.reduceLT, Nat.reduceLeDiff, reduceCtorEq, decide_true, Int.natCast_add, Int.cast_ofNat_Int, Bool.not_eq_true', Bool.not_eq_false']; rfl) (fit_of rfl rfl (by simp only [go_sem, Nat.reduceAdd, Nat.reduceMul, Nat.reduceSub, Nat.reduceEqDiff, Nat.reduceDiv, Nat.reduceLT, Nat.reduceLeDiff, reduceCtorEq, decide_true, Int.natCast_add, Int.cast_ofNat_Int, Bool.not_eq_true', Bool.not_eq_false']) (by simp only [go_sem, Nat.reduceAdd, Nat.reduceMul, Nat.reduceSub, Nat.reduceEqDiff, Nat.reduceDiv, Nat.reduceLT, Nat.reduceLeDiff, reduceCtorEq, decide_true, Int.natCast_add, Int.cast_ofNat_Int, Bool.not_eq_true', Bool.not_eq_false']) (by simp only [go_sem, Nat.reduceAdd, Nat.reduceMul, Nat.reduceSub, Nat.reduceEqDiff, Nat.reduceDiv, Nat.reduceLT, Nat.reduceLeDiff, reduceCtorEq, decide_true, Int.natCast_add, Int.cast_ofNat_Int, Bool.not_eq_true', Bool.not_eq_false']) (by simp only [go_sem, Nat.reduceAdd, Nat.reduceMul, Nat.reduceSub, Nat.reduceEqDiff, Nat.reduceDiv, Nat.reduceLT, Nat.reduceLeDiff, reduceCtorEq, decide_true, Int.natCast_add, Int.cast_ofNat_Int, Bool.not_eq_true', Bool.not_eq_false'])) ?_; simp only [go_sem, Nat.reduceAdd, Nat.reduceMul, Nat.reduceSub, Nat.reduceEqDiff, Nat.reduceDiv, Nat.reduceLT, Nat.reduceLeDiff, reduceCtorEq, decide_true, Int.natCast_add, Int.cast_ofNat_Int, Bool.not_eq_true', Bool.not_eq_false', List.length_map])
  all_goals unfold in21 at hd hkp hsh
  all_goals first | omega | (unfold fitsP; rw [← decide_not, decide_eq_decide]; omega)
def ReInv (pr : Nat → Bool) (N : Nat) (n : Nat) : Prop := n ≤ N ∧ ∀ k, k < n → pr k = false
set_option maxRecDepth 100000 in
theorem rreach_ok (l : List LAt) (s : LSt) (kept shift body : Int) (hA : NearA l) (hl : l.length ≤ 300) (hd : in21 s.done) (hkp : in21 kept) (hsh : in21 shift) : FnOk Try.prog 26 [.hdr 0, aSt s, .raw (.int .i64 kept), .raw (.int .i64 shift), .raw (.int .i64 body)] [(0, .ext 8 (l.map cAt))] (.raw (.int .i64 (reachS l s kept shift body))) [] := by
  refine fn_of_awp Try.func26 rfl (by kernel_rfl) (by kernel_rfl) (Nat.le_of_ble_eq_true rfl) Try.results26 ?_
  simp only [go_sem, Nat.reduceAdd, Nat.reduceMul, Nat.reduceSub, Nat.reduceEqDiff, Nat.reduceDiv, Nat.reduceLT, Nat.reduceLeDiff, reduceCtorEq, decide_true, Int.natCast_add, Int.cast_ofNat_Int, Bool.not_eq_true', Bool.not_eq_false', List.length_map]
  have hs := reachS_spec l s kept shift body
  repeat' first | contradiction | intro _ | refine And.intro ?_ ?_ | refine ex_atA (by omega) ?_ | refine ex_atA' (by omega) ?_ | refine ex_get (by omega) ?_ | (show drawB _ _ = true; kernel_rfl) | (refine ret2 (by simp only [go_sem, Nat.reduceAdd, Nat.reduceMul, Nat.reduceSub, Nat.reduceEqDiff, Nat.reduceDiv, Nat.reduceLT, Nat.reduceLeDiff, reduceCtorEq, decide_true, Int.natCast_add, Int.cast_ofNat_Int, Bool.not_eq_true', Bool.not_eq_false', List.length_map]; rfl) ?_; simp only [go_sem, Nat.reduceAdd, Nat.reduceMul, Nat.reduceSub, Nat.reduceEqDiff, Nat.reduceDiv, Nat.reduceLT, Nat.reduceLeDiff, reduceCtorEq, decide_true, Int.natCast_add, Int.cast_ofNat_Int, Bool.not_eq_true', Bool.not_eq_false', List.length_map]) | (refine acall2 (rmay_ok l s) (by simp only [go_sem, Nat.reduceAdd, Nat.reduceMul, Nat.reduceSub, Nat.reduceEqDiff, Nat.reduceDiv, Nat.reduceLT, Nat.reduceLeDiff, reduceCtorEq, decide_true, Int.natCast_add, Int.cast_ofNat_Int, Bool.not_eq_true', Bool.not_eq_false']; rfl) (fit_of rfl rfl (by simp only [go_sem, Nat.reduceAdd, Nat.reduceMul, Nat.reduceSub, Nat.reduceEqDiff, Nat.reduceDiv, Nat.reduceLT, Nat.reduceLeDiff, reduceCtorEq, decide_true, Int.natCast_add, Int.cast_ofNat_Int, Bool.not_eq_true', Bool.not_eq_false']) (by simp only [go_sem, Nat.reduceAdd, Nat.reduceMul, Nat.reduceSub, Nat.reduceEqDiff, Nat.reduceDiv, Nat.reduceLT, Nat.reduceLeDiff, reduceCtorEq, decide_true, Int.natCast_add, Int.cast_ofNat_Int, Bool.not_eq_true', Bool.not_eq_false']) (by simp only [go_sem, Nat.reduceAdd, Nat.reduceMul, Nat.reduceSub, Nat.reduceEqDiff, Nat.reduceDiv, Nat.reduceLT, Nat.reduceLeDiff, reduceCtorEq, decide_true, Int.natCast_add, Int.cast_ofNat_Int, Bool.not_eq_true', Bool.not_eq_false']) (by simp only [go_sem, Nat.reduceAdd, Nat.reduceMul, Nat.reduceSub, Nat.reduceEqDiff, Nat.reduceDiv, Nat.reduceLT, Nat.reduceLeDiff, reduceCtorEq, decide_true, Int.natCast_add, Int.cast_ofNat_Int, Bool.not_eq_true', Bool.not_eq_false'])) ?_; simp only [go_sem, Nat.reduceAdd, Nat.reduceMul, Nat.reduceSub, Nat.reduceEqDiff, Nat.reduceDiv, Nat.reduceLT, Nat.reduceLeDiff, reduceCtorEq, decide_true, Int.natCast_add, Int.cast_ofNat_Int, Bool.not_eq_true', Bool.not_eq_false', List.length_map])
  · omega
  · have hm : MayP l s := by assumption
    refine aloop2 (fun n : Nat => ⟨[(0, .hdr 0), (2, .raw (.int .i64 kept)), (3, .raw (.int .i64 shift)), (4, .raw (.int .i64 body)), (6, .hdr 8), (10, .raw (.int .i64 0)), (11, .raw (.int .i64 (s.atom + n)))], [(0, some (.ext 8 (l.map cAt))), (8, some (.cells 24 [.raw (.int .i64 s.atom), .raw (.int .i64 s.done), .raw (.bool s.free)]))], none⟩) (ReInv (fitsP l s kept shift body) (l.length - s.atom.toNat)) (fun n => l.length - s.atom.toNat - n) 2 0 (by simp only [go_sem, Nat.reduceAdd, Nat.reduceMul, Nat.reduceSub, Nat.reduceEqDiff, Nat.reduceDiv, Nat.reduceLT, Nat.reduceLeDiff, reduceCtorEq, decide_true, Int.natCast_add, Int.cast_ofNat_Int, Bool.not_eq_true', Bool.not_eq_false']; rfl) (by simp only [go_sem, Nat.reduceAdd, Nat.reduceMul, Nat.reduceSub, Nat.reduceEqDiff, Nat.reduceDiv, Nat.reduceLT, Nat.reduceLeDiff, reduceCtorEq, decide_true, Int.natCast_add, Int.cast_ofNat_Int, Bool.not_eq_true', Bool.not_eq_false', Int.natCast_zero, Int.ofNat_zero, Int.add_zero]) ?_ ?_
    · exact ⟨Nat.zero_le _, fun k h => absurd h (Nat.not_lt_zero k)⟩
    · rintro n ⟨h1, h2⟩
      simp only [go_sem, Nat.reduceAdd, Nat.reduceMul, Nat.reduceSub, Nat.reduceEqDiff, Nat.reduceDiv, Nat.reduceLT, Nat.reduceLeDiff, reduceCtorEq, decide_true, Int.natCast_add, Int.cast_ofNat_Int, Bool.not_eq_true', Bool.not_eq_false', List.length_map]
      repeat' first | contradiction | intro _ | refine And.intro ?_ ?_ | refine ex_atA (by omega) ?_ | refine ex_atA' (by omega) ?_ | refine ex_get (by omega) ?_ | (show drawB _ _ = true; kernel_rfl) | (refine ret2 (by simp only [go_sem, Nat.reduceAdd, Nat.reduceMul, Nat.reduceSub, Nat.reduceEqDiff, Nat.reduceDiv, Nat.reduceLT, Nat.reduceLeDiff, reduceCtorEq, decide_true, Int.natCast_add, Int.cast_ofNat_Int, Bool.not_eq_true', Bool.not_eq_false', List.length_map, Int.add_assoc]; rfl) ?_; simp only [go_sem, Nat.reduceAdd, Nat.reduceMul, Nat.reduceSub, Nat.reduceEqDiff, Nat.reduceDiv, Nat.reduceLT, Nat.reduceLeDiff, reduceCtorEq, decide_true, Int.natCast_add, Int.cast_ofNat_Int, Bool.not_eq_true', Bool.not_eq_false', List.length_map, Int.add_assoc]) | (refine acall2 (fits_ok l s kept shift body n hA hm (by omega) hd hkp hsh) (by simp only [go_sem, Nat.reduceAdd, Nat.reduceMul, Nat.reduceSub, Nat.reduceEqDiff, Nat.reduceDiv, Nat.reduceLT, Nat.reduceLeDiff, reduceCtorEq, decide_true, Int.natCast_add, Int.cast_ofNat_Int, Bool.not_eq_true', Bool.not_eq_false']; rfl) (fit_of rfl rfl (by simp only [go_sem, Nat.reduceAdd, Nat.reduceMul, Nat.reduceSub, Nat.reduceEqDiff, Nat.reduceDiv, Nat.reduceLT, Nat.reduceLeDiff, reduceCtorEq, decide_true, Int.natCast_add, Int.cast_ofNat_Int, Bool.not_eq_true', Bool.not_eq_false']) (by simp only [go_sem, Nat.reduceAdd, Nat.reduceMul, Nat.reduceSub, Nat.reduceEqDiff, Nat.reduceDiv, Nat.reduceLT, Nat.reduceLeDiff, reduceCtorEq, decide_true, Int.natCast_add, Int.cast_ofNat_Int, Bool.not_eq_true', Bool.not_eq_false']) (by simp only [go_sem, Nat.reduceAdd, Nat.reduceMul, Nat.reduceSub, Nat.reduceEqDiff, Nat.reduceDiv, Nat.reduceLT, Nat.reduceLeDiff, reduceCtorEq, decide_true, Int.natCast_add, Int.cast_ofNat_Int, Bool.not_eq_true', Bool.not_eq_false']) (by simp only [go_sem, Nat.reduceAdd, Nat.reduceMul, Nat.reduceSub, Nat.reduceEqDiff, Nat.reduceDiv, Nat.reduceLT, Nat.reduceLeDiff, reduceCtorEq, decide_true, Int.natCast_add, Int.cast_ofNat_Int, Bool.not_eq_true', Bool.not_eq_false'])) ?_; simp only [go_sem, Nat.reduceAdd, Nat.reduceMul, Nat.reduceSub, Nat.reduceEqDiff, Nat.reduceDiv, Nat.reduceLT, Nat.reduceLeDiff, reduceCtorEq, decide_true, Int.natCast_add, Int.cast_ofNat_Int, Bool.not_eq_true', Bool.not_eq_false', List.length_map, Int.add_assoc])
      all_goals try omega
      · (refine loop_end (n + 1) (by simp only [go_sem, Nat.reduceAdd, Nat.reduceMul, Nat.reduceSub, Nat.reduceEqDiff, Nat.reduceDiv, Nat.reduceLT, Nat.reduceLeDiff, reduceCtorEq, decide_true, Int.natCast_add, Int.cast_ofNat_Int, Bool.not_eq_true', Bool.not_eq_false']; rfl) ?_ ?_ ?_; (focus first | omega | (simp only; omega)); (focus (simp only [go_sem, Nat.reduceAdd, Nat.reduceMul, Nat.reduceSub, Nat.reduceEqDiff, Nat.reduceDiv, Nat.reduceLT, Nat.reduceLeDiff, reduceCtorEq, decide_true, Int.natCast_add, Int.cast_ofNat_Int, Bool.not_eq_true', Bool.not_eq_false', Int.add_assoc]; done)))
        refine ⟨by omega, fun k hk => ?_⟩
        rcases Nat.lt_succ_iff_lt_or_eq.1 hk with h | h
        · exact h2 k h
        · rw [h]; assumption
      · rw [hs.1 hm, firstP_eq h1 h2 (fun _ => by assumption)]
      · rw [hs.1 hm, firstP_eq h1 h2 (fun _ => by omega)]
end Go.Proofs.Ytmgckellncfjpaa
