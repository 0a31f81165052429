/- CHAPTER 08: tree: of, has, parent. -/
/- G -/
import Derived.Test.YtiidfcadmdahmaaGValC
/- BOOLS -/
set_option linter.unusedSimpArgs false
set_option linter.unusedVariables false
namespace Go.Proofs.Ytiidfcadmdahmaa
open Go.RowKit

theorem isG_sizes (N : Int) : ∀ (l : List LNo) (i : Nat) (st : List Int), isG l i st = true → 1 ≤ st.length → (∀ e ∈ st, e ≤ N) → ∀ x ∈ l, 1 ≤ x.size ∧ x.size ≤ N
  | [], _, _, _, _, _, x, hx => by cases hx
  | y :: l, i, st, h, h1, h2, x, hx => by
    rw [isG] at h
    simp only [Bool.and_eq_true, Bool.not_eq_true', Bool.and_eq_false_iff, decide_eq_true_eq, decide_eq_false_iff_not] at h
    obtain ⟨⟨⟨⟨u1, u2⟩, u3⟩, u4⟩, u5⟩ := h
    have hp := popS_sub i st.length st
    have ht := h2 _ (hp.1 _ (topI_mem (hp.2.2 h1)))
    rcases List.mem_cons.1 hx with e | e
    · subst e; exact ⟨u2, by omega⟩
    · refine isG_sizes N l (i + 1) _ u5 (by simp) (fun e he => ?_) x e
      rcases List.mem_append.1 he with h | h
      · exact h2 _ (hp.1 _ h)
      · simp only [List.mem_singleton] at h; omega
theorem isS_sizes {l : List LNo} (h : isS l = true) : ∀ x ∈ l, 1 ≤ x.size ∧ x.size ≤ l.length := isG_sizes _ l 0 _ h (Nat.le_refl _) (fun e he => by simp at he; omega)
def docN (l : List LNo) : List LNo := if isS l = true then l else []
theorem docN_len (l : List LNo) : (docN l).length ≤ l.length := by
  unfold docN
  split
  · exact Nat.le_refl _
  · exact Nat.zero_le _
theorem docN_sizes (l : List LNo) : ∀ x ∈ docN l, 1 ≤ x.size ∧ x.size ≤ (docN l).length := by
  unfold docN
  split
  · next h => exact isS_sizes h
  · intro x hx; cases hx
set_option maxRecDepth 100000 in
theorem of8_ok (l : List LNo) (hl : l.length ≤ 1000) (hw : ∀ x ∈ l, x.words.length ≤ 9223372036854775807) : FnOk Try.prog 44 [.sl 20 (l.map cNo)] [] (.agg [.sl 20 ((docN l).map cNo)]) [] := by
  refine fn_of_awp Try.func44 rfl (by kernel_rfl) (by kernel_rfl) (Nat.le_of_ble_eq_true rfl) Try.results44 ?_
  simp only [go_sem, Nat.reduceAdd, Nat.reduceMul, Nat.reduceSub, Nat.reduceEqDiff, Nat.reduceDiv, Nat.reduceLT, Nat.reduceLeDiff, reduceCtorEq, decide_true, Int.natCast_add, Int.cast_ofNat_Int, Bool.not_eq_true', Bool.not_eq_false']
  (refine acall2 [] (is6_ok l hl hw) (by simp only [go_sem, Nat.reduceAdd, Nat.reduceMul, Nat.reduceSub, Nat.reduceEqDiff, Nat.reduceDiv, Nat.reduceLT, Nat.reduceLeDiff, reduceCtorEq, decide_true, Int.natCast_add, Int.cast_ofNat_Int, Bool.not_eq_true', Bool.not_eq_false']; rfl) (fit_of (by simp only [go_sem, Nat.reduceAdd, Nat.reduceMul, Nat.reduceSub, Nat.reduceEqDiff, Nat.reduceDiv, Nat.reduceLT, Nat.reduceLeDiff, reduceCtorEq, decide_true, Int.natCast_add, Int.cast_ofNat_Int, Bool.not_eq_true', Bool.not_eq_false']) (by simp only [go_sem, Nat.reduceAdd, Nat.reduceMul, Nat.reduceSub, Nat.reduceEqDiff, Nat.reduceDiv, Nat.reduceLT, Nat.reduceLeDiff, reduceCtorEq, decide_true, Int.natCast_add, Int.cast_ofNat_Int, Bool.not_eq_true', Bool.not_eq_false']) (by simp only [go_sem, Nat.reduceAdd, Nat.reduceMul, Nat.reduceSub, Nat.reduceEqDiff, Nat.reduceDiv, Nat.reduceLT, Nat.reduceLeDiff, reduceCtorEq, decide_true, Int.natCast_add, Int.cast_ofNat_Int, Bool.not_eq_true', Bool.not_eq_false']) (by simp only [go_sem, Nat.reduceAdd, Nat.reduceMul, Nat.reduceSub, Nat.reduceEqDiff, Nat.reduceDiv, Nat.reduceLT, Nat.reduceLeDiff, reduceCtorEq, decide_true, Int.natCast_add, Int.cast_ofNat_Int, Bool.not_eq_true', Bool.not_eq_false']) (by simp only [go_sem, Nat.reduceAdd, Nat.reduceMul, Nat.reduceSub, Nat.reduceEqDiff, Nat.reduceDiv, Nat.reduceLT, Nat.reduceLeDiff, reduceCtorEq, decide_true, Int.natCast_add, Int.cast_ofNat_Int, Bool.not_eq_true', Bool.not_eq_false']) (by simp only [go_sem, Nat.reduceAdd, Nat.reduceMul, Nat.reduceSub, Nat.reduceEqDiff, Nat.reduceDiv, Nat.reduceLT, Nat.reduceLeDiff, reduceCtorEq, decide_true, Int.natCast_add, Int.cast_ofNat_Int, Bool.not_eq_true', Bool.not_eq_false']) (by simp only [go_sem, Nat.reduceAdd, Nat.reduceMul, Nat.reduceSub, Nat.reduceEqDiff, Nat.reduceDiv, Nat.reduceLT, Nat.reduceLeDiff, reduceCtorEq, decide_true, Int.natCast_add, Int.cast_ofNat_Int, Bool.not_eq_true', Bool.not_eq_false'])) ?_; simp only [go_sem, Nat.reduceAdd, Nat.reduceMul, Nat.reduceSub, Nat.reduceEqDiff, Nat.reduceDiv, Nat.reduceLT, Nat.reduceLeDiff, reduceCtorEq, decide_true, Int.natCast_add, Int.cast_ofNat_Int, Bool.not_eq_true', Bool.not_eq_false'])
  refine ⟨fun h => ?_, fun h => ?_⟩
  · have e : docN l = [] := by simp [docN, h]
    rw [e]
    (refine ret2 [40] (by simp only [go_sem, Nat.reduceAdd, Nat.reduceMul, Nat.reduceSub, Nat.reduceEqDiff, Nat.reduceDiv, Nat.reduceLT, Nat.reduceLeDiff, reduceCtorEq, decide_true, Int.natCast_add, Int.cast_ofNat_Int, Bool.not_eq_true', Bool.not_eq_false', List.map]; rfl) ?_; simp only [go_sem, Nat.reduceAdd, Nat.reduceMul, Nat.reduceSub, Nat.reduceEqDiff, Nat.reduceDiv, Nat.reduceLT, Nat.reduceLeDiff, reduceCtorEq, decide_true, Int.natCast_add, Int.cast_ofNat_Int, Bool.not_eq_true', Bool.not_eq_false', List.map])
  · have e : docN l = l := by simp [docN, h]
    rw [e]
    (refine ret2 [] (by simp only [go_sem, Nat.reduceAdd, Nat.reduceMul, Nat.reduceSub, Nat.reduceEqDiff, Nat.reduceDiv, Nat.reduceLT, Nat.reduceLeDiff, reduceCtorEq, decide_true, Int.natCast_add, Int.cast_ofNat_Int, Bool.not_eq_true', Bool.not_eq_false']; rfl) ?_; simp only [go_sem, Nat.reduceAdd, Nat.reduceMul, Nat.reduceSub, Nat.reduceEqDiff, Nat.reduceDiv, Nat.reduceLT, Nat.reduceLeDiff, reduceCtorEq, decide_true, Int.natCast_add, Int.cast_ofNat_Int, Bool.not_eq_true', Bool.not_eq_false'])
def hasN (l : List LNo) (a : Int) : Bool := decide (0 ≤ a) && decide (a < l.length)
set_option maxRecDepth 100000 in
theorem has8_ok (l : List LNo) (a : Int) : FnOk Try.prog 47 [.sl 20 (l.map cNo), .raw (.int .i64 a)] [] (.raw (.bool (hasN l a))) [] := by
  refine fn_of_awp Try.func47 rfl (by kernel_rfl) (by kernel_rfl) (Nat.le_of_ble_eq_true rfl) Try.results47 ?_
  simp only [go_sem, Nat.reduceAdd, Nat.reduceMul, Nat.reduceSub, Nat.reduceEqDiff, Nat.reduceDiv, Nat.reduceLT, Nat.reduceLeDiff, reduceCtorEq, decide_true, Int.natCast_add, Int.cast_ofNat_Int, Bool.not_eq_true', Bool.not_eq_false', List.length_map]
  repeat' first | contradiction | intro _ | refine And.intro ?_ ?_ | refine ex_get (by omega) ?_ | (show drawB _ _ = true; kernel_rfl) | (refine ret2 [] (by simp only [go_sem, Nat.reduceAdd, Nat.reduceMul, Nat.reduceSub, Nat.reduceEqDiff, Nat.reduceDiv, Nat.reduceLT, Nat.reduceLeDiff, reduceCtorEq, decide_true, Int.natCast_add, Int.cast_ofNat_Int, Bool.not_eq_true', Bool.not_eq_false']; rfl) ?_; simp only [go_sem, Nat.reduceAdd, Nat.reduceMul, Nat.reduceSub, Nat.reduceEqDiff, Nat.reduceDiv, Nat.reduceLT, Nat.reduceLeDiff, reduceCtorEq, decide_true, Int.natCast_add, Int.cast_ofNat_Int, Bool.not_eq_true', Bool.not_eq_false'])
  all_goals (simp [hasN] <;> omega)
def sizN (l : List LNo) (k : Nat) : Int := match l[k]? with | some x => x.size | none => 0
theorem sizN_get {l : List LNo} {k : Nat} (hk : k < l.length) : sizN l k = l[k].size := by unfold sizN; rw [List.getElem?_eq_getElem hk]
/-- the parent of a place, among nodes below k. -/
def parI (l : List LNo) (a : Int) : Nat → Int
  | 0 => -1
  | k + 1 => if a < k + sizN l k then k else parI l a k
theorem parI_lt (l : List LNo) (a : Int) : ∀ k, -1 ≤ parI l a k ∧ parI l a k < k
  | 0 => by simp [parI]
  | k + 1 => by
    rw [parI]
    have := parI_lt l a k
    split <;> omega
set_option maxRecDepth 100000 in
theorem par8_ok (l : List LNo) (a : Nat) (hl : l.length ≤ 1000) (hs : ∀ x ∈ l, 1 ≤ x.size ∧ x.size ≤ l.length) (ha : a < l.length) : FnOk Try.prog 71 [.sl 20 (l.map cNo), .raw (.int .i64 a)] [] (.raw (.int .i64 (parI l a a))) [] := by
  refine fn_of_awp Try.func71 rfl (by kernel_rfl) (by kernel_rfl) (Nat.le_of_ble_eq_true rfl) Try.results71 ?_
  simp only [go_sem, Nat.reduceAdd, Nat.reduceMul, Nat.reduceSub, Nat.reduceEqDiff, Nat.reduceDiv, Nat.reduceLT, Nat.reduceLeDiff, reduceCtorEq, decide_true, Int.natCast_add, Int.cast_ofNat_Int, Bool.not_eq_true', Bool.not_eq_false', List.length_map]
  refine ⟨by omega, ?_⟩
  refine aloop2 [] (fun k : Nat => ⟨[(0, .sl 20 (l.map cNo)), (1, .raw (.int .i64 a)), (5, .raw (.int .i64 ((k : Int) - 1)))], [], none⟩) (fun k => k ≤ a ∧ parI l a k = parI l a a) (fun k => k) 4 a (by simp only [go_sem, Nat.reduceAdd, Nat.reduceMul, Nat.reduceSub, Nat.reduceEqDiff, Nat.reduceDiv, Nat.reduceLT, Nat.reduceLeDiff, reduceCtorEq, decide_true, Int.natCast_add, Int.cast_ofNat_Int, Bool.not_eq_true', Bool.not_eq_false']; rfl) (by simp only [go_sem, Nat.reduceAdd, Nat.reduceMul, Nat.reduceSub, Nat.reduceEqDiff, Nat.reduceDiv, Nat.reduceLT, Nat.reduceLeDiff, reduceCtorEq, decide_true, Int.natCast_add, Int.cast_ofNat_Int, Bool.not_eq_true', Bool.not_eq_false']) ?_ ?_
  · exact ⟨Nat.le_refl _, rfl⟩
  · rintro k ⟨h1, h2⟩
    cases k with
    | zero =>
      simp only [go_sem, Nat.reduceAdd, Nat.reduceMul, Nat.reduceSub, Nat.reduceEqDiff, Nat.reduceDiv, Nat.reduceLT, Nat.reduceLeDiff, reduceCtorEq, decide_true, Int.natCast_add, Int.cast_ofNat_Int, Bool.not_eq_true', Bool.not_eq_false', List.length_map]
      refine ⟨fun q => absurd q (by omega), fun _ => ?_⟩
      rw [← h2]; rfl
    | succ k =>
      have hk : k < l.length := by omega
      have hz := hs l[k] (List.getElem_mem hk)
      rw [parI, sizN_get hk] at h2
      simp only [go_sem, Nat.reduceAdd, Nat.reduceMul, Nat.reduceSub, Nat.reduceEqDiff, Nat.reduceDiv, Nat.reduceLT, Nat.reduceLeDiff, reduceCtorEq, decide_true, Int.natCast_add, Int.cast_ofNat_Int, Bool.not_eq_true', Bool.not_eq_false', List.length_map, Int.add_sub_cancel, Int.toNat_natCast]
      refine ⟨fun _ => ⟨by omega, ex_get hk ⟨by omega, fun h5 => ?_, fun h5 => ⟨by omega, ?_⟩⟩⟩, fun q => absurd (by omega) q⟩
      · rw [if_pos h5] at h2; exact h2.symm
      · rw [if_neg h5] at h2
        (refine loop_end [] (k) (by simp only [go_sem, Nat.reduceAdd, Nat.reduceMul, Nat.reduceSub, Nat.reduceEqDiff, Nat.reduceDiv, Nat.reduceLT, Nat.reduceLeDiff, reduceCtorEq, decide_true, Int.natCast_add, Int.cast_ofNat_Int, Bool.not_eq_true', Bool.not_eq_false']; rfl) ?_ ?_ ?_; (focus first | omega | (simp only; omega)); (focus (simp only [go_sem, Nat.reduceAdd, Nat.reduceMul, Nat.reduceSub, Nat.reduceEqDiff, Nat.reduceDiv, Nat.reduceLT, Nat.reduceLeDiff, reduceCtorEq, decide_true, Int.natCast_add, Int.cast_ofNat_Int, Bool.not_eq_true', Bool.not_eq_false']; done)))
        exact ⟨by omega, h2⟩
set_option maxRecDepth 100000 in
theorem above8_ok (l : List LNo) (a : Int) : FnOk Try.prog 45 [.agg [.sl 20 (l.map cNo)], .raw (.int .i64 a)] [] (.clo (.func 70) [.hdr 8, .hdr 9]) [(8, .cells 67 [.sl 20 (l.map cNo)]), (9, .cells 3 [.raw (.int .i64 a)])] := by
  refine fn_of_awp Try.func45 rfl (by kernel_rfl) (by kernel_rfl) (Nat.le_of_ble_eq_true rfl) Try.results45 ?_
  simp only [go_sem, Nat.reduceAdd, Nat.reduceMul, Nat.reduceSub, Nat.reduceEqDiff, Nat.reduceDiv, Nat.reduceLT, Nat.reduceLeDiff, reduceCtorEq, decide_true, Int.natCast_add, Int.cast_ofNat_Int, Bool.not_eq_true', Bool.not_eq_false']
  (refine ret2 [] (by simp only [go_sem, Nat.reduceAdd, Nat.reduceMul, Nat.reduceSub, Nat.reduceEqDiff, Nat.reduceDiv, Nat.reduceLT, Nat.reduceLeDiff, reduceCtorEq, decide_true, Int.natCast_add, Int.cast_ofNat_Int, Bool.not_eq_true', Bool.not_eq_false']; rfl) ?_; simp only [go_sem, Nat.reduceAdd, Nat.reduceMul, Nat.reduceSub, Nat.reduceEqDiff, Nat.reduceDiv, Nat.reduceLT, Nat.reduceLeDiff, reduceCtorEq, decide_true, Int.natCast_add, Int.cast_ofNat_Int, Bool.not_eq_true', Bool.not_eq_false'])
end Go.Proofs.Ytiidfcadmdahmaa
