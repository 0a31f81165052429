/- CHAPTERS 15, 23: the floats that are anchored in a part: slices.DeleteFunc. -/
/- G -/
import Derived.Test.YtmgckellncfjpaaGDelA
/- BOOLS -/
set_option linter.unusedSimpArgs false
set_option linter.unusedVariables false
namespace Go.Proofs.Ytmgckellncfjpaa
open Go.RowKit

def offF (a b : Int) (f : LFl) : Bool := decide (f.anchor < a) || decide (b ≤ f.anchor)
def ancF (a b : Int) (f : LFl) : Bool := !offF a b f
def anchF (l : List LFl) (a b : Int) : List LFl := l.filter (ancF a b)
set_option maxRecDepth 100000 in
theorem anc1_ok (f : LFl) (a b : Int) : FnOk Try.prog 67 [aFl f, .hdr 0, .hdr 1] [(0, .cells 3 [.raw (.int .i64 a)]), (1, .cells 3 [.raw (.int .i64 b)])] (.raw (.bool (offF a b f))) [(0, .cells 3 [.raw (.int .i64 a)]), (1, .cells 3 [.raw (.int .i64 b)])] := by
  refine fn_of_awp Try.func67 rfl (by kernel_rfl) (by kernel_rfl) (Nat.le_of_ble_eq_true rfl) Try.results67 ?_
  simp only [go_sem, Nat.reduceAdd, Nat.reduceMul, Nat.reduceSub, Nat.reduceEqDiff, Nat.reduceDiv, Nat.reduceLT, Nat.reduceLeDiff, reduceCtorEq, decide_true, Int.natCast_add, Int.cast_ofNat_Int, Bool.not_eq_true', Bool.not_eq_false']
  repeat' first | contradiction | intro _ | refine And.intro ?_ ?_ | refine ex_get (by omega) ?_ | (show drawB _ _ = true; kernel_rfl) | (refine ret2 [] (by simp only [go_sem, Nat.reduceAdd, Nat.reduceMul, Nat.reduceSub, Nat.reduceEqDiff, Nat.reduceDiv, Nat.reduceLT, Nat.reduceLeDiff, reduceCtorEq, decide_true, Int.natCast_add, Int.cast_ofNat_Int, Bool.not_eq_true', Bool.not_eq_false']; rfl) ?_; simp only [go_sem, Nat.reduceAdd, Nat.reduceMul, Nat.reduceSub, Nat.reduceEqDiff, Nat.reduceDiv, Nat.reduceLT, Nat.reduceLeDiff, reduceCtorEq, decide_true, Int.natCast_add, Int.cast_ofNat_Int, Bool.not_eq_true', Bool.not_eq_false'])
  all_goals (simp [offF] <;> omega)
set_option maxRecDepth 100000 in
theorem clone_ok (l : List LFl) (hl : l.length ≤ 1000) : FnOk Try.prog 66 [.sl 7 (l.map cFl)] [] (.hdr 8) [(8, .row 52 7 (l.map cFl))] := by
  refine fn_of_awp Try.func66 rfl (by kernel_rfl) (by kernel_rfl) (Nat.le_of_ble_eq_true rfl) Try.results66 ?_
  simp only [go_sem, Nat.reduceAdd, Nat.reduceMul, Nat.reduceSub, Nat.reduceEqDiff, Nat.reduceDiv, Nat.reduceLT, Nat.reduceLeDiff, reduceCtorEq, decide_true, Int.natCast_add, Int.cast_ofNat_Int, Bool.not_eq_true', Bool.not_eq_false', List.length_map]
  repeat' first | contradiction | intro _ | refine And.intro ?_ ?_ | refine ex_get (by omega) ?_ | (show drawB _ _ = true; kernel_rfl) | (refine ret2 [] (by simp only [go_sem, Nat.reduceAdd, Nat.reduceMul, Nat.reduceSub, Nat.reduceEqDiff, Nat.reduceDiv, Nat.reduceLT, Nat.reduceLeDiff, reduceCtorEq, decide_true, Int.natCast_add, Int.cast_ofNat_Int, Bool.not_eq_true', Bool.not_eq_false', List.length_map]; rfl) ?_; simp only [go_sem, Nat.reduceAdd, Nat.reduceMul, Nat.reduceSub, Nat.reduceEqDiff, Nat.reduceDiv, Nat.reduceLT, Nat.reduceLeDiff, reduceCtorEq, decide_true, Int.natCast_add, Int.cast_ofNat_Int, Bool.not_eq_true', Bool.not_eq_false', List.length_map])
  all_goals first
    | omega
    | (have e : l = [] := List.eq_nil_of_length_eq_zero (by simp_all)
       rw [e]; rfl)
/-- the place of the first that is so; below 0: none is. -/
def idxF (p : LFl → Bool) (l : List LFl) : Int := if l.findIdx p < l.length then l.findIdx p else -1
theorem idxF_at {p : LFl → Bool} {l : List LFl} {k : Nat} (hk : k < l.length) (h : ∀ j (hj : j < l.length), j < k → p l[j] = false) (hp : p l[k] = true) : idxF p l = k := by
  have e : l.findIdx p = k := by
    rw [List.findIdx_eq hk]
    exact ⟨hp, fun j hj => by have := h j (by omega) hj; simpa using this⟩
  unfold idxF
  rw [if_pos (by omega), e]
theorem idxF_no {p : LFl → Bool} {l : List LFl} (h : ∀ j (hj : j < l.length), p l[j] = false) : idxF p l = -1 := by
  unfold idxF
  rw [if_neg]
  intro hlt
  have := List.findIdx_getElem (w := hlt)
  rw [h _ hlt] at this
  cases this
set_option maxRecDepth 100000 in
theorem index_ok (l : List LFl) (a b : Int) (hl : l.length ≤ 1000) : FnOk Try.prog 80 [.sl 7 (l.map cFl), .clo (.func 67) [.hdr 0, .hdr 1]] [(0, .cells 3 [.raw (.int .i64 a)]), (1, .cells 3 [.raw (.int .i64 b)])] (.raw (.int .i64 (idxF (offF a b) l))) [(0, .cells 3 [.raw (.int .i64 a)]), (1, .cells 3 [.raw (.int .i64 b)])] := by
  refine fn_of_awp Try.func80 rfl (by kernel_rfl) (by kernel_rfl) (Nat.le_of_ble_eq_true rfl) Try.results80 ?_
  simp only [go_sem, Nat.reduceAdd, Nat.reduceMul, Nat.reduceSub, Nat.reduceEqDiff, Nat.reduceDiv, Nat.reduceLT, Nat.reduceLeDiff, reduceCtorEq, decide_true, Int.natCast_add, Int.cast_ofNat_Int, Bool.not_eq_true', Bool.not_eq_false', List.length_map]
  refine aloop2 [] (fun k : Nat => ⟨[(0, .sl 7 (l.map cFl)), (1, .clo (.func 67) [.hdr 0, .hdr 1]), (7, .raw (.int .i64 l.length)), (8, .raw (.int .i64 k))], [(0, some (.cells 3 [.raw (.int .i64 a)])), (1, some (.cells 3 [.raw (.int .i64 b)]))], none⟩) (fun k => k ≤ l.length ∧ ∀ j (hj : j < l.length), j < k → offF a b l[j] = false) (fun k => l.length - k) 4 0 (by simp only [go_sem, Nat.reduceAdd, Nat.reduceMul, Nat.reduceSub, Nat.reduceEqDiff, Nat.reduceDiv, Nat.reduceLT, Nat.reduceLeDiff, reduceCtorEq, decide_true, Int.natCast_add, Int.cast_ofNat_Int, Bool.not_eq_true', Bool.not_eq_false']; rfl) (by simp only [go_sem, Nat.reduceAdd, Nat.reduceMul, Nat.reduceSub, Nat.reduceEqDiff, Nat.reduceDiv, Nat.reduceLT, Nat.reduceLeDiff, reduceCtorEq, decide_true, Int.natCast_add, Int.cast_ofNat_Int, Bool.not_eq_true', Bool.not_eq_false']) ?_ ?_
  · exact ⟨Nat.zero_le _, fun j _ h => absurd h (Nat.not_lt_zero j)⟩
  · rintro k ⟨h1, h2⟩
    simp only [go_sem, Nat.reduceAdd, Nat.reduceMul, Nat.reduceSub, Nat.reduceEqDiff, Nat.reduceDiv, Nat.reduceLT, Nat.reduceLeDiff, reduceCtorEq, decide_true, Int.natCast_add, Int.cast_ofNat_Int, Bool.not_eq_true', Bool.not_eq_false', List.length_map]
    refine ⟨fun h5 => ?_, fun h5 => ?_⟩
    · have hk : k < l.length := by omega
      refine ⟨by omega, ex_get hk ?_⟩
      (refine acall2 [] (anc1_ok l[k] a b) (by simp only [go_sem, Nat.reduceAdd, Nat.reduceMul, Nat.reduceSub, Nat.reduceEqDiff, Nat.reduceDiv, Nat.reduceLT, Nat.reduceLeDiff, reduceCtorEq, decide_true, Int.natCast_add, Int.cast_ofNat_Int, Bool.not_eq_true', Bool.not_eq_false']; rfl) (fit_of (by simp only [go_sem, Nat.reduceAdd, Nat.reduceMul, Nat.reduceSub, Nat.reduceEqDiff, Nat.reduceDiv, Nat.reduceLT, Nat.reduceLeDiff, reduceCtorEq, decide_true, Int.natCast_add, Int.cast_ofNat_Int, Bool.not_eq_true', Bool.not_eq_false']) (by simp only [go_sem, Nat.reduceAdd, Nat.reduceMul, Nat.reduceSub, Nat.reduceEqDiff, Nat.reduceDiv, Nat.reduceLT, Nat.reduceLeDiff, reduceCtorEq, decide_true, Int.natCast_add, Int.cast_ofNat_Int, Bool.not_eq_true', Bool.not_eq_false']) (by simp only [go_sem, Nat.reduceAdd, Nat.reduceMul, Nat.reduceSub, Nat.reduceEqDiff, Nat.reduceDiv, Nat.reduceLT, Nat.reduceLeDiff, reduceCtorEq, decide_true, Int.natCast_add, Int.cast_ofNat_Int, Bool.not_eq_true', Bool.not_eq_false']) (by simp only [go_sem, Nat.reduceAdd, Nat.reduceMul, Nat.reduceSub, Nat.reduceEqDiff, Nat.reduceDiv, Nat.reduceLT, Nat.reduceLeDiff, reduceCtorEq, decide_true, Int.natCast_add, Int.cast_ofNat_Int, Bool.not_eq_true', Bool.not_eq_false']) (by simp only [go_sem, Nat.reduceAdd, Nat.reduceMul, Nat.reduceSub, Nat.reduceEqDiff, Nat.reduceDiv, Nat.reduceLT, Nat.reduceLeDiff, reduceCtorEq, decide_true, Int.natCast_add, Int.cast_ofNat_Int, Bool.not_eq_true', Bool.not_eq_false']) (by simp only [go_sem, Nat.reduceAdd, Nat.reduceMul, Nat.reduceSub, Nat.reduceEqDiff, Nat.reduceDiv, Nat.reduceLT, Nat.reduceLeDiff, reduceCtorEq, decide_true, Int.natCast_add, Int.cast_ofNat_Int, Bool.not_eq_true', Bool.not_eq_false']) (by simp only [go_sem, Nat.reduceAdd, Nat.reduceMul, Nat.reduceSub, Nat.reduceEqDiff, Nat.reduceDiv, Nat.reduceLT, Nat.reduceLeDiff, reduceCtorEq, decide_true, Int.natCast_add, Int.cast_ofNat_Int, Bool.not_eq_true', Bool.not_eq_false'])) ?_; simp only [go_sem, Nat.reduceAdd, Nat.reduceMul, Nat.reduceSub, Nat.reduceEqDiff, Nat.reduceDiv, Nat.reduceLT, Nat.reduceLeDiff, reduceCtorEq, decide_true, Int.natCast_add, Int.cast_ofNat_Int, Bool.not_eq_true', Bool.not_eq_false'])
      refine ⟨fun h6 => ?_, fun h6 => ⟨by omega, ?_⟩⟩
      · rw [idxF_at hk h2 h6]
        (refine ret2 [] (by simp only [go_sem, Nat.reduceAdd, Nat.reduceMul, Nat.reduceSub, Nat.reduceEqDiff, Nat.reduceDiv, Nat.reduceLT, Nat.reduceLeDiff, reduceCtorEq, decide_true, Int.natCast_add, Int.cast_ofNat_Int, Bool.not_eq_true', Bool.not_eq_false']; rfl) ?_; simp only [go_sem, Nat.reduceAdd, Nat.reduceMul, Nat.reduceSub, Nat.reduceEqDiff, Nat.reduceDiv, Nat.reduceLT, Nat.reduceLeDiff, reduceCtorEq, decide_true, Int.natCast_add, Int.cast_ofNat_Int, Bool.not_eq_true', Bool.not_eq_false'])
      · (refine loop_end [] (k + 1) (by simp only [go_sem, Nat.reduceAdd, Nat.reduceMul, Nat.reduceSub, Nat.reduceEqDiff, Nat.reduceDiv, Nat.reduceLT, Nat.reduceLeDiff, reduceCtorEq, decide_true, Int.natCast_add, Int.cast_ofNat_Int, Bool.not_eq_true', Bool.not_eq_false']; rfl) ?_ ?_ ?_; (focus first | omega | (simp only; omega)); (focus (simp only [go_sem, Nat.reduceAdd, Nat.reduceMul, Nat.reduceSub, Nat.reduceEqDiff, Nat.reduceDiv, Nat.reduceLT, Nat.reduceLeDiff, reduceCtorEq, decide_true, Int.natCast_add, Int.cast_ofNat_Int, Bool.not_eq_true', Bool.not_eq_false']; done)))
        refine ⟨by omega, fun j hj h7 => ?_⟩
        rcases Nat.lt_succ_iff_lt_or_eq.1 h7 with h8 | h8
        · exact h2 j hj h8
        · subst h8; exact h6
    · rw [idxF_no (fun j hj => h2 j hj (by omega))]
      (refine ret2 [] (by simp only [go_sem, Nat.reduceAdd, Nat.reduceMul, Nat.reduceSub, Nat.reduceEqDiff, Nat.reduceDiv, Nat.reduceLT, Nat.reduceLeDiff, reduceCtorEq, decide_true, Int.natCast_add, Int.cast_ofNat_Int, Bool.not_eq_true', Bool.not_eq_false']; rfl) ?_; simp only [go_sem, Nat.reduceAdd, Nat.reduceMul, Nat.reduceSub, Nat.reduceEqDiff, Nat.reduceDiv, Nat.reduceLT, Nat.reduceLeDiff, reduceCtorEq, decide_true, Int.natCast_add, Int.cast_ofNat_Int, Bool.not_eq_true', Bool.not_eq_false'])
structure LDel where
  k : Nat
  mid : List LFl
def kepF (l : List LFl) (a b : Int) (k : Nat) : List LFl := (l.take k).filter (ancF a b)
theorem kepF_len (l : List LFl) (a b : Int) (k : Nat) : (kepF l a b k).length ≤ k := Nat.le_trans (List.length_filter_le _ _) (by simp; omega)
theorem kepF_succ {l : List LFl} {a b : Int} {k : Nat} (hk : k < l.length) : kepF l a b (k + 1) = if ancF a b l[k] = true then kepF l a b k ++ [l[k]] else kepF l a b k := by
  unfold kepF
  rw [List.take_succ_eq_append_getElem hk, List.filter_append]
  split
  · next h => simp [h]
  · next h => simp [h]
def rowD (l : List LFl) (a b : Int) (z : LDel) : List LFl := kepF l a b z.k ++ z.mid ++ l.drop z.k
theorem rowD_get {l : List LFl} {a b : Int} {k : Nat} {mid : List LFl} (hk : k < l.length) (h : (kepF l a b k).length + mid.length = k) : (rowD l a b ⟨k, mid⟩)[k]? = some l[k] := by
  unfold rowD
  rw [List.getElem?_append_right (by simp; omega), List.length_append, h, Nat.sub_self, List.getElem?_drop]
  simp [hk]
theorem rowD_keep {l : List LFl} {a b : Int} {k : Nat} {mid : List LFl} (hk : k < l.length) (h0 : 0 < mid.length) (h : ancF a b l[k] = true) : (rowD l a b ⟨k, mid⟩).set (kepF l a b k).length l[k] = rowD l a b ⟨k + 1, mid.tail ++ [l[k]]⟩ := by
  unfold rowD
  cases mid with
  | nil => simp at h0
  | cons x mid =>
    have e1 : l.drop k = l[k] :: l.drop (k + 1) := List.drop_eq_getElem_cons hk
    rw [kepF_succ hk, if_pos h, e1]
    simp
theorem rowD_skip {l : List LFl} {a b : Int} {k : Nat} {mid : List LFl} (hk : k < l.length) (h : ¬ ancF a b l[k] = true) : rowD l a b ⟨k, mid⟩ = rowD l a b ⟨k + 1, mid ++ [l[k]]⟩ := by
  unfold rowD
  have e1 : l.drop k = l[k] :: l.drop (k + 1) := List.drop_eq_getElem_cons hk
  rw [kepF_succ hk, if_neg h, e1]
  simp
theorem rowD_len {l : List LFl} {a b : Int} {k : Nat} {mid : List LFl} (hk : k ≤ l.length) (h : (kepF l a b k).length + mid.length = k) : (rowD l a b ⟨k, mid⟩).length = l.length := by
  unfold rowD
  simp
  omega
theorem kepF_pre {l : List LFl} {a b : Int} {k : Nat} (h : ∀ j (hj : j < l.length), j < k → offF a b l[j] = false) : kepF l a b k = l.take k := by
  unfold kepF
  rw [List.filter_eq_self]
  intro x hx
  obtain ⟨j, hj, rfl⟩ := List.getElem_of_mem hx
  simp only [List.length_take] at hj
  rw [List.getElem_take]
  unfold ancF
  rw [h j (by omega) (by omega)]
  rfl
theorem idxF_cases (p : LFl → Bool) (l : List LFl) : (idxF p l = -1 ∧ ∀ j (hj : j < l.length), p l[j] = false) ∨ ∃ k : Nat, idxF p l = k ∧ ∃ hk : k < l.length, p l[k] = true ∧ ∀ j (hj : j < l.length), j < k → p l[j] = false := by
  unfold idxF
  by_cases h : l.findIdx p < l.length
  · right
    rw [if_pos h]
    refine ⟨l.findIdx p, rfl, h, List.findIdx_getElem (w := h), fun j hj hlt => ?_⟩
    have := List.not_of_lt_findIdx hlt
    simpa using this
  · left
    rw [if_neg h]
    refine ⟨rfl, fun j hj => ?_⟩
    have := List.not_of_lt_findIdx (p := p) (xs := l) (i := j) (by omega)
    simpa using this
set_option maxRecDepth 100000 in
set_option maxHeartbeats 4000000 in
theorem delete_ok (l : List LFl) (a b : Int) (hl : l.length ≤ 1000) : FnOk Try.prog 65 [.hdr 0, .clo (.func 67) [.hdr 1, .hdr 2]] [(0, .row 52 7 (l.map cFl)), (1, .cells 3 [.raw (.int .i64 a)]), (2, .cells 3 [.raw (.int .i64 b)])] (.hdr 8) [(8, .row 52 7 ((anchF l a b).map cFl)), (1, .cells 3 [.raw (.int .i64 a)]), (2, .cells 3 [.raw (.int .i64 b)])] := by
  refine fn_of_swp Try.func65 rfl (by kernel_rfl) (by kernel_rfl) (Nat.le_of_ble_eq_true rfl) Try.results65 ?_
  (refine swp_seqW ?_; simp only [go_sem, Nat.reduceAdd, Nat.reduceMul, Nat.reduceSub, Nat.reduceEqDiff, Nat.reduceDiv, Nat.reduceLT, Nat.reduceLeDiff, reduceCtorEq, decide_true, Int.natCast_add, Int.cast_ofNat_Int, Bool.not_eq_true', Bool.not_eq_false'])
  (refine swp_seqW ?_; simp only [go_sem, Nat.reduceAdd, Nat.reduceMul, Nat.reduceSub, Nat.reduceEqDiff, Nat.reduceDiv, Nat.reduceLT, Nat.reduceLeDiff, reduceCtorEq, decide_true, Int.natCast_add, Int.cast_ofNat_Int, Bool.not_eq_true', Bool.not_eq_false'])
  (refine acall2 [0 ] ( index_ok l a b hl) (by simp only [go_sem, Nat.reduceAdd, Nat.reduceMul, Nat.reduceSub, Nat.reduceEqDiff, Nat.reduceDiv, Nat.reduceLT, Nat.reduceLeDiff, reduceCtorEq, decide_true, Int.natCast_add, Int.cast_ofNat_Int, Bool.not_eq_true', Bool.not_eq_false']; rfl) (fit_of (by simp only [go_sem, Nat.reduceAdd, Nat.reduceMul, Nat.reduceSub, Nat.reduceEqDiff, Nat.reduceDiv, Nat.reduceLT, Nat.reduceLeDiff, reduceCtorEq, decide_true, Int.natCast_add, Int.cast_ofNat_Int, Bool.not_eq_true', Bool.not_eq_false']) (by simp only [go_sem, Nat.reduceAdd, Nat.reduceMul, Nat.reduceSub, Nat.reduceEqDiff, Nat.reduceDiv, Nat.reduceLT, Nat.reduceLeDiff, reduceCtorEq, decide_true, Int.natCast_add, Int.cast_ofNat_Int, Bool.not_eq_true', Bool.not_eq_false']) (by simp only [go_sem, Nat.reduceAdd, Nat.reduceMul, Nat.reduceSub, Nat.reduceEqDiff, Nat.reduceDiv, Nat.reduceLT, Nat.reduceLeDiff, reduceCtorEq, decide_true, Int.natCast_add, Int.cast_ofNat_Int, Bool.not_eq_true', Bool.not_eq_false']) (by simp only [go_sem, Nat.reduceAdd, Nat.reduceMul, Nat.reduceSub, Nat.reduceEqDiff, Nat.reduceDiv, Nat.reduceLT, Nat.reduceLeDiff, reduceCtorEq, decide_true, Int.natCast_add, Int.cast_ofNat_Int, Bool.not_eq_true', Bool.not_eq_false']) (by simp only [go_sem, Nat.reduceAdd, Nat.reduceMul, Nat.reduceSub, Nat.reduceEqDiff, Nat.reduceDiv, Nat.reduceLT, Nat.reduceLeDiff, reduceCtorEq, decide_true, Int.natCast_add, Int.cast_ofNat_Int, Bool.not_eq_true', Bool.not_eq_false']) (by simp only [go_sem, Nat.reduceAdd, Nat.reduceMul, Nat.reduceSub, Nat.reduceEqDiff, Nat.reduceDiv, Nat.reduceLT, Nat.reduceLeDiff, reduceCtorEq, decide_true, Int.natCast_add, Int.cast_ofNat_Int, Bool.not_eq_true', Bool.not_eq_false']) (by simp only [go_sem, Nat.reduceAdd, Nat.reduceMul, Nat.reduceSub, Nat.reduceEqDiff, Nat.reduceDiv, Nat.reduceLT, Nat.reduceLeDiff, reduceCtorEq, decide_true, Int.natCast_add, Int.cast_ofNat_Int, Bool.not_eq_true', Bool.not_eq_false'])) ?_; simp only [go_sem, Nat.reduceAdd, Nat.reduceMul, Nat.reduceSub, Nat.reduceEqDiff, Nat.reduceDiv, Nat.reduceLT, Nat.reduceLeDiff, reduceCtorEq, decide_true, Int.natCast_add, Int.cast_ofNat_Int, Bool.not_eq_true', Bool.not_eq_false'])
  rcases idxF_cases (offF a b) l with ⟨e0, hno⟩ | ⟨i0, e0, hi0, hp0, hb0⟩
  · rw [e0]
    have e1 : anchF l a b = l := by
      have := kepF_pre (l := l) (a := a) (b := b) (k := l.length) (fun j hj _ => hno j hj)
      unfold kepF at this
      rw [List.take_length] at this
      exact this
    rw [e1]
    (refine swp_lastW ?_; simp only [go_sem, Nat.reduceAdd, Nat.reduceMul, Nat.reduceSub, Nat.reduceEqDiff, Nat.reduceDiv, Nat.reduceLT, Nat.reduceLeDiff, reduceCtorEq, decide_true, Int.natCast_add, Int.cast_ofNat_Int, Bool.not_eq_true', Bool.not_eq_false'])
    repeat' first | contradiction | intro _ | refine And.intro ?_ ?_ | refine ex_get (by omega) ?_ | (show drawB _ _ = true; kernel_rfl) | (refine ret2 [] (by simp only [go_sem, Nat.reduceAdd, Nat.reduceMul, Nat.reduceSub, Nat.reduceEqDiff, Nat.reduceDiv, Nat.reduceLT, Nat.reduceLeDiff, reduceCtorEq, decide_true, Int.natCast_add, Int.cast_ofNat_Int, Bool.not_eq_true', Bool.not_eq_false']; rfl) ?_; simp only [go_sem, Nat.reduceAdd, Nat.reduceMul, Nat.reduceSub, Nat.reduceEqDiff, Nat.reduceDiv, Nat.reduceLT, Nat.reduceLeDiff, reduceCtorEq, decide_true, Int.natCast_add, Int.cast_ofNat_Int, Bool.not_eq_true', Bool.not_eq_false'])
    all_goals skip
  · rw [e0]
    have ek := kepF_pre (l := l) (a := a) (b := b) (k := i0) hb0
    have eks : kepF l a b (i0 + 1) = l.take i0 := by
      rw [kepF_succ hi0, if_neg (by unfold ancF; rw [hp0]; decide), ek]
    have elen : (kepF l a b (i0 + 1)).length = i0 := by rw [eks]; simp; omega
    have erow : rowD l a b ⟨i0 + 1, [l[i0]]⟩ = l := by
      unfold rowD
      dsimp only
      rw [eks]
      simp
    (refine swp_seqW ?_; simp only [go_sem, Nat.reduceAdd, Nat.reduceMul, Nat.reduceSub, Nat.reduceEqDiff, Nat.reduceDiv, Nat.reduceLT, Nat.reduceLeDiff, reduceCtorEq, decide_true, Int.natCast_add, Int.cast_ofNat_Int, Bool.not_eq_true', Bool.not_eq_false', List.length_map])
    refine swp_seqS ?_
    (refine swp_seqW ?_; simp only [go_sem, Nat.reduceAdd, Nat.reduceMul, Nat.reduceSub, Nat.reduceEqDiff, Nat.reduceDiv, Nat.reduceLT, Nat.reduceLeDiff, reduceCtorEq, decide_true, Int.natCast_add, Int.cast_ofNat_Int, Bool.not_eq_true', Bool.not_eq_false'])
    refine ⟨by omega, ?_⟩
    refine swp_block ?_
    refine swp_loop2 [] (fun z : LDel => ⟨[(0, .hdr 0), (1, .clo (.func 67) [.hdr 1, .hdr 2]), (5, .raw (.int .i64 (kepF l a b z.k).length)), (6, .raw (.int .i64 z.k))], [(0, some (.row 52 7 ((rowD l a b z).map cFl))), (1, some (.cells 3 [.raw (.int .i64 a)])), (2, some (.cells 3 [.raw (.int .i64 b)]))], none⟩) (fun z => z.k ≤ l.length ∧ 0 < z.mid.length ∧ (kepF l a b z.k).length + z.mid.length = z.k) (fun z => l.length - z.k) 4 ⟨i0 + 1, [l[i0]]⟩ (by simp only [go_sem, Nat.reduceAdd, Nat.reduceMul, Nat.reduceSub, Nat.reduceEqDiff, Nat.reduceDiv, Nat.reduceLT, Nat.reduceLeDiff, reduceCtorEq, decide_true, Int.natCast_add, Int.cast_ofNat_Int, Bool.not_eq_true', Bool.not_eq_false']; rfl) (by simp only [go_sem, Nat.reduceAdd, Nat.reduceMul, Nat.reduceSub, Nat.reduceEqDiff, Nat.reduceDiv, Nat.reduceLT, Nat.reduceLeDiff, reduceCtorEq, decide_true, Int.natCast_add, Int.cast_ofNat_Int, Bool.not_eq_true', Bool.not_eq_false', elen, erow]) ?_ ?_
    · exact ⟨hi0, by simp, by rw [elen]; simp⟩
    · rintro ⟨k, mid⟩ ⟨h1, h2, h3⟩
      simp only at h1 h2 h3
      have hlen := rowD_len h1 h3
      (refine swp_seqW ?_; simp only [go_sem, Nat.reduceAdd, Nat.reduceMul, Nat.reduceSub, Nat.reduceEqDiff, Nat.reduceDiv, Nat.reduceLT, Nat.reduceLeDiff, reduceCtorEq, decide_true, Int.natCast_add, Int.cast_ofNat_Int, Bool.not_eq_true', Bool.not_eq_false', List.length_map])
      refine ⟨fun h5 => ?_, fun h5 => ?_⟩
      · have hk : k < l.length := by omega
        have hget := rowD_get hk h3
        have hK := kepF_len l a b k
        (refine swp_lastW ?_; simp only [go_sem, Nat.reduceAdd, Nat.reduceMul, Nat.reduceSub, Nat.reduceEqDiff, Nat.reduceDiv, Nat.reduceLT, Nat.reduceLeDiff, reduceCtorEq, decide_true, Int.natCast_add, Int.cast_ofNat_Int, Bool.not_eq_true', Bool.not_eq_false', List.length_map])
        refine ⟨by omega, l[k], hget, ?_⟩
        (refine acall2 [] (anc1_ok l[k] a b) (by simp only [go_sem, Nat.reduceAdd, Nat.reduceMul, Nat.reduceSub, Nat.reduceEqDiff, Nat.reduceDiv, Nat.reduceLT, Nat.reduceLeDiff, reduceCtorEq, decide_true, Int.natCast_add, Int.cast_ofNat_Int, Bool.not_eq_true', Bool.not_eq_false']; rfl) (fit_of (by simp only [go_sem, Nat.reduceAdd, Nat.reduceMul, Nat.reduceSub, Nat.reduceEqDiff, Nat.reduceDiv, Nat.reduceLT, Nat.reduceLeDiff, reduceCtorEq, decide_true, Int.natCast_add, Int.cast_ofNat_Int, Bool.not_eq_true', Bool.not_eq_false']) (by simp only [go_sem, Nat.reduceAdd, Nat.reduceMul, Nat.reduceSub, Nat.reduceEqDiff, Nat.reduceDiv, Nat.reduceLT, Nat.reduceLeDiff, reduceCtorEq, decide_true, Int.natCast_add, Int.cast_ofNat_Int, Bool.not_eq_true', Bool.not_eq_false']) (by simp only [go_sem, Nat.reduceAdd, Nat.reduceMul, Nat.reduceSub, Nat.reduceEqDiff, Nat.reduceDiv, Nat.reduceLT, Nat.reduceLeDiff, reduceCtorEq, decide_true, Int.natCast_add, Int.cast_ofNat_Int, Bool.not_eq_true', Bool.not_eq_false']) (by simp only [go_sem, Nat.reduceAdd, Nat.reduceMul, Nat.reduceSub, Nat.reduceEqDiff, Nat.reduceDiv, Nat.reduceLT, Nat.reduceLeDiff, reduceCtorEq, decide_true, Int.natCast_add, Int.cast_ofNat_Int, Bool.not_eq_true', Bool.not_eq_false']) (by simp only [go_sem, Nat.reduceAdd, Nat.reduceMul, Nat.reduceSub, Nat.reduceEqDiff, Nat.reduceDiv, Nat.reduceLT, Nat.reduceLeDiff, reduceCtorEq, decide_true, Int.natCast_add, Int.cast_ofNat_Int, Bool.not_eq_true', Bool.not_eq_false']) (by simp only [go_sem, Nat.reduceAdd, Nat.reduceMul, Nat.reduceSub, Nat.reduceEqDiff, Nat.reduceDiv, Nat.reduceLT, Nat.reduceLeDiff, reduceCtorEq, decide_true, Int.natCast_add, Int.cast_ofNat_Int, Bool.not_eq_true', Bool.not_eq_false']) (by simp only [go_sem, Nat.reduceAdd, Nat.reduceMul, Nat.reduceSub, Nat.reduceEqDiff, Nat.reduceDiv, Nat.reduceLT, Nat.reduceLeDiff, reduceCtorEq, decide_true, Int.natCast_add, Int.cast_ofNat_Int, Bool.not_eq_true', Bool.not_eq_false'])) ?_; simp only [go_sem, Nat.reduceAdd, Nat.reduceMul, Nat.reduceSub, Nat.reduceEqDiff, Nat.reduceDiv, Nat.reduceLT, Nat.reduceLeDiff, reduceCtorEq, decide_true, Int.natCast_add, Int.cast_ofNat_Int, Bool.not_eq_true', Bool.not_eq_false'])
        refine ⟨fun h6 => ?_, fun h6 => ?_⟩
        · have h7 : ancF a b l[k] = true := by unfold ancF; rw [h6]; rfl
          have hset := rowD_keep hk h2 h7
          have hs2 : (List.map cFl (rowD l a b ⟨k, mid⟩)).set (kepF l a b k).length (cFl l[k]) = List.map cFl (rowD l a b ⟨k + 1, mid.tail ++ [l[k]]⟩) := by rw [← hset, List.map_set]
          simp only [cFl] at hs2
          have hks : kepF l a b (k + 1) = kepF l a b k ++ [l[k]] := by rw [kepF_succ hk, if_pos h7]
          have hi2 : (rowD l a b ⟨k, mid⟩)[(kepF l a b k).length]? = some (rowD l a b ⟨k, mid⟩)[(kepF l a b k).length] := List.getElem?_eq_getElem (by omega)
          refine ⟨by omega, _, hi2, ?_⟩
          refine ⟨by omega, by omega, ?_⟩
          (refine loop_end [] (⟨k + 1, mid.tail ++ [l[k]]⟩) (by simp only [go_sem, Nat.reduceAdd, Nat.reduceMul, Nat.reduceSub, Nat.reduceEqDiff, Nat.reduceDiv, Nat.reduceLT, Nat.reduceLeDiff, reduceCtorEq, decide_true, Int.natCast_add, Int.cast_ofNat_Int, Bool.not_eq_true', Bool.not_eq_false']; rfl) ?_ ?_ ?_; (focus first | omega | (simp only; omega)); (focus (simp only [go_sem, Nat.reduceAdd, Nat.reduceMul, Nat.reduceSub, Nat.reduceEqDiff, Nat.reduceDiv, Nat.reduceLT, Nat.reduceLeDiff, reduceCtorEq, decide_true, Int.natCast_add, Int.cast_ofNat_Int, Bool.not_eq_true', Bool.not_eq_false', hks, hs2, List.length_append, List.length_cons, List.length_nil]; done)))
          exact ⟨by show k + 1 ≤ l.length; omega, by simp, by rw [hks]; simp; omega⟩
        · have h7 : ¬ ancF a b l[k] = true := by unfold ancF; rw [h6]; decide
          rw [rowD_skip hk h7]
          have hks : kepF l a b (k + 1) = kepF l a b k := by rw [kepF_succ hk, if_neg h7]
          refine ⟨by omega, ?_⟩
          (refine loop_end [] (⟨k + 1, mid ++ [l[k]]⟩) (by simp only [go_sem, Nat.reduceAdd, Nat.reduceMul, Nat.reduceSub, Nat.reduceEqDiff, Nat.reduceDiv, Nat.reduceLT, Nat.reduceLeDiff, reduceCtorEq, decide_true, Int.natCast_add, Int.cast_ofNat_Int, Bool.not_eq_true', Bool.not_eq_false']; rfl) ?_ ?_ ?_; (focus first | omega | (simp only; omega)); (focus (simp only [go_sem, Nat.reduceAdd, Nat.reduceMul, Nat.reduceSub, Nat.reduceEqDiff, Nat.reduceDiv, Nat.reduceLT, Nat.reduceLeDiff, reduceCtorEq, decide_true, Int.natCast_add, Int.cast_ofNat_Int, Bool.not_eq_true', Bool.not_eq_false', hks]; done)))
          exact ⟨by show k + 1 ≤ l.length; omega, by simp, by rw [hks]; simp; omega⟩
      · have ekl : k = l.length := by omega
        have eA : kepF l a b k = anchF l a b := by unfold kepF; rw [ekl, List.take_length]; rfl
        have et : List.take (kepF l a b k).length (rowD l a b ⟨k, mid⟩) = kepF l a b k := by unfold rowD; simp
        (refine swp_lastW ?_; simp only [go_sem, Nat.reduceAdd, Nat.reduceMul, Nat.reduceSub, Nat.reduceEqDiff, Nat.reduceDiv, Nat.reduceLT, Nat.reduceLeDiff, reduceCtorEq, decide_true, Int.natCast_add, Int.cast_ofNat_Int, Bool.not_eq_true', Bool.not_eq_false', List.length_map])
        rw [et]
        refine ⟨by omega, by omega, ?_, ?_⟩
        · simp; omega
        · have e9 : ∀ X Y : List (List PV), List.take (kepF l a b k).length (List.map cFl (kepF l a b k) ++ X ++ Y) = List.map cFl (anchF l a b) := fun X Y => by
            rw [List.append_assoc, ← eA]
            exact List.take_left' (by simp)
          rw [e9]
          (refine ret2 [] (by simp only [go_sem, Nat.reduceAdd, Nat.reduceMul, Nat.reduceSub, Nat.reduceEqDiff, Nat.reduceDiv, Nat.reduceLT, Nat.reduceLeDiff, reduceCtorEq, decide_true, Int.natCast_add, Int.cast_ofNat_Int, Bool.not_eq_true', Bool.not_eq_false']; rfl) ?_; simp only [go_sem, Nat.reduceAdd, Nat.reduceMul, Nat.reduceSub, Nat.reduceEqDiff, Nat.reduceDiv, Nat.reduceLT, Nat.reduceLeDiff, reduceCtorEq, decide_true, Int.natCast_add, Int.cast_ofNat_Int, Bool.not_eq_true', Bool.not_eq_false'])
set_option maxRecDepth 100000 in
theorem anchored_ok (l : List LFl) (a b : Int) (hl : l.length ≤ 1000) : FnOk Try.prog 37 [.sl 7 (l.map cFl), .raw (.int .i64 a), .raw (.int .i64 b)] [] (.hdr 8) [(8, .row 52 7 ((anchF l a b).map cFl))] := by
  refine fn_of_awp Try.func37 rfl (by kernel_rfl) (by kernel_rfl) (Nat.le_of_ble_eq_true rfl) Try.results37 ?_
  simp only [go_sem, Nat.reduceAdd, Nat.reduceMul, Nat.reduceSub, Nat.reduceEqDiff, Nat.reduceDiv, Nat.reduceLT, Nat.reduceLeDiff, reduceCtorEq, decide_true, Int.natCast_add, Int.cast_ofNat_Int, Bool.not_eq_true', Bool.not_eq_false']
  (refine acall2 [] (clone_ok l hl) (by simp only [go_sem, Nat.reduceAdd, Nat.reduceMul, Nat.reduceSub, Nat.reduceEqDiff, Nat.reduceDiv, Nat.reduceLT, Nat.reduceLeDiff, reduceCtorEq, decide_true, Int.natCast_add, Int.cast_ofNat_Int, Bool.not_eq_true', Bool.not_eq_false']; rfl) (fit_of (by simp only [go_sem, Nat.reduceAdd, Nat.reduceMul, Nat.reduceSub, Nat.reduceEqDiff, Nat.reduceDiv, Nat.reduceLT, Nat.reduceLeDiff, reduceCtorEq, decide_true, Int.natCast_add, Int.cast_ofNat_Int, Bool.not_eq_true', Bool.not_eq_false']) (by simp only [go_sem, Nat.reduceAdd, Nat.reduceMul, Nat.reduceSub, Nat.reduceEqDiff, Nat.reduceDiv, Nat.reduceLT, Nat.reduceLeDiff, reduceCtorEq, decide_true, Int.natCast_add, Int.cast_ofNat_Int, Bool.not_eq_true', Bool.not_eq_false']) (by simp only [go_sem, Nat.reduceAdd, Nat.reduceMul, Nat.reduceSub, Nat.reduceEqDiff, Nat.reduceDiv, Nat.reduceLT, Nat.reduceLeDiff, reduceCtorEq, decide_true, Int.natCast_add, Int.cast_ofNat_Int, Bool.not_eq_true', Bool.not_eq_false']) (by simp only [go_sem, Nat.reduceAdd, Nat.reduceMul, Nat.reduceSub, Nat.reduceEqDiff, Nat.reduceDiv, Nat.reduceLT, Nat.reduceLeDiff, reduceCtorEq, decide_true, Int.natCast_add, Int.cast_ofNat_Int, Bool.not_eq_true', Bool.not_eq_false']) (by simp only [go_sem, Nat.reduceAdd, Nat.reduceMul, Nat.reduceSub, Nat.reduceEqDiff, Nat.reduceDiv, Nat.reduceLT, Nat.reduceLeDiff, reduceCtorEq, decide_true, Int.natCast_add, Int.cast_ofNat_Int, Bool.not_eq_true', Bool.not_eq_false']) (by simp only [go_sem, Nat.reduceAdd, Nat.reduceMul, Nat.reduceSub, Nat.reduceEqDiff, Nat.reduceDiv, Nat.reduceLT, Nat.reduceLeDiff, reduceCtorEq, decide_true, Int.natCast_add, Int.cast_ofNat_Int, Bool.not_eq_true', Bool.not_eq_false']) (by simp only [go_sem, Nat.reduceAdd, Nat.reduceMul, Nat.reduceSub, Nat.reduceEqDiff, Nat.reduceDiv, Nat.reduceLT, Nat.reduceLeDiff, reduceCtorEq, decide_true, Int.natCast_add, Int.cast_ofNat_Int, Bool.not_eq_true', Bool.not_eq_false'])) ?_; simp only [go_sem, Nat.reduceAdd, Nat.reduceMul, Nat.reduceSub, Nat.reduceEqDiff, Nat.reduceDiv, Nat.reduceLT, Nat.reduceLeDiff, reduceCtorEq, decide_true, Int.natCast_add, Int.cast_ofNat_Int, Bool.not_eq_true', Bool.not_eq_false'])
  (refine acall2 [] (delete_ok l a b hl) (by simp only [go_sem, Nat.reduceAdd, Nat.reduceMul, Nat.reduceSub, Nat.reduceEqDiff, Nat.reduceDiv, Nat.reduceLT, Nat.reduceLeDiff, reduceCtorEq, decide_true, Int.natCast_add, Int.cast_ofNat_Int, Bool.not_eq_true', Bool.not_eq_false']; rfl) (fit_of (by simp only [go_sem, Nat.reduceAdd, Nat.reduceMul, Nat.reduceSub, Nat.reduceEqDiff, Nat.reduceDiv, Nat.reduceLT, Nat.reduceLeDiff, reduceCtorEq, decide_true, Int.natCast_add, Int.cast_ofNat_Int, Bool.not_eq_true', Bool.not_eq_false']) (by simp only [go_sem, Nat.reduceAdd, Nat.reduceMul, Nat.reduceSub, Nat.reduceEqDiff, Nat.reduceDiv, Nat.reduceLT, Nat.reduceLeDiff, reduceCtorEq, decide_true, Int.natCast_add, Int.cast_ofNat_Int, Bool.not_eq_true', Bool.not_eq_false']) (by simp only [go_sem, Nat.reduceAdd, Nat.reduceMul, Nat.reduceSub, Nat.reduceEqDiff, Nat.reduceDiv, Nat.reduceLT, Nat.reduceLeDiff, reduceCtorEq, decide_true, Int.natCast_add, Int.cast_ofNat_Int, Bool.not_eq_true', Bool.not_eq_false']) (by simp only [go_sem, Nat.reduceAdd, Nat.reduceMul, Nat.reduceSub, Nat.reduceEqDiff, Nat.reduceDiv, Nat.reduceLT, Nat.reduceLeDiff, reduceCtorEq, decide_true, Int.natCast_add, Int.cast_ofNat_Int, Bool.not_eq_true', Bool.not_eq_false']) (by simp only [go_sem, Nat.reduceAdd, Nat.reduceMul, Nat.reduceSub, Nat.reduceEqDiff, Nat.reduceDiv, Nat.reduceLT, Nat.reduceLeDiff, reduceCtorEq, decide_true, Int.natCast_add, Int.cast_ofNat_Int, Bool.not_eq_true', Bool.not_eq_false']) (by simp only [go_sem, Nat.reduceAdd, Nat.reduceMul, Nat.reduceSub, Nat.reduceEqDiff, Nat.reduceDiv, Nat.reduceLT, Nat.reduceLeDiff, reduceCtorEq, decide_true, Int.natCast_add, Int.cast_ofNat_Int, Bool.not_eq_true', Bool.not_eq_false']) (by simp only [go_sem, Nat.reduceAdd, Nat.reduceMul, Nat.reduceSub, Nat.reduceEqDiff, Nat.reduceDiv, Nat.reduceLT, Nat.reduceLeDiff, reduceCtorEq, decide_true, Int.natCast_add, Int.cast_ofNat_Int, Bool.not_eq_true', Bool.not_eq_false'])) ?_; simp only [go_sem, Nat.reduceAdd, Nat.reduceMul, Nat.reduceSub, Nat.reduceEqDiff, Nat.reduceDiv, Nat.reduceLT, Nat.reduceLeDiff, reduceCtorEq, decide_true, Int.natCast_add, Int.cast_ofNat_Int, Bool.not_eq_true', Bool.not_eq_false'])
  (refine ret2 [] (by simp only [go_sem, Nat.reduceAdd, Nat.reduceMul, Nat.reduceSub, Nat.reduceEqDiff, Nat.reduceDiv, Nat.reduceLT, Nat.reduceLeDiff, reduceCtorEq, decide_true, Int.natCast_add, Int.cast_ofNat_Int, Bool.not_eq_true', Bool.not_eq_false']; rfl) ?_; simp only [go_sem, Nat.reduceAdd, Nat.reduceMul, Nat.reduceSub, Nat.reduceEqDiff, Nat.reduceDiv, Nat.reduceLT, Nat.reduceLeDiff, reduceCtorEq, decide_true, Int.natCast_add, Int.cast_ofNat_Int, Bool.not_eq_true', Bool.not_eq_false'])
structure LSt2 where
  s : LSt
def fromS (s : LSt) : Int := if 0 < s.done then s.atom + 1 else s.atom
set_option maxRecDepth 100000 in
theorem called_ok (l : List LFl) (s : LSt) (to : Int) (hl : l.length ≤ 1000) (hs : -9223372036854775808 ≤ s.atom ∧ s.atom < 9223372036854775807) : FnOk Try.prog 62 [.sl 7 (l.map cFl), aSt s, .raw (.int .i64 to)] [] (.hdr 8) [(8, .row 52 7 ((anchF l (fromS s) to).map cFl))] := by
  refine fn_of_awp Try.func62 rfl (by kernel_rfl) (by kernel_rfl) (Nat.le_of_ble_eq_true rfl) Try.results62 ?_
  have h1 : 0 < s.done → fromS s = s.atom + 1 := fun h => if_pos h
  have h2 : ¬ 0 < s.done → fromS s = s.atom := fun h => if_neg h
  simp only [go_sem, Nat.reduceAdd, Nat.reduceMul, Nat.reduceSub, Nat.reduceEqDiff, Nat.reduceDiv, Nat.reduceLT, Nat.reduceLeDiff, reduceCtorEq, decide_true, Int.natCast_add, Int.cast_ofNat_Int, Bool.not_eq_true', Bool.not_eq_false']
  refine ⟨fun h => ⟨by omega, ?_⟩, fun h => ?_⟩
  · rw [h1 h]
    (refine acall2 [] (anchored_ok l (s.atom + 1) to hl) (by simp only [go_sem, Nat.reduceAdd, Nat.reduceMul, Nat.reduceSub, Nat.reduceEqDiff, Nat.reduceDiv, Nat.reduceLT, Nat.reduceLeDiff, reduceCtorEq, decide_true, Int.natCast_add, Int.cast_ofNat_Int, Bool.not_eq_true', Bool.not_eq_false']; rfl) (fit_of (by simp only [go_sem, Nat.reduceAdd, Nat.reduceMul, Nat.reduceSub, Nat.reduceEqDiff, Nat.reduceDiv, Nat.reduceLT, Nat.reduceLeDiff, reduceCtorEq, decide_true, Int.natCast_add, Int.cast_ofNat_Int, Bool.not_eq_true', Bool.not_eq_false']) (by simp only [go_sem, Nat.reduceAdd, Nat.reduceMul, Nat.reduceSub, Nat.reduceEqDiff, Nat.reduceDiv, Nat.reduceLT, Nat.reduceLeDiff, reduceCtorEq, decide_true, Int.natCast_add, Int.cast_ofNat_Int, Bool.not_eq_true', Bool.not_eq_false']) (by simp only [go_sem, Nat.reduceAdd, Nat.reduceMul, Nat.reduceSub, Nat.reduceEqDiff, Nat.reduceDiv, Nat.reduceLT, Nat.reduceLeDiff, reduceCtorEq, decide_true, Int.natCast_add, Int.cast_ofNat_Int, Bool.not_eq_true', Bool.not_eq_false']) (by simp only [go_sem, Nat.reduceAdd, Nat.reduceMul, Nat.reduceSub, Nat.reduceEqDiff, Nat.reduceDiv, Nat.reduceLT, Nat.reduceLeDiff, reduceCtorEq, decide_true, Int.natCast_add, Int.cast_ofNat_Int, Bool.not_eq_true', Bool.not_eq_false']) (by simp only [go_sem, Nat.reduceAdd, Nat.reduceMul, Nat.reduceSub, Nat.reduceEqDiff, Nat.reduceDiv, Nat.reduceLT, Nat.reduceLeDiff, reduceCtorEq, decide_true, Int.natCast_add, Int.cast_ofNat_Int, Bool.not_eq_true', Bool.not_eq_false']) (by simp only [go_sem, Nat.reduceAdd, Nat.reduceMul, Nat.reduceSub, Nat.reduceEqDiff, Nat.reduceDiv, Nat.reduceLT, Nat.reduceLeDiff, reduceCtorEq, decide_true, Int.natCast_add, Int.cast_ofNat_Int, Bool.not_eq_true', Bool.not_eq_false']) (by simp only [go_sem, Nat.reduceAdd, Nat.reduceMul, Nat.reduceSub, Nat.reduceEqDiff, Nat.reduceDiv, Nat.reduceLT, Nat.reduceLeDiff, reduceCtorEq, decide_true, Int.natCast_add, Int.cast_ofNat_Int, Bool.not_eq_true', Bool.not_eq_false'])) ?_; simp only [go_sem, Nat.reduceAdd, Nat.reduceMul, Nat.reduceSub, Nat.reduceEqDiff, Nat.reduceDiv, Nat.reduceLT, Nat.reduceLeDiff, reduceCtorEq, decide_true, Int.natCast_add, Int.cast_ofNat_Int, Bool.not_eq_true', Bool.not_eq_false'])
    (refine ret2 [] (by simp only [go_sem, Nat.reduceAdd, Nat.reduceMul, Nat.reduceSub, Nat.reduceEqDiff, Nat.reduceDiv, Nat.reduceLT, Nat.reduceLeDiff, reduceCtorEq, decide_true, Int.natCast_add, Int.cast_ofNat_Int, Bool.not_eq_true', Bool.not_eq_false']; rfl) ?_; simp only [go_sem, Nat.reduceAdd, Nat.reduceMul, Nat.reduceSub, Nat.reduceEqDiff, Nat.reduceDiv, Nat.reduceLT, Nat.reduceLeDiff, reduceCtorEq, decide_true, Int.natCast_add, Int.cast_ofNat_Int, Bool.not_eq_true', Bool.not_eq_false'])
  · rw [h2 h]
    (refine acall2 [] (anchored_ok l s.atom to hl) (by simp only [go_sem, Nat.reduceAdd, Nat.reduceMul, Nat.reduceSub, Nat.reduceEqDiff, Nat.reduceDiv, Nat.reduceLT, Nat.reduceLeDiff, reduceCtorEq, decide_true, Int.natCast_add, Int.cast_ofNat_Int, Bool.not_eq_true', Bool.not_eq_false']; rfl) (fit_of (by simp only [go_sem, Nat.reduceAdd, Nat.reduceMul, Nat.reduceSub, Nat.reduceEqDiff, Nat.reduceDiv, Nat.reduceLT, Nat.reduceLeDiff, reduceCtorEq, decide_true, Int.natCast_add, Int.cast_ofNat_Int, Bool.not_eq_true', Bool.not_eq_false']) (by simp only [go_sem, Nat.reduceAdd, Nat.reduceMul, Nat.reduceSub, Nat.reduceEqDiff, Nat.reduceDiv, Nat.reduceLT, Nat.reduceLeDiff, reduceCtorEq, decide_true, Int.natCast_add, Int.cast_ofNat_Int, Bool.not_eq_true', Bool.not_eq_false']) (by simp only [go_sem, Nat.reduceAdd, Nat.reduceMul, Nat.reduceSub, Nat.reduceEqDiff, Nat.reduceDiv, Nat.reduceLT, Nat.reduceLeDiff, reduceCtorEq, decide_true, Int.natCast_add, Int.cast_ofNat_Int, Bool.not_eq_true', Bool.not_eq_false']) (by simp only [go_sem, Nat.reduceAdd, Nat.reduceMul, Nat.reduceSub, Nat.reduceEqDiff, Nat.reduceDiv, Nat.reduceLT, Nat.reduceLeDiff, reduceCtorEq, decide_true, Int.natCast_add, Int.cast_ofNat_Int, Bool.not_eq_true', Bool.not_eq_false']) (by simp only [go_sem, Nat.reduceAdd, Nat.reduceMul, Nat.reduceSub, Nat.reduceEqDiff, Nat.reduceDiv, Nat.reduceLT, Nat.reduceLeDiff, reduceCtorEq, decide_true, Int.natCast_add, Int.cast_ofNat_Int, Bool.not_eq_true', Bool.not_eq_false']) (by simp only [go_sem, Nat.reduceAdd, Nat.reduceMul, Nat.reduceSub, Nat.reduceEqDiff, Nat.reduceDiv, Nat.reduceLT, Nat.reduceLeDiff, reduceCtorEq, decide_true, Int.natCast_add, Int.cast_ofNat_Int, Bool.not_eq_true', Bool.not_eq_false']) (by simp only [go_sem, Nat.reduceAdd, Nat.reduceMul, Nat.reduceSub, Nat.reduceEqDiff, Nat.reduceDiv, Nat.reduceLT, Nat.reduceLeDiff, reduceCtorEq, decide_true, Int.natCast_add, Int.cast_ofNat_Int, Bool.not_eq_true', Bool.not_eq_false'])) ?_; simp only [go_sem, Nat.reduceAdd, Nat.reduceMul, Nat.reduceSub, Nat.reduceEqDiff, Nat.reduceDiv, Nat.reduceLT, Nat.reduceLeDiff, reduceCtorEq, decide_true, Int.natCast_add, Int.cast_ofNat_Int, Bool.not_eq_true', Bool.not_eq_false'])
    (refine ret2 [] (by simp only [go_sem, Nat.reduceAdd, Nat.reduceMul, Nat.reduceSub, Nat.reduceEqDiff, Nat.reduceDiv, Nat.reduceLT, Nat.reduceLeDiff, reduceCtorEq, decide_true, Int.natCast_add, Int.cast_ofNat_Int, Bool.not_eq_true', Bool.not_eq_false']; rfl) ?_; simp only [go_sem, Nat.reduceAdd, Nat.reduceMul, Nat.reduceSub, Nat.reduceEqDiff, Nat.reduceDiv, Nat.reduceLT, Nat.reduceLeDiff, reduceCtorEq, decide_true, Int.natCast_add, Int.cast_ofNat_Int, Bool.not_eq_true', Bool.not_eq_false'])
end Go.Proofs.Ytmgckellncfjpaa
