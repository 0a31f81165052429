/- CHAPTER 08: tree: Holds, Kids. -/
/- G -/
import Derived.Test.YtiidfcadmdahmaaGTreB
/- BOOLS -/
set_option linter.unusedSimpArgs false
set_option linter.unusedVariables false
namespace Go.Proofs.Ytiidfcadmdahmaa
open Go.RowKit

def holN (l : List LNo) (a b : Int) : Bool := hasN l a && hasN l b && decide (a ≤ b) && decide (b < a + sizN l a.toNat)
theorem docN_eq {l : List LNo} {a : Int} (h : hasN (docN l) a = true) : docN l = l ∧ 0 ≤ a ∧ a < l.length := by
  unfold docN at h ⊢
  split at h
  · next q =>
    simp only [hasN, Bool.and_eq_true, decide_eq_true_eq] at h
    rw [if_pos q]
    exact ⟨rfl, h⟩
  · simp only [hasN, Bool.and_eq_true, decide_eq_true_eq, List.length_nil] at h
    omega
set_option maxRecDepth 100000 in
set_option maxHeartbeats 4000000 in
theorem holds8_ok (l : List LNo) (a b : Int) (hl : l.length ≤ 1000) (hw : ∀ x ∈ l, x.words.length ≤ 9223372036854775807) : FnOk Try.prog 17 [.sl 20 (l.map cNo), .raw (.int .i64 a), .raw (.int .i64 b)] [] (.raw (.bool (holN (docN l) a b))) [] := by
  have hz := docN_sizes l
  have hq : ∀ a, hasN (docN l) a = true → docN l = l ∧ 0 ≤ a ∧ a < l.length := fun a h => docN_eq h
  refine fn_of_awp Try.func17 rfl (by kernel_rfl) (by kernel_rfl) (Nat.le_of_ble_eq_true rfl) Try.results17 ?_
  simp only [go_sem, Nat.reduceAdd, Nat.reduceMul, Nat.reduceSub, Nat.reduceEqDiff, Nat.reduceDiv, Nat.reduceLT, Nat.reduceLeDiff, reduceCtorEq, decide_true, Int.natCast_add, Int.cast_ofNat_Int, Bool.not_eq_true', Bool.not_eq_false']
  (refine acall2 [] (of8_ok l hl hw) (by simp only [go_sem, Nat.reduceAdd, Nat.reduceMul, Nat.reduceSub, Nat.reduceEqDiff, Nat.reduceDiv, Nat.reduceLT, Nat.reduceLeDiff, reduceCtorEq, decide_true, Int.natCast_add, Int.cast_ofNat_Int, Bool.not_eq_true', Bool.not_eq_false']; rfl) (fit_of (by simp only [go_sem, Nat.reduceAdd, Nat.reduceMul, Nat.reduceSub, Nat.reduceEqDiff, Nat.reduceDiv, Nat.reduceLT, Nat.reduceLeDiff, reduceCtorEq, decide_true, Int.natCast_add, Int.cast_ofNat_Int, Bool.not_eq_true', Bool.not_eq_false']) (by simp only [go_sem, Nat.reduceAdd, Nat.reduceMul, Nat.reduceSub, Nat.reduceEqDiff, Nat.reduceDiv, Nat.reduceLT, Nat.reduceLeDiff, reduceCtorEq, decide_true, Int.natCast_add, Int.cast_ofNat_Int, Bool.not_eq_true', Bool.not_eq_false']) (by simp only [go_sem, Nat.reduceAdd, Nat.reduceMul, Nat.reduceSub, Nat.reduceEqDiff, Nat.reduceDiv, Nat.reduceLT, Nat.reduceLeDiff, reduceCtorEq, decide_true, Int.natCast_add, Int.cast_ofNat_Int, Bool.not_eq_true', Bool.not_eq_false']) (by simp only [go_sem, Nat.reduceAdd, Nat.reduceMul, Nat.reduceSub, Nat.reduceEqDiff, Nat.reduceDiv, Nat.reduceLT, Nat.reduceLeDiff, reduceCtorEq, decide_true, Int.natCast_add, Int.cast_ofNat_Int, Bool.not_eq_true', Bool.not_eq_false']) (by simp only [go_sem, Nat.reduceAdd, Nat.reduceMul, Nat.reduceSub, Nat.reduceEqDiff, Nat.reduceDiv, Nat.reduceLT, Nat.reduceLeDiff, reduceCtorEq, decide_true, Int.natCast_add, Int.cast_ofNat_Int, Bool.not_eq_true', Bool.not_eq_false']) (by simp only [go_sem, Nat.reduceAdd, Nat.reduceMul, Nat.reduceSub, Nat.reduceEqDiff, Nat.reduceDiv, Nat.reduceLT, Nat.reduceLeDiff, reduceCtorEq, decide_true, Int.natCast_add, Int.cast_ofNat_Int, Bool.not_eq_true', Bool.not_eq_false']) (by simp only [go_sem, Nat.reduceAdd, Nat.reduceMul, Nat.reduceSub, Nat.reduceEqDiff, Nat.reduceDiv, Nat.reduceLT, Nat.reduceLeDiff, reduceCtorEq, decide_true, Int.natCast_add, Int.cast_ofNat_Int, Bool.not_eq_true', Bool.not_eq_false'])) ?_; simp only [go_sem, Nat.reduceAdd, Nat.reduceMul, Nat.reduceSub, Nat.reduceEqDiff, Nat.reduceDiv, Nat.reduceLT, Nat.reduceLeDiff, reduceCtorEq, decide_true, Int.natCast_add, Int.cast_ofNat_Int, Bool.not_eq_true', Bool.not_eq_false'])
  generalize docN l = d at hz hq
  (refine acall2 [] (has8_ok d a) (by simp only [go_sem, Nat.reduceAdd, Nat.reduceMul, Nat.reduceSub, Nat.reduceEqDiff, Nat.reduceDiv, Nat.reduceLT, Nat.reduceLeDiff, reduceCtorEq, decide_true, Int.natCast_add, Int.cast_ofNat_Int, Bool.not_eq_true', Bool.not_eq_false']; rfl) (fit_of (by simp only [go_sem, Nat.reduceAdd, Nat.reduceMul, Nat.reduceSub, Nat.reduceEqDiff, Nat.reduceDiv, Nat.reduceLT, Nat.reduceLeDiff, reduceCtorEq, decide_true, Int.natCast_add, Int.cast_ofNat_Int, Bool.not_eq_true', Bool.not_eq_false']) (by simp only [go_sem, Nat.reduceAdd, Nat.reduceMul, Nat.reduceSub, Nat.reduceEqDiff, Nat.reduceDiv, Nat.reduceLT, Nat.reduceLeDiff, reduceCtorEq, decide_true, Int.natCast_add, Int.cast_ofNat_Int, Bool.not_eq_true', Bool.not_eq_false']) (by simp only [go_sem, Nat.reduceAdd, Nat.reduceMul, Nat.reduceSub, Nat.reduceEqDiff, Nat.reduceDiv, Nat.reduceLT, Nat.reduceLeDiff, reduceCtorEq, decide_true, Int.natCast_add, Int.cast_ofNat_Int, Bool.not_eq_true', Bool.not_eq_false']) (by simp only [go_sem, Nat.reduceAdd, Nat.reduceMul, Nat.reduceSub, Nat.reduceEqDiff, Nat.reduceDiv, Nat.reduceLT, Nat.reduceLeDiff, reduceCtorEq, decide_true, Int.natCast_add, Int.cast_ofNat_Int, Bool.not_eq_true', Bool.not_eq_false']) (by simp only [go_sem, Nat.reduceAdd, Nat.reduceMul, Nat.reduceSub, Nat.reduceEqDiff, Nat.reduceDiv, Nat.reduceLT, Nat.reduceLeDiff, reduceCtorEq, decide_true, Int.natCast_add, Int.cast_ofNat_Int, Bool.not_eq_true', Bool.not_eq_false']) (by simp only [go_sem, Nat.reduceAdd, Nat.reduceMul, Nat.reduceSub, Nat.reduceEqDiff, Nat.reduceDiv, Nat.reduceLT, Nat.reduceLeDiff, reduceCtorEq, decide_true, Int.natCast_add, Int.cast_ofNat_Int, Bool.not_eq_true', Bool.not_eq_false']) (by simp only [go_sem, Nat.reduceAdd, Nat.reduceMul, Nat.reduceSub, Nat.reduceEqDiff, Nat.reduceDiv, Nat.reduceLT, Nat.reduceLeDiff, reduceCtorEq, decide_true, Int.natCast_add, Int.cast_ofNat_Int, Bool.not_eq_true', Bool.not_eq_false'])) ?_; simp only [go_sem, Nat.reduceAdd, Nat.reduceMul, Nat.reduceSub, Nat.reduceEqDiff, Nat.reduceDiv, Nat.reduceLT, Nat.reduceLeDiff, reduceCtorEq, decide_true, Int.natCast_add, Int.cast_ofNat_Int, Bool.not_eq_true', Bool.not_eq_false', List.length_map])
  refine ⟨fun h1 => ?_, fun h1 => ?_⟩
  · (refine acall2 [] (has8_ok d b) (by simp only [go_sem, Nat.reduceAdd, Nat.reduceMul, Nat.reduceSub, Nat.reduceEqDiff, Nat.reduceDiv, Nat.reduceLT, Nat.reduceLeDiff, reduceCtorEq, decide_true, Int.natCast_add, Int.cast_ofNat_Int, Bool.not_eq_true', Bool.not_eq_false']; rfl) (fit_of (by simp only [go_sem, Nat.reduceAdd, Nat.reduceMul, Nat.reduceSub, Nat.reduceEqDiff, Nat.reduceDiv, Nat.reduceLT, Nat.reduceLeDiff, reduceCtorEq, decide_true, Int.natCast_add, Int.cast_ofNat_Int, Bool.not_eq_true', Bool.not_eq_false']) (by simp only [go_sem, Nat.reduceAdd, Nat.reduceMul, Nat.reduceSub, Nat.reduceEqDiff, Nat.reduceDiv, Nat.reduceLT, Nat.reduceLeDiff, reduceCtorEq, decide_true, Int.natCast_add, Int.cast_ofNat_Int, Bool.not_eq_true', Bool.not_eq_false']) (by simp only [go_sem, Nat.reduceAdd, Nat.reduceMul, Nat.reduceSub, Nat.reduceEqDiff, Nat.reduceDiv, Nat.reduceLT, Nat.reduceLeDiff, reduceCtorEq, decide_true, Int.natCast_add, Int.cast_ofNat_Int, Bool.not_eq_true', Bool.not_eq_false']) (by simp only [go_sem, Nat.reduceAdd, Nat.reduceMul, Nat.reduceSub, Nat.reduceEqDiff, Nat.reduceDiv, Nat.reduceLT, Nat.reduceLeDiff, reduceCtorEq, decide_true, Int.natCast_add, Int.cast_ofNat_Int, Bool.not_eq_true', Bool.not_eq_false']) (by simp only [go_sem, Nat.reduceAdd, Nat.reduceMul, Nat.reduceSub, Nat.reduceEqDiff, Nat.reduceDiv, Nat.reduceLT, Nat.reduceLeDiff, reduceCtorEq, decide_true, Int.natCast_add, Int.cast_ofNat_Int, Bool.not_eq_true', Bool.not_eq_false']) (by simp only [go_sem, Nat.reduceAdd, Nat.reduceMul, Nat.reduceSub, Nat.reduceEqDiff, Nat.reduceDiv, Nat.reduceLT, Nat.reduceLeDiff, reduceCtorEq, decide_true, Int.natCast_add, Int.cast_ofNat_Int, Bool.not_eq_true', Bool.not_eq_false']) (by simp only [go_sem, Nat.reduceAdd, Nat.reduceMul, Nat.reduceSub, Nat.reduceEqDiff, Nat.reduceDiv, Nat.reduceLT, Nat.reduceLeDiff, reduceCtorEq, decide_true, Int.natCast_add, Int.cast_ofNat_Int, Bool.not_eq_true', Bool.not_eq_false'])) ?_; simp only [go_sem, Nat.reduceAdd, Nat.reduceMul, Nat.reduceSub, Nat.reduceEqDiff, Nat.reduceDiv, Nat.reduceLT, Nat.reduceLeDiff, reduceCtorEq, decide_true, Int.natCast_add, Int.cast_ofNat_Int, Bool.not_eq_true', Bool.not_eq_false', List.length_map])
    obtain ⟨e, k1, k2⟩ := hq a h1
    subst e
    obtain ⟨n, rfl⟩ : ∃ n : Nat, a = n := ⟨a.toNat, by omega⟩
    have hn : n < d.length := by omega
    have hs := hz d[n] (List.getElem_mem hn)
    refine ⟨fun h2 => ⟨fun h3 => ⟨⟨k1, k2⟩, d[n], List.getElem?_eq_getElem hn, by omega, ?_⟩, fun h3 => ?_⟩, fun h2 => ?_⟩
    · simp [holN, h1, h2, h3, sizN_get hn]
    · simp [holN, h3]
    · simp [holN, h2]
  · simp [holN, h1]
theorem isG_ends (N : Int) : ∀ (l : List LNo) (i : Nat) (st : List Int), isG l i st = true → 1 ≤ st.length → (∀ e ∈ st, e ≤ N) → ∀ k (hk : k < l.length), i + k + l[k].size ≤ N
  | [], _, _, _, _, _, k, hk => absurd hk (Nat.not_lt_zero _)
  | y :: l, i, st, h, h1, h2, k, hk => by
    rw [isG] at h
    simp only [Bool.and_eq_true, Bool.not_eq_true', Bool.and_eq_false_iff, decide_eq_true_eq, decide_eq_false_iff_not] at h
    obtain ⟨⟨⟨⟨u1, u2⟩, u3⟩, u4⟩, u5⟩ := h
    have hp := popS_sub i st.length st
    have ht := h2 _ (hp.1 _ (topI_mem (hp.2.2 h1)))
    cases k with
    | zero => show (i : Int) + (0 : Nat) + y.size ≤ N; omega
    | succ k =>
      have := isG_ends N l (i + 1) _ u5 (by simp) (fun e he => by
        rcases List.mem_append.1 he with h | h
        · exact h2 _ (hp.1 _ h)
        · simp only [List.mem_singleton] at h; omega) k (by simp only [List.length_cons] at hk; omega)
      simp only [List.getElem_cons_succ]
      omega
theorem docN_ends (l : List LNo) : ∀ k (hk : k < (docN l).length), k + (docN l)[k].size ≤ (docN l).length := by
  by_cases h : isS l = true
  · have e : docN l = l := by simp [docN, h]
    rw [e]
    intro k hk
    have := isG_ends l.length l 0 _ h (Nat.le_refl _) (fun e he => by simp at he; omega) k hk
    omega
  · have e : docN l = [] := by simp [docN, h]
    rw [e]
    intro k hk
    exact absurd hk (Nat.not_lt_zero _)
def kidS (l : List LNo) (e : Int) : Nat → Nat → List Int
  | 0, _ => []
  | f + 1, k => if (k : Int) < e then (k : Int) :: kidS l e f (k + (sizN l k).toNat) else []
def kidN (l : List LNo) (a : Int) : List Int :=
  if a = -1 then kidS l l.length l.length 0
  else if hasN l a = true then kidS l (a + sizN l a.toNat) l.length (a.toNat + 1) else []
theorem docN_or (l : List LNo) : docN l = l ∨ docN l = [] := by
  unfold docN
  split
  · exact Or.inl rfl
  · exact Or.inr rfl
structure LKd where
  e : Int
  k : Nat
  acc : List Int
set_option maxRecDepth 100000 in
set_option maxHeartbeats 4000000 in
theorem kids8_ok (l : List LNo) (a : Int) (hl : l.length ≤ 1000) (hw : ∀ x ∈ l, x.words.length ≤ 9223372036854775807) : FnOk Try.prog 16 [.sl 20 (l.map cNo), .raw (.int .i64 a)] [] (.hdr 8) [(8, .row 3 1 ((kidN (docN l) a).map cInt))] := by
  have hz := docN_sizes l
  have hn := docN_ends l
  have hd := docN_len l
  have hq : ∀ a, hasN (docN l) a = true → docN l = l ∧ 0 ≤ a ∧ a < l.length := fun a h => docN_eq h
  refine fn_of_swp Try.func16 rfl (by kernel_rfl) (by kernel_rfl) (Nat.le_of_ble_eq_true rfl) Try.results16 ?_
  (refine swp_seqW ?_; simp only [go_sem, Nat.reduceAdd, Nat.reduceMul, Nat.reduceSub, Nat.reduceEqDiff, Nat.reduceDiv, Nat.reduceLT, Nat.reduceLeDiff, reduceCtorEq, decide_true, Int.natCast_add, Int.cast_ofNat_Int, Bool.not_eq_true', Bool.not_eq_false'])
  (refine swp_seqW ?_; simp only [go_sem, Nat.reduceAdd, Nat.reduceMul, Nat.reduceSub, Nat.reduceEqDiff, Nat.reduceDiv, Nat.reduceLT, Nat.reduceLeDiff, reduceCtorEq, decide_true, Int.natCast_add, Int.cast_ofNat_Int, Bool.not_eq_true', Bool.not_eq_false'])
  (refine acall2 [] (of8_ok l hl hw) (by simp only [go_sem, Nat.reduceAdd, Nat.reduceMul, Nat.reduceSub, Nat.reduceEqDiff, Nat.reduceDiv, Nat.reduceLT, Nat.reduceLeDiff, reduceCtorEq, decide_true, Int.natCast_add, Int.cast_ofNat_Int, Bool.not_eq_true', Bool.not_eq_false']; rfl) (fit_of (by simp only [go_sem, Nat.reduceAdd, Nat.reduceMul, Nat.reduceSub, Nat.reduceEqDiff, Nat.reduceDiv, Nat.reduceLT, Nat.reduceLeDiff, reduceCtorEq, decide_true, Int.natCast_add, Int.cast_ofNat_Int, Bool.not_eq_true', Bool.not_eq_false']) (by simp only [go_sem, Nat.reduceAdd, Nat.reduceMul, Nat.reduceSub, Nat.reduceEqDiff, Nat.reduceDiv, Nat.reduceLT, Nat.reduceLeDiff, reduceCtorEq, decide_true, Int.natCast_add, Int.cast_ofNat_Int, Bool.not_eq_true', Bool.not_eq_false']) (by simp only [go_sem, Nat.reduceAdd, Nat.reduceMul, Nat.reduceSub, Nat.reduceEqDiff, Nat.reduceDiv, Nat.reduceLT, Nat.reduceLeDiff, reduceCtorEq, decide_true, Int.natCast_add, Int.cast_ofNat_Int, Bool.not_eq_true', Bool.not_eq_false']) (by simp only [go_sem, Nat.reduceAdd, Nat.reduceMul, Nat.reduceSub, Nat.reduceEqDiff, Nat.reduceDiv, Nat.reduceLT, Nat.reduceLeDiff, reduceCtorEq, decide_true, Int.natCast_add, Int.cast_ofNat_Int, Bool.not_eq_true', Bool.not_eq_false']) (by simp only [go_sem, Nat.reduceAdd, Nat.reduceMul, Nat.reduceSub, Nat.reduceEqDiff, Nat.reduceDiv, Nat.reduceLT, Nat.reduceLeDiff, reduceCtorEq, decide_true, Int.natCast_add, Int.cast_ofNat_Int, Bool.not_eq_true', Bool.not_eq_false']) (by simp only [go_sem, Nat.reduceAdd, Nat.reduceMul, Nat.reduceSub, Nat.reduceEqDiff, Nat.reduceDiv, Nat.reduceLT, Nat.reduceLeDiff, reduceCtorEq, decide_true, Int.natCast_add, Int.cast_ofNat_Int, Bool.not_eq_true', Bool.not_eq_false']) (by simp only [go_sem, Nat.reduceAdd, Nat.reduceMul, Nat.reduceSub, Nat.reduceEqDiff, Nat.reduceDiv, Nat.reduceLT, Nat.reduceLeDiff, reduceCtorEq, decide_true, Int.natCast_add, Int.cast_ofNat_Int, Bool.not_eq_true', Bool.not_eq_false'])) ?_; simp only [go_sem, Nat.reduceAdd, Nat.reduceMul, Nat.reduceSub, Nat.reduceEqDiff, Nat.reduceDiv, Nat.reduceLT, Nat.reduceLeDiff, reduceCtorEq, decide_true, Int.natCast_add, Int.cast_ofNat_Int, Bool.not_eq_true', Bool.not_eq_false'])
  have ho := docN_or l
  generalize docN l = d at hz hn hd hq ho
  (refine swp_seqW ?_; simp only [go_sem, Nat.reduceAdd, Nat.reduceMul, Nat.reduceSub, Nat.reduceEqDiff, Nat.reduceDiv, Nat.reduceLT, Nat.reduceLeDiff, reduceCtorEq, decide_true, Int.natCast_add, Int.cast_ofNat_Int, Bool.not_eq_true', Bool.not_eq_false', List.length_map])
  refine ⟨(by show drawB _ _ = true; kernel_rfl), ?_⟩
  refine swp_cutS (fun z : LKd => ⟨[(0, .sl 20 (l.map cNo)), (6, .raw (.int .i64 z.k)), (7, .raw (.int .i64 z.e))], [], none⟩) (fun z => (∃ f, kidS d z.e f z.k = kidN d a ∧ z.e ≤ f + z.k) ∧ z.e ≤ d.length ∧ z.k ≤ d.length) 4 ?_ ?_
  · (refine swp_lastW ?_; simp only [go_sem, Nat.reduceAdd, Nat.reduceMul, Nat.reduceSub, Nat.reduceEqDiff, Nat.reduceDiv, Nat.reduceLT, Nat.reduceLeDiff, reduceCtorEq, decide_true, Int.natCast_add, Int.cast_ofNat_Int, Bool.not_eq_true', Bool.not_eq_false', List.length_map])
    refine ⟨fun h1 => ?_, fun h1 => ?_⟩
    · (refine acall2 [] (has8_ok d a) (by simp only [go_sem, Nat.reduceAdd, Nat.reduceMul, Nat.reduceSub, Nat.reduceEqDiff, Nat.reduceDiv, Nat.reduceLT, Nat.reduceLeDiff, reduceCtorEq, decide_true, Int.natCast_add, Int.cast_ofNat_Int, Bool.not_eq_true', Bool.not_eq_false']; rfl) (fit_of (by simp only [go_sem, Nat.reduceAdd, Nat.reduceMul, Nat.reduceSub, Nat.reduceEqDiff, Nat.reduceDiv, Nat.reduceLT, Nat.reduceLeDiff, reduceCtorEq, decide_true, Int.natCast_add, Int.cast_ofNat_Int, Bool.not_eq_true', Bool.not_eq_false']) (by simp only [go_sem, Nat.reduceAdd, Nat.reduceMul, Nat.reduceSub, Nat.reduceEqDiff, Nat.reduceDiv, Nat.reduceLT, Nat.reduceLeDiff, reduceCtorEq, decide_true, Int.natCast_add, Int.cast_ofNat_Int, Bool.not_eq_true', Bool.not_eq_false']) (by simp only [go_sem, Nat.reduceAdd, Nat.reduceMul, Nat.reduceSub, Nat.reduceEqDiff, Nat.reduceDiv, Nat.reduceLT, Nat.reduceLeDiff, reduceCtorEq, decide_true, Int.natCast_add, Int.cast_ofNat_Int, Bool.not_eq_true', Bool.not_eq_false']) (by simp only [go_sem, Nat.reduceAdd, Nat.reduceMul, Nat.reduceSub, Nat.reduceEqDiff, Nat.reduceDiv, Nat.reduceLT, Nat.reduceLeDiff, reduceCtorEq, decide_true, Int.natCast_add, Int.cast_ofNat_Int, Bool.not_eq_true', Bool.not_eq_false']) (by simp only [go_sem, Nat.reduceAdd, Nat.reduceMul, Nat.reduceSub, Nat.reduceEqDiff, Nat.reduceDiv, Nat.reduceLT, Nat.reduceLeDiff, reduceCtorEq, decide_true, Int.natCast_add, Int.cast_ofNat_Int, Bool.not_eq_true', Bool.not_eq_false']) (by simp only [go_sem, Nat.reduceAdd, Nat.reduceMul, Nat.reduceSub, Nat.reduceEqDiff, Nat.reduceDiv, Nat.reduceLT, Nat.reduceLeDiff, reduceCtorEq, decide_true, Int.natCast_add, Int.cast_ofNat_Int, Bool.not_eq_true', Bool.not_eq_false']) (by simp only [go_sem, Nat.reduceAdd, Nat.reduceMul, Nat.reduceSub, Nat.reduceEqDiff, Nat.reduceDiv, Nat.reduceLT, Nat.reduceLeDiff, reduceCtorEq, decide_true, Int.natCast_add, Int.cast_ofNat_Int, Bool.not_eq_true', Bool.not_eq_false'])) ?_; simp only [go_sem, Nat.reduceAdd, Nat.reduceMul, Nat.reduceSub, Nat.reduceEqDiff, Nat.reduceDiv, Nat.reduceLT, Nat.reduceLeDiff, reduceCtorEq, decide_true, Int.natCast_add, Int.cast_ofNat_Int, Bool.not_eq_true', Bool.not_eq_false', List.length_map])
      refine ⟨fun h2 => ?_, fun h2 => ?_⟩
      · have e : kidN d a = [] := by simp [kidN, h1, h2]
        rw [e]
        (refine ret2 [] (by simp only [go_sem, Nat.reduceAdd, Nat.reduceMul, Nat.reduceSub, Nat.reduceEqDiff, Nat.reduceDiv, Nat.reduceLT, Nat.reduceLeDiff, reduceCtorEq, decide_true, Int.natCast_add, Int.cast_ofNat_Int, Bool.not_eq_true', Bool.not_eq_false', List.map]; rfl) ?_; simp only [go_sem, Nat.reduceAdd, Nat.reduceMul, Nat.reduceSub, Nat.reduceEqDiff, Nat.reduceDiv, Nat.reduceLT, Nat.reduceLeDiff, reduceCtorEq, decide_true, Int.natCast_add, Int.cast_ofNat_Int, Bool.not_eq_true', Bool.not_eq_false', List.map])
      · obtain ⟨e, k1, k2⟩ := hq a h2
        subst e
        obtain ⟨n, rfl⟩ : ∃ n : Nat, a = n := ⟨a.toNat, by omega⟩
        have hn1 : n < d.length := by omega
        have hs := hz d[n] (List.getElem_mem hn1)
        have he := hn n hn1
        refine ⟨by omega, ⟨k1, k2⟩, d[n], List.getElem?_eq_getElem hn1, by omega, (by show drawB _ _ = true; kernel_rfl), ?_⟩
        (refine cut_end [] (⟨(n : Int) + d[n].size, n + 1, []⟩) (by simp only [go_sem, Nat.reduceAdd, Nat.reduceMul, Nat.reduceSub, Nat.reduceEqDiff, Nat.reduceDiv, Nat.reduceLT, Nat.reduceLeDiff, reduceCtorEq, decide_true, Int.natCast_add, Int.cast_ofNat_Int, Bool.not_eq_true', Bool.not_eq_false']; rfl) ?_ ?_; (focus (simp only [go_sem, Nat.reduceAdd, Nat.reduceMul, Nat.reduceSub, Nat.reduceEqDiff, Nat.reduceDiv, Nat.reduceLT, Nat.reduceLeDiff, reduceCtorEq, decide_true, Int.natCast_add, Int.cast_ofNat_Int, Bool.not_eq_true', Bool.not_eq_false']; done)))
        refine ⟨⟨d.length, ?_, ?_⟩, he, hn1⟩
        · simp [kidN, h1, h2, sizN_get hn1]
        · simp only; omega
    · (refine cut_end [] (⟨d.length, 0, []⟩) (by simp only [go_sem, Nat.reduceAdd, Nat.reduceMul, Nat.reduceSub, Nat.reduceEqDiff, Nat.reduceDiv, Nat.reduceLT, Nat.reduceLeDiff, reduceCtorEq, decide_true, Int.natCast_add, Int.cast_ofNat_Int, Bool.not_eq_true', Bool.not_eq_false']; rfl) ?_ ?_; (focus (simp only [go_sem, Nat.reduceAdd, Nat.reduceMul, Nat.reduceSub, Nat.reduceEqDiff, Nat.reduceDiv, Nat.reduceLT, Nat.reduceLeDiff, reduceCtorEq, decide_true, Int.natCast_add, Int.cast_ofNat_Int, Bool.not_eq_true', Bool.not_eq_false']; done)))
      refine ⟨⟨d.length, ?_, ?_⟩, ?_, ?_⟩
      · simp [kidN, h1]
      · simp
      · simp
      · simp
  rintro ⟨e, k, acc⟩ ⟨⟨f, q1, q2⟩, q3, q6⟩
  simp only at q1 q2 q3 q6
  (refine swp_seqW ?_; simp only [go_sem, Nat.reduceAdd, Nat.reduceMul, Nat.reduceSub, Nat.reduceEqDiff, Nat.reduceDiv, Nat.reduceLT, Nat.reduceLeDiff, reduceCtorEq, decide_true, Int.natCast_add, Int.cast_ofNat_Int, Bool.not_eq_true', Bool.not_eq_false'])
  refine swp_cutS (fun _ : Unit => ⟨[(8, .hdr 8)], [(8, some (.row 3 1 ((kidN d a).map cInt)))], none⟩) (fun _ => True) 4 ?_ ?_
  · refine swp_block ?_
    refine swp_loop2 [] (fun z : LKd => ⟨[(0, .sl 20 (l.map cNo)), (6, .raw (.int .i64 z.k)), (7, .raw (.int .i64 e)), (8, .hdr 8)], [(8, some (.row 3 1 (z.acc.map cInt)))], none⟩) (fun z => (∃ f, z.acc ++ kidS d e f z.k = kidN d a ∧ e ≤ f + z.k) ∧ z.acc.length ≤ z.k ∧ z.k ≤ d.length) (fun z => d.length - z.k) 40 ⟨0, k, []⟩ (by simp only [go_sem, Nat.reduceAdd, Nat.reduceMul, Nat.reduceSub, Nat.reduceEqDiff, Nat.reduceDiv, Nat.reduceLT, Nat.reduceLeDiff, reduceCtorEq, decide_true, Int.natCast_add, Int.cast_ofNat_Int, Bool.not_eq_true', Bool.not_eq_false']; rfl) (by simp only [go_sem, Nat.reduceAdd, Nat.reduceMul, Nat.reduceSub, Nat.reduceEqDiff, Nat.reduceDiv, Nat.reduceLT, Nat.reduceLeDiff, reduceCtorEq, decide_true, Int.natCast_add, Int.cast_ofNat_Int, Bool.not_eq_true', Bool.not_eq_false']) ?_ ?_
    · exact ⟨⟨f, q1, q2⟩, Nat.zero_le _, q6⟩
    · rintro ⟨e0, k, acc⟩ ⟨⟨f, q1, q2⟩, q4, q5⟩
      simp only at q1 q2 q4 q5
      (refine swp_lastW ?_; simp only [go_sem, Nat.reduceAdd, Nat.reduceMul, Nat.reduceSub, Nat.reduceEqDiff, Nat.reduceDiv, Nat.reduceLT, Nat.reduceLeDiff, reduceCtorEq, decide_true, Int.natCast_add, Int.cast_ofNat_Int, Bool.not_eq_true', Bool.not_eq_false', List.length_map])
      refine ⟨fun h1 => ?_, fun h1 => ?_⟩
      · have hk : k < d.length := by omega
        have hdl : d = l := by
          rcases ho with h | h
          · exact h
          · rw [h] at hk; exact absurd hk (Nat.not_lt_zero _)
        subst hdl
        have hs := hz d[k] (List.getElem_mem hk)
        have he := hn k hk
        have hsz := sizN_get hk
        obtain ⟨f, rfl⟩ : ∃ g, f = g + 1 := ⟨f - 1, by omega⟩
        rw [kidS, if_pos h1, hsz] at q1
        refine ⟨⟨by omega, by omega⟩, ⟨by omega, by omega⟩, d[k], List.getElem?_eq_getElem hk, by omega, (by show drawB _ _ = true; kernel_rfl), ?_⟩
        obtain ⟨m, hm⟩ : ∃ m : Nat, d[k].size = m := ⟨d[k].size.toNat, by omega⟩
        rw [hm] at hs he q1 ⊢
        simp only [Int.toNat_natCast] at q1
        have e2 : (acc ++ [(k : Int)]).length = acc.length + 1 := by simp
        (refine loop_end [] (⟨0, k + m, acc ++ [(k : Int)]⟩) (by simp only [go_sem, Nat.reduceAdd, Nat.reduceMul, Nat.reduceSub, Nat.reduceEqDiff, Nat.reduceDiv, Nat.reduceLT, Nat.reduceLeDiff, reduceCtorEq, decide_true, Int.natCast_add, Int.cast_ofNat_Int, Bool.not_eq_true', Bool.not_eq_false']; rfl) ?_ ?_ ?_; (focus first | omega | (simp only; omega)); (focus (simp only [go_sem, Nat.reduceAdd, Nat.reduceMul, Nat.reduceSub, Nat.reduceEqDiff, Nat.reduceDiv, Nat.reduceLT, Nat.reduceLeDiff, reduceCtorEq, decide_true, Int.natCast_add, Int.cast_ofNat_Int, Bool.not_eq_true', Bool.not_eq_false', List.map_append]; done)))
        exact ⟨⟨f, by rw [← q1]; simp, by simp only; omega⟩, by simp only; omega, by simp only; omega⟩
      · have e3 : acc = kidN d a := by
          rw [← q1]
          cases f with
          | zero => simp [kidS]
          | succ f => rw [kidS, if_neg h1]; simp
        rw [e3]
        (refine cut_end [] (()) (by simp only [go_sem, Nat.reduceAdd, Nat.reduceMul, Nat.reduceSub, Nat.reduceEqDiff, Nat.reduceDiv, Nat.reduceLT, Nat.reduceLeDiff, reduceCtorEq, decide_true, Int.natCast_add, Int.cast_ofNat_Int, Bool.not_eq_true', Bool.not_eq_false']; rfl) ?_ ?_; (focus (simp only [go_sem, Nat.reduceAdd, Nat.reduceMul, Nat.reduceSub, Nat.reduceEqDiff, Nat.reduceDiv, Nat.reduceLT, Nat.reduceLeDiff, reduceCtorEq, decide_true, Int.natCast_add, Int.cast_ofNat_Int, Bool.not_eq_true', Bool.not_eq_false']; done)))
        trivial
  rintro - -
  (refine swp_lastW ?_; simp only [go_sem, Nat.reduceAdd, Nat.reduceMul, Nat.reduceSub, Nat.reduceEqDiff, Nat.reduceDiv, Nat.reduceLT, Nat.reduceLeDiff, reduceCtorEq, decide_true, Int.natCast_add, Int.cast_ofNat_Int, Bool.not_eq_true', Bool.not_eq_false'])
  (refine ret2 [] (by simp only [go_sem, Nat.reduceAdd, Nat.reduceMul, Nat.reduceSub, Nat.reduceEqDiff, Nat.reduceDiv, Nat.reduceLT, Nat.reduceLeDiff, reduceCtorEq, decide_true, Int.natCast_add, Int.cast_ofNat_Int, Bool.not_eq_true', Bool.not_eq_false']; rfl) ?_; simp only [go_sem, Nat.reduceAdd, Nat.reduceMul, Nat.reduceSub, Nat.reduceEqDiff, Nat.reduceDiv, Nat.reduceLT, Nat.reduceLeDiff, reduceCtorEq, decide_true, Int.natCast_add, Int.cast_ofNat_Int, Bool.not_eq_true', Bool.not_eq_false'])
end Go.Proofs.Ytiidfcadmdahmaa
