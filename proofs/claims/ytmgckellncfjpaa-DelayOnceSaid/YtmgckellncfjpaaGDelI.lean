/- CHAPTER 23: what is put, what is left: outright. -/
/- G -/
import Derived.Test.YtmgckellncfjpaaGDelH
/- BOOLS -/
set_option linter.unusedSimpArgs false
set_option linter.unusedVariables false
namespace Go.Proofs.Ytmgckellncfjpaa
open Go.RowKit

structure MovP (a b : List LFl) : Prop where
  le : a.length ≤ b.length
  at_ : ∀ i (h1 : i < a.length) (h2 : i < b.length), a[i].h ≤ b[i].h ∧ a[i].node = b[i].node ∧ a[i].side = b[i].side ∧ a[i].anchor = b[i].anchor ∧ a[i].x = b[i].x ∧ a[i].w = b[i].w
set_option maxRecDepth 100000 in
set_option maxHeartbeats 4000000 in
theorem moved_ok (a b : List LFl) (hb : b.length ≤ 1000) (h : MovP a b) : FnOk Try.prog 36 [.sl 7 (a.map cFl), .sl 7 (b.map cFl)] [] (.raw (.bool true)) [] := by
  refine fn_of_awp Try.func36 rfl (by kernel_rfl) (by kernel_rfl) (Nat.le_of_ble_eq_true rfl) Try.results36 ?_
  have hle := h.le
  simp only [go_sem, Nat.reduceAdd, Nat.reduceMul, Nat.reduceSub, Nat.reduceEqDiff, Nat.reduceDiv, Nat.reduceLT, Nat.reduceLeDiff, reduceCtorEq, decide_true, Int.natCast_add, Int.cast_ofNat_Int, Bool.not_eq_true', Bool.not_eq_false', List.length_map]
  refine ⟨fun h1 => by omega, fun h1 => ?_⟩
  refine aloop2 [] (fun k : Nat => ⟨[(0, .sl 7 (a.map cFl)), (1, .sl 7 (b.map cFl)), (5, .raw (.int .i64 k))], [], none⟩) (fun k => k ≤ a.length) (fun k => a.length - k) 4 0 (by simp only [go_sem, Nat.reduceAdd, Nat.reduceMul, Nat.reduceSub, Nat.reduceEqDiff, Nat.reduceDiv, Nat.reduceLT, Nat.reduceLeDiff, reduceCtorEq, decide_true, Int.natCast_add, Int.cast_ofNat_Int, Bool.not_eq_true', Bool.not_eq_false']; rfl) (by simp only [go_sem, Nat.reduceAdd, Nat.reduceMul, Nat.reduceSub, Nat.reduceEqDiff, Nat.reduceDiv, Nat.reduceLT, Nat.reduceLeDiff, reduceCtorEq, decide_true, Int.natCast_add, Int.cast_ofNat_Int, Bool.not_eq_true', Bool.not_eq_false']) ?_ ?_
  · exact Nat.zero_le _
  · intro k hk
    simp only [go_sem, Nat.reduceAdd, Nat.reduceMul, Nat.reduceSub, Nat.reduceEqDiff, Nat.reduceDiv, Nat.reduceLT, Nat.reduceLeDiff, reduceCtorEq, decide_true, Int.natCast_add, Int.cast_ofNat_Int, Bool.not_eq_true', Bool.not_eq_false', List.length_map]
    intro h5
    have ka : k < a.length := by omega
    have kb : k < b.length := by omega
    obtain ⟨q1, q2, q3, q4, q5, q6⟩ := h.at_ k ka kb
    refine ⟨by omega, ex_get ka ⟨by omega, ex_get kb ?_⟩⟩
    generalize a[k] = x at q1 q2 q3 q4 q5 q6
    generalize b[k] = y at q1 q2 q3 q4 q5 q6
    repeat' first | contradiction | intro _ | refine And.intro ?_ ?_ | refine ex_get (by omega) ?_ | (show drawB _ _ = true; kernel_rfl) | (refine ret2 [] (by simp only [go_sem, Nat.reduceAdd, Nat.reduceMul, Nat.reduceSub, Nat.reduceEqDiff, Nat.reduceDiv, Nat.reduceLT, Nat.reduceLeDiff, reduceCtorEq, decide_true, Int.natCast_add, Int.cast_ofNat_Int, Bool.not_eq_true', Bool.not_eq_false']; rfl) ?_; simp only [go_sem, Nat.reduceAdd, Nat.reduceMul, Nat.reduceSub, Nat.reduceEqDiff, Nat.reduceDiv, Nat.reduceLT, Nat.reduceLeDiff, reduceCtorEq, decide_true, Int.natCast_add, Int.cast_ofNat_Int, Bool.not_eq_true', Bool.not_eq_false'])
    all_goals first
      | omega
      | ((refine loop_end [] (k + 1) (by simp only [go_sem, Nat.reduceAdd, Nat.reduceMul, Nat.reduceSub, Nat.reduceEqDiff, Nat.reduceDiv, Nat.reduceLT, Nat.reduceLeDiff, reduceCtorEq, decide_true, Int.natCast_add, Int.cast_ofNat_Int, Bool.not_eq_true', Bool.not_eq_false']; rfl) ?_ ?_ ?_; (focus first | omega | (simp only; omega)); (focus (simp only [go_sem, Nat.reduceAdd, Nat.reduceMul, Nat.reduceSub, Nat.reduceEqDiff, Nat.reduceDiv, Nat.reduceLT, Nat.reduceLeDiff, reduceCtorEq, decide_true, Int.natCast_add, Int.cast_ofNat_Int, Bool.not_eq_true', Bool.not_eq_false']; done)))
         omega)
      | (simp_all; done)
/-- how low the next one stands. -/
def lowS (body : Int) : Int → List LFl → Nat → Int
  | sh, _, 0 => sh
  | sh, [], _ + 1 => sh
  | sh, f :: r, k + 1 => lowS body (sh + min f.h body) r k
theorem lowS_succ (body : Int) : ∀ (l : List LFl) (sh : Int) (i : Nat) (h : i < l.length), lowS body sh l (i + 1) = lowS body sh l i + min l[i].h body
  | [], _, i, h => by simp at h
  | f :: r, sh, 0, _ => by simp [lowS]
  | f :: r, sh, i + 1, h => by
    have := lowS_succ body r (sh + min f.h body) i (by simpa using h)
    simp only [lowS, List.getElem_cons_succ]
    exact this
structure TopIs (body sh : Int) (l : List LFl) (T : LTop) : Prop where
  le : T.put.length ≤ l.length
  left : T.left = l.drop T.put.length
  at_ : ∀ i (h1 : i < T.put.length) (h2 : i < l.length), T.put[i] = ⟨l[i].node, l[i].side, l[i].anchor, l[i].x, lowS body sh l i, l[i].w, min l[i].h body⟩
  eq : T.sh = lowS body sh l T.put.length
  hi : sh ≤ body → T.sh ≤ body
theorem top_is (body : Int) : ∀ (l : List LFl) (sh : Int), TopIs body sh l (topS body sh l)
  | [], sh => ⟨Nat.le_refl _, rfl, fun i h1 => by simp [topS] at h1, rfl, fun h => h⟩
  | f :: r, sh => by
    rw [topS]
    split
    · next hs => exact ⟨Nat.zero_le _, rfl, fun i h1 => by simp at h1, rfl, fun h => h⟩
    · next hs =>
      have ih := top_is body r (sh + min f.h body)
      refine ⟨by simp; exact ih.le, by simp; exact ih.left, fun i h1 h2 => ?_, by simp only [List.length_cons, lowS]; exact ih.eq, fun h => ih.hi (by omega)⟩
      cases i with
      | zero => rfl
      | succ i =>
        simp only [List.getElem_cons_succ, lowS]
        exact ih.at_ i (by simpa using h1) (by simpa using h2)
theorem top_first {body : Int} {l : List LFl} (h0 : 0 < l.length) : 0 < (topS body 0 l).put.length := by
  cases l with
  | nil => simp at h0
  | cons f r =>
    rw [topS, if_neg (by omega)]
    simp
structure FoldIs (body : Int) (mv : LFl → LFl) (l : List LFl) (k m : Nat) (z : LSo) : Prop where
  le : m ≤ k
  put : z.put = (l.take m).map mv
  later : z.later = (l.take k).drop m
  fit : ∀ i (h : i < l.length), i < m → ¬ body < (mv l[i]).y + (mv l[i]).h
theorem fold_is (body : Int) (mv : LFl → LFl) (l : List LFl) : ∀ k, k ≤ l.length → ∃ m, FoldIs body mv l k m (foldS body mv (l.take k))
  | 0, _ => ⟨0, Nat.le_refl _, rfl, rfl, fun i _ h => absurd h (Nat.not_lt_zero i)⟩
  | k + 1, hk => by
    obtain ⟨m, h1, h2, h3, h4⟩ := fold_is body mv l k (by omega)
    have hkl : k < l.length := by omega
    rw [foldS_succ hkl]
    have hlen : (foldS body mv (l.take k)).later.length = k - m := by rw [h3]; simp; omega
    by_cases hm : m = k
    · subst hm
      by_cases hf : body < (mv l[m]).y + (mv l[m]).h
      · refine ⟨m, by omega, ?_, ?_, h4⟩
        · rw [takeS, if_pos (.inr hf)]; exact h2
        · rw [takeS, if_pos (.inr hf)]
          show _ ++ [l[m]] = _
          have : (foldS body mv (l.take m)).later = [] := List.eq_nil_of_length_eq_zero (by omega)
          rw [this, List.take_succ_eq_append_getElem hkl, List.drop_append_of_le_length (by simp; omega), List.drop_of_length_le (by simp; omega)]
      · have hno : ¬ (0 < (foldS body mv (l.take m)).later.length ∨ body < (mv l[m]).y + (mv l[m]).h) := fun q => q.elim (fun w => by omega) hf
        refine ⟨m + 1, Nat.le_refl _, ?_, ?_, fun i hi him => ?_⟩
        · rw [takeS, if_neg hno]
          show _ ++ [mv l[m]] = _
          rw [h2, List.take_succ_eq_append_getElem hkl, List.map_append]
          rfl
        · rw [takeS, if_neg hno]
          show (foldS body mv (l.take m)).later = _
          have : (foldS body mv (l.take m)).later = [] := List.eq_nil_of_length_eq_zero (by omega)
          rw [this]
          simp
        · rcases Nat.lt_succ_iff_lt_or_eq.1 him with q | q
          · exact h4 i hi q
          · subst q; exact hf
    · have hy : 0 < (foldS body mv (l.take k)).later.length ∨ body < (mv l[k]).y + (mv l[k]).h := .inl (by omega)
      refine ⟨m, by omega, ?_, ?_, h4⟩
      · rw [takeS, if_pos hy]; exact h2
      · rw [takeS, if_pos hy]
        show (foldS body mv (l.take k)).later ++ [l[k]] = _
        rw [h3, List.take_succ_eq_append_getElem hkl, List.drop_append_of_le_length (by simp; omega)]
end Go.Proofs.Ytmgckellncfjpaa
