/- CHAPTER 23: the document's answer. -/
/- G -/
import Derived.Test.YtmgckellncfjpaaGDelE
/- BOOLS -/
/- GET ex_atA ex_atA' -/
set_option linter.unusedSimpArgs false
set_option linter.unusedVariables false
namespace Go.Proofs.Ytmgckellncfjpaa
open Go.RowKit

theorem fold_later {body : Int} {mv : LFl → LFl} : ∀ (r : List LFl) (put later : List LFl), 0 < later.length → r.foldl (fun z f => takeS body z f (mv f)) ⟨put, later⟩ = ⟨put, later ++ r⟩
  | [], put, later, _ => by simp
  | f :: r, put, later, h => by
    have e : takeS body ⟨put, later⟩ f (mv f) = ⟨put, later ++ [f]⟩ := if_pos (.inl h)
    rw [List.foldl_cons, e, fold_later r put (later ++ [f]) (by simp)]
    simp
theorem foldS_stop {body : Int} {mv : LFl → LFl} {l : List LFl} {k : Nat} {put : List LFl} (hk : k < l.length) (h : foldS body mv (l.take k) = ⟨put, []⟩) (hs : body < (mv l[k]).y + (mv l[k]).h) : foldS body mv l = ⟨put, l.drop k⟩ := by
  have e : takeS body ⟨put, []⟩ l[k] (mv l[k]) = ⟨put, [l[k]]⟩ := if_pos (.inr hs)
  have e1 : l = l.take k ++ (l[k] :: l.drop (k + 1)) := by rw [← List.drop_eq_getElem_cons hk, List.take_append_drop]
  have e2 : foldS body mv l = (l[k] :: l.drop (k + 1)).foldl (fun z f => takeS body z f (mv f)) (foldS body mv (l.take k)) := by
    have := List.foldl_append (f := fun z f => takeS body z f (mv f)) (b := (⟨[], []⟩ : LSo)) (l := l.take k) (l' := l[k] :: l.drop (k + 1))
    rw [← e1] at this
    exact this
  rw [e2, h, List.foldl_cons, e, fold_later _ _ _ (by simp), List.drop_eq_getElem_cons hk]
  rfl
theorem foldS_go {body : Int} {mv : LFl → LFl} {l : List LFl} {k : Nat} {put : List LFl} (hk : k < l.length) (h : foldS body mv (l.take k) = ⟨put, []⟩) (hs : ¬ body < (mv l[k]).y + (mv l[k]).h) : foldS body mv (l.take (k + 1)) = ⟨put ++ [mv l[k]], []⟩ := by
  rw [foldS_succ hk, h]
  exact if_neg (fun q => q.elim (fun w => absurd w (Nat.lt_irrefl 0)) hs)
structure LHe where
  k : Nat
  put : List LFl
set_option maxRecDepth 100000 in
set_option maxHeartbeats 4000000 in
theorem rhere_ok (l : List LAt) (fl : List LFl) (s : LSt) (to kept shift body : Int) (h : HereOk l fl s kept shift body) : FnOk Try.prog 34 [.sl 8 (l.map cAt), .sl 7 (fl.map cFl), aSt s, .raw (.int .i64 to), .raw (.int .i64 kept), .raw (.int .i64 shift), .raw (.int .i64 body)] [] (.tup [.hdr 8, .sl 7 ((hereR l fl s to kept shift body).later.map cFl)]) [(8, .row 52 7 ((hereR l fl s to kept shift body).put.map cFl))] := by
  refine fn_of_awp Try.func34 rfl (by kernel_rfl) (by kernel_rfl) (Nat.le_of_ble_eq_true rfl) Try.results34 ?_
  simp only [go_sem, Nat.reduceAdd, Nat.reduceMul, Nat.reduceSub, Nat.reduceEqDiff, Nat.reduceDiv, Nat.reduceLT, Nat.reduceLeDiff, reduceCtorEq, decide_true, Int.natCast_add, Int.cast_ofNat_Int, Bool.not_eq_true', Bool.not_eq_false']
  (refine acall2 [] (rmay_ok l s) (by simp only [go_sem, Nat.reduceAdd, Nat.reduceMul, Nat.reduceSub, Nat.reduceEqDiff, Nat.reduceDiv, Nat.reduceLT, Nat.reduceLeDiff, reduceCtorEq, decide_true, Int.natCast_add, Int.cast_ofNat_Int, Bool.not_eq_true', Bool.not_eq_false']; rfl) (fit_of (by simp only [go_sem, Nat.reduceAdd, Nat.reduceMul, Nat.reduceSub, Nat.reduceEqDiff, Nat.reduceDiv, Nat.reduceLT, Nat.reduceLeDiff, reduceCtorEq, decide_true, Int.natCast_add, Int.cast_ofNat_Int, Bool.not_eq_true', Bool.not_eq_false']) (by simp only [go_sem, Nat.reduceAdd, Nat.reduceMul, Nat.reduceSub, Nat.reduceEqDiff, Nat.reduceDiv, Nat.reduceLT, Nat.reduceLeDiff, reduceCtorEq, decide_true, Int.natCast_add, Int.cast_ofNat_Int, Bool.not_eq_true', Bool.not_eq_false']) (by simp only [go_sem, Nat.reduceAdd, Nat.reduceMul, Nat.reduceSub, Nat.reduceEqDiff, Nat.reduceDiv, Nat.reduceLT, Nat.reduceLeDiff, reduceCtorEq, decide_true, Int.natCast_add, Int.cast_ofNat_Int, Bool.not_eq_true', Bool.not_eq_false']) (by simp only [go_sem, Nat.reduceAdd, Nat.reduceMul, Nat.reduceSub, Nat.reduceEqDiff, Nat.reduceDiv, Nat.reduceLT, Nat.reduceLeDiff, reduceCtorEq, decide_true, Int.natCast_add, Int.cast_ofNat_Int, Bool.not_eq_true', Bool.not_eq_false']) (by simp only [go_sem, Nat.reduceAdd, Nat.reduceMul, Nat.reduceSub, Nat.reduceEqDiff, Nat.reduceDiv, Nat.reduceLT, Nat.reduceLeDiff, reduceCtorEq, decide_true, Int.natCast_add, Int.cast_ofNat_Int, Bool.not_eq_true', Bool.not_eq_false']) (by simp only [go_sem, Nat.reduceAdd, Nat.reduceMul, Nat.reduceSub, Nat.reduceEqDiff, Nat.reduceDiv, Nat.reduceLT, Nat.reduceLeDiff, reduceCtorEq, decide_true, Int.natCast_add, Int.cast_ofNat_Int, Bool.not_eq_true', Bool.not_eq_false']) (by simp only [go_sem, Nat.reduceAdd, Nat.reduceMul, Nat.reduceSub, Nat.reduceEqDiff, Nat.reduceDiv, Nat.reduceLT, Nat.reduceLeDiff, reduceCtorEq, decide_true, Int.natCast_add, Int.cast_ofNat_Int, Bool.not_eq_true', Bool.not_eq_false'])) ?_; simp only [go_sem, Nat.reduceAdd, Nat.reduceMul, Nat.reduceSub, Nat.reduceEqDiff, Nat.reduceDiv, Nat.reduceLT, Nat.reduceLeDiff, reduceCtorEq, decide_true, Int.natCast_add, Int.cast_ofNat_Int, Bool.not_eq_true', Bool.not_eq_false'])
  refine ⟨fun hm => ?_, fun hm => ?_⟩
  · have e : hereR l fl s to kept shift body = ⟨[], []⟩ := if_neg hm
    rw [e]
    (refine ret2 [72] (by simp only [go_sem, Nat.reduceAdd, Nat.reduceMul, Nat.reduceSub, Nat.reduceEqDiff, Nat.reduceDiv, Nat.reduceLT, Nat.reduceLeDiff, reduceCtorEq, decide_true, Int.natCast_add, Int.cast_ofNat_Int, Bool.not_eq_true', Bool.not_eq_false']; rfl) ?_; simp only [go_sem, Nat.reduceAdd, Nat.reduceMul, Nat.reduceSub, Nat.reduceEqDiff, Nat.reduceDiv, Nat.reduceLT, Nat.reduceLeDiff, reduceCtorEq, decide_true, Int.natCast_add, Int.cast_ofNat_Int, Bool.not_eq_true', Bool.not_eq_false'])
  · have e : hereR l fl s to kept shift body = foldS body (movF l s kept shift) (anchF fl (fromS s) to) := if_pos hm
    have hal := anch_len fl (fromS s) to
    have haf := anch_all (a := fromS s) (b := to) h.fn
    have hat := h.ln s.atom hm.1.1 hm.1.2
    have hd := h.d
    have hk := h.k
    have hsh := h.sh
    have hbd := h.b
    have hfl := h.fll
    have hll := h.ll
    have hdn := hm.2.1
    rw [e]
    (refine acall2 [] (rcalled_ok fl s to (by omega) (by omega) (by omega)) (by simp only [go_sem, Nat.reduceAdd, Nat.reduceMul, Nat.reduceSub, Nat.reduceEqDiff, Nat.reduceDiv, Nat.reduceLT, Nat.reduceLeDiff, reduceCtorEq, decide_true, Int.natCast_add, Int.cast_ofNat_Int, Bool.not_eq_true', Bool.not_eq_false']; rfl) (fit_of (by simp only [go_sem, Nat.reduceAdd, Nat.reduceMul, Nat.reduceSub, Nat.reduceEqDiff, Nat.reduceDiv, Nat.reduceLT, Nat.reduceLeDiff, reduceCtorEq, decide_true, Int.natCast_add, Int.cast_ofNat_Int, Bool.not_eq_true', Bool.not_eq_false']) (by simp only [go_sem, Nat.reduceAdd, Nat.reduceMul, Nat.reduceSub, Nat.reduceEqDiff, Nat.reduceDiv, Nat.reduceLT, Nat.reduceLeDiff, reduceCtorEq, decide_true, Int.natCast_add, Int.cast_ofNat_Int, Bool.not_eq_true', Bool.not_eq_false']) (by simp only [go_sem, Nat.reduceAdd, Nat.reduceMul, Nat.reduceSub, Nat.reduceEqDiff, Nat.reduceDiv, Nat.reduceLT, Nat.reduceLeDiff, reduceCtorEq, decide_true, Int.natCast_add, Int.cast_ofNat_Int, Bool.not_eq_true', Bool.not_eq_false']) (by simp only [go_sem, Nat.reduceAdd, Nat.reduceMul, Nat.reduceSub, Nat.reduceEqDiff, Nat.reduceDiv, Nat.reduceLT, Nat.reduceLeDiff, reduceCtorEq, decide_true, Int.natCast_add, Int.cast_ofNat_Int, Bool.not_eq_true', Bool.not_eq_false']) (by simp only [go_sem, Nat.reduceAdd, Nat.reduceMul, Nat.reduceSub, Nat.reduceEqDiff, Nat.reduceDiv, Nat.reduceLT, Nat.reduceLeDiff, reduceCtorEq, decide_true, Int.natCast_add, Int.cast_ofNat_Int, Bool.not_eq_true', Bool.not_eq_false']) (by simp only [go_sem, Nat.reduceAdd, Nat.reduceMul, Nat.reduceSub, Nat.reduceEqDiff, Nat.reduceDiv, Nat.reduceLT, Nat.reduceLeDiff, reduceCtorEq, decide_true, Int.natCast_add, Int.cast_ofNat_Int, Bool.not_eq_true', Bool.not_eq_false']) (by simp only [go_sem, Nat.reduceAdd, Nat.reduceMul, Nat.reduceSub, Nat.reduceEqDiff, Nat.reduceDiv, Nat.reduceLT, Nat.reduceLeDiff, reduceCtorEq, decide_true, Int.natCast_add, Int.cast_ofNat_Int, Bool.not_eq_true', Bool.not_eq_false'])) ?_; simp only [go_sem, Nat.reduceAdd, Nat.reduceMul, Nat.reduceSub, Nat.reduceEqDiff, Nat.reduceDiv, Nat.reduceLT, Nat.reduceLeDiff, reduceCtorEq, decide_true, Int.natCast_add, Int.cast_ofNat_Int, Bool.not_eq_true', Bool.not_eq_false'])
    generalize anchF fl (fromS s) to = al at hal haf
    refine aloop2 [88 ]  (fun z : LHe => ⟨[(0, .sl 8 (l.map cAt)), (4, .raw (.int .i64 kept)), (5, .raw (.int .i64 shift)), (6, .raw (.int .i64 body)), (9, .hdr 8), (16, .sl 7 (al.map cFl)), (17, .hdr 104), (18, .raw (.int .i64 z.k))], [(8, some (.cells 24 [.raw (.int .i64 s.atom), .raw (.int .i64 s.done), .raw (.bool s.free)])), (104, some (.row 52 7 (z.put.map cFl)))], none⟩) (fun z => z.k ≤ al.length ∧ z.put.length ≤ z.k ∧ foldS body (movF l s kept shift) (al.take z.k) = ⟨z.put, []⟩) (fun z => al.length - z.k) 30 ⟨0, []⟩ (by simp only [go_sem, Nat.reduceAdd, Nat.reduceMul, Nat.reduceSub, Nat.reduceEqDiff, Nat.reduceDiv, Nat.reduceLT, Nat.reduceLeDiff, reduceCtorEq, decide_true, Int.natCast_add, Int.cast_ofNat_Int, Bool.not_eq_true', Bool.not_eq_false']; rfl) (by simp only [go_sem, Nat.reduceAdd, Nat.reduceMul, Nat.reduceSub, Nat.reduceEqDiff, Nat.reduceDiv, Nat.reduceLT, Nat.reduceLeDiff, reduceCtorEq, decide_true, Int.natCast_add, Int.cast_ofNat_Int, Bool.not_eq_true', Bool.not_eq_false']) ?_ ?_
    · exact ⟨Nat.zero_le _, Nat.le_refl _, rfl⟩
    · rintro ⟨k, put⟩ ⟨hkl, hpl, hz⟩
      simp only at hkl hpl hz
      simp only [go_sem, Nat.reduceAdd, Nat.reduceMul, Nat.reduceSub, Nat.reduceEqDiff, Nat.reduceDiv, Nat.reduceLT, Nat.reduceLeDiff, reduceCtorEq, decide_true, Int.natCast_add, Int.cast_ofNat_Int, Bool.not_eq_true', Bool.not_eq_false', List.length_map]
      refine ⟨fun h5 => ?_, fun h5 => ?_⟩
      · have hk' : k < al.length := by omega
        have hf := nearF_iff.1 (List.all_eq_true.1 haf al[k] (List.getElem_mem _))
        have hst := fun q => foldS_stop (body := body) (mv := movF l s kept shift) hk' hz q
        have hgo := fun q => foldS_go (body := body) (mv := movF l s kept shift) hk' hz q
        simp only [movF] at hst hgo
        refine ⟨by omega, ex_get hk' ?_⟩
        generalize al[k] = f at hf hst hgo
        repeat' first | contradiction | intro _ | refine And.intro ?_ ?_ | refine ex_atA (by omega) ?_ | refine ex_atA' (by omega) ?_ | refine ex_get (by omega) ?_ | (show drawB _ _ = true; kernel_rfl) | (refine ret2 [] (by simp only [go_sem, Nat.reduceAdd, Nat.reduceMul, Nat.reduceSub, Nat.reduceEqDiff, Nat.reduceDiv, Nat.reduceLT, Nat.reduceLeDiff, reduceCtorEq, decide_true, Int.natCast_add, Int.cast_ofNat_Int, Bool.not_eq_true', Bool.not_eq_false', List.length_map]; rfl) ?_; simp only [go_sem, Nat.reduceAdd, Nat.reduceMul, Nat.reduceSub, Nat.reduceEqDiff, Nat.reduceDiv, Nat.reduceLT, Nat.reduceLeDiff, reduceCtorEq, decide_true, Int.natCast_add, Int.cast_ofNat_Int, Bool.not_eq_true', Bool.not_eq_false', List.length_map])
        all_goals first
          | omega
          | (rw [hst (by omega)]; done)
          | (rw [hst (by omega), List.take_of_length_le (by simp)]; done)
          | (have e0 : max 0 (f.y - ((atA l s.atom).y + s.done - kept)) = 0 := by omega
             have e9 := hgo (by omega)
             rw [e0] at e9
             (refine loop_end [] (⟨k + 1, put ++ [⟨f.node, f.side, f.anchor, f.x, 0 + shift, f.w, f.h⟩]⟩) (by simp only [go_sem, Nat.reduceAdd, Nat.reduceMul, Nat.reduceSub, Nat.reduceEqDiff, Nat.reduceDiv, Nat.reduceLT, Nat.reduceLeDiff, reduceCtorEq, decide_true, Int.natCast_add, Int.cast_ofNat_Int, Bool.not_eq_true', Bool.not_eq_false']; rfl) ?_ ?_ ?_; (focus first | omega | (simp only; omega)); (focus (simp only [go_sem, Nat.reduceAdd, Nat.reduceMul, Nat.reduceSub, Nat.reduceEqDiff, Nat.reduceDiv, Nat.reduceLT, Nat.reduceLeDiff, reduceCtorEq, decide_true, Int.natCast_add, Int.cast_ofNat_Int, Bool.not_eq_true', Bool.not_eq_false', List.map_append]; done)))
             exact ⟨by show k + 1 ≤ al.length; omega, by simp; omega, e9⟩)
          | (have e0 : max 0 (f.y - ((atA l s.atom).y + s.done - kept)) = f.y - (atA l s.atom).y - s.done + kept := by omega
             have e9 := hgo (by omega)
             rw [e0] at e9
             (refine loop_end [] (⟨k + 1, put ++ [⟨f.node, f.side, f.anchor, f.x, f.y - (atA l s.atom).y - s.done + kept + shift, f.w, f.h⟩]⟩) (by simp only [go_sem, Nat.reduceAdd, Nat.reduceMul, Nat.reduceSub, Nat.reduceEqDiff, Nat.reduceDiv, Nat.reduceLT, Nat.reduceLeDiff, reduceCtorEq, decide_true, Int.natCast_add, Int.cast_ofNat_Int, Bool.not_eq_true', Bool.not_eq_false']; rfl) ?_ ?_ ?_; (focus first | omega | (simp only; omega)); (focus (simp only [go_sem, Nat.reduceAdd, Nat.reduceMul, Nat.reduceSub, Nat.reduceEqDiff, Nat.reduceDiv, Nat.reduceLT, Nat.reduceLeDiff, reduceCtorEq, decide_true, Int.natCast_add, Int.cast_ofNat_Int, Bool.not_eq_true', Bool.not_eq_false', List.map_append]; done)))
             exact ⟨by show k + 1 ≤ al.length; omega, by simp; omega, e9⟩)
      · rw [List.take_of_length_le (by omega)] at hz
        rw [hz]
        (refine ret2 [288] (by simp only [go_sem, Nat.reduceAdd, Nat.reduceMul, Nat.reduceSub, Nat.reduceEqDiff, Nat.reduceDiv, Nat.reduceLT, Nat.reduceLeDiff, reduceCtorEq, decide_true, Int.natCast_add, Int.cast_ofNat_Int, Bool.not_eq_true', Bool.not_eq_false']; rfl) ?_; simp only [go_sem, Nat.reduceAdd, Nat.reduceMul, Nat.reduceSub, Nat.reduceEqDiff, Nat.reduceDiv, Nat.reduceLT, Nat.reduceLeDiff, reduceCtorEq, decide_true, Int.natCast_add, Int.cast_ofNat_Int, Bool.not_eq_true', Bool.not_eq_false'])
end Go.Proofs.Ytmgckellncfjpaa
