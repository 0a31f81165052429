/- CHAPTER 23: what goes to a page's top. -/
/- G -/
import Derived.Test.YtmgckellncfjpaaGDelB
/- BOOLS -/
set_option linter.unusedSimpArgs false
set_option linter.unusedVariables false
namespace Go.Proofs.Ytmgckellncfjpaa
open Go.RowKit

structure LTop where
  put : List LFl
  left : List LFl
  sh : Int
def topS (body : Int) : Int → List LFl → LTop
  | sh, [] => ⟨[], [], sh⟩
  | sh, f :: r => if body < sh + min f.h body then ⟨[], f :: r, sh⟩ else
    let t := topS body (sh + min f.h body) r
    ⟨⟨f.node, f.side, f.anchor, f.x, sh, f.w, min f.h body⟩ :: t.put, t.left, t.sh⟩
structure LTo where
  k : Nat
  put : List LFl
  sh : Int
structure TopInv (l : List LFl) (body : Int) (z : LTo) : Prop where
  le : z.k ≤ l.length
  len : z.put.length ≤ z.k
  lo : -(1125899906842624 * (z.k : Int)) ≤ z.sh
  hi : z.sh ≤ 1125899906842624 * (z.k : Int)
  put : (topS body 0 l).put = z.put ++ (topS body z.sh (l.drop z.k)).put
  left : (topS body 0 l).left = (topS body z.sh (l.drop z.k)).left
  sh : (topS body 0 l).sh = (topS body z.sh (l.drop z.k)).sh
theorem TopInv.next {l : List LFl} {body : Int} {k : Nat} {put : List LFl} {sh : Int} (h : TopInv l body ⟨k, put, sh⟩) (hk : k < l.length) (hf : (-1125899906842624 ≤ l[k].h ∧ l[k].h ≤ 1125899906842624) ∧ -1125899906842624 ≤ body ∧ body ≤ 1125899906842624) (hn : ¬ body < sh + min l[k].h body) :
    TopInv l body ⟨k + 1, put ++ [⟨l[k].node, l[k].side, l[k].anchor, l[k].x, sh, l[k].w, min l[k].h body⟩], sh + min l[k].h body⟩ := by
  obtain ⟨h1, h2, h3, h4, h5, h6, h7⟩ := h
  simp only at h1 h2 h3 h4 h5 h6 h7
  have e : topS body sh (l.drop k) = ⟨⟨l[k].node, l[k].side, l[k].anchor, l[k].x, sh, l[k].w, min l[k].h body⟩ :: (topS body (sh + min l[k].h body) (l.drop (k + 1))).put, (topS body (sh + min l[k].h body) (l.drop (k + 1))).left, (topS body (sh + min l[k].h body) (l.drop (k + 1))).sh⟩ := by
    rw [List.drop_eq_getElem_cons hk, topS, if_neg hn]
  rw [e] at h5 h6 h7
  refine ⟨hk, by simp; omega, ?_, ?_, by rw [h5]; simp, h6, h7⟩
  · simp only; omega
  · simp only; omega
theorem TopInv.stop {l : List LFl} {body : Int} {k : Nat} {put : List LFl} {sh : Int} (h : TopInv l body ⟨k, put, sh⟩) (hk : k < l.length) (hn : body < sh + min l[k].h body) : (topS body 0 l).put = put ∧ (topS body 0 l).left = l.drop k ∧ (topS body 0 l).sh = sh := by
  obtain ⟨h1, h2, h3, h4, h5, h6, h7⟩ := h
  simp only at h5 h6 h7
  have e : topS body sh (l.drop k) = ⟨[], l[k] :: l.drop (k + 1), sh⟩ := by
    rw [List.drop_eq_getElem_cons hk, topS, if_pos hn]
  rw [e] at h5 h6 h7
  exact ⟨by rw [h5]; simp, by rw [h6, List.drop_eq_getElem_cons hk], h7⟩
theorem TopInv.end_ {l : List LFl} {body : Int} {k : Nat} {put : List LFl} {sh : Int} (h : TopInv l body ⟨k, put, sh⟩) (hk : ¬ (k : Int) < l.length) : (topS body 0 l).put = put ∧ (topS body 0 l).left = [] ∧ (topS body 0 l).sh = sh := by
  obtain ⟨h1, h2, h3, h4, h5, h6, h7⟩ := h
  simp only at h1 h5 h6 h7
  have e : topS body sh (l.drop k) = ⟨[], [], sh⟩ := by
    rw [List.drop_eq_nil_of_le (by omega), topS]
  rw [e] at h5 h6 h7
  exact ⟨by rw [h5]; simp, h6, h7⟩
theorem TopInv.first (l : List LFl) (body : Int) : TopInv l body ⟨0, [], 0⟩ := ⟨Nat.zero_le _, Nat.le_refl _, by simp, by simp, rfl, rfl, rfl⟩
set_option maxRecDepth 100000 in
set_option maxHeartbeats 4000000 in
theorem top_ok (l : List LFl) (body : Int) (hl : l.length ≤ 100) (hn : l.all nearF = true) (hb : -1125899906842624 ≤ body ∧ body ≤ 1125899906842624) : FnOk Try.prog 31 [.sl 7 (l.map cFl), .raw (.int .i64 body)] [] (.tup [.hdr 8, .hdr 9, .raw (.int .i64 (topS body 0 l).sh)]) [(8, .row 52 7 ((topS body 0 l).put.map cFl)), (9, .row 52 7 ((topS body 0 l).left.map cFl))] := by
  refine fn_of_awp Try.func31 rfl (by kernel_rfl) (by kernel_rfl) (Nat.le_of_ble_eq_true rfl) Try.results31 ?_
  simp only [go_sem, Nat.reduceAdd, Nat.reduceMul, Nat.reduceSub, Nat.reduceEqDiff, Nat.reduceDiv, Nat.reduceLT, Nat.reduceLeDiff, reduceCtorEq, decide_true, Int.natCast_add, Int.cast_ofNat_Int, Bool.not_eq_true', Bool.not_eq_false', List.length_map]
  refine aloop2 [] (fun z : LTo => ⟨[(0, .sl 7 (l.map cFl)), (1, .raw (.int .i64 body)), (4, .hdr 8), (5, .hdr 9), (6, .raw (.int .i64 z.sh)), (10, .sl 7 (l.map cFl)), (11, .raw (.int .i64 l.length)), (12, .raw (.int .i64 z.k))], [(8, some (.row 52 7 (z.put.map cFl))), (9, some (.row 52 7 []))], none⟩) (TopInv l body) (fun z => l.length - z.k) 4 ⟨0, [], 0⟩ (by simp only [go_sem, Nat.reduceAdd, Nat.reduceMul, Nat.reduceSub, Nat.reduceEqDiff, Nat.reduceDiv, Nat.reduceLT, Nat.reduceLeDiff, reduceCtorEq, decide_true, Int.natCast_add, Int.cast_ofNat_Int, Bool.not_eq_true', Bool.not_eq_false']; rfl) (by simp only [go_sem, Nat.reduceAdd, Nat.reduceMul, Nat.reduceSub, Nat.reduceEqDiff, Nat.reduceDiv, Nat.reduceLT, Nat.reduceLeDiff, reduceCtorEq, decide_true, Int.natCast_add, Int.cast_ofNat_Int, Bool.not_eq_true', Bool.not_eq_false']) ?_ ?_
  · exact TopInv.first l body
  · rintro ⟨k, put, sh⟩ hi
    have hi1 := hi.le
    have hi2 := hi.len
    have hi3 := hi.lo
    have hi4 := hi.hi
    simp only at hi1 hi2 hi3 hi4
    simp only [go_sem, Nat.reduceAdd, Nat.reduceMul, Nat.reduceSub, Nat.reduceEqDiff, Nat.reduceDiv, Nat.reduceLT, Nat.reduceLeDiff, reduceCtorEq, decide_true, Int.natCast_add, Int.cast_ofNat_Int, Bool.not_eq_true', Bool.not_eq_false', List.length_map]
    refine ⟨fun h5 => ?_, fun h5 => ?_⟩
    · have hk : k < l.length := by omega
      have hf := nearF_iff.1 (List.all_eq_true.1 hn l[k] (List.getElem_mem _))
      have hnx := hi.next hk ⟨hf.2.2.2, hb⟩
      have hst := hi.stop hk
      refine ⟨by omega, ex_get hk ?_⟩
      generalize l[k] = f at hf hnx hst
      repeat' first | contradiction | intro _ | refine And.intro ?_ ?_ | refine ex_get (by omega) ?_ | (show drawB _ _ = true; kernel_rfl) | (refine ret2 [] (by simp only [go_sem, Nat.reduceAdd, Nat.reduceMul, Nat.reduceSub, Nat.reduceEqDiff, Nat.reduceDiv, Nat.reduceLT, Nat.reduceLeDiff, reduceCtorEq, decide_true, Int.natCast_add, Int.cast_ofNat_Int, Bool.not_eq_true', Bool.not_eq_false', List.length_map]; rfl) ?_; simp only [go_sem, Nat.reduceAdd, Nat.reduceMul, Nat.reduceSub, Nat.reduceEqDiff, Nat.reduceDiv, Nat.reduceLT, Nat.reduceLeDiff, reduceCtorEq, decide_true, Int.natCast_add, Int.cast_ofNat_Int, Bool.not_eq_true', Bool.not_eq_false', List.length_map])
      all_goals first
        | omega
        | (have e1 := (hst (by assumption)).1
           rw [e1]; done)
        | (have e2 := (hst (by assumption)).2.1
           rw [e2, List.take_of_length_le (by simp)]; done)
        | (have e3 := (hst (by assumption)).2.2
           first | exact e3 | exact e3.symm)
        | (simp <;> omega)
        | (have hs := hnx (by assumption)
           (refine loop_end [] (⟨k + 1, put ++ [⟨f.node, f.side, f.anchor, f.x, sh, f.w, min f.h body⟩], sh + min f.h body⟩) (by simp only [go_sem, Nat.reduceAdd, Nat.reduceMul, Nat.reduceSub, Nat.reduceEqDiff, Nat.reduceDiv, Nat.reduceLT, Nat.reduceLeDiff, reduceCtorEq, decide_true, Int.natCast_add, Int.cast_ofNat_Int, Bool.not_eq_true', Bool.not_eq_false']; rfl) ?_ ?_ ?_; (focus first | omega | (simp only; omega)); (focus (simp only [go_sem, Nat.reduceAdd, Nat.reduceMul, Nat.reduceSub, Nat.reduceEqDiff, Nat.reduceDiv, Nat.reduceLT, Nat.reduceLeDiff, reduceCtorEq, decide_true, Int.natCast_add, Int.cast_ofNat_Int, Bool.not_eq_true', Bool.not_eq_false', List.map_append]; done)))
           exact hs)
    · obtain ⟨e1, e2, e3⟩ := hi.end_ h5
      rw [e1, e2, e3]
      (refine ret2 [] (by simp only [go_sem, Nat.reduceAdd, Nat.reduceMul, Nat.reduceSub, Nat.reduceEqDiff, Nat.reduceDiv, Nat.reduceLT, Nat.reduceLeDiff, reduceCtorEq, decide_true, Int.natCast_add, Int.cast_ofNat_Int, Bool.not_eq_true', Bool.not_eq_false']; rfl) ?_; simp only [go_sem, Nat.reduceAdd, Nat.reduceMul, Nat.reduceSub, Nat.reduceEqDiff, Nat.reduceDiv, Nat.reduceLT, Nat.reduceLeDiff, reduceCtorEq, decide_true, Int.natCast_add, Int.cast_ofNat_Int, Bool.not_eq_true', Bool.not_eq_false'])
set_option maxRecDepth 100000 in
set_option maxHeartbeats 4000000 in
theorem rtop_ok (l : List LFl) (body : Int) (hl : l.length ≤ 100) (hn : l.all nearF = true) (hb : -1125899906842624 ≤ body ∧ body ≤ 1125899906842624) : FnOk Try.prog 32 [.sl 7 (l.map cFl), .raw (.int .i64 body)] [] (.tup [.hdr 8, .hdr 9, .raw (.int .i64 (topS body 0 l).sh)]) [(8, .row 52 7 ((topS body 0 l).put.map cFl)), (9, .row 52 7 ((topS body 0 l).left.map cFl))] := by
  refine fn_of_awp Try.func32 rfl (by kernel_rfl) (by kernel_rfl) (Nat.le_of_ble_eq_true rfl) Try.results32 ?_
  simp only [go_sem, Nat.reduceAdd, Nat.reduceMul, Nat.reduceSub, Nat.reduceEqDiff, Nat.reduceDiv, Nat.reduceLT, Nat.reduceLeDiff, reduceCtorEq, decide_true, Int.natCast_add, Int.cast_ofNat_Int, Bool.not_eq_true', Bool.not_eq_false', List.length_map]
  refine aloop2 [] (fun z : LTo => ⟨[(0, .sl 7 (l.map cFl)), (1, .raw (.int .i64 body)), (7, .hdr 8), (8, .raw (.int .i64 z.sh)), (9, .raw (.int .i64 z.k))], [(8, some (.row 52 7 (z.put.map cFl)))], none⟩) (TopInv l body) (fun z => l.length - z.k) 4 ⟨0, [], 0⟩ (by simp only [go_sem, Nat.reduceAdd, Nat.reduceMul, Nat.reduceSub, Nat.reduceEqDiff, Nat.reduceDiv, Nat.reduceLT, Nat.reduceLeDiff, reduceCtorEq, decide_true, Int.natCast_add, Int.cast_ofNat_Int, Bool.not_eq_true', Bool.not_eq_false']; rfl) (by simp only [go_sem, Nat.reduceAdd, Nat.reduceMul, Nat.reduceSub, Nat.reduceEqDiff, Nat.reduceDiv, Nat.reduceLT, Nat.reduceLeDiff, reduceCtorEq, decide_true, Int.natCast_add, Int.cast_ofNat_Int, Bool.not_eq_true', Bool.not_eq_false']) ?_ ?_
  · exact TopInv.first l body
  · rintro ⟨k, put, sh⟩ hi
    have hi1 := hi.le
    have hi2 := hi.len
    have hi3 := hi.lo
    have hi4 := hi.hi
    simp only at hi1 hi2 hi3 hi4
    simp only [go_sem, Nat.reduceAdd, Nat.reduceMul, Nat.reduceSub, Nat.reduceEqDiff, Nat.reduceDiv, Nat.reduceLT, Nat.reduceLeDiff, reduceCtorEq, decide_true, Int.natCast_add, Int.cast_ofNat_Int, Bool.not_eq_true', Bool.not_eq_false', List.length_map]
    refine ⟨fun h5 => ?_, fun h5 => ?_⟩
    · have hk : k < l.length := by omega
      have hf := nearF_iff.1 (List.all_eq_true.1 hn l[k] (List.getElem_mem _))
      have hnx := hi.next hk ⟨hf.2.2.2, hb⟩
      have hst := hi.stop hk
      refine ⟨by omega, ex_get hk ?_⟩
      generalize l[k] = f at hf hnx hst
      repeat' first | contradiction | intro _ | refine And.intro ?_ ?_ | refine ex_get (by omega) ?_ | (show drawB _ _ = true; kernel_rfl) | (refine ret2 [] (by simp only [go_sem, Nat.reduceAdd, Nat.reduceMul, Nat.reduceSub, Nat.reduceEqDiff, Nat.reduceDiv, Nat.reduceLT, Nat.reduceLeDiff, reduceCtorEq, decide_true, Int.natCast_add, Int.cast_ofNat_Int, Bool.not_eq_true', Bool.not_eq_false', List.length_map]; rfl) ?_; simp only [go_sem, Nat.reduceAdd, Nat.reduceMul, Nat.reduceSub, Nat.reduceEqDiff, Nat.reduceDiv, Nat.reduceLT, Nat.reduceLeDiff, reduceCtorEq, decide_true, Int.natCast_add, Int.cast_ofNat_Int, Bool.not_eq_true', Bool.not_eq_false', List.length_map])
      all_goals first
        | omega
        | (have e1 := (hst (by assumption)).1
           rw [e1]; done)
        | (have e2 := (hst (by assumption)).2.1
           rw [e2, List.take_of_length_le (by simp)]; done)
        | (have e3 := (hst (by assumption)).2.2
           first | exact e3 | exact e3.symm)
        | (simp <;> omega)
        | (have hs := hnx (by assumption)
           (refine loop_end [] (⟨k + 1, put ++ [⟨f.node, f.side, f.anchor, f.x, sh, f.w, min f.h body⟩], sh + min f.h body⟩) (by simp only [go_sem, Nat.reduceAdd, Nat.reduceMul, Nat.reduceSub, Nat.reduceEqDiff, Nat.reduceDiv, Nat.reduceLT, Nat.reduceLeDiff, reduceCtorEq, decide_true, Int.natCast_add, Int.cast_ofNat_Int, Bool.not_eq_true', Bool.not_eq_false']; rfl) ?_ ?_ ?_; (focus first | omega | (simp only; omega)); (focus (simp only [go_sem, Nat.reduceAdd, Nat.reduceMul, Nat.reduceSub, Nat.reduceEqDiff, Nat.reduceDiv, Nat.reduceLT, Nat.reduceLeDiff, reduceCtorEq, decide_true, Int.natCast_add, Int.cast_ofNat_Int, Bool.not_eq_true', Bool.not_eq_false', List.map_append]; done)))
           exact hs)
        | skip
    · obtain ⟨e1, e2, e3⟩ := hi.end_ h5
      rw [e1, e2, e3]
      (refine ret2 [] (by simp only [go_sem, Nat.reduceAdd, Nat.reduceMul, Nat.reduceSub, Nat.reduceEqDiff, Nat.reduceDiv, Nat.reduceLT, Nat.reduceLeDiff, reduceCtorEq, decide_true, Int.natCast_add, Int.cast_ofNat_Int, Bool.not_eq_true', Bool.not_eq_false']; rfl) ?_; simp only [go_sem, Nat.reduceAdd, Nat.reduceMul, Nat.reduceSub, Nat.reduceEqDiff, Nat.reduceDiv, Nat.reduceLT, Nat.reduceLeDiff, reduceCtorEq, decide_true, Int.natCast_add, Int.cast_ofNat_Int, Bool.not_eq_true', Bool.not_eq_false'])
end Go.Proofs.Ytmgckellncfjpaa
