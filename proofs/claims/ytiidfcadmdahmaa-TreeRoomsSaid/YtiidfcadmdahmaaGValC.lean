/- CHAPTER 06: valid: nodes within nodes. -/
/- G -/
import Derived.Test.YtiidfcadmdahmaaGValB
/- BOOLS -/
set_option linter.unusedSimpArgs false
set_option linter.unusedVariables false
namespace Go.Proofs.Ytiidfcadmdahmaa
open Go.RowKit

def topI (st : List Int) : Int := st.getD (st.length - 1) 0
def popS (i : Int) : Nat → List Int → List Int
  | 0, st => st
  | f + 1, st => if 1 < st.length ∧ topI st = i then popS i f (st.take (st.length - 1)) else st
def isG : List LNo → Nat → List Int → Bool
  | [], _, _ => true
  | x :: l, i, st => nodB x && decide (1 ≤ x.size) && decide (x.size ≤ topI (popS i st.length st) - i) && !(decide (x.kind ≠ 1) && decide (1 < x.size)) && isG l (i + 1) (popS i st.length st ++ [i + x.size])
def isS (l : List LNo) : Bool := isG l 0 [(l.length : Int)]
theorem popS_sub (i : Int) : ∀ f st, (∀ e ∈ popS i f st, e ∈ st) ∧ (popS i f st).length ≤ st.length ∧ (1 ≤ st.length → 1 ≤ (popS i f st).length)
  | 0, st => ⟨fun _ h => h, Nat.le_refl _, fun h => h⟩
  | f + 1, st => by
    rw [popS]
    split
    · next h =>
      obtain ⟨h1, h2, h3⟩ := popS_sub i f (st.take (st.length - 1))
      simp only [List.length_take] at h2 h3
      exact ⟨fun e he => List.mem_of_mem_take (h1 e he), by omega, fun _ => h3 (by omega)⟩
    · exact ⟨fun _ h => h, Nat.le_refl _, fun h => h⟩
theorem topI_mem {st : List Int} (h : 1 ≤ st.length) : topI st ∈ st := by
  unfold topI
  rw [List.getD_eq_getElem?_getD, List.getElem?_eq_getElem (by omega : st.length - 1 < st.length)]
  exact List.getElem_mem _
theorem topI_get {st : List Int} (h : 1 ≤ st.length) : st[st.length - 1]? = some (topI st) := by
  unfold topI
  rw [List.getD_eq_getElem?_getD, List.getElem?_eq_getElem (by omega : st.length - 1 < st.length)]
  rfl
theorem tm1 (k : Nat) : ((k : Int) - 1).toNat = k - 1 := by omega
theorem ex_i {α : Type} {o : Option α} {a : α} {P : α → Prop} (h : o = some a) (p : P a) : ∃ x, o = some x ∧ P x := ⟨a, h, p⟩
structure LIs where
  i : Nat
  st : List Int
set_option maxRecDepth 100000 in
set_option maxHeartbeats 4000000 in
theorem is6_ok (l : List LNo) (hl : l.length ≤ 1000) (hw : ∀ x ∈ l, x.words.length ≤ 9223372036854775807) : FnOk Try.prog 28 [.sl 20 (l.map cNo)] [] (.raw (.bool (isS l))) [] := by
  refine fn_of_swp Try.func28 rfl (by kernel_rfl) (by kernel_rfl) (Nat.le_of_ble_eq_true rfl) Try.results28 ?_
  (refine swp_seqW ?_; simp only [go_sem, Nat.reduceAdd, Nat.reduceMul, Nat.reduceSub, Nat.reduceEqDiff, Nat.reduceDiv, Nat.reduceLT, Nat.reduceLeDiff, reduceCtorEq, decide_true, Int.natCast_add, Int.cast_ofNat_Int, Bool.not_eq_true', Bool.not_eq_false'])
  (refine swp_seqW ?_; simp only [go_sem, Nat.reduceAdd, Nat.reduceMul, Nat.reduceSub, Nat.reduceEqDiff, Nat.reduceDiv, Nat.reduceLT, Nat.reduceLeDiff, reduceCtorEq, decide_true, Int.natCast_add, Int.cast_ofNat_Int, Bool.not_eq_true', Bool.not_eq_false', List.length_map])
  refine swp_cutS (fun _ : Unit => ⟨[], [], none⟩) (fun _ => isS l = true) 4 ?_ ?_
  · (refine swp_seqW ?_; simp only [go_sem, Nat.reduceAdd, Nat.reduceMul, Nat.reduceSub, Nat.reduceEqDiff, Nat.reduceDiv, Nat.reduceLT, Nat.reduceLeDiff, reduceCtorEq, decide_true, Int.natCast_add, Int.cast_ofNat_Int, Bool.not_eq_true', Bool.not_eq_false', List.length_map])
    refine swp_block ?_
    refine swp_loop2 [] (fun z : LIs => ⟨[(3, .hdr 8), (9, .sl 20 (l.map cNo)), (10, .raw (.int .i64 l.length)), (11, .raw (.int .i64 z.i))], [(8, some (.row 3 1 (z.st.map cInt)))], none⟩) (fun z => z.i ≤ l.length ∧ 1 ≤ z.st.length ∧ z.st.length ≤ z.i + 1 ∧ (∀ e ∈ z.st, 0 ≤ e ∧ e ≤ l.length) ∧ isG (l.drop z.i) z.i z.st = isS l) (fun z => l.length - z.i) 40 ⟨0, [(l.length : Int)]⟩ (by simp only [go_sem, Nat.reduceAdd, Nat.reduceMul, Nat.reduceSub, Nat.reduceEqDiff, Nat.reduceDiv, Nat.reduceLT, Nat.reduceLeDiff, reduceCtorEq, decide_true, Int.natCast_add, Int.cast_ofNat_Int, Bool.not_eq_true', Bool.not_eq_false']; rfl) (by simp only [go_sem, Nat.reduceAdd, Nat.reduceMul, Nat.reduceSub, Nat.reduceEqDiff, Nat.reduceDiv, Nat.reduceLT, Nat.reduceLeDiff, reduceCtorEq, decide_true, Int.natCast_add, Int.cast_ofNat_Int, Bool.not_eq_true', Bool.not_eq_false']) ?_ ?_
    · exact ⟨Nat.zero_le _, Nat.le_refl _, Nat.le_refl _, fun e he => by simp at he; omega, rfl⟩
    · rintro ⟨i, st⟩ ⟨q1, q2, q3, q4, q5⟩
      simp only at q1 q2 q3 q4 q5
      (refine swp_seqW ?_; simp only [go_sem, Nat.reduceAdd, Nat.reduceMul, Nat.reduceSub, Nat.reduceEqDiff, Nat.reduceDiv, Nat.reduceLT, Nat.reduceLeDiff, reduceCtorEq, decide_true, Int.natCast_add, Int.cast_ofNat_Int, Bool.not_eq_true', Bool.not_eq_false'])
      (refine swp_seqW ?_; simp only [go_sem, Nat.reduceAdd, Nat.reduceMul, Nat.reduceSub, Nat.reduceEqDiff, Nat.reduceDiv, Nat.reduceLT, Nat.reduceLeDiff, reduceCtorEq, decide_true, Int.natCast_add, Int.cast_ofNat_Int, Bool.not_eq_true', Bool.not_eq_false'])
      refine ⟨fun h5 => ?_, fun h5 => ?_⟩
      rotate_left
      · (refine cut_end [] (()) (by simp only [go_sem, Nat.reduceAdd, Nat.reduceMul, Nat.reduceSub, Nat.reduceEqDiff, Nat.reduceDiv, Nat.reduceLT, Nat.reduceLeDiff, reduceCtorEq, decide_true, Int.natCast_add, Int.cast_ofNat_Int, Bool.not_eq_true', Bool.not_eq_false']; rfl) ?_ ?_; (focus (simp only [go_sem, Nat.reduceAdd, Nat.reduceMul, Nat.reduceSub, Nat.reduceEqDiff, Nat.reduceDiv, Nat.reduceLT, Nat.reduceLeDiff, reduceCtorEq, decide_true, Int.natCast_add, Int.cast_ofNat_Int, Bool.not_eq_true', Bool.not_eq_false']; done)))
        rw [← q5, List.drop_eq_nil_of_le (by omega)]; rfl
      have hi : i < l.length := by omega
      rw [List.drop_eq_getElem_cons hi, isG] at q5
      have hx := hw l[i] (List.getElem_mem hi)
      have hp := popS_sub i st.length st
      generalize hst : popS i st.length st = st2 at q5 hp
      refine swp_seqS ?_
      refine swp_block ?_
      (refine swp_seqW ?_; simp only [go_sem, Nat.reduceAdd, Nat.reduceMul, Nat.reduceSub, Nat.reduceEqDiff, Nat.reduceDiv, Nat.reduceLT, Nat.reduceLeDiff, reduceCtorEq, decide_true, Int.natCast_add, Int.cast_ofNat_Int, Bool.not_eq_true', Bool.not_eq_false'])
      refine ⟨by omega, ex_get hi ?_⟩
      generalize l[i] = x at q5 hx ⊢
      refine swp_cutS (fun _ : Unit => ⟨[(3, .hdr 8), (4, .raw (.int .i64 i)), (5, .hdr 16), (9, .sl 20 (l.map cNo)), (10, .raw (.int .i64 l.length)), (11, .raw (.int .i64 i))], [(8, some (.row 3 1 (st2.map cInt))), (16, some (.cells 41 (lNo x)))], none⟩) (fun _ => True) 60 ?_ ?_
      · refine swp_block ?_
        refine swp_loop2 [] (fun s : List Int => ⟨[(3, .hdr 8), (4, .raw (.int .i64 i)), (5, .hdr 16), (9, .sl 20 (l.map cNo)), (10, .raw (.int .i64 l.length)), (11, .raw (.int .i64 i))], [(8, some (.row 3 1 (s.map cInt))), (16, some (.cells 41 (lNo x)))], none⟩) (fun s => 1 ≤ s.length ∧ s.length ≤ 1001 ∧ ∃ f, s.length ≤ f ∧ popS i f s = st2) (fun s => s.length) 80 st (by simp only [go_sem, Nat.reduceAdd, Nat.reduceMul, Nat.reduceSub, Nat.reduceEqDiff, Nat.reduceDiv, Nat.reduceLT, Nat.reduceLeDiff, reduceCtorEq, decide_true, Int.natCast_add, Int.cast_ofNat_Int, Bool.not_eq_true', Bool.not_eq_false']; rfl) (by simp only [go_sem, Nat.reduceAdd, Nat.reduceMul, Nat.reduceSub, Nat.reduceEqDiff, Nat.reduceDiv, Nat.reduceLT, Nat.reduceLeDiff, reduceCtorEq, decide_true, Int.natCast_add, Int.cast_ofNat_Int, Bool.not_eq_true', Bool.not_eq_false']) ?_ ?_
        · exact ⟨q2, by omega, st.length, Nat.le_refl _, hst⟩
        · rintro s ⟨p1, p2, f, p3, p4⟩
          obtain ⟨f, rfl⟩ : ∃ g, f = g + 1 := ⟨f - 1, by omega⟩
          rw [popS] at p4
          (refine swp_lastW ?_; simp only [go_sem, Nat.reduceAdd, Nat.reduceMul, Nat.reduceSub, Nat.reduceEqDiff, Nat.reduceDiv, Nat.reduceLT, Nat.reduceLeDiff, reduceCtorEq, decide_true, Int.natCast_add, Int.cast_ofNat_Int, Bool.not_eq_true', Bool.not_eq_false', List.length_map, tm1])
          refine ⟨fun h6 => ⟨by omega, by omega, _, topI_get p1, fun h7 => ⟨by omega, by omega, ?_⟩, fun h7 => ?_⟩, fun h6 => ?_⟩
          · rw [if_pos ⟨by omega, h7⟩] at p4
            have e : (s.take (s.length - 1)).length = s.length - 1 := by simp
            (refine loop_end [] (s.take (s.length - 1)) (by simp only [go_sem, Nat.reduceAdd, Nat.reduceMul, Nat.reduceSub, Nat.reduceEqDiff, Nat.reduceDiv, Nat.reduceLT, Nat.reduceLeDiff, reduceCtorEq, decide_true, Int.natCast_add, Int.cast_ofNat_Int, Bool.not_eq_true', Bool.not_eq_false']; rfl) ?_ ?_ ?_; (focus first | omega | (simp only; omega)); (focus (simp only [go_sem, Nat.reduceAdd, Nat.reduceMul, Nat.reduceSub, Nat.reduceEqDiff, Nat.reduceDiv, Nat.reduceLT, Nat.reduceLeDiff, reduceCtorEq, decide_true, Int.natCast_add, Int.cast_ofNat_Int, Bool.not_eq_true', Bool.not_eq_false']; done)))
            exact ⟨by omega, by omega, f, by omega, p4⟩
          · rw [if_neg (fun q => h7 q.2)] at p4
            subst p4
            (refine cut_end [] (()) (by simp only [go_sem, Nat.reduceAdd, Nat.reduceMul, Nat.reduceSub, Nat.reduceEqDiff, Nat.reduceDiv, Nat.reduceLT, Nat.reduceLeDiff, reduceCtorEq, decide_true, Int.natCast_add, Int.cast_ofNat_Int, Bool.not_eq_true', Bool.not_eq_false']; rfl) ?_ ?_; (focus (simp only [go_sem, Nat.reduceAdd, Nat.reduceMul, Nat.reduceSub, Nat.reduceEqDiff, Nat.reduceDiv, Nat.reduceLT, Nat.reduceLeDiff, reduceCtorEq, decide_true, Int.natCast_add, Int.cast_ofNat_Int, Bool.not_eq_true', Bool.not_eq_false']; done)))
            trivial
          · rw [if_neg (fun q => h6 (by omega))] at p4
            subst p4
            (refine cut_end [] (()) (by simp only [go_sem, Nat.reduceAdd, Nat.reduceMul, Nat.reduceSub, Nat.reduceEqDiff, Nat.reduceDiv, Nat.reduceLT, Nat.reduceLeDiff, reduceCtorEq, decide_true, Int.natCast_add, Int.cast_ofNat_Int, Bool.not_eq_true', Bool.not_eq_false']; rfl) ?_ ?_; (focus (simp only [go_sem, Nat.reduceAdd, Nat.reduceMul, Nat.reduceSub, Nat.reduceEqDiff, Nat.reduceDiv, Nat.reduceLT, Nat.reduceLeDiff, reduceCtorEq, decide_true, Int.natCast_add, Int.cast_ofNat_Int, Bool.not_eq_true', Bool.not_eq_false']; done)))
            trivial
      rintro - -
      (refine swp_seqW ?_; simp only [go_sem, Nat.reduceAdd, Nat.reduceMul, Nat.reduceSub, Nat.reduceEqDiff, Nat.reduceDiv, Nat.reduceLT, Nat.reduceLeDiff, reduceCtorEq, decide_true, Int.natCast_add, Int.cast_ofNat_Int, Bool.not_eq_true', Bool.not_eq_false'])
      have hp1 : 1 ≤ st2.length := hp.2.2 q2
      have hp2 := q4 _ (hp.1 _ (topI_mem hp1))
      (refine acall2 [] (fits6_ok x hx) (by simp only [go_sem, Nat.reduceAdd, Nat.reduceMul, Nat.reduceSub, Nat.reduceEqDiff, Nat.reduceDiv, Nat.reduceLT, Nat.reduceLeDiff, reduceCtorEq, decide_true, Int.natCast_add, Int.cast_ofNat_Int, Bool.not_eq_true', Bool.not_eq_false']; rfl) (fit_of (by simp only [go_sem, Nat.reduceAdd, Nat.reduceMul, Nat.reduceSub, Nat.reduceEqDiff, Nat.reduceDiv, Nat.reduceLT, Nat.reduceLeDiff, reduceCtorEq, decide_true, Int.natCast_add, Int.cast_ofNat_Int, Bool.not_eq_true', Bool.not_eq_false']) (by simp only [go_sem, Nat.reduceAdd, Nat.reduceMul, Nat.reduceSub, Nat.reduceEqDiff, Nat.reduceDiv, Nat.reduceLT, Nat.reduceLeDiff, reduceCtorEq, decide_true, Int.natCast_add, Int.cast_ofNat_Int, Bool.not_eq_true', Bool.not_eq_false']) (by simp only [go_sem, Nat.reduceAdd, Nat.reduceMul, Nat.reduceSub, Nat.reduceEqDiff, Nat.reduceDiv, Nat.reduceLT, Nat.reduceLeDiff, reduceCtorEq, decide_true, Int.natCast_add, Int.cast_ofNat_Int, Bool.not_eq_true', Bool.not_eq_false']) (by simp only [go_sem, Nat.reduceAdd, Nat.reduceMul, Nat.reduceSub, Nat.reduceEqDiff, Nat.reduceDiv, Nat.reduceLT, Nat.reduceLeDiff, reduceCtorEq, decide_true, Int.natCast_add, Int.cast_ofNat_Int, Bool.not_eq_true', Bool.not_eq_false']) (by simp only [go_sem, Nat.reduceAdd, Nat.reduceMul, Nat.reduceSub, Nat.reduceEqDiff, Nat.reduceDiv, Nat.reduceLT, Nat.reduceLeDiff, reduceCtorEq, decide_true, Int.natCast_add, Int.cast_ofNat_Int, Bool.not_eq_true', Bool.not_eq_false']) (by simp only [go_sem, Nat.reduceAdd, Nat.reduceMul, Nat.reduceSub, Nat.reduceEqDiff, Nat.reduceDiv, Nat.reduceLT, Nat.reduceLeDiff, reduceCtorEq, decide_true, Int.natCast_add, Int.cast_ofNat_Int, Bool.not_eq_true', Bool.not_eq_false']) (by simp only [go_sem, Nat.reduceAdd, Nat.reduceMul, Nat.reduceSub, Nat.reduceEqDiff, Nat.reduceDiv, Nat.reduceLT, Nat.reduceLeDiff, reduceCtorEq, decide_true, Int.natCast_add, Int.cast_ofNat_Int, Bool.not_eq_true', Bool.not_eq_false'])) ?_; simp only [go_sem, Nat.reduceAdd, Nat.reduceMul, Nat.reduceSub, Nat.reduceEqDiff, Nat.reduceDiv, Nat.reduceLT, Nat.reduceLeDiff, reduceCtorEq, decide_true, Int.natCast_add, Int.cast_ofNat_Int, Bool.not_eq_true', Bool.not_eq_false', List.length_map, tm1])
      repeat' first | refine And.intro ?_ ?_ | intro _ | refine ex_i (topI_get hp1) ?_
      all_goals first
        | omega
        | (show drawB _ _ = true; kernel_rfl)
        | (refine Bool.eq_false_iff.2 (fun q => ?_)
           rw [← q5] at q
           simp only [Bool.and_eq_true, Bool.not_eq_true', Bool.and_eq_false_iff, decide_eq_true_eq, decide_eq_false_iff_not] at q
           obtain ⟨⟨⟨⟨u1, u2⟩, u3⟩, u4⟩, u5⟩ := q
           first
             | omega
             | (simp_all; done))
        | skip
      all_goals
        have u : (nodB x && decide (1 ≤ x.size) && decide (x.size ≤ topI st2 - ↑i) && !(decide (x.kind ≠ 1) && decide (1 < x.size))) = true := by
          simp only [Bool.and_eq_true, Bool.not_eq_true', Bool.and_eq_false_iff, decide_eq_true_eq, decide_eq_false_iff_not]
          exact ⟨⟨⟨by assumption, by omega⟩, by omega⟩, by omega⟩
        rw [u, Bool.true_and] at q5
        (refine swp_lastW ?_; simp only [go_sem, Nat.reduceAdd, Nat.reduceMul, Nat.reduceSub, Nat.reduceEqDiff, Nat.reduceDiv, Nat.reduceLT, Nat.reduceLeDiff, reduceCtorEq, decide_true, Int.natCast_add, Int.cast_ofNat_Int, Bool.not_eq_true', Bool.not_eq_false', List.length_map])
        refine ⟨by omega, ⟨by omega, by omega⟩, ?_⟩
        (refine swp_lastW ?_; simp only [go_sem, Nat.reduceAdd, Nat.reduceMul, Nat.reduceSub, Nat.reduceEqDiff, Nat.reduceDiv, Nat.reduceLT, Nat.reduceLeDiff, reduceCtorEq, decide_true, Int.natCast_add, Int.cast_ofNat_Int, Bool.not_eq_true', Bool.not_eq_false'])
        refine ⟨by omega, ?_⟩
        have e2 : (st2 ++ [(i : Int) + x.size]).length = st2.length + 1 := by simp
        (refine loop_end [] (⟨i + 1, st2 ++ [(i : Int) + x.size]⟩) (by simp only [go_sem, Nat.reduceAdd, Nat.reduceMul, Nat.reduceSub, Nat.reduceEqDiff, Nat.reduceDiv, Nat.reduceLT, Nat.reduceLeDiff, reduceCtorEq, decide_true, Int.natCast_add, Int.cast_ofNat_Int, Bool.not_eq_true', Bool.not_eq_false']; rfl) ?_ ?_ ?_; (focus first | omega | (simp only; omega)); (focus (simp only [go_sem, Nat.reduceAdd, Nat.reduceMul, Nat.reduceSub, Nat.reduceEqDiff, Nat.reduceDiv, Nat.reduceLT, Nat.reduceLeDiff, reduceCtorEq, decide_true, Int.natCast_add, Int.cast_ofNat_Int, Bool.not_eq_true', Bool.not_eq_false', List.map_append]; done)))
        refine ⟨by simp only; omega, by simp only; omega, by simp only; omega, fun e he => ?_, q5⟩
        rcases List.mem_append.1 he with h | h
        · exact q4 _ (hp.1 _ h)
        · simp only [List.mem_singleton] at h; omega
  rintro - hs
  rw [hs]
  (refine swp_lastW ?_; simp only [go_sem, Nat.reduceAdd, Nat.reduceMul, Nat.reduceSub, Nat.reduceEqDiff, Nat.reduceDiv, Nat.reduceLT, Nat.reduceLeDiff, reduceCtorEq, decide_true, Int.natCast_add, Int.cast_ofNat_Int, Bool.not_eq_true', Bool.not_eq_false'])
end Go.Proofs.Ytiidfcadmdahmaa
