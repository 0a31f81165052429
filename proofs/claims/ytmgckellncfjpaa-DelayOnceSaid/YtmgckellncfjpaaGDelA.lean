/- CHAPTERS 15, 23: atoms and floats; what is near; rows that are alike. -/
/- G -/
import Derived.Test.YtmgckellncfjpaaTG
import Derived.Test.YtmgckellncfjpaaG14
/- BOOLS -/
/- GET ex_atA ex_atA' -/
set_option linter.unusedSimpArgs false
set_option linter.unusedVariables false
namespace Go.Proofs.Ytmgckellncfjpaa
open Go.RowKit

structure LAt where
  kind : Int
  node : Int
  fr : Int
  to : Int
  x : Int
  y : Int
  w : Int
  h : Int
deriving DecidableEq
def cAt (a : LAt) : List PV := [.raw (.int .i64 a.kind), .raw (.int .i64 a.node), .raw (.int .i64 a.fr), .raw (.int .i64 a.to), .raw (.int .i64 a.x), .raw (.int .i64 a.y), .raw (.int .i64 a.w), .raw (.int .i64 a.h)]
def aAt (a : LAt) : AV := .agg [.raw (.int .i64 a.kind), .raw (.int .i64 a.node), .raw (.int .i64 a.fr), .raw (.int .i64 a.to), .raw (.int .i64 a.x), .raw (.int .i64 a.y), .raw (.int .i64 a.w), .raw (.int .i64 a.h)]
structure LSt where
  atom : Int
  done : Int
  free : Bool
deriving DecidableEq
def cSt (s : LSt) : List PV := [.raw (.int .i64 s.atom), .raw (.int .i64 s.done), .raw (.bool s.free)]
def aSt (s : LSt) : AV := .agg [.raw (.int .i64 s.atom), .raw (.int .i64 s.done), .raw (.bool s.free)]
def aPage (l : List LAt) (s : LSt) : AV := .agg [.raw (.int .i64 s.atom), .raw (.int .i64 s.done), .raw (.bool s.free), .sl 8 (l.map cAt)]
attribute [go_sem] cAt aAt cSt aSt aPage
def atA (l : List LAt) (q : Int) : LAt := l[q.toNat]?.getD ⟨0, 0, 0, 0, 0, 0, 0, 0⟩
theorem atA_get {l : List LAt} {q : Int} (h : q.toNat < l.length) : l[q.toNat]? = some (atA l q) := by simp [atA, h]
theorem ex_atA {l : List LAt} {q : Int} {C : LAt → Prop} (h : q.toNat < l.length) (hC : C (atA l q)) : ∃ x, l[q.toNat]? = some x ∧ C x := ⟨_, atA_get h, hC⟩
theorem ex_atA' {l : List LAt} {k : Nat} {C : LAt → Prop} (h : k < l.length) (hC : C (atA l k)) : ∃ x, l[k]? = some x ∧ C x := ex_atA (q := k) (by omega) hC
structure LFl where
  node : Int
  side : Int
  anchor : Int
  x : Int
  y : Int
  w : Int
  h : Int
deriving DecidableEq
def cFl (f : LFl) : List PV := [.raw (.int .i64 f.node), .raw (.int .i64 f.side), .raw (.int .i64 f.anchor), .raw (.int .i64 f.x), .raw (.int .i64 f.y), .raw (.int .i64 f.w), .raw (.int .i64 f.h)]
def aFl (f : LFl) : AV := .agg [.raw (.int .i64 f.node), .raw (.int .i64 f.side), .raw (.int .i64 f.anchor), .raw (.int .i64 f.x), .raw (.int .i64 f.y), .raw (.int .i64 f.w), .raw (.int .i64 f.h)]
attribute [go_sem] cFl aFl
def nr10 (n : Int) : Bool := decide (-1125899906842624 ≤ n ∧ n ≤ 1125899906842624)
def nearF (f : LFl) : Bool := nr10 f.x && nr10 f.y && nr10 f.w && nr10 f.h
theorem nearF_iff {f : LFl} : nearF f = true ↔ (-1125899906842624 ≤ f.x ∧ f.x ≤ 1125899906842624) ∧ (-1125899906842624 ≤ f.y ∧ f.y ≤ 1125899906842624) ∧ (-1125899906842624 ≤ f.w ∧ f.w ≤ 1125899906842624) ∧ (-1125899906842624 ≤ f.h ∧ f.h ≤ 1125899906842624) := by
  simp only [nearF, nr10, Bool.and_eq_true, decide_eq_true_eq, and_assoc]
abbrev MayP (l : List LAt) (s : LSt) : Prop := (0 ≤ s.atom ∧ s.atom < l.length) ∧ 0 ≤ s.done ∧ (s.done = 0 ∨ s.done < (atA l s.atom).h)
set_option maxRecDepth 100000 in
theorem may_ok (l : List LAt) (s : LSt) : FnOk Try.prog 49 [aPage l s] [] (.raw (.bool (decide (MayP l s)))) [] := by
  refine fn_of_awp Try.func49 rfl (by kernel_rfl) (by kernel_rfl) (Nat.le_of_ble_eq_true rfl) Try.results49 ?_
  simp only [go_sem, Nat.reduceAdd, Nat.reduceMul, Nat.reduceSub, Nat.reduceEqDiff, Nat.reduceDiv, Nat.reduceLT, Nat.reduceLeDiff, reduceCtorEq, decide_true, Int.natCast_add, Int.cast_ofNat_Int, Bool.not_eq_true', Bool.not_eq_false', List.length_map]
  repeat' first | contradiction | intro _ | refine And.intro ?_ ?_ | refine ex_atA (by omega) ?_ | refine ex_atA' (by omega) ?_ | refine ex_get (by omega) ?_ | (show drawB _ _ = true; kernel_rfl) | (refine ret2 [] (by simp only [go_sem, Nat.reduceAdd, Nat.reduceMul, Nat.reduceSub, Nat.reduceEqDiff, Nat.reduceDiv, Nat.reduceLT, Nat.reduceLeDiff, reduceCtorEq, decide_true, Int.natCast_add, Int.cast_ofNat_Int, Bool.not_eq_true', Bool.not_eq_false', List.length_map]; rfl) ?_; simp only [go_sem, Nat.reduceAdd, Nat.reduceMul, Nat.reduceSub, Nat.reduceEqDiff, Nat.reduceDiv, Nat.reduceLT, Nat.reduceLeDiff, reduceCtorEq, decide_true, Int.natCast_add, Int.cast_ofNat_Int, Bool.not_eq_true', Bool.not_eq_false', List.length_map])
  all_goals first | omega | (rw [decide_eq_true (by omega)]; done) | (rw [decide_eq_false (by omega)]; done) | exact decide_eq_decide.2 (by omega)
set_option maxRecDepth 100000 in
theorem fmay_ok (l : List LAt) (s : LSt) : FnOk Try.prog 13 [.sl 8 (l.map cAt), aSt s] [] (.raw (.bool (decide (MayP l s)))) [] := by
  refine fn_of_awp Try.func13 rfl (by kernel_rfl) (by kernel_rfl) (Nat.le_of_ble_eq_true rfl) Try.results13 ?_
  simp only [go_sem, Nat.reduceAdd, Nat.reduceMul, Nat.reduceSub, Nat.reduceEqDiff, Nat.reduceDiv, Nat.reduceLT, Nat.reduceLeDiff, reduceCtorEq, decide_true, Int.natCast_add, Int.cast_ofNat_Int, Bool.not_eq_true', Bool.not_eq_false', List.length_map]
  repeat' first | contradiction | intro _ | refine And.intro ?_ ?_ | refine ex_atA (by omega) ?_ | refine ex_atA' (by omega) ?_ | refine ex_get (by omega) ?_ | (show drawB _ _ = true; kernel_rfl) | (refine ret2 [] (by simp only [go_sem, Nat.reduceAdd, Nat.reduceMul, Nat.reduceSub, Nat.reduceEqDiff, Nat.reduceDiv, Nat.reduceLT, Nat.reduceLeDiff, reduceCtorEq, decide_true, Int.natCast_add, Int.cast_ofNat_Int, Bool.not_eq_true', Bool.not_eq_false', List.length_map]; rfl) ?_; simp only [go_sem, Nat.reduceAdd, Nat.reduceMul, Nat.reduceSub, Nat.reduceEqDiff, Nat.reduceDiv, Nat.reduceLT, Nat.reduceLeDiff, reduceCtorEq, decide_true, Int.natCast_add, Int.cast_ofNat_Int, Bool.not_eq_true', Bool.not_eq_false', List.length_map]) | (refine acall2 [] (may_ok l s) (by simp only [go_sem, Nat.reduceAdd, Nat.reduceMul, Nat.reduceSub, Nat.reduceEqDiff, Nat.reduceDiv, Nat.reduceLT, Nat.reduceLeDiff, reduceCtorEq, decide_true, Int.natCast_add, Int.cast_ofNat_Int, Bool.not_eq_true', Bool.not_eq_false']; rfl) (fit_of (by simp only [go_sem, Nat.reduceAdd, Nat.reduceMul, Nat.reduceSub, Nat.reduceEqDiff, Nat.reduceDiv, Nat.reduceLT, Nat.reduceLeDiff, reduceCtorEq, decide_true, Int.natCast_add, Int.cast_ofNat_Int, Bool.not_eq_true', Bool.not_eq_false']) (by simp only [go_sem, Nat.reduceAdd, Nat.reduceMul, Nat.reduceSub, Nat.reduceEqDiff, Nat.reduceDiv, Nat.reduceLT, Nat.reduceLeDiff, reduceCtorEq, decide_true, Int.natCast_add, Int.cast_ofNat_Int, Bool.not_eq_true', Bool.not_eq_false']) (by simp only [go_sem, Nat.reduceAdd, Nat.reduceMul, Nat.reduceSub, Nat.reduceEqDiff, Nat.reduceDiv, Nat.reduceLT, Nat.reduceLeDiff, reduceCtorEq, decide_true, Int.natCast_add, Int.cast_ofNat_Int, Bool.not_eq_true', Bool.not_eq_false']) (by simp only [go_sem, Nat.reduceAdd, Nat.reduceMul, Nat.reduceSub, Nat.reduceEqDiff, Nat.reduceDiv, Nat.reduceLT, Nat.reduceLeDiff, reduceCtorEq, decide_true, Int.natCast_add, Int.cast_ofNat_Int, Bool.not_eq_true', Bool.not_eq_false']) (by simp only [go_sem, Nat.reduceAdd, Nat.reduceMul, Nat.reduceSub, Nat.reduceEqDiff, Nat.reduceDiv, Nat.reduceLT, Nat.reduceLeDiff, reduceCtorEq, decide_true, Int.natCast_add, Int.cast_ofNat_Int, Bool.not_eq_true', Bool.not_eq_false']) (by simp only [go_sem, Nat.reduceAdd, Nat.reduceMul, Nat.reduceSub, Nat.reduceEqDiff, Nat.reduceDiv, Nat.reduceLT, Nat.reduceLeDiff, reduceCtorEq, decide_true, Int.natCast_add, Int.cast_ofNat_Int, Bool.not_eq_true', Bool.not_eq_false']) (by simp only [go_sem, Nat.reduceAdd, Nat.reduceMul, Nat.reduceSub, Nat.reduceEqDiff, Nat.reduceDiv, Nat.reduceLT, Nat.reduceLeDiff, reduceCtorEq, decide_true, Int.natCast_add, Int.cast_ofNat_Int, Bool.not_eq_true', Bool.not_eq_false'])) ?_; simp only [go_sem, Nat.reduceAdd, Nat.reduceMul, Nat.reduceSub, Nat.reduceEqDiff, Nat.reduceDiv, Nat.reduceLT, Nat.reduceLeDiff, reduceCtorEq, decide_true, Int.natCast_add, Int.cast_ofNat_Int, Bool.not_eq_true', Bool.not_eq_false', List.length_map])
set_option maxRecDepth 100000 in
theorem rmay_ok (l : List LAt) (s : LSt) : FnOk Try.prog 18 [.sl 8 (l.map cAt), aSt s] [] (.raw (.bool (decide (MayP l s)))) [] := by
  refine fn_of_awp Try.func18 rfl (by kernel_rfl) (by kernel_rfl) (Nat.le_of_ble_eq_true rfl) Try.results18 ?_
  simp only [go_sem, Nat.reduceAdd, Nat.reduceMul, Nat.reduceSub, Nat.reduceEqDiff, Nat.reduceDiv, Nat.reduceLT, Nat.reduceLeDiff, reduceCtorEq, decide_true, Int.natCast_add, Int.cast_ofNat_Int, Bool.not_eq_true', Bool.not_eq_false', List.length_map]
  repeat' first | contradiction | intro _ | refine And.intro ?_ ?_ | refine ex_atA (by omega) ?_ | refine ex_atA' (by omega) ?_ | refine ex_get (by omega) ?_ | (show drawB _ _ = true; kernel_rfl) | (refine ret2 [] (by simp only [go_sem, Nat.reduceAdd, Nat.reduceMul, Nat.reduceSub, Nat.reduceEqDiff, Nat.reduceDiv, Nat.reduceLT, Nat.reduceLeDiff, reduceCtorEq, decide_true, Int.natCast_add, Int.cast_ofNat_Int, Bool.not_eq_true', Bool.not_eq_false', List.length_map]; rfl) ?_; simp only [go_sem, Nat.reduceAdd, Nat.reduceMul, Nat.reduceSub, Nat.reduceEqDiff, Nat.reduceDiv, Nat.reduceLT, Nat.reduceLeDiff, reduceCtorEq, decide_true, Int.natCast_add, Int.cast_ofNat_Int, Bool.not_eq_true', Bool.not_eq_false', List.length_map])
  all_goals first | omega | (rw [decide_eq_true (by omega)]; done) | (rw [decide_eq_false (by omega)]; done) | exact decide_eq_decide.2 (by omega)
theorem take_all' {α : Type} (p : α → Bool) (xs : List α) (k : Nat) (h : k < xs.length) : (xs.take (k + 1)).all p = ((xs.take k).all p && p xs[k]) := by
  rw [List.take_succ_eq_append_getElem h, List.all_append]
  simp
theorem all_of_pre {α : Type} {p : α → Bool} {l : List α} {k : Nat} (h : (l.take k).all p = true) (hk : l.length ≤ k) : l.all p = true := by
  rwa [List.take_of_length_le hk] at h
theorem all_not {α : Type} {p : α → Bool} {l : List α} {k : Nat} (hk : k < l.length) (hq : p l[k] = false) : l.all p = false := List.all_eq_false.2 ⟨l[k], List.getElem_mem hk, by rw [hq]; decide⟩
set_option maxRecDepth 100000 in
theorem near10_ok (l : List LFl) (ms : List Int) (hl : l.length ≤ 100) (hm : ms.length ≤ 100) : FnOk Try.prog 28 [.sl 7 (l.map cFl), .sl 1 (ms.map cInt)] [] (.raw (.bool (l.all nearF && ms.all nr10))) [] := by
  refine fn_of_awp Try.func28 rfl (by kernel_rfl) (by kernel_rfl) (Nat.le_of_ble_eq_true rfl) Try.results28 ?_
  simp only [go_sem, Nat.reduceAdd, Nat.reduceMul, Nat.reduceSub, Nat.reduceEqDiff, Nat.reduceDiv, Nat.reduceLT, Nat.reduceLeDiff, reduceCtorEq, decide_true, Int.natCast_add, Int.cast_ofNat_Int, Bool.not_eq_true', Bool.not_eq_false', List.length_map]
  refine aloop2 [] (fun k : Nat => ⟨[(0, .sl 7 (l.map cFl)), (1, .sl 1 (ms.map cInt)), (4, .raw (.bool false)), (5, .raw (.int .i64 k))], [], none⟩) (fun k => k ≤ l.length ∧ (l.take k).all nearF = true) (fun k => l.length - k) 2 0 (by simp only [go_sem, Nat.reduceAdd, Nat.reduceMul, Nat.reduceSub, Nat.reduceEqDiff, Nat.reduceDiv, Nat.reduceLT, Nat.reduceLeDiff, reduceCtorEq, decide_true, Int.natCast_add, Int.cast_ofNat_Int, Bool.not_eq_true', Bool.not_eq_false']; rfl) (by simp only [go_sem, Nat.reduceAdd, Nat.reduceMul, Nat.reduceSub, Nat.reduceEqDiff, Nat.reduceDiv, Nat.reduceLT, Nat.reduceLeDiff, reduceCtorEq, decide_true, Int.natCast_add, Int.cast_ofNat_Int, Bool.not_eq_true', Bool.not_eq_false']) ?_ ?_
  · exact ⟨Nat.zero_le _, rfl⟩
  · rintro k ⟨hk, ha⟩
    simp only [go_sem, Nat.reduceAdd, Nat.reduceMul, Nat.reduceSub, Nat.reduceEqDiff, Nat.reduceDiv, Nat.reduceLT, Nat.reduceLeDiff, reduceCtorEq, decide_true, Int.natCast_add, Int.cast_ofNat_Int, Bool.not_eq_true', Bool.not_eq_false', List.length_map]
    refine ⟨fun h5 => ?_, fun h5 => ?_⟩
    · have hk' : k < l.length := by omega
      have hf := nearF_iff (f := l[k])
      repeat' first | contradiction | intro _ | refine And.intro ?_ ?_ | refine ex_atA (by omega) ?_ | refine ex_atA' (by omega) ?_ | refine ex_get (by omega) ?_ | (show drawB _ _ = true; kernel_rfl) | (refine ret2 [] (by simp only [go_sem, Nat.reduceAdd, Nat.reduceMul, Nat.reduceSub, Nat.reduceEqDiff, Nat.reduceDiv, Nat.reduceLT, Nat.reduceLeDiff, reduceCtorEq, decide_true, Int.natCast_add, Int.cast_ofNat_Int, Bool.not_eq_true', Bool.not_eq_false']; rfl) ?_; simp only [go_sem, Nat.reduceAdd, Nat.reduceMul, Nat.reduceSub, Nat.reduceEqDiff, Nat.reduceDiv, Nat.reduceLT, Nat.reduceLeDiff, reduceCtorEq, decide_true, Int.natCast_add, Int.cast_ofNat_Int, Bool.not_eq_true', Bool.not_eq_false'])
      all_goals try omega
      all_goals first | ((refine loop_end [] (k + 1) (by simp only [go_sem, Nat.reduceAdd, Nat.reduceMul, Nat.reduceSub, Nat.reduceEqDiff, Nat.reduceDiv, Nat.reduceLT, Nat.reduceLeDiff, reduceCtorEq, decide_true, Int.natCast_add, Int.cast_ofNat_Int, Bool.not_eq_true', Bool.not_eq_false']; rfl) ?_ ?_ ?_; (focus first | omega | (simp only; omega)); (focus (simp only [go_sem, Nat.reduceAdd, Nat.reduceMul, Nat.reduceSub, Nat.reduceEqDiff, Nat.reduceDiv, Nat.reduceLT, Nat.reduceLeDiff, reduceCtorEq, decide_true, Int.natCast_add, Int.cast_ofNat_Int, Bool.not_eq_true', Bool.not_eq_false']; done))); refine ⟨by omega, ?_⟩; rw [take_all' _ _ _ hk', ha, hf.2 (by omega)]; rfl) | (rw [all_not hk' (show nearF l[k] = false by rw [← Bool.not_eq_true, hf]; omega)]; rfl)
    · have hall := all_of_pre ha (by omega)
      rw [hall]
      simp only [Bool.true_and]
      refine aloop2 [] (fun k : Nat => ⟨[(1, .sl 1 (ms.map cInt)), (4, .raw (.bool false)), (7, .raw (.int .i64 k))], [], none⟩) (fun k => k ≤ ms.length ∧ (ms.take k).all nr10 = true) (fun k => ms.length - k) 2 0 (by simp only [go_sem, Nat.reduceAdd, Nat.reduceMul, Nat.reduceSub, Nat.reduceEqDiff, Nat.reduceDiv, Nat.reduceLT, Nat.reduceLeDiff, reduceCtorEq, decide_true, Int.natCast_add, Int.cast_ofNat_Int, Bool.not_eq_true', Bool.not_eq_false']; rfl) (by simp only [go_sem, Nat.reduceAdd, Nat.reduceMul, Nat.reduceSub, Nat.reduceEqDiff, Nat.reduceDiv, Nat.reduceLT, Nat.reduceLeDiff, reduceCtorEq, decide_true, Int.natCast_add, Int.cast_ofNat_Int, Bool.not_eq_true', Bool.not_eq_false']) ?_ ?_
      · exact ⟨Nat.zero_le _, rfl⟩
      · rintro j ⟨hj, hb⟩
        simp only [go_sem, Nat.reduceAdd, Nat.reduceMul, Nat.reduceSub, Nat.reduceEqDiff, Nat.reduceDiv, Nat.reduceLT, Nat.reduceLeDiff, reduceCtorEq, decide_true, Int.natCast_add, Int.cast_ofNat_Int, Bool.not_eq_true', Bool.not_eq_false', List.length_map]
        refine ⟨fun h6 => ?_, fun h6 => ?_⟩
        · have hj' : j < ms.length := by omega
          have hf : nr10 ms[j] = true ↔ _ := decide_eq_true_iff
          repeat' first | contradiction | intro _ | refine And.intro ?_ ?_ | refine ex_atA (by omega) ?_ | refine ex_atA' (by omega) ?_ | refine ex_get (by omega) ?_ | (show drawB _ _ = true; kernel_rfl) | (refine ret2 [] (by simp only [go_sem, Nat.reduceAdd, Nat.reduceMul, Nat.reduceSub, Nat.reduceEqDiff, Nat.reduceDiv, Nat.reduceLT, Nat.reduceLeDiff, reduceCtorEq, decide_true, Int.natCast_add, Int.cast_ofNat_Int, Bool.not_eq_true', Bool.not_eq_false']; rfl) ?_; simp only [go_sem, Nat.reduceAdd, Nat.reduceMul, Nat.reduceSub, Nat.reduceEqDiff, Nat.reduceDiv, Nat.reduceLT, Nat.reduceLeDiff, reduceCtorEq, decide_true, Int.natCast_add, Int.cast_ofNat_Int, Bool.not_eq_true', Bool.not_eq_false'])
          all_goals try omega
          all_goals first | ((refine loop_end [] (j + 1) (by simp only [go_sem, Nat.reduceAdd, Nat.reduceMul, Nat.reduceSub, Nat.reduceEqDiff, Nat.reduceDiv, Nat.reduceLT, Nat.reduceLeDiff, reduceCtorEq, decide_true, Int.natCast_add, Int.cast_ofNat_Int, Bool.not_eq_true', Bool.not_eq_false']; rfl) ?_ ?_ ?_; (focus first | omega | (simp only; omega)); (focus (simp only [go_sem, Nat.reduceAdd, Nat.reduceMul, Nat.reduceSub, Nat.reduceEqDiff, Nat.reduceDiv, Nat.reduceLT, Nat.reduceLeDiff, reduceCtorEq, decide_true, Int.natCast_add, Int.cast_ofNat_Int, Bool.not_eq_true', Bool.not_eq_false']; done))); refine ⟨by omega, ?_⟩; rw [take_all' _ _ _ hj', hb, hf.2 (by omega)]; rfl) | (rw [all_not hj' (show nr10 ms[j] = false by rw [← Bool.not_eq_true, hf]; omega)])
        · have := all_of_pre hb (by omega)
          rw [this]
theorem fl_ext {x y : LFl} (h : (decide (x.node = y.node) && (decide (x.side = y.side) && (decide (x.anchor = y.anchor) && (decide (x.x = y.x) && (decide (x.y = y.y) && (decide (x.w = y.w) && decide (x.h = y.h))))))) = true) : x = y := by
  simp at h
  cases x; cases y; simp_all
theorem at_ext {x y : LAt} (h : (decide (x.kind = y.kind) && (decide (x.node = y.node) && (decide (x.fr = y.fr) && (decide (x.to = y.to) && (decide (x.x = y.x) && (decide (x.y = y.y) && (decide (x.w = y.w) && decide (x.h = y.h)))))))) = true) : x = y := by
  simp at h
  cases x; cases y; simp_all
set_option maxRecDepth 100000 in
theorem same10_ok (a b : List LFl) (hl : a.length ≤ 1000) (hb : b.length ≤ 1000) : FnOk Try.prog 35 [.sl 7 (a.map cFl), .sl 7 (b.map cFl)] [] (.raw (.bool (decide (a = b)))) [] := by
  refine fn_of_awp Try.func35 rfl (by kernel_rfl) (by kernel_rfl) (Nat.le_of_ble_eq_true rfl) Try.results35 ?_
  simp only [go_sem, Nat.reduceAdd, Nat.reduceMul, Nat.reduceSub, Nat.reduceEqDiff, Nat.reduceDiv, Nat.reduceLT, Nat.reduceLeDiff, reduceCtorEq, decide_true, Int.natCast_add, Int.cast_ofNat_Int, Bool.not_eq_true', Bool.not_eq_false', List.length_map]
  refine ⟨fun h => ?_, fun h => ?_⟩
  · exact fun e => h (by rw [e])
  refine aloop2 [] (fun k : Nat => ⟨[(0, .sl 7 (a.map cFl)), (1, .sl 7 (b.map cFl)), (5, .raw (.int .i64 k))], [], none⟩) (fun k => k ≤ a.length ∧ a.take k = b.take k) (fun k => a.length - k) 4 0 (by simp only [go_sem, Nat.reduceAdd, Nat.reduceMul, Nat.reduceSub, Nat.reduceEqDiff, Nat.reduceDiv, Nat.reduceLT, Nat.reduceLeDiff, reduceCtorEq, decide_true, Int.natCast_add, Int.cast_ofNat_Int, Bool.not_eq_true', Bool.not_eq_false']; rfl) (by simp only [go_sem, Nat.reduceAdd, Nat.reduceMul, Nat.reduceSub, Nat.reduceEqDiff, Nat.reduceDiv, Nat.reduceLT, Nat.reduceLeDiff, reduceCtorEq, decide_true, Int.natCast_add, Int.cast_ofNat_Int, Bool.not_eq_true', Bool.not_eq_false']) ?_ ?_
  · exact ⟨Nat.zero_le _, rfl⟩
  · rintro k ⟨hk, ht⟩
    simp only [go_sem, Nat.reduceAdd, Nat.reduceMul, Nat.reduceSub, Nat.reduceEqDiff, Nat.reduceDiv, Nat.reduceLT, Nat.reduceLeDiff, reduceCtorEq, decide_true, Int.natCast_add, Int.cast_ofNat_Int, Bool.not_eq_true', Bool.not_eq_false', List.length_map]
    have hlen : a.length = b.length := by omega
    refine ⟨fun h5 => ?_, fun h5 => ?_⟩
    · have ka : k < a.length := by omega
      have kb : k < b.length := by omega
      refine ⟨by omega, ex_get ka ⟨by omega, ex_get kb ?_⟩⟩
      repeat' first | contradiction | intro _ | refine And.intro ?_ ?_ | refine ex_atA (by omega) ?_ | refine ex_atA' (by omega) ?_ | refine ex_get (by omega) ?_ | (show drawB _ _ = true; kernel_rfl) | (refine ret2 [] (by simp only [go_sem, Nat.reduceAdd, Nat.reduceMul, Nat.reduceSub, Nat.reduceEqDiff, Nat.reduceDiv, Nat.reduceLT, Nat.reduceLeDiff, reduceCtorEq, decide_true, Int.natCast_add, Int.cast_ofNat_Int, Bool.not_eq_true', Bool.not_eq_false']; rfl) ?_; simp only [go_sem, Nat.reduceAdd, Nat.reduceMul, Nat.reduceSub, Nat.reduceEqDiff, Nat.reduceDiv, Nat.reduceLT, Nat.reduceLeDiff, reduceCtorEq, decide_true, Int.natCast_add, Int.cast_ofNat_Int, Bool.not_eq_true', Bool.not_eq_false'])
      all_goals first
        | omega
        | (have e : a = b := by assumption
           subst e
           simp_all; done)
        | ((refine loop_end [] (k + 1) (by simp only [go_sem, Nat.reduceAdd, Nat.reduceMul, Nat.reduceSub, Nat.reduceEqDiff, Nat.reduceDiv, Nat.reduceLT, Nat.reduceLeDiff, reduceCtorEq, decide_true, Int.natCast_add, Int.cast_ofNat_Int, Bool.not_eq_true', Bool.not_eq_false']; rfl) ?_ ?_ ?_; (focus first | omega | (simp only; omega)); (focus (simp only [go_sem, Nat.reduceAdd, Nat.reduceMul, Nat.reduceSub, Nat.reduceEqDiff, Nat.reduceDiv, Nat.reduceLT, Nat.reduceLeDiff, reduceCtorEq, decide_true, Int.natCast_add, Int.cast_ofNat_Int, Bool.not_eq_true', Bool.not_eq_false']; done)))
           refine ⟨by omega, ?_⟩
           rw [List.take_succ_eq_append_getElem ka, List.take_succ_eq_append_getElem kb, ht, fl_ext (x := a[k]) (y := b[k]) (by assumption)])
    · have e : a = b := by
        have h1 : a.take k = a := List.take_of_length_le (by omega)
        have h2 : b.take k = b := List.take_of_length_le (by omega)
        rw [← h1, ← h2, ht]
      first | exact e | (rw [decide_eq_true e])
set_option maxRecDepth 100000 in
theorem same14_ok (a b : List LAt) (hl : a.length ≤ 1000) (hb : b.length ≤ 1000) : FnOk Try.prog 27 [.sl 8 (a.map cAt), .sl 8 (b.map cAt)] [] (.raw (.bool (decide (a = b)))) [] := by
  refine fn_of_awp Try.func27 rfl (by kernel_rfl) (by kernel_rfl) (Nat.le_of_ble_eq_true rfl) Try.results27 ?_
  simp only [go_sem, Nat.reduceAdd, Nat.reduceMul, Nat.reduceSub, Nat.reduceEqDiff, Nat.reduceDiv, Nat.reduceLT, Nat.reduceLeDiff, reduceCtorEq, decide_true, Int.natCast_add, Int.cast_ofNat_Int, Bool.not_eq_true', Bool.not_eq_false', List.length_map]
  refine ⟨fun h => ?_, fun h => ?_⟩
  · exact fun e => h (by rw [e])
  refine aloop2 [] (fun k : Nat => ⟨[(0, .sl 8 (a.map cAt)), (1, .sl 8 (b.map cAt)), (5, .raw (.int .i64 k))], [], none⟩) (fun k => k ≤ a.length ∧ a.take k = b.take k) (fun k => a.length - k) 4 0 (by simp only [go_sem, Nat.reduceAdd, Nat.reduceMul, Nat.reduceSub, Nat.reduceEqDiff, Nat.reduceDiv, Nat.reduceLT, Nat.reduceLeDiff, reduceCtorEq, decide_true, Int.natCast_add, Int.cast_ofNat_Int, Bool.not_eq_true', Bool.not_eq_false']; rfl) (by simp only [go_sem, Nat.reduceAdd, Nat.reduceMul, Nat.reduceSub, Nat.reduceEqDiff, Nat.reduceDiv, Nat.reduceLT, Nat.reduceLeDiff, reduceCtorEq, decide_true, Int.natCast_add, Int.cast_ofNat_Int, Bool.not_eq_true', Bool.not_eq_false']) ?_ ?_
  · exact ⟨Nat.zero_le _, rfl⟩
  · rintro k ⟨hk, ht⟩
    simp only [go_sem, Nat.reduceAdd, Nat.reduceMul, Nat.reduceSub, Nat.reduceEqDiff, Nat.reduceDiv, Nat.reduceLT, Nat.reduceLeDiff, reduceCtorEq, decide_true, Int.natCast_add, Int.cast_ofNat_Int, Bool.not_eq_true', Bool.not_eq_false', List.length_map]
    have hlen : a.length = b.length := by omega
    refine ⟨fun h5 => ?_, fun h5 => ?_⟩
    · have ka : k < a.length := by omega
      have kb : k < b.length := by omega
      refine ⟨by omega, ex_get ka ⟨by omega, ex_get kb ?_⟩⟩
      repeat' first | contradiction | intro _ | refine And.intro ?_ ?_ | refine ex_atA (by omega) ?_ | refine ex_atA' (by omega) ?_ | refine ex_get (by omega) ?_ | (show drawB _ _ = true; kernel_rfl) | (refine ret2 [] (by simp only [go_sem, Nat.reduceAdd, Nat.reduceMul, Nat.reduceSub, Nat.reduceEqDiff, Nat.reduceDiv, Nat.reduceLT, Nat.reduceLeDiff, reduceCtorEq, decide_true, Int.natCast_add, Int.cast_ofNat_Int, Bool.not_eq_true', Bool.not_eq_false']; rfl) ?_; simp only [go_sem, Nat.reduceAdd, Nat.reduceMul, Nat.reduceSub, Nat.reduceEqDiff, Nat.reduceDiv, Nat.reduceLT, Nat.reduceLeDiff, reduceCtorEq, decide_true, Int.natCast_add, Int.cast_ofNat_Int, Bool.not_eq_true', Bool.not_eq_false'])
      all_goals first
        | omega
        | (have e : a = b := by assumption
           subst e
           simp_all; done)
        | ((refine loop_end [] (k + 1) (by simp only [go_sem, Nat.reduceAdd, Nat.reduceMul, Nat.reduceSub, Nat.reduceEqDiff, Nat.reduceDiv, Nat.reduceLT, Nat.reduceLeDiff, reduceCtorEq, decide_true, Int.natCast_add, Int.cast_ofNat_Int, Bool.not_eq_true', Bool.not_eq_false']; rfl) ?_ ?_ ?_; (focus first | omega | (simp only; omega)); (focus (simp only [go_sem, Nat.reduceAdd, Nat.reduceMul, Nat.reduceSub, Nat.reduceEqDiff, Nat.reduceDiv, Nat.reduceLT, Nat.reduceLeDiff, reduceCtorEq, decide_true, Int.natCast_add, Int.cast_ofNat_Int, Bool.not_eq_true', Bool.not_eq_false']; done)))
           refine ⟨by omega, ?_⟩
           rw [List.take_succ_eq_append_getElem ka, List.take_succ_eq_append_getElem kb, ht, at_ext (x := a[k]) (y := b[k]) (by assumption)])
    · have e : a = b := by
        have h1 : a.take k = a := List.take_of_length_le (by omega)
        have h2 : b.take k = b := List.take_of_length_le (by omega)
        rw [← h1, ← h2, ht]
      first | exact e | (rw [decide_eq_true e])
/-- what chapter 15 speaks of. -/
def good15 (l : List LAt) (k : Nat) : Bool := decide (((-1125899906842624 ≤ (atA l k).x ∧ (atA l k).x ≤ 1125899906842624) ∧ (-1125899906842624 ≤ (atA l k).y ∧ (atA l k).y ≤ 1125899906842624) ∧ (-1125899906842624 ≤ (atA l k).w ∧ (atA l k).w ≤ 1125899906842624) ∧ (-1125899906842624 ≤ (atA l k).h ∧ (atA l k).h ≤ 1125899906842624)) ∧ (0 < (k : Int) → (atA l ((k : Int) - 1)).node ≤ (atA l k).node))
def near15 (l : List LAt) : Bool := (List.range l.length).all (good15 l)
def Near15 (l : List LAt) : Prop := ∀ q : Int, 0 ≤ q → q < l.length → ((-1125899906842624 ≤ (atA l q).x ∧ (atA l q).x ≤ 1125899906842624) ∧ (-1125899906842624 ≤ (atA l q).y ∧ (atA l q).y ≤ 1125899906842624) ∧ (-1125899906842624 ≤ (atA l q).w ∧ (atA l q).w ≤ 1125899906842624) ∧ (-1125899906842624 ≤ (atA l q).h ∧ (atA l q).h ≤ 1125899906842624)) ∧ (0 < q → (atA l (q - 1)).node ≤ (atA l q).node)
theorem near15_iff (l : List LAt) : near15 l = true ↔ Near15 l := by
  simp only [near15, List.all_eq_true, List.mem_range, good15, decide_eq_true_eq, Near15]
  constructor
  · intro h q h1 h2
    obtain ⟨k, rfl⟩ := Int.eq_ofNat_of_zero_le h1
    exact h k (by omega)
  · intro h k hk
    exact h k (by omega) (by omega)
set_option maxRecDepth 100000 in
set_option maxHeartbeats 4000000 in
theorem near15_ok (l : List LAt) (hl : l.length ≤ 1000) : FnOk Try.prog 29 [.sl 8 (l.map cAt)] [] (.raw (.bool (near15 l))) [] := by
  refine fn_of_awp Try.func29 rfl (by kernel_rfl) (by kernel_rfl) (Nat.le_of_ble_eq_true rfl) Try.results29 ?_
  simp only [go_sem, Nat.reduceAdd, Nat.reduceMul, Nat.reduceSub, Nat.reduceEqDiff, Nat.reduceDiv, Nat.reduceLT, Nat.reduceLeDiff, reduceCtorEq, decide_true, Int.natCast_add, Int.cast_ofNat_Int, Bool.not_eq_true', Bool.not_eq_false', List.length_map]
  refine aloop2 [] (fun k : Nat => ⟨[(0, .sl 8 (l.map cAt)), (3, .raw (.int .i64 k))], [], none⟩) (fun k => k ≤ l.length ∧ ∀ j, j < k → good15 l j = true) (fun k => l.length - k) 4 0 (by simp only [go_sem, Nat.reduceAdd, Nat.reduceMul, Nat.reduceSub, Nat.reduceEqDiff, Nat.reduceDiv, Nat.reduceLT, Nat.reduceLeDiff, reduceCtorEq, decide_true, Int.natCast_add, Int.cast_ofNat_Int, Bool.not_eq_true', Bool.not_eq_false']; rfl) (by simp only [go_sem, Nat.reduceAdd, Nat.reduceMul, Nat.reduceSub, Nat.reduceEqDiff, Nat.reduceDiv, Nat.reduceLT, Nat.reduceLeDiff, reduceCtorEq, decide_true, Int.natCast_add, Int.cast_ofNat_Int, Bool.not_eq_true', Bool.not_eq_false']) ?_ ?_
  · exact ⟨Nat.zero_le _, fun k h => absurd h (Nat.not_lt_zero k)⟩
  · rintro k ⟨h1, h2⟩
    have hg : good15 l k = true ↔ _ := decide_eq_true_iff
    have hf : k < l.length → good15 l k = false → near15 l = false := fun h q => by
      rw [near15, List.all_eq_false]
      exact ⟨k, List.mem_range.2 h, by rw [q]; decide⟩
    simp only [go_sem, Nat.reduceAdd, Nat.reduceMul, Nat.reduceSub, Nat.reduceEqDiff, Nat.reduceDiv, Nat.reduceLT, Nat.reduceLeDiff, reduceCtorEq, decide_true, Int.natCast_add, Int.cast_ofNat_Int, Bool.not_eq_true', Bool.not_eq_false', List.length_map]
    repeat' first | contradiction | intro _ | refine And.intro ?_ ?_ | refine ex_atA (by omega) ?_ | refine ex_atA' (by omega) ?_ | refine ex_get (by omega) ?_ | (show drawB _ _ = true; kernel_rfl) | (refine ret2 [] (by simp only [go_sem, Nat.reduceAdd, Nat.reduceMul, Nat.reduceSub, Nat.reduceEqDiff, Nat.reduceDiv, Nat.reduceLT, Nat.reduceLeDiff, reduceCtorEq, decide_true, Int.natCast_add, Int.cast_ofNat_Int, Bool.not_eq_true', Bool.not_eq_false', List.length_map]; rfl) ?_; simp only [go_sem, Nat.reduceAdd, Nat.reduceMul, Nat.reduceSub, Nat.reduceEqDiff, Nat.reduceDiv, Nat.reduceLT, Nat.reduceLeDiff, reduceCtorEq, decide_true, Int.natCast_add, Int.cast_ofNat_Int, Bool.not_eq_true', Bool.not_eq_false', List.length_map])
    all_goals first
      | omega
      | (rw [hf (by omega) (by rw [← Bool.not_eq_true, hg]; omega)]; done)
      | ((refine loop_end [] (k + 1) (by simp only [go_sem, Nat.reduceAdd, Nat.reduceMul, Nat.reduceSub, Nat.reduceEqDiff, Nat.reduceDiv, Nat.reduceLT, Nat.reduceLeDiff, reduceCtorEq, decide_true, Int.natCast_add, Int.cast_ofNat_Int, Bool.not_eq_true', Bool.not_eq_false']; rfl) ?_ ?_ ?_; (focus first | omega | (simp only; omega)); (focus (simp only [go_sem, Nat.reduceAdd, Nat.reduceMul, Nat.reduceSub, Nat.reduceEqDiff, Nat.reduceDiv, Nat.reduceLT, Nat.reduceLeDiff, reduceCtorEq, decide_true, Int.natCast_add, Int.cast_ofNat_Int, Bool.not_eq_true', Bool.not_eq_false']; done)))
         refine ⟨by omega, fun j hj => ?_⟩
         rcases Nat.lt_succ_iff_lt_or_eq.1 hj with h8 | h8
         · exact h2 j h8
         · subst h8; exact hg.2 (by omega))
      | (refine (?_ : near15 l = true)
         rw [near15, List.all_eq_true]
         intro j hj
         rw [List.mem_range] at hj
         exact h2 j (by omega))
      | skip
end Go.Proofs.Ytmgckellncfjpaa
