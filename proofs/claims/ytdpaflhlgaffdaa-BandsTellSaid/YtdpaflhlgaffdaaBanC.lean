/- CHAPTER 10: the reference's bands. -/
import Derived.Test.YtdpaflhlgaffdaaBanB
/- BOOLS -/
set_option linter.unusedSimpArgs false
set_option linter.unusedVariables false
namespace Go.Proofs.Ytdpaflhlgaffdaa
open Go.RowKit

set_option maxRecDepth 100000 in
theorem rmeets_ok (f : LFl) (y high : Int) (h : nearF f = true) (hy : in10 y) (hh : in10 high) : FnOk Try.prog 59 [aFl f, .raw (.int .i64 y), .raw (.int .i64 high)] [] (.raw (.bool (meetF f y high))) [] := by
  refine fn_of_awp Try.func59 rfl (by kernel_rfl) (by kernel_rfl) (Nat.le_of_ble_eq_true rfl) Try.results59 ?_
  simp only [go_sem, Nat.reduceAdd, Nat.reduceMul, Nat.reduceSub, Nat.reduceEqDiff, Nat.reduceDiv, Nat.reduceLT, Nat.reduceLeDiff, reduceCtorEq, decide_true, Int.natCast_add, Int.cast_ofNat_Int, Bool.not_eq_true', Bool.not_eq_false']
  rw [nearF_iff] at h
  unfold in10 at hy hh
  repeat' first | contradiction | intro _ | refine And.intro ?_ ?_ | refine ex_get (by omega) ?_ | (show drawB _ _ = true; kernel_rfl) | (refine ret2 (by simp only [go_sem, Nat.reduceAdd, Nat.reduceMul, Nat.reduceSub, Nat.reduceEqDiff, Nat.reduceDiv, Nat.reduceLT, Nat.reduceLeDiff, reduceCtorEq, decide_true, Int.natCast_add, Int.cast_ofNat_Int, Bool.not_eq_true', Bool.not_eq_false']; rfl) ?_; simp only [go_sem, Nat.reduceAdd, Nat.reduceMul, Nat.reduceSub, Nat.reduceEqDiff, Nat.reduceDiv, Nat.reduceLT, Nat.reduceLeDiff, reduceCtorEq, decide_true, Int.natCast_add, Int.cast_ofNat_Int, Bool.not_eq_true', Bool.not_eq_false'])
  all_goals first | omega | (simp only [meetF]; first | (rw [decide_eq_true (by omega)]; done) | (rw [decide_eq_false (by omega)]; done) | (simp only [eq_comm, decide_eq_decide]; omega))
theorem cutF_l {f : LFl} {s : LSpan} (h : f.side = 1) : cutF f s = ⟨max s.a (f.x + f.w), s.b⟩ := if_pos h
theorem cutF_r {f : LFl} {s : LSpan} (h : ¬ f.side = 1) : cutF f s = ⟨s.a, min s.b f.x⟩ := if_neg h
set_option maxRecDepth 100000 in
theorem rof10_ok (l : List LFl) (y high : Int) (s : LSpan) (hl : l.length ≤ 100) (hn : l.all nearF = true) (hy : in10 y) (hh : in10 high) : FnOk Try.prog 26 [.hdr 0, .raw (.int .i64 y), .raw (.int .i64 high), aSpan s] [(0, .ext 7 (l.map cFl))] (aSpan (bandF l y high s)) [] := by
  refine fn_of_awp Try.func26 rfl (by kernel_rfl) (by kernel_rfl) (Nat.le_of_ble_eq_true rfl) Try.results26 ?_
  simp only [go_sem, Nat.reduceAdd, Nat.reduceMul, Nat.reduceSub, Nat.reduceEqDiff, Nat.reduceDiv, Nat.reduceLT, Nat.reduceLeDiff, reduceCtorEq, decide_true, Int.natCast_add, Int.cast_ofNat_Int, Bool.not_eq_true', Bool.not_eq_false', List.length_map]
  refine aloop2 (fun z : KX LSpan => ⟨[(0, .hdr 0), (1, .raw (.int .i64 y)), (2, .raw (.int .i64 high)), (7, .hdr 8), (8, .hdr 16), (9, .raw (.int .i64 z.k))], [(0, some (.ext 7 (l.map cFl))), (8, some (.cells 34 [.raw (.int .i64 z.o.a), .raw (.int .i64 z.o.b)])), (16, some (.cells 34 [.raw (.int .i64 0), .raw (.int .i64 0)]))], none⟩) (FInv (ofT y high) s l) (fun z => l.length - z.k) 3 ⟨0, s⟩ (by simp only [go_sem, Nat.reduceAdd, Nat.reduceMul, Nat.reduceSub, Nat.reduceEqDiff, Nat.reduceDiv, Nat.reduceLT, Nat.reduceLeDiff, reduceCtorEq, decide_true, Int.natCast_add, Int.cast_ofNat_Int, Bool.not_eq_true', Bool.not_eq_false']; rfl) (by simp only [go_sem, Nat.reduceAdd, Nat.reduceMul, Nat.reduceSub, Nat.reduceEqDiff, Nat.reduceDiv, Nat.reduceLT, Nat.reduceLeDiff, reduceCtorEq, decide_true, Int.natCast_add, Int.cast_ofNat_Int, Bool.not_eq_true', Bool.not_eq_false']) ?_ ?_
  · exact fInv_first _ _ _
  · rintro ⟨k, o⟩ hi
    simp only [go_sem, Nat.reduceAdd, Nat.reduceMul, Nat.reduceSub, Nat.reduceEqDiff, Nat.reduceDiv, Nat.reduceLT, Nat.reduceLeDiff, reduceCtorEq, decide_true, Int.natCast_add, Int.cast_ofNat_Int, Bool.not_eq_true', Bool.not_eq_false', List.length_map]
    refine ⟨fun h5 => ?_, fun h5 => ?_⟩
    · have hk : k < l.length := by omega
      have hf := all_at hn hk
      have hf' := nearF_iff.1 hf
      refine ⟨by omega, l[k], by simp, ?_⟩
      repeat' first | contradiction | intro _ | refine And.intro ?_ ?_ | refine ex_get (by omega) ?_ | (show drawB _ _ = true; kernel_rfl) | (refine ret2 (by simp only [go_sem, Nat.reduceAdd, Nat.reduceMul, Nat.reduceSub, Nat.reduceEqDiff, Nat.reduceDiv, Nat.reduceLT, Nat.reduceLeDiff, reduceCtorEq, decide_true, Int.natCast_add, Int.cast_ofNat_Int, Bool.not_eq_true', Bool.not_eq_false']; rfl) ?_; simp only [go_sem, Nat.reduceAdd, Nat.reduceMul, Nat.reduceSub, Nat.reduceEqDiff, Nat.reduceDiv, Nat.reduceLT, Nat.reduceLeDiff, reduceCtorEq, decide_true, Int.natCast_add, Int.cast_ofNat_Int, Bool.not_eq_true', Bool.not_eq_false']) | (refine acall2 (rmeets_ok l[k] y high hf hy hh) (by simp only [go_sem, Nat.reduceAdd, Nat.reduceMul, Nat.reduceSub, Nat.reduceEqDiff, Nat.reduceDiv, Nat.reduceLT, Nat.reduceLeDiff, reduceCtorEq, decide_true, Int.natCast_add, Int.cast_ofNat_Int, Bool.not_eq_true', Bool.not_eq_false']; rfl) (fit_of rfl rfl (by simp only [go_sem, Nat.reduceAdd, Nat.reduceMul, Nat.reduceSub, Nat.reduceEqDiff, Nat.reduceDiv, Nat.reduceLT, Nat.reduceLeDiff, reduceCtorEq, decide_true, Int.natCast_add, Int.cast_ofNat_Int, Bool.not_eq_true', Bool.not_eq_false']) (by simp only [go_sem, Nat.reduceAdd, Nat.reduceMul, Nat.reduceSub, Nat.reduceEqDiff, Nat.reduceDiv, Nat.reduceLT, Nat.reduceLeDiff, reduceCtorEq, decide_true, Int.natCast_add, Int.cast_ofNat_Int, Bool.not_eq_true', Bool.not_eq_false']) (by simp only [go_sem, Nat.reduceAdd, Nat.reduceMul, Nat.reduceSub, Nat.reduceEqDiff, Nat.reduceDiv, Nat.reduceLT, Nat.reduceLeDiff, reduceCtorEq, decide_true, Int.natCast_add, Int.cast_ofNat_Int, Bool.not_eq_true', Bool.not_eq_false']) (by simp only [go_sem, Nat.reduceAdd, Nat.reduceMul, Nat.reduceSub, Nat.reduceEqDiff, Nat.reduceDiv, Nat.reduceLT, Nat.reduceLeDiff, reduceCtorEq, decide_true, Int.natCast_add, Int.cast_ofNat_Int, Bool.not_eq_true', Bool.not_eq_false'])) ?_; simp only [go_sem, Nat.reduceAdd, Nat.reduceMul, Nat.reduceSub, Nat.reduceEqDiff, Nat.reduceDiv, Nat.reduceLT, Nat.reduceLeDiff, reduceCtorEq, decide_true, Int.natCast_add, Int.cast_ofNat_Int, Bool.not_eq_true', Bool.not_eq_false'])
      all_goals first | omega | ((refine loop_end (⟨k + 1, ⟨max o.a (l[k].x + l[k].w), o.b⟩⟩) (by simp only [go_sem, Nat.reduceAdd, Nat.reduceMul, Nat.reduceSub, Nat.reduceEqDiff, Nat.reduceDiv, Nat.reduceLT, Nat.reduceLeDiff, reduceCtorEq, decide_true, Int.natCast_add, Int.cast_ofNat_Int, Bool.not_eq_true', Bool.not_eq_false']; rfl) ?_ ?_ ?_; (focus first | omega | (simp only; omega)); (focus (simp only [go_sem, Nat.reduceAdd, Nat.reduceMul, Nat.reduceSub, Nat.reduceEqDiff, Nat.reduceDiv, Nat.reduceLT, Nat.reduceLeDiff, reduceCtorEq, decide_true, Int.natCast_add, Int.cast_ofNat_Int, Bool.not_eq_true', Bool.not_eq_false']; done))); exact fInv_next hi hk (by rw [ofT, if_pos (by simp_all), cutF_l (by assumption)])) | ((refine loop_end (⟨k + 1, ⟨o.a, min o.b l[k].x⟩⟩) (by simp only [go_sem, Nat.reduceAdd, Nat.reduceMul, Nat.reduceSub, Nat.reduceEqDiff, Nat.reduceDiv, Nat.reduceLT, Nat.reduceLeDiff, reduceCtorEq, decide_true, Int.natCast_add, Int.cast_ofNat_Int, Bool.not_eq_true', Bool.not_eq_false']; rfl) ?_ ?_ ?_; (focus first | omega | (simp only; omega)); (focus (simp only [go_sem, Nat.reduceAdd, Nat.reduceMul, Nat.reduceSub, Nat.reduceEqDiff, Nat.reduceDiv, Nat.reduceLT, Nat.reduceLeDiff, reduceCtorEq, decide_true, Int.natCast_add, Int.cast_ofNat_Int, Bool.not_eq_true', Bool.not_eq_false']; done))); exact fInv_next hi hk (by rw [ofT, if_pos (by simp_all), cutF_r (by assumption)])) | ((refine loop_end (⟨k + 1, o⟩) (by simp only [go_sem, Nat.reduceAdd, Nat.reduceMul, Nat.reduceSub, Nat.reduceEqDiff, Nat.reduceDiv, Nat.reduceLT, Nat.reduceLeDiff, reduceCtorEq, decide_true, Int.natCast_add, Int.cast_ofNat_Int, Bool.not_eq_true', Bool.not_eq_false']; rfl) ?_ ?_ ?_; (focus first | omega | (simp only; omega)); (focus (simp only [go_sem, Nat.reduceAdd, Nat.reduceMul, Nat.reduceSub, Nat.reduceEqDiff, Nat.reduceDiv, Nat.reduceLT, Nat.reduceLeDiff, reduceCtorEq, decide_true, Int.natCast_add, Int.cast_ofNat_Int, Bool.not_eq_true', Bool.not_eq_false']; done))); exact fInv_next hi hk (by rw [ofT, if_neg (by simp_all)]))
    · have e := fInv_last hi h5
      repeat' first | contradiction | intro _ | refine And.intro ?_ ?_ | refine ex_get (by omega) ?_ | (show drawB _ _ = true; kernel_rfl) | (refine ret2 (by simp only [go_sem, Nat.reduceAdd, Nat.reduceMul, Nat.reduceSub, Nat.reduceEqDiff, Nat.reduceDiv, Nat.reduceLT, Nat.reduceLeDiff, reduceCtorEq, decide_true, Int.natCast_add, Int.cast_ofNat_Int, Bool.not_eq_true', Bool.not_eq_false']; rfl) ?_; simp only [go_sem, Nat.reduceAdd, Nat.reduceMul, Nat.reduceSub, Nat.reduceEqDiff, Nat.reduceDiv, Nat.reduceLT, Nat.reduceLeDiff, reduceCtorEq, decide_true, Int.natCast_add, Int.cast_ofNat_Int, Bool.not_eq_true', Bool.not_eq_false'])
      all_goals (rw [e]; rfl)
theorem nextC_l {f : LFl} {s : LSpan} {o : LIs} {y high : Int} (hm : meetF f y high = true) (h1 : f.side = 1 → ¬ f.x + f.w ≤ s.a) (h2 : ¬ f.side = 1 → ¬ s.b ≤ f.x) (h3 : o.is = true → f.y + f.h < o.n) : (⟨f.y + f.h, true⟩ : LIs) = nextT y high s o f := by
  rw [nextT, if_pos]
  refine ⟨hm, ?_, h3⟩
  by_cases h : f.side = 1
  · rw [cutF_l h]; have := h1 h; simp only; omega
  · rw [cutF_r h]; have := h2 h; simp only; omega
theorem nextC_n {f : LFl} {s : LSpan} {o : LIs} {y high : Int} (h : meetF f y high = false ∨ (f.side = 1 ∧ f.x + f.w ≤ s.a) ∨ (¬ f.side = 1 ∧ s.b ≤ f.x) ∨ (o.is = true ∧ ¬ f.y + f.h < o.n)) : o = nextT y high s o f := by
  rw [nextT, if_neg]
  rintro ⟨h1, h2, h3⟩
  rcases h with h | ⟨h, q⟩ | ⟨h, q⟩ | ⟨h, q⟩
  · rw [h1] at h; cases h
  · rw [cutF_l h] at h2; exact h2 ⟨by simp only; omega, rfl⟩
  · rw [cutF_r h] at h2; exact h2 ⟨rfl, by simp only; omega⟩
  · exact q (h3 h)
set_option maxRecDepth 100000 in
set_option maxHeartbeats 2000000 in
theorem rnext_ok (l : List LFl) (y high : Int) (s : LSpan) (hl : l.length ≤ 100) (hn : l.all nearF = true) (hy : in10 y) (hh : in10 high) : FnOk Try.prog 20 [.hdr 0, .raw (.int .i64 y), .raw (.int .i64 high), aSpan s] [(0, .ext 7 (l.map cFl))] (aIs (nextF l y high s)) [] := by
  refine fn_of_awp Try.func20 rfl (by kernel_rfl) (by kernel_rfl) (Nat.le_of_ble_eq_true rfl) Try.results20 ?_
  simp only [go_sem, Nat.reduceAdd, Nat.reduceMul, Nat.reduceSub, Nat.reduceEqDiff, Nat.reduceDiv, Nat.reduceLT, Nat.reduceLeDiff, reduceCtorEq, decide_true, Int.natCast_add, Int.cast_ofNat_Int, Bool.not_eq_true', Bool.not_eq_false', List.length_map]
  refine aloop2 (fun z : KX LIs => ⟨[(0, .hdr 0), (1, .raw (.int .i64 y)), (2, .raw (.int .i64 high)), (7, .hdr 8), (8, .raw (.int .i64 0)), (9, .raw (.bool false)), (10, .raw (.int .i64 z.o.n)), (11, .raw (.bool z.o.is)), (12, .raw (.int .i64 z.k))], [(0, some (.ext 7 (l.map cFl))), (8, some (.cells 34 [.raw (.int .i64 s.a), .raw (.int .i64 s.b)]))], none⟩) (FInv (nextT y high s) ⟨0, false⟩ l) (fun z => l.length - z.k) 2 ⟨0, ⟨0, false⟩⟩ (by simp only [go_sem, Nat.reduceAdd, Nat.reduceMul, Nat.reduceSub, Nat.reduceEqDiff, Nat.reduceDiv, Nat.reduceLT, Nat.reduceLeDiff, reduceCtorEq, decide_true, Int.natCast_add, Int.cast_ofNat_Int, Bool.not_eq_true', Bool.not_eq_false']; rfl) (by simp only [go_sem, Nat.reduceAdd, Nat.reduceMul, Nat.reduceSub, Nat.reduceEqDiff, Nat.reduceDiv, Nat.reduceLT, Nat.reduceLeDiff, reduceCtorEq, decide_true, Int.natCast_add, Int.cast_ofNat_Int, Bool.not_eq_true', Bool.not_eq_false']) ?_ ?_
  · exact fInv_first _ _ _
  · rintro ⟨k, o⟩ hi
    simp only [go_sem, Nat.reduceAdd, Nat.reduceMul, Nat.reduceSub, Nat.reduceEqDiff, Nat.reduceDiv, Nat.reduceLT, Nat.reduceLeDiff, reduceCtorEq, decide_true, Int.natCast_add, Int.cast_ofNat_Int, Bool.not_eq_true', Bool.not_eq_false', List.length_map]
    refine ⟨fun h5 => ?_, fun h5 => ?_⟩
    · have hk : k < l.length := by omega
      have hf := all_at hn hk
      have hf' := nearF_iff.1 hf
      refine ⟨by omega, l[k], by simp, ?_⟩
      repeat' first | contradiction | intro _ | refine And.intro ?_ ?_ | refine ex_get (by omega) ?_ | (show drawB _ _ = true; kernel_rfl) | (refine ret2 (by simp only [go_sem, Nat.reduceAdd, Nat.reduceMul, Nat.reduceSub, Nat.reduceEqDiff, Nat.reduceDiv, Nat.reduceLT, Nat.reduceLeDiff, reduceCtorEq, decide_true, Int.natCast_add, Int.cast_ofNat_Int, Bool.not_eq_true', Bool.not_eq_false']; rfl) ?_; simp only [go_sem, Nat.reduceAdd, Nat.reduceMul, Nat.reduceSub, Nat.reduceEqDiff, Nat.reduceDiv, Nat.reduceLT, Nat.reduceLeDiff, reduceCtorEq, decide_true, Int.natCast_add, Int.cast_ofNat_Int, Bool.not_eq_true', Bool.not_eq_false']) | (refine acall2 (rmeets_ok l[k] y high hf hy hh) (by simp only [go_sem, Nat.reduceAdd, Nat.reduceMul, Nat.reduceSub, Nat.reduceEqDiff, Nat.reduceDiv, Nat.reduceLT, Nat.reduceLeDiff, reduceCtorEq, decide_true, Int.natCast_add, Int.cast_ofNat_Int, Bool.not_eq_true', Bool.not_eq_false']; rfl) (fit_of rfl rfl (by simp only [go_sem, Nat.reduceAdd, Nat.reduceMul, Nat.reduceSub, Nat.reduceEqDiff, Nat.reduceDiv, Nat.reduceLT, Nat.reduceLeDiff, reduceCtorEq, decide_true, Int.natCast_add, Int.cast_ofNat_Int, Bool.not_eq_true', Bool.not_eq_false']) (by simp only [go_sem, Nat.reduceAdd, Nat.reduceMul, Nat.reduceSub, Nat.reduceEqDiff, Nat.reduceDiv, Nat.reduceLT, Nat.reduceLeDiff, reduceCtorEq, decide_true, Int.natCast_add, Int.cast_ofNat_Int, Bool.not_eq_true', Bool.not_eq_false']) (by simp only [go_sem, Nat.reduceAdd, Nat.reduceMul, Nat.reduceSub, Nat.reduceEqDiff, Nat.reduceDiv, Nat.reduceLT, Nat.reduceLeDiff, reduceCtorEq, decide_true, Int.natCast_add, Int.cast_ofNat_Int, Bool.not_eq_true', Bool.not_eq_false']) (by simp only [go_sem, Nat.reduceAdd, Nat.reduceMul, Nat.reduceSub, Nat.reduceEqDiff, Nat.reduceDiv, Nat.reduceLT, Nat.reduceLeDiff, reduceCtorEq, decide_true, Int.natCast_add, Int.cast_ofNat_Int, Bool.not_eq_true', Bool.not_eq_false'])) ?_; simp only [go_sem, Nat.reduceAdd, Nat.reduceMul, Nat.reduceSub, Nat.reduceEqDiff, Nat.reduceDiv, Nat.reduceLT, Nat.reduceLeDiff, reduceCtorEq, decide_true, Int.natCast_add, Int.cast_ofNat_Int, Bool.not_eq_true', Bool.not_eq_false'])
      all_goals try omega
      all_goals first | ((refine loop_end (⟨k + 1, ⟨l[k].y + l[k].h, true⟩⟩) (by simp only [go_sem, Nat.reduceAdd, Nat.reduceMul, Nat.reduceSub, Nat.reduceEqDiff, Nat.reduceDiv, Nat.reduceLT, Nat.reduceLeDiff, reduceCtorEq, decide_true, Int.natCast_add, Int.cast_ofNat_Int, Bool.not_eq_true', Bool.not_eq_false']; rfl) ?_ ?_ ?_; (focus first | omega | (simp only; omega)); (focus (simp only [go_sem, Nat.reduceAdd, Nat.reduceMul, Nat.reduceSub, Nat.reduceEqDiff, Nat.reduceDiv, Nat.reduceLT, Nat.reduceLeDiff, reduceCtorEq, decide_true, Int.natCast_add, Int.cast_ofNat_Int, Bool.not_eq_true', Bool.not_eq_false']; done))); refine fInv_next hi hk (nextC_l ?_ ?_ ?_ ?_) <;> first | assumption | (intro q; first | assumption | contradiction | (exact absurd q (ne_true_of_eq_false (by assumption))))) | ((refine loop_end (⟨k + 1, o⟩) (by simp only [go_sem, Nat.reduceAdd, Nat.reduceMul, Nat.reduceSub, Nat.reduceEqDiff, Nat.reduceDiv, Nat.reduceLT, Nat.reduceLeDiff, reduceCtorEq, decide_true, Int.natCast_add, Int.cast_ofNat_Int, Bool.not_eq_true', Bool.not_eq_false']; rfl) ?_ ?_ ?_; (focus first | omega | (simp only; omega)); (focus (simp only [go_sem, Nat.reduceAdd, Nat.reduceMul, Nat.reduceSub, Nat.reduceEqDiff, Nat.reduceDiv, Nat.reduceLT, Nat.reduceLeDiff, reduceCtorEq, decide_true, Int.natCast_add, Int.cast_ofNat_Int, Bool.not_eq_true', Bool.not_eq_false']; done))); refine fInv_next hi hk (nextC_n ?_); first | exact .inl (by assumption) | exact .inr (.inl ⟨by assumption, by assumption⟩) | exact .inr (.inr (.inl ⟨by assumption, by assumption⟩)) | exact .inr (.inr (.inr ⟨by assumption, by assumption⟩)))
    · have e := fInv_last hi h5
      repeat' first | contradiction | intro _ | refine And.intro ?_ ?_ | refine ex_get (by omega) ?_ | (show drawB _ _ = true; kernel_rfl) | (refine ret2 (by simp only [go_sem, Nat.reduceAdd, Nat.reduceMul, Nat.reduceSub, Nat.reduceEqDiff, Nat.reduceDiv, Nat.reduceLT, Nat.reduceLeDiff, reduceCtorEq, decide_true, Int.natCast_add, Int.cast_ofNat_Int, Bool.not_eq_true', Bool.not_eq_false']; rfl) ?_; simp only [go_sem, Nat.reduceAdd, Nat.reduceMul, Nat.reduceSub, Nat.reduceEqDiff, Nat.reduceDiv, Nat.reduceLT, Nat.reduceLeDiff, reduceCtorEq, decide_true, Int.natCast_add, Int.cast_ofNat_Int, Bool.not_eq_true', Bool.not_eq_false'])
      all_goals (rw [e]; rfl)
theorem low_pos {f : LFl} {sides : Int} {o : LIs} (h : ¬ andI f.side sides = 0) (h2 : o.is = true → o.n < f.y + f.h) : (⟨f.y + f.h, true⟩ : LIs) = mostT (lowF sides) o f := most_pos (t := lowF sides) ⟨decide_eq_true h, h2⟩
theorem low_neg {f : LFl} {sides : Int} {o : LIs} (h : andI f.side sides = 0 ∨ (o.is = true ∧ ¬ o.n < f.y + f.h)) : o = mostT (lowF sides) o f := most_neg fun q => by
  rcases h with h | h
  · exact absurd h (of_decide_eq_true q)
  · exact h
theorem top_pos {f : LFl} {o : LIs} (h2 : o.is = true → o.n < f.y) : (⟨f.y, true⟩ : LIs) = mostT topF o f := most_pos (t := topF) ⟨rfl, h2⟩
theorem top_neg {f : LFl} {o : LIs} (h : o.is = true ∧ ¬ o.n < f.y) : o = mostT topF o f := most_neg fun _ => h
set_option maxRecDepth 100000 in
theorem rlow_ok (l : List LFl) (sides : Int) (hl : l.length ≤ 100) (hn : l.all nearF = true) : FnOk Try.prog 22 [.hdr 0, .raw (.int .i64 sides)] [(0, .ext 7 (l.map cFl))] (aIs (mostF (lowF sides) l)) [] := by
  refine fn_of_awp Try.func22 rfl (by kernel_rfl) (by kernel_rfl) (Nat.le_of_ble_eq_true rfl) Try.results22 ?_
  simp only [go_sem, Nat.reduceAdd, Nat.reduceMul, Nat.reduceSub, Nat.reduceEqDiff, Nat.reduceDiv, Nat.reduceLT, Nat.reduceLeDiff, reduceCtorEq, decide_true, Int.natCast_add, Int.cast_ofNat_Int, Bool.not_eq_true', Bool.not_eq_false', List.length_map]
  refine aloop2 (fun z : KX LIs => ⟨[(0, .hdr 0), (1, .raw (.int .i64 sides)), (4, .raw (.int .i64 0)), (5, .raw (.bool false)), (6, .raw (.int .i64 z.o.n)), (7, .raw (.bool z.o.is)), (8, .raw (.int .i64 z.k))], [(0, some (.ext 7 (l.map cFl)))], none⟩) (FInv (mostT (lowF sides)) ⟨0, false⟩ l) (fun z => l.length - z.k) 2 ⟨0, ⟨0, false⟩⟩ (by simp only [go_sem, Nat.reduceAdd, Nat.reduceMul, Nat.reduceSub, Nat.reduceEqDiff, Nat.reduceDiv, Nat.reduceLT, Nat.reduceLeDiff, reduceCtorEq, decide_true, Int.natCast_add, Int.cast_ofNat_Int, Bool.not_eq_true', Bool.not_eq_false']; rfl) (by simp only [go_sem, Nat.reduceAdd, Nat.reduceMul, Nat.reduceSub, Nat.reduceEqDiff, Nat.reduceDiv, Nat.reduceLT, Nat.reduceLeDiff, reduceCtorEq, decide_true, Int.natCast_add, Int.cast_ofNat_Int, Bool.not_eq_true', Bool.not_eq_false']) ?_ ?_
  · exact fInv_first _ _ _
  · rintro ⟨k, o⟩ hi
    simp only [go_sem, Nat.reduceAdd, Nat.reduceMul, Nat.reduceSub, Nat.reduceEqDiff, Nat.reduceDiv, Nat.reduceLT, Nat.reduceLeDiff, reduceCtorEq, decide_true, Int.natCast_add, Int.cast_ofNat_Int, Bool.not_eq_true', Bool.not_eq_false', List.length_map]
    refine ⟨fun h5 => ?_, fun h5 => ?_⟩
    · have hk : k < l.length := by omega
      have hf := all_at hn hk
      have hf' := nearF_iff.1 hf
      refine ⟨by omega, l[k], by simp, ?_⟩
      repeat' first | contradiction | intro _ | refine And.intro ?_ ?_ | refine ex_get (by omega) ?_ | (show drawB _ _ = true; kernel_rfl) | (refine ret2 (by simp only [go_sem, Nat.reduceAdd, Nat.reduceMul, Nat.reduceSub, Nat.reduceEqDiff, Nat.reduceDiv, Nat.reduceLT, Nat.reduceLeDiff, reduceCtorEq, decide_true, Int.natCast_add, Int.cast_ofNat_Int, Bool.not_eq_true', Bool.not_eq_false']; rfl) ?_; simp only [go_sem, Nat.reduceAdd, Nat.reduceMul, Nat.reduceSub, Nat.reduceEqDiff, Nat.reduceDiv, Nat.reduceLT, Nat.reduceLeDiff, reduceCtorEq, decide_true, Int.natCast_add, Int.cast_ofNat_Int, Bool.not_eq_true', Bool.not_eq_false'])
      all_goals try omega
      all_goals first | ((refine loop_end (⟨k + 1, ⟨l[k].y + l[k].h, true⟩⟩) (by simp only [go_sem, Nat.reduceAdd, Nat.reduceMul, Nat.reduceSub, Nat.reduceEqDiff, Nat.reduceDiv, Nat.reduceLT, Nat.reduceLeDiff, reduceCtorEq, decide_true, Int.natCast_add, Int.cast_ofNat_Int, Bool.not_eq_true', Bool.not_eq_false']; rfl) ?_ ?_ ?_; (focus first | omega | (simp only; omega)); (focus (simp only [go_sem, Nat.reduceAdd, Nat.reduceMul, Nat.reduceSub, Nat.reduceEqDiff, Nat.reduceDiv, Nat.reduceLT, Nat.reduceLeDiff, reduceCtorEq, decide_true, Int.natCast_add, Int.cast_ofNat_Int, Bool.not_eq_true', Bool.not_eq_false']; done))); refine fInv_next hi hk (low_pos ?_ ?_) <;> first | assumption | (intro q; first | assumption | contradiction | (exact absurd q (ne_true_of_eq_false (by assumption))))) | ((refine loop_end (⟨k + 1, o⟩) (by simp only [go_sem, Nat.reduceAdd, Nat.reduceMul, Nat.reduceSub, Nat.reduceEqDiff, Nat.reduceDiv, Nat.reduceLT, Nat.reduceLeDiff, reduceCtorEq, decide_true, Int.natCast_add, Int.cast_ofNat_Int, Bool.not_eq_true', Bool.not_eq_false']; rfl) ?_ ?_ ?_; (focus first | omega | (simp only; omega)); (focus (simp only [go_sem, Nat.reduceAdd, Nat.reduceMul, Nat.reduceSub, Nat.reduceEqDiff, Nat.reduceDiv, Nat.reduceLT, Nat.reduceLeDiff, reduceCtorEq, decide_true, Int.natCast_add, Int.cast_ofNat_Int, Bool.not_eq_true', Bool.not_eq_false']; done))); refine fInv_next hi hk (low_neg ?_); first | exact .inl (by assumption) | exact .inr ⟨by assumption, by assumption⟩)
    · have e := fInv_last hi h5
      repeat' first | contradiction | intro _ | refine And.intro ?_ ?_ | refine ex_get (by omega) ?_ | (show drawB _ _ = true; kernel_rfl) | (refine ret2 (by simp only [go_sem, Nat.reduceAdd, Nat.reduceMul, Nat.reduceSub, Nat.reduceEqDiff, Nat.reduceDiv, Nat.reduceLT, Nat.reduceLeDiff, reduceCtorEq, decide_true, Int.natCast_add, Int.cast_ofNat_Int, Bool.not_eq_true', Bool.not_eq_false']; rfl) ?_; simp only [go_sem, Nat.reduceAdd, Nat.reduceMul, Nat.reduceSub, Nat.reduceEqDiff, Nat.reduceDiv, Nat.reduceLT, Nat.reduceLeDiff, reduceCtorEq, decide_true, Int.natCast_add, Int.cast_ofNat_Int, Bool.not_eq_true', Bool.not_eq_false'])
      all_goals (rw [e]; rfl)
theorem top_is (l : List LFl) : (mostF topF l).is = decide (0 < l.length) := by
  have h : ∀ (l : List LFl) (o : LIs), (l.foldl (mostT topF) o).is = (o.is || decide (0 < l.length)) := by
    intro l
    induction l with
    | nil => intro o; simp
    | cons f l ih =>
      intro o
      rw [List.foldl_cons, ih]
      by_cases h : o.is = true
      · rw [h, mostT]; split <;> simp [h]
      · rw [mostT, if_pos ⟨rfl, fun q => absurd q h⟩]; simp
  simpa [mostF] using h l ⟨0, false⟩
set_option maxRecDepth 100000 in
theorem rtop_ok (l : List LFl) (hl : l.length ≤ 100) : FnOk Try.prog 24 [.hdr 0] [(0, .ext 7 (l.map cFl))] (aIs (mostF topF l)) [] := by
  refine fn_of_awp Try.func24 rfl (by kernel_rfl) (by kernel_rfl) (Nat.le_of_ble_eq_true rfl) Try.results24 ?_
  simp only [go_sem, Nat.reduceAdd, Nat.reduceMul, Nat.reduceSub, Nat.reduceEqDiff, Nat.reduceDiv, Nat.reduceLT, Nat.reduceLeDiff, reduceCtorEq, decide_true, Int.natCast_add, Int.cast_ofNat_Int, Bool.not_eq_true', Bool.not_eq_false', List.length_map]
  refine aloop2 (fun z : KX LIs => ⟨[(0, .hdr 0), (2, .raw (.int .i64 0)), (3, .raw (.bool false)), (4, .raw (.int .i64 z.o.n)), (5, .raw (.int .i64 z.k))], [(0, some (.ext 7 (l.map cFl)))], none⟩) (FInv (mostT topF) ⟨0, false⟩ l) (fun z => l.length - z.k) 2 ⟨0, ⟨0, false⟩⟩ (by simp only [go_sem, Nat.reduceAdd, Nat.reduceMul, Nat.reduceSub, Nat.reduceEqDiff, Nat.reduceDiv, Nat.reduceLT, Nat.reduceLeDiff, reduceCtorEq, decide_true, Int.natCast_add, Int.cast_ofNat_Int, Bool.not_eq_true', Bool.not_eq_false']; rfl) (by simp only [go_sem, Nat.reduceAdd, Nat.reduceMul, Nat.reduceSub, Nat.reduceEqDiff, Nat.reduceDiv, Nat.reduceLT, Nat.reduceLeDiff, reduceCtorEq, decide_true, Int.natCast_add, Int.cast_ofNat_Int, Bool.not_eq_true', Bool.not_eq_false']) ?_ ?_
  · exact fInv_first _ _ _
  · rintro ⟨k, o⟩ hi
    have hs : o.is = decide (0 < k) := by
      have h1 := top_is (l.take k)
      have h2 := hi.2
      have h3 := hi.1
      simp only at h2 h3
      rw [h2]
      have h4 := top_is (l.take k)
      rw [List.length_take, Nat.min_eq_left h3] at h4
      exact h4
    simp only [go_sem, Nat.reduceAdd, Nat.reduceMul, Nat.reduceSub, Nat.reduceEqDiff, Nat.reduceDiv, Nat.reduceLT, Nat.reduceLeDiff, reduceCtorEq, decide_true, Int.natCast_add, Int.cast_ofNat_Int, Bool.not_eq_true', Bool.not_eq_false', List.length_map]
    refine ⟨fun h5 => ?_, fun h5 => ?_⟩
    · have hk : k < l.length := by omega
      repeat' first | contradiction | intro _ | refine And.intro ?_ ?_ | refine ex_get (by omega) ?_ | (show drawB _ _ = true; kernel_rfl) | (refine ret2 (by simp only [go_sem, Nat.reduceAdd, Nat.reduceMul, Nat.reduceSub, Nat.reduceEqDiff, Nat.reduceDiv, Nat.reduceLT, Nat.reduceLeDiff, reduceCtorEq, decide_true, Int.natCast_add, Int.cast_ofNat_Int, Bool.not_eq_true', Bool.not_eq_false']; rfl) ?_; simp only [go_sem, Nat.reduceAdd, Nat.reduceMul, Nat.reduceSub, Nat.reduceEqDiff, Nat.reduceDiv, Nat.reduceLT, Nat.reduceLeDiff, reduceCtorEq, decide_true, Int.natCast_add, Int.cast_ofNat_Int, Bool.not_eq_true', Bool.not_eq_false'])
      all_goals try omega
      all_goals first | ((refine loop_end (⟨k + 1, ⟨l[k].y, true⟩⟩) (by simp only [go_sem, Nat.reduceAdd, Nat.reduceMul, Nat.reduceSub, Nat.reduceEqDiff, Nat.reduceDiv, Nat.reduceLT, Nat.reduceLeDiff, reduceCtorEq, decide_true, Int.natCast_add, Int.cast_ofNat_Int, Bool.not_eq_true', Bool.not_eq_false']; rfl) ?_ ?_ ?_; (focus first | omega | (simp only; omega)); (focus (simp only [go_sem, Nat.reduceAdd, Nat.reduceMul, Nat.reduceSub, Nat.reduceEqDiff, Nat.reduceDiv, Nat.reduceLT, Nat.reduceLeDiff, reduceCtorEq, decide_true, Int.natCast_add, Int.cast_ofNat_Int, Bool.not_eq_true', Bool.not_eq_false']; done))); refine fInv_next hi hk (top_pos ?_); intro q; rw [hs, decide_eq_true_eq] at q; omega) | ((refine loop_end (⟨k + 1, o⟩) (by simp only [go_sem, Nat.reduceAdd, Nat.reduceMul, Nat.reduceSub, Nat.reduceEqDiff, Nat.reduceDiv, Nat.reduceLT, Nat.reduceLeDiff, reduceCtorEq, decide_true, Int.natCast_add, Int.cast_ofNat_Int, Bool.not_eq_true', Bool.not_eq_false']; rfl) ?_ ?_ ?_; (focus first | omega | (simp only; omega)); (focus (simp only [go_sem, Nat.reduceAdd, Nat.reduceMul, Nat.reduceSub, Nat.reduceEqDiff, Nat.reduceDiv, Nat.reduceLT, Nat.reduceLeDiff, reduceCtorEq, decide_true, Int.natCast_add, Int.cast_ofNat_Int, Bool.not_eq_true', Bool.not_eq_false']; done))); refine fInv_next hi hk (top_neg ?_); rw [hs, decide_eq_true_eq]; omega)
    · have e := fInv_last hi h5
      have hti := top_is l
      repeat' first | contradiction | intro _ | refine And.intro ?_ ?_ | refine ex_get (by omega) ?_ | (show drawB _ _ = true; kernel_rfl) | (refine ret2 (by simp only [go_sem, Nat.reduceAdd, Nat.reduceMul, Nat.reduceSub, Nat.reduceEqDiff, Nat.reduceDiv, Nat.reduceLT, Nat.reduceLeDiff, reduceCtorEq, decide_true, Int.natCast_add, Int.cast_ofNat_Int, Bool.not_eq_true', Bool.not_eq_false']; rfl) ?_; simp only [go_sem, Nat.reduceAdd, Nat.reduceMul, Nat.reduceSub, Nat.reduceEqDiff, Nat.reduceDiv, Nat.reduceLT, Nat.reduceLeDiff, reduceCtorEq, decide_true, Int.natCast_add, Int.cast_ofNat_Int, Bool.not_eq_true', Bool.not_eq_false'])
      all_goals first | (rw [e]; rfl) | (rw [hti, decide_eq_decide]; omega)
end Go.Proofs.Ytdpaflhlgaffdaa
