/- CONTRACTS of the functions, and plain laws, joined out of: GTreQ GTreR GTreS GTreT GTreU. -/
import Derived.Test.YtiidfcadmdahmaaKT081
/- CHAPTER 08: the laws' own functions; the chapter's examples. -/
/- G -/
/- BOOLS -/
set_option linter.unusedSimpArgs false
set_option linter.unusedVariables false
namespace Go.Proofs.Ytiidfcadmdahmaa
open Go.RowKit

theorem hw_of {l : List LNo} (h : l.all (fun x => decide (x.words.length ≤ 100)) = true) : ∀ x ∈ l, x.words.length ≤ 9223372036854775807 := fun x hx => by
  have := of_decide_eq_true (List.all_eq_true.1 h x hx)
  omega
def vstB (l : List LNo) : Bool := decide (60 < l.length) || l.any (fun x => decide (100 < x.words.length))
theorem vst_no {l : List LNo} (h : vstB l = false) : l.length ≤ 60 ∧ ∀ x ∈ l, x.words.length ≤ 100 := by
  simp only [vstB, Bool.or_eq_false_iff, decide_eq_false_iff_not, List.any_eq_false, decide_eq_true_eq] at h
  exact ⟨by omega, fun x hx => by have := h.2 x hx; omega⟩
set_option maxRecDepth 100000 in
set_option maxHeartbeats 4000000 in
theorem vast8_ok (l : List LNo) : FnOk Try.prog 11 [.sl 20 (l.map cNo)] [] (.raw (.bool (vstB l))) [] := by
  refine fn_of_swp Try.func11 rfl (by kernel_rfl) (by kernel_rfl) (Nat.le_of_ble_eq_true rfl) Try.results11 ?_
  (refine swp_seqW ?_; simp only [go_sem, Bool.not_eq_true', Bool.not_eq_false'])
  (refine swp_seqW ?_; simp only [go_sem, Bool.not_eq_true', Bool.not_eq_false', List.length_map])
  refine ⟨fun h1 => ?_, fun h1 => ?_⟩
  · have e : vstB l = true := by simp only [vstB, Bool.or_eq_true, decide_eq_true_eq]; left; omega
    first | exact e | rw [e]
  refine swp_cutS (fun _ : Unit => ⟨[], [], none⟩) (fun _ => vstB l = false) 3 ?_ ?_
  · (refine swp_seqW ?_; simp only [go_sem, Bool.not_eq_true', Bool.not_eq_false'])
    refine swp_block ?_
    refine swp_loop2 [] (fun k : Nat => ⟨[(0, .sl 20 (l.map cNo)), (3, .raw (.int .i64 k))], [], none⟩) (fun k => k ≤ l.length ∧ ∀ j (hj : j < l.length), j < k → l[j].words.length ≤ 100) (fun k => l.length - k) 4 0 (by simp only [go_sem, Bool.not_eq_true', Bool.not_eq_false']; rfl) (by simp only [go_sem, Bool.not_eq_true', Bool.not_eq_false']) ?_ ?_
    · exact ⟨Nat.zero_le _, fun j _ h => absurd h (Nat.not_lt_zero j)⟩
    · rintro k ⟨hk, ha⟩
      (refine swp_lastW ?_; simp only [go_sem, Bool.not_eq_true', Bool.not_eq_false', List.length_map])
      refine ⟨fun h5 => ?_, fun h5 => ?_⟩
      · have hkl : k < l.length := by omega
        refine ⟨by omega, ex_get hkl ⟨fun h6 => ?_, fun h6 => ⟨by omega, ?_⟩⟩⟩
        · have e : vstB l = true := by
            simp only [vstB, Bool.or_eq_true, List.any_eq_true, decide_eq_true_eq]
            exact .inr ⟨l[k], List.getElem_mem hkl, by omega⟩
          first | exact e | rw [e]
        · (refine loop_end [] (k + 1) (by simp only [go_sem, Bool.not_eq_true', Bool.not_eq_false']; rfl) ?_ ?_ ?_; (focus first | omega | (simp only; omega)); (focus (simp only [go_sem, Bool.not_eq_true', Bool.not_eq_false']; done)))
          refine ⟨by omega, fun j hj h7 => ?_⟩
          rcases Nat.lt_succ_iff_lt_or_eq.1 h7 with h8 | h8
          · exact ha j hj h8
          · subst h8; omega
      · (refine cut_end [] (()) (by simp only [go_sem, Bool.not_eq_true', Bool.not_eq_false']; rfl) ?_ ?_; (focus (simp only [go_sem, Bool.not_eq_true', Bool.not_eq_false']; done)))
        simp only [vstB, Bool.or_eq_false_iff, decide_eq_false_iff_not, List.any_eq_false, decide_eq_true_eq]
        refine ⟨by omega, fun x hx => ?_⟩
        obtain ⟨j, hj, rfl⟩ := List.getElem_of_mem hx
        have := ha j hj (by omega)
        omega
  rintro - hv
  rw [hv]
  (refine swp_lastW ?_; simp only [go_sem, Bool.not_eq_true', Bool.not_eq_false'])
set_option maxRecDepth 100000 in
set_option maxHeartbeats 4000000 in
theorem roomsL_ok (a : List LRm) (b : List LRm) (hl : a.length ≤ 1000) (hb : b.length ≤ 1000) : FnOk Try.prog 26 [.sl 2 (a.map cRm), .sl 2 (b.map cRm)] [] (.raw (.bool (decide (a = b)))) [] := by
  refine fn_of_awp Try.func26 rfl (by kernel_rfl) (by kernel_rfl) (Nat.le_of_ble_eq_true rfl) Try.results26 ?_
  simp only [go_sem, Bool.not_eq_true', Bool.not_eq_false', List.length_map]
  refine ⟨fun h => ?_, fun h => ?_⟩
  · exact fun e => h (by rw [e])
  refine aloop2 [] (fun k : Nat => ⟨[(0, .sl 2 (a.map cRm)), (1, .sl 2 (b.map cRm)), (5, .raw (.int .i64 k))], [], none⟩) (fun k => k ≤ a.length ∧ a.take k = b.take k) (fun k => a.length - k) 4 0 (by simp only [go_sem, Bool.not_eq_true', Bool.not_eq_false']; rfl) (by simp only [go_sem, Bool.not_eq_true', Bool.not_eq_false']) ?_ ?_
  · exact ⟨Nat.zero_le _, rfl⟩
  · rintro k ⟨hk, ht⟩
    simp only [go_sem, Bool.not_eq_true', Bool.not_eq_false', List.length_map]
    have hlen : a.length = b.length := by omega
    refine ⟨fun h5 => ?_, fun h5 => ?_⟩
    · have ka : k < a.length := by omega
      have kb : k < b.length := by omega
      have e0 : a = b → a[k] = b[k] := fun e => by subst e; rfl
      have e1 := List.take_succ_eq_append_getElem ka
      have e2 := List.take_succ_eq_append_getElem kb
      refine ⟨by omega, ex_get ka ⟨by omega, ex_get kb ⟨(by show drawB _ _ = true; kernel_rfl), fun h6 => ?_, fun h6 => ⟨by omega, ?_⟩⟩⟩⟩
      · intro e
        rw [e0 e] at h6
        simp at h6
      · (refine loop_end [] (k + 1) (by simp only [go_sem, Bool.not_eq_true', Bool.not_eq_false']; rfl) ?_ ?_ ?_; (focus first | omega | (simp only; omega)); (focus (simp only [go_sem, Bool.not_eq_true', Bool.not_eq_false']; done)))
        refine ⟨by omega, ?_⟩
        simp only [Bool.and_eq_true, decide_eq_true_eq] at h6
        have e3 : a[k] = b[k] := by
          generalize a[k] = x at h6
          generalize b[k] = y at h6
          obtain ⟨x1, x2⟩ := x
          obtain ⟨y1, y2⟩ := y
          simp only at h6
          rw [h6.1, h6.2]
        rw [e1, e2, ht, e3]
    · have e : a = b := by
        have h1 : a.take k = a := List.take_of_length_le (by omega)
        have h2 : b.take k = b := List.take_of_length_le (by omega)
        rw [← h1, ← h2, ht]
      first | exact e | (rw [decide_eq_true e])
theorem of08 : FnOk Try.prog 43 [.raw (.string { data := #[91, 105, 53, 32, 40, 49, 48, 32, 50, 32, 51, 48, 41, 91, 105, 54, 48, 32, 123, 51, 32, 52, 125, 93, 93, 123, 49, 32, 49, 125] })] [] (.tup [.sl 20 (nds08.map cNo), .raw (.int .i64 0), .raw (.int .i64 0)]) [] := rdS_ok scr08 nds08 rd08
section
variable {a b r : Int} {L : List Int} {w : Int} {M : List LRm} {t : Bool}
theorem w08 : ∀ x ∈ nds08, x.words.length ≤ 9223372036854775807 := hw_of (by kernel_rfl)
theorem par08 (a r : Int) (h : parN (docN nds08) a = r) : FnOk Try.prog 14 [.sl 20 (nds08.map cNo), .raw (.int .i64 a)] [] (.raw (.int .i64 r)) [] := h ▸ parent8_ok nds08 a (Nat.le_of_ble_eq_true rfl) w08
theorem abv08 (a : Int) (L : List Int) (h : abvN (docN nds08) a = L) : FnOk Try.prog 15 [.sl 20 (nds08.map cNo), .raw (.int .i64 a)] [] (.hdr 8) [(8, .row 3 1 (L.map cInt))] := h ▸ above9_ok nds08 a (Nat.le_of_ble_eq_true rfl) w08
theorem kid08 (a : Int) (L : List Int) (h : kidN (docN nds08) a = L) : FnOk Try.prog 16 [.sl 20 (nds08.map cNo), .raw (.int .i64 a)] [] (.hdr 8) [(8, .row 3 1 (L.map cInt))] := h ▸ kids8_ok nds08 a (Nat.le_of_ble_eq_true rfl) w08
theorem hol08 (a b : Int) (t : Bool) (h : holN (docN nds08) a b = t) : FnOk Try.prog 17 [.sl 20 (nds08.map cNo), .raw (.int .i64 a), .raw (.int .i64 b)] [] (.raw (.bool t)) [] := h ▸ holds8_ok nds08 a b (Nat.le_of_ble_eq_true rfl) w08
theorem rom08 (w : Int) (M : List LRm) (h : romN nds08 w = M) : FnOk Try.prog 18 [.sl 20 (nds08.map cNo), .raw (.int .i64 w)] [] (.hdr 8) [(8, .row 37 2 (M.map cRm))] := h ▸ rooms9_ok nds08 w (Nat.le_of_ble_eq_true rfl) w08
theorem intE (a b : List Int) (hl : a.length ≤ 1000) (hb : b.length ≤ 1000) (h : decide (a = b) = t) : FnOk Try.prog 23 [.sl 1 (a.map cInt), .sl 1 (b.map cInt)] [] (.raw (.bool t)) [] := h ▸ ints8_ok a b hl hb
theorem romE (a b : List LRm) (hl : a.length ≤ 1000) (hb : b.length ≤ 1000) (h : decide (a = b) = t) : FnOk Try.prog 26 [.sl 2 (a.map cRm), .sl 2 (b.map cRm)] [] (.raw (.bool t)) [] := h ▸ roomsL_ok a b hl hb
end
set_option maxRecDepth 100000 in
set_option maxHeartbeats 8000000 in
theorem awake8_ok : FnOk Try.prog 12 [] [] (.raw (.bool true)) [] := by
  refine fn_of_awp Try.func12 rfl (by kernel_rfl) (by kernel_rfl) (Nat.le_of_ble_eq_true rfl) Try.results12 ?_
  simp only [go_sem, Bool.not_eq_true', Bool.not_eq_false']
  (refine acall2 [] (of08) (by simp only [go_sem, Bool.not_eq_true', Bool.not_eq_false']; rfl) (fit_of (by simp only [go_sem, Bool.not_eq_true', Bool.not_eq_false']) (by simp only [go_sem, Bool.not_eq_true', Bool.not_eq_false']) (by simp only [go_sem, Bool.not_eq_true', Bool.not_eq_false']) (by simp only [go_sem, Bool.not_eq_true', Bool.not_eq_false']) (by simp only [go_sem, Bool.not_eq_true', Bool.not_eq_false']) (by simp only [go_sem, Bool.not_eq_true', Bool.not_eq_false']) (by simp only [go_sem, Bool.not_eq_true', Bool.not_eq_false'])) ?_; simp only [go_sem, Bool.not_eq_true', Bool.not_eq_false'])
  (refine acall2 [] (par08 0 (-1) (by kernel_rfl)) (by simp only [go_sem, Bool.not_eq_true', Bool.not_eq_false']; rfl) (fit_of (by simp only [go_sem, Bool.not_eq_true', Bool.not_eq_false']) (by simp only [go_sem, Bool.not_eq_true', Bool.not_eq_false']) (by simp only [go_sem, Bool.not_eq_true', Bool.not_eq_false']) (by simp only [go_sem, Bool.not_eq_true', Bool.not_eq_false']) (by simp only [go_sem, Bool.not_eq_true', Bool.not_eq_false']) (by simp only [go_sem, Bool.not_eq_true', Bool.not_eq_false']) (by simp only [go_sem, Bool.not_eq_true', Bool.not_eq_false'])) ?_; simp only [go_sem, Bool.not_eq_true', Bool.not_eq_false', Int.reduceToNat, Int.reduceLT, Int.reduceLE, Int.reduceEq, Int.reduceAdd, Int.reduceSub, Int.reduceMul, Int.reduceNeg, Int.reduceNe, decide_false, Int.cast_ofNat_Int, kSet, List.getElem?_cons_succ, List.getElem?_cons_zero, List.set_cons_succ, List.set_cons_zero, exists_eq_left', forall_const, true_implies])
  (refine acall2 [] (par08 3 2 (by kernel_rfl)) (by simp only [go_sem, Bool.not_eq_true', Bool.not_eq_false']; rfl) (fit_of (by simp only [go_sem, Bool.not_eq_true', Bool.not_eq_false']) (by simp only [go_sem, Bool.not_eq_true', Bool.not_eq_false']) (by simp only [go_sem, Bool.not_eq_true', Bool.not_eq_false']) (by simp only [go_sem, Bool.not_eq_true', Bool.not_eq_false']) (by simp only [go_sem, Bool.not_eq_true', Bool.not_eq_false']) (by simp only [go_sem, Bool.not_eq_true', Bool.not_eq_false']) (by simp only [go_sem, Bool.not_eq_true', Bool.not_eq_false'])) ?_; simp only [go_sem, Bool.not_eq_true', Bool.not_eq_false', Int.reduceToNat, Int.reduceLT, Int.reduceLE, Int.reduceEq, Int.reduceAdd, Int.reduceSub, Int.reduceMul, Int.reduceNeg, Int.reduceNe, decide_false, Int.cast_ofNat_Int, kSet, List.getElem?_cons_succ, List.getElem?_cons_zero, List.set_cons_succ, List.set_cons_zero, exists_eq_left', forall_const, true_implies])
  (refine acall2 [] (par08 4 (-1) (by kernel_rfl)) (by simp only [go_sem, Bool.not_eq_true', Bool.not_eq_false']; rfl) (fit_of (by simp only [go_sem, Bool.not_eq_true', Bool.not_eq_false']) (by simp only [go_sem, Bool.not_eq_true', Bool.not_eq_false']) (by simp only [go_sem, Bool.not_eq_true', Bool.not_eq_false']) (by simp only [go_sem, Bool.not_eq_true', Bool.not_eq_false']) (by simp only [go_sem, Bool.not_eq_true', Bool.not_eq_false']) (by simp only [go_sem, Bool.not_eq_true', Bool.not_eq_false']) (by simp only [go_sem, Bool.not_eq_true', Bool.not_eq_false'])) ?_; simp only [go_sem, Bool.not_eq_true', Bool.not_eq_false', Int.reduceToNat, Int.reduceLT, Int.reduceLE, Int.reduceEq, Int.reduceAdd, Int.reduceSub, Int.reduceMul, Int.reduceNeg, Int.reduceNe, decide_false, Int.cast_ofNat_Int, kSet, List.getElem?_cons_succ, List.getElem?_cons_zero, List.set_cons_succ, List.set_cons_zero, exists_eq_left', forall_const, true_implies])
  (refine acall2 [] (par08 9 (-1) (by kernel_rfl)) (by simp only [go_sem, Bool.not_eq_true', Bool.not_eq_false']; rfl) (fit_of (by simp only [go_sem, Bool.not_eq_true', Bool.not_eq_false']) (by simp only [go_sem, Bool.not_eq_true', Bool.not_eq_false']) (by simp only [go_sem, Bool.not_eq_true', Bool.not_eq_false']) (by simp only [go_sem, Bool.not_eq_true', Bool.not_eq_false']) (by simp only [go_sem, Bool.not_eq_true', Bool.not_eq_false']) (by simp only [go_sem, Bool.not_eq_true', Bool.not_eq_false']) (by simp only [go_sem, Bool.not_eq_true', Bool.not_eq_false'])) ?_; simp only [go_sem, Bool.not_eq_true', Bool.not_eq_false', Int.reduceToNat, Int.reduceLT, Int.reduceLE, Int.reduceEq, Int.reduceAdd, Int.reduceSub, Int.reduceMul, Int.reduceNeg, Int.reduceNe, decide_false, Int.cast_ofNat_Int, kSet, List.getElem?_cons_succ, List.getElem?_cons_zero, List.set_cons_succ, List.set_cons_zero, exists_eq_left', forall_const, true_implies])
  (refine acall2 [] (abv08 3 [2, 0] (by kernel_rfl)) (by simp only [go_sem, Bool.not_eq_true', Bool.not_eq_false']; rfl) (fit_of (by simp only [go_sem, Bool.not_eq_true', Bool.not_eq_false']) (by simp only [go_sem, Bool.not_eq_true', Bool.not_eq_false']) (by simp only [go_sem, Bool.not_eq_true', Bool.not_eq_false']) (by simp only [go_sem, Bool.not_eq_true', Bool.not_eq_false']) (by simp only [go_sem, Bool.not_eq_true', Bool.not_eq_false']) (by simp only [go_sem, Bool.not_eq_true', Bool.not_eq_false']) (by simp only [go_sem, Bool.not_eq_true', Bool.not_eq_false'])) ?_; simp only [go_sem, Bool.not_eq_true', Bool.not_eq_false', Int.reduceToNat, Int.reduceLT, Int.reduceLE, Int.reduceEq, Int.reduceAdd, Int.reduceSub, Int.reduceMul, Int.reduceNeg, Int.reduceNe, decide_false, Int.cast_ofNat_Int, kSet, List.getElem?_cons_succ, List.getElem?_cons_zero, List.set_cons_succ, List.set_cons_zero, exists_eq_left', forall_const, true_implies])
  (refine acallF2 [240, 248 ] [] ( intE (t := true) [2, 0] [2, 0] (Nat.le_of_ble_eq_true rfl) (Nat.le_of_ble_eq_true rfl) (by kernel_rfl)) (by simp only [go_sem, Bool.not_eq_true', Bool.not_eq_false']; rfl) (fit_of (by simp only [go_sem, Bool.not_eq_true', Bool.not_eq_false']) (by simp only [go_sem, Bool.not_eq_true', Bool.not_eq_false']) (by simp only [go_sem, Bool.not_eq_true', Bool.not_eq_false']) (by simp only [go_sem, Bool.not_eq_true', Bool.not_eq_false']) (by simp only [go_sem, Bool.not_eq_true', Bool.not_eq_false']) (by simp only [go_sem, Bool.not_eq_true', Bool.not_eq_false']) (by simp only [go_sem, Bool.not_eq_true', Bool.not_eq_false'])) ?_; simp only [go_sem, Bool.not_eq_true', Bool.not_eq_false', Int.reduceToNat, Int.reduceLT, Int.reduceLE, Int.reduceEq, Int.reduceAdd, Int.reduceSub, Int.reduceMul, Int.reduceNeg, Int.reduceNe, decide_false, Int.cast_ofNat_Int, kSet, List.getElem?_cons_succ, List.getElem?_cons_zero, List.set_cons_succ, List.set_cons_zero, exists_eq_left', forall_const, true_implies])
  (refine acall2 [] (kid08 0 [1, 2] (by kernel_rfl)) (by simp only [go_sem, Bool.not_eq_true', Bool.not_eq_false']; rfl) (fit_of (by simp only [go_sem, Bool.not_eq_true', Bool.not_eq_false']) (by simp only [go_sem, Bool.not_eq_true', Bool.not_eq_false']) (by simp only [go_sem, Bool.not_eq_true', Bool.not_eq_false']) (by simp only [go_sem, Bool.not_eq_true', Bool.not_eq_false']) (by simp only [go_sem, Bool.not_eq_true', Bool.not_eq_false']) (by simp only [go_sem, Bool.not_eq_true', Bool.not_eq_false']) (by simp only [go_sem, Bool.not_eq_true', Bool.not_eq_false'])) ?_; simp only [go_sem, Bool.not_eq_true', Bool.not_eq_false', Int.reduceToNat, Int.reduceLT, Int.reduceLE, Int.reduceEq, Int.reduceAdd, Int.reduceSub, Int.reduceMul, Int.reduceNeg, Int.reduceNe, decide_false, Int.cast_ofNat_Int, kSet, List.getElem?_cons_succ, List.getElem?_cons_zero, List.set_cons_succ, List.set_cons_zero, exists_eq_left', forall_const, true_implies])
  (refine acallF2 [288, 296 ] [] ( intE (t := true) [1, 2] [1, 2] (Nat.le_of_ble_eq_true rfl) (Nat.le_of_ble_eq_true rfl) (by kernel_rfl)) (by simp only [go_sem, Bool.not_eq_true', Bool.not_eq_false']; rfl) (fit_of (by simp only [go_sem, Bool.not_eq_true', Bool.not_eq_false']) (by simp only [go_sem, Bool.not_eq_true', Bool.not_eq_false']) (by simp only [go_sem, Bool.not_eq_true', Bool.not_eq_false']) (by simp only [go_sem, Bool.not_eq_true', Bool.not_eq_false']) (by simp only [go_sem, Bool.not_eq_true', Bool.not_eq_false']) (by simp only [go_sem, Bool.not_eq_true', Bool.not_eq_false']) (by simp only [go_sem, Bool.not_eq_true', Bool.not_eq_false'])) ?_; simp only [go_sem, Bool.not_eq_true', Bool.not_eq_false', Int.reduceToNat, Int.reduceLT, Int.reduceLE, Int.reduceEq, Int.reduceAdd, Int.reduceSub, Int.reduceMul, Int.reduceNeg, Int.reduceNe, decide_false, Int.cast_ofNat_Int, kSet, List.getElem?_cons_succ, List.getElem?_cons_zero, List.set_cons_succ, List.set_cons_zero, exists_eq_left', forall_const, true_implies])
  (refine acall2 [] (kid08 (-1) [0, 4] (by kernel_rfl)) (by simp only [go_sem, Bool.not_eq_true', Bool.not_eq_false']; rfl) (fit_of (by simp only [go_sem, Bool.not_eq_true', Bool.not_eq_false']) (by simp only [go_sem, Bool.not_eq_true', Bool.not_eq_false']) (by simp only [go_sem, Bool.not_eq_true', Bool.not_eq_false']) (by simp only [go_sem, Bool.not_eq_true', Bool.not_eq_false']) (by simp only [go_sem, Bool.not_eq_true', Bool.not_eq_false']) (by simp only [go_sem, Bool.not_eq_true', Bool.not_eq_false']) (by simp only [go_sem, Bool.not_eq_true', Bool.not_eq_false'])) ?_; simp only [go_sem, Bool.not_eq_true', Bool.not_eq_false', Int.reduceToNat, Int.reduceLT, Int.reduceLE, Int.reduceEq, Int.reduceAdd, Int.reduceSub, Int.reduceMul, Int.reduceNeg, Int.reduceNe, decide_false, Int.cast_ofNat_Int, kSet, List.getElem?_cons_succ, List.getElem?_cons_zero, List.set_cons_succ, List.set_cons_zero, exists_eq_left', forall_const, true_implies])
  (refine acallF2 [336, 344 ] [] ( intE (t := true) [0, 4] [0, 4] (Nat.le_of_ble_eq_true rfl) (Nat.le_of_ble_eq_true rfl) (by kernel_rfl)) (by simp only [go_sem, Bool.not_eq_true', Bool.not_eq_false']; rfl) (fit_of (by simp only [go_sem, Bool.not_eq_true', Bool.not_eq_false']) (by simp only [go_sem, Bool.not_eq_true', Bool.not_eq_false']) (by simp only [go_sem, Bool.not_eq_true', Bool.not_eq_false']) (by simp only [go_sem, Bool.not_eq_true', Bool.not_eq_false']) (by simp only [go_sem, Bool.not_eq_true', Bool.not_eq_false']) (by simp only [go_sem, Bool.not_eq_true', Bool.not_eq_false']) (by simp only [go_sem, Bool.not_eq_true', Bool.not_eq_false'])) ?_; simp only [go_sem, Bool.not_eq_true', Bool.not_eq_false', Int.reduceToNat, Int.reduceLT, Int.reduceLE, Int.reduceEq, Int.reduceAdd, Int.reduceSub, Int.reduceMul, Int.reduceNeg, Int.reduceNe, decide_false, Int.cast_ofNat_Int, kSet, List.getElem?_cons_succ, List.getElem?_cons_zero, List.set_cons_succ, List.set_cons_zero, exists_eq_left', forall_const, true_implies])
  (refine acall2 [] (hol08 0 3 true (by kernel_rfl)) (by simp only [go_sem, Bool.not_eq_true', Bool.not_eq_false']; rfl) (fit_of (by simp only [go_sem, Bool.not_eq_true', Bool.not_eq_false']) (by simp only [go_sem, Bool.not_eq_true', Bool.not_eq_false']) (by simp only [go_sem, Bool.not_eq_true', Bool.not_eq_false']) (by simp only [go_sem, Bool.not_eq_true', Bool.not_eq_false']) (by simp only [go_sem, Bool.not_eq_true', Bool.not_eq_false']) (by simp only [go_sem, Bool.not_eq_true', Bool.not_eq_false']) (by simp only [go_sem, Bool.not_eq_true', Bool.not_eq_false'])) ?_; simp only [go_sem, Bool.not_eq_true', Bool.not_eq_false', Int.reduceToNat, Int.reduceLT, Int.reduceLE, Int.reduceEq, Int.reduceAdd, Int.reduceSub, Int.reduceMul, Int.reduceNeg, Int.reduceNe, decide_false, Int.cast_ofNat_Int, kSet, List.getElem?_cons_succ, List.getElem?_cons_zero, List.set_cons_succ, List.set_cons_zero, exists_eq_left', forall_const, true_implies])
  (refine acall2 [] (hol08 3 0 false (by kernel_rfl)) (by simp only [go_sem, Bool.not_eq_true', Bool.not_eq_false']; rfl) (fit_of (by simp only [go_sem, Bool.not_eq_true', Bool.not_eq_false']) (by simp only [go_sem, Bool.not_eq_true', Bool.not_eq_false']) (by simp only [go_sem, Bool.not_eq_true', Bool.not_eq_false']) (by simp only [go_sem, Bool.not_eq_true', Bool.not_eq_false']) (by simp only [go_sem, Bool.not_eq_true', Bool.not_eq_false']) (by simp only [go_sem, Bool.not_eq_true', Bool.not_eq_false']) (by simp only [go_sem, Bool.not_eq_true', Bool.not_eq_false'])) ?_; simp only [go_sem, Bool.not_eq_true', Bool.not_eq_false', Int.reduceToNat, Int.reduceLT, Int.reduceLE, Int.reduceEq, Int.reduceAdd, Int.reduceSub, Int.reduceMul, Int.reduceNeg, Int.reduceNe, decide_false, Int.cast_ofNat_Int, kSet, List.getElem?_cons_succ, List.getElem?_cons_zero, List.set_cons_succ, List.set_cons_zero, exists_eq_left', forall_const, true_implies])
  (refine acall2 [] (hol08 2 2 true (by kernel_rfl)) (by simp only [go_sem, Bool.not_eq_true', Bool.not_eq_false']; rfl) (fit_of (by simp only [go_sem, Bool.not_eq_true', Bool.not_eq_false']) (by simp only [go_sem, Bool.not_eq_true', Bool.not_eq_false']) (by simp only [go_sem, Bool.not_eq_true', Bool.not_eq_false']) (by simp only [go_sem, Bool.not_eq_true', Bool.not_eq_false']) (by simp only [go_sem, Bool.not_eq_true', Bool.not_eq_false']) (by simp only [go_sem, Bool.not_eq_true', Bool.not_eq_false']) (by simp only [go_sem, Bool.not_eq_true', Bool.not_eq_false'])) ?_; simp only [go_sem, Bool.not_eq_true', Bool.not_eq_false', Int.reduceToNat, Int.reduceLT, Int.reduceLE, Int.reduceEq, Int.reduceAdd, Int.reduceSub, Int.reduceMul, Int.reduceNeg, Int.reduceNe, decide_false, Int.cast_ofNat_Int, kSet, List.getElem?_cons_succ, List.getElem?_cons_zero, List.set_cons_succ, List.set_cons_zero, exists_eq_left', forall_const, true_implies])
  (refine acall2 [] (rom08 100 [⟨0, 100⟩, ⟨5, 90⟩, ⟨5, 90⟩, ⟨65, 1⟩, ⟨0, 100⟩] (by kernel_rfl)) (by simp only [go_sem, Bool.not_eq_true', Bool.not_eq_false']; rfl) (fit_of (by simp only [go_sem, Bool.not_eq_true', Bool.not_eq_false']) (by simp only [go_sem, Bool.not_eq_true', Bool.not_eq_false']) (by simp only [go_sem, Bool.not_eq_true', Bool.not_eq_false']) (by simp only [go_sem, Bool.not_eq_true', Bool.not_eq_false']) (by simp only [go_sem, Bool.not_eq_true', Bool.not_eq_false']) (by simp only [go_sem, Bool.not_eq_true', Bool.not_eq_false']) (by simp only [go_sem, Bool.not_eq_true', Bool.not_eq_false'])) ?_; simp only [go_sem, Bool.not_eq_true', Bool.not_eq_false', Int.reduceToNat, Int.reduceLT, Int.reduceLE, Int.reduceEq, Int.reduceAdd, Int.reduceSub, Int.reduceMul, Int.reduceNeg, Int.reduceNe, decide_false, Int.cast_ofNat_Int, kSet, List.getElem?_cons_succ, List.getElem?_cons_zero, List.set_cons_succ, List.set_cons_zero, exists_eq_left', forall_const, true_implies])
  (refine acallF2 [488, 536 ] [] ( romE (t := true) [⟨0, 100⟩, ⟨5, 90⟩, ⟨5, 90⟩, ⟨65, 1⟩, ⟨0, 100⟩] [⟨0, 100⟩, ⟨5, 90⟩, ⟨5, 90⟩, ⟨65, 1⟩, ⟨0, 100⟩] (Nat.le_of_ble_eq_true rfl) (Nat.le_of_ble_eq_true rfl) (by kernel_rfl)) (by simp only [go_sem, Bool.not_eq_true', Bool.not_eq_false']; rfl) (fit_of (by simp only [go_sem, Bool.not_eq_true', Bool.not_eq_false']) (by simp only [go_sem, Bool.not_eq_true', Bool.not_eq_false']) (by simp only [go_sem, Bool.not_eq_true', Bool.not_eq_false']) (by simp only [go_sem, Bool.not_eq_true', Bool.not_eq_false']) (by simp only [go_sem, Bool.not_eq_true', Bool.not_eq_false']) (by simp only [go_sem, Bool.not_eq_true', Bool.not_eq_false']) (by simp only [go_sem, Bool.not_eq_true', Bool.not_eq_false'])) ?_; simp only [go_sem, Bool.not_eq_true', Bool.not_eq_false', Int.reduceToNat, Int.reduceLT, Int.reduceLE, Int.reduceEq, Int.reduceAdd, Int.reduceSub, Int.reduceMul, Int.reduceNeg, Int.reduceNe, decide_false, Int.cast_ofNat_Int, kSet, List.getElem?_cons_succ, List.getElem?_cons_zero, List.set_cons_succ, List.set_cons_zero, exists_eq_left', forall_const, true_implies])
end Go.Proofs.Ytiidfcadmdahmaa
/- CHAPTER 08: the law TreeTells. -/
/- G -/
/- BOOLS -/
set_option linter.unusedSimpArgs false
set_option linter.unusedVariables false
namespace Go.Proofs.Ytiidfcadmdahmaa
open Go.RowKit

def stQ (l : List LNo) (a b w : Int) (t : List (Nat × AV)) : AS := ⟨t ++ [(0, .sl 20 (l.map cNo)), (1, .raw (.int .i64 a)), (2, .raw (.int .i64 b)), (3, .raw (.int .i64 w))], [], none⟩
attribute [go_sem] stQ
theorem hasN_nil (a : Int) : hasN [] a = false := by
  cases h : hasN [] a with
  | false => rfl
  | true => simp only [hasN, Bool.and_eq_true, decide_eq_true_eq, List.length_nil] at h; omega
theorem parN_nil (a : Int) : parN [] a = -1 := by simp [parN, hasN_nil]
theorem abvN_nil (a : Int) : abvN [] a = [] := by simp [abvN, hasN_nil]
theorem holN_nil (a b : Int) : holN [] a b = false := by simp [holN, hasN_nil]
theorem kidN_nil (a : Int) : kidN [] a = [] := by
  unfold kidN
  rw [hasN_nil]
  split
  · rfl
  · rfl
theorem romN_nil {l : List LNo} (h : docN l = []) (w : Int) : romN l w = [] := by
  unfold romN
  rw [h]
  split
  · rw [putS, if_neg (by simp)]
  · rfl
theorem abvN_len (l : List LNo) (a : Int) (h : isS l = true) : (abvN l a).length ≤ l.length := by
  rw [abv_eq h]
  unfold abvR
  split
  · next q =>
    simp only [hasN, Bool.and_eq_true, decide_eq_true_eq] at q
    have := abvD_len l a a.toNat
    omega
  · simp
theorem romN_len (l : List LNo) (w : Int) (h : isS l = true) : (romN l w).length ≤ l.length := by
  rw [rooms_eq h]
  unfold rmsN
  split
  · rw [rmsR_len]; exact Nat.le_refl _
  · simp
theorem kidN_no {l : List LNo} {a : Int} (h1 : a ≠ -1) (h2 : hasN l a = false) : kidN l a = [] := by
  unfold kidN
  rw [if_neg h1, h2]
  rfl
set_option maxRecDepth 100000 in
set_option maxHeartbeats 8000000 in
theorem treeTells_ok (l : List LNo) (a b w : Int) (ha : -9223372036854775808 ≤ a ∧ a ≤ 9223372036854775807) : FnOk Try.prog 3 [.sl 20 (l.map cNo), .raw (.int .i64 a), .raw (.int .i64 b), .raw (.int .i64 w)] [] (.raw (.bool true)) [] := by
  refine fn_of_swp Try.func3 rfl (by kernel_rfl) (by kernel_rfl) (Nat.le_of_ble_eq_true rfl) Try.results3 ?_
  (refine swp_seqW ?_; simp only [go_sem, Bool.not_eq_true', Bool.not_eq_false'])
  (refine swp_seqW ?_; simp only [go_sem, Bool.not_eq_true', Bool.not_eq_false'])
  (refine acall2 [] (vast8_ok l) (by simp only [go_sem, Bool.not_eq_true', Bool.not_eq_false']; rfl) (fit_of (by simp only [go_sem, Bool.not_eq_true', Bool.not_eq_false']) (by simp only [go_sem, Bool.not_eq_true', Bool.not_eq_false']) (by simp only [go_sem, Bool.not_eq_true', Bool.not_eq_false']) (by simp only [go_sem, Bool.not_eq_true', Bool.not_eq_false']) (by simp only [go_sem, Bool.not_eq_true', Bool.not_eq_false']) (by simp only [go_sem, Bool.not_eq_true', Bool.not_eq_false']) (by simp only [go_sem, Bool.not_eq_true', Bool.not_eq_false'])) ?_; simp only [go_sem, Bool.not_eq_true', Bool.not_eq_false'])
  refine ⟨fun h1 => ?_, fun h1 => ?_⟩
  · (refine acall2 [] (awake8_ok) (by simp only [go_sem, Bool.not_eq_true', Bool.not_eq_false']; rfl) (fit_of (by simp only [go_sem, Bool.not_eq_true', Bool.not_eq_false']) (by simp only [go_sem, Bool.not_eq_true', Bool.not_eq_false']) (by simp only [go_sem, Bool.not_eq_true', Bool.not_eq_false']) (by simp only [go_sem, Bool.not_eq_true', Bool.not_eq_false']) (by simp only [go_sem, Bool.not_eq_true', Bool.not_eq_false']) (by simp only [go_sem, Bool.not_eq_true', Bool.not_eq_false']) (by simp only [go_sem, Bool.not_eq_true', Bool.not_eq_false'])) ?_; simp only [go_sem, Bool.not_eq_true', Bool.not_eq_false'])
  obtain ⟨hl6, hw6⟩ := vst_no h1
  have hl : l.length ≤ 1000 := by omega
  have hw : ∀ x ∈ l, x.words.length ≤ 9223372036854775807 := fun x hx => by have := hw6 x hx; omega
  have hw2 : ∀ x ∈ l, x.words.length ≤ 1000 := fun x hx => by have := hw6 x hx; omega
  refine swp_cutS (fun _ : Unit => stQ l a b w [(9, .sl 20 (l.map cNo))]) (fun _ => True) 3 ?_ ?_
  · (refine swp_lastW ?_; simp only [go_sem, Bool.not_eq_true', Bool.not_eq_false'])
    (refine acall2 [] (own5_ok l hl hw2) (by simp only [go_sem, Bool.not_eq_true', Bool.not_eq_false']; rfl) (fit_of (by simp only [go_sem, Bool.not_eq_true', Bool.not_eq_false']) (by simp only [go_sem, Bool.not_eq_true', Bool.not_eq_false']) (by simp only [go_sem, Bool.not_eq_true', Bool.not_eq_false']) (by simp only [go_sem, Bool.not_eq_true', Bool.not_eq_false']) (by simp only [go_sem, Bool.not_eq_true', Bool.not_eq_false']) (by simp only [go_sem, Bool.not_eq_true', Bool.not_eq_false']) (by simp only [go_sem, Bool.not_eq_true', Bool.not_eq_false'])) ?_; simp only [go_sem, Bool.not_eq_true', Bool.not_eq_false'])
    (refine cut_end [40 ] ( ()) (by simp only [go_sem, Bool.not_eq_true', Bool.not_eq_false']; rfl) ?_ ?_; (focus (simp only [go_sem, Bool.not_eq_true', Bool.not_eq_false']; done)))
    trivial
  rintro - -
  refine swp_cutS (fun _ : Unit => stQ l a b w [(9, .sl 20 (l.map cNo)), (10, .raw (.int .i64 (parN (docN l) a))), (11, .sl 1 ((abvN (docN l) a).map cInt)), (12, .sl 1 ((kidN (docN l) a).map cInt)), (13, .raw (.bool (holN (docN l) a b))), (14, .sl 2 ((romN l w).map cRm))]) (fun _ => True) 3 ?_ ?_
  · (refine swp_lastW ?_; simp only [go_sem, Bool.not_eq_true', Bool.not_eq_false'])
    (refine acall2 [] (parent8_ok l a hl hw) (by simp only [go_sem, Bool.not_eq_true', Bool.not_eq_false']; rfl) (fit_of (by simp only [go_sem, Bool.not_eq_true', Bool.not_eq_false']) (by simp only [go_sem, Bool.not_eq_true', Bool.not_eq_false']) (by simp only [go_sem, Bool.not_eq_true', Bool.not_eq_false']) (by simp only [go_sem, Bool.not_eq_true', Bool.not_eq_false']) (by simp only [go_sem, Bool.not_eq_true', Bool.not_eq_false']) (by simp only [go_sem, Bool.not_eq_true', Bool.not_eq_false']) (by simp only [go_sem, Bool.not_eq_true', Bool.not_eq_false'])) ?_; simp only [go_sem, Bool.not_eq_true', Bool.not_eq_false'])
    (refine acall2 [] (above9_ok l a hl hw) (by simp only [go_sem, Bool.not_eq_true', Bool.not_eq_false']; rfl) (fit_of (by simp only [go_sem, Bool.not_eq_true', Bool.not_eq_false']) (by simp only [go_sem, Bool.not_eq_true', Bool.not_eq_false']) (by simp only [go_sem, Bool.not_eq_true', Bool.not_eq_false']) (by simp only [go_sem, Bool.not_eq_true', Bool.not_eq_false']) (by simp only [go_sem, Bool.not_eq_true', Bool.not_eq_false']) (by simp only [go_sem, Bool.not_eq_true', Bool.not_eq_false']) (by simp only [go_sem, Bool.not_eq_true', Bool.not_eq_false'])) ?_; simp only [go_sem, Bool.not_eq_true', Bool.not_eq_false'])
    (refine acall2 [] (kids8_ok l a hl hw) (by simp only [go_sem, Bool.not_eq_true', Bool.not_eq_false']; rfl) (fit_of (by simp only [go_sem, Bool.not_eq_true', Bool.not_eq_false']) (by simp only [go_sem, Bool.not_eq_true', Bool.not_eq_false']) (by simp only [go_sem, Bool.not_eq_true', Bool.not_eq_false']) (by simp only [go_sem, Bool.not_eq_true', Bool.not_eq_false']) (by simp only [go_sem, Bool.not_eq_true', Bool.not_eq_false']) (by simp only [go_sem, Bool.not_eq_true', Bool.not_eq_false']) (by simp only [go_sem, Bool.not_eq_true', Bool.not_eq_false'])) ?_; simp only [go_sem, Bool.not_eq_true', Bool.not_eq_false'])
    (refine acall2 [] (holds8_ok l a b hl hw) (by simp only [go_sem, Bool.not_eq_true', Bool.not_eq_false']; rfl) (fit_of (by simp only [go_sem, Bool.not_eq_true', Bool.not_eq_false']) (by simp only [go_sem, Bool.not_eq_true', Bool.not_eq_false']) (by simp only [go_sem, Bool.not_eq_true', Bool.not_eq_false']) (by simp only [go_sem, Bool.not_eq_true', Bool.not_eq_false']) (by simp only [go_sem, Bool.not_eq_true', Bool.not_eq_false']) (by simp only [go_sem, Bool.not_eq_true', Bool.not_eq_false']) (by simp only [go_sem, Bool.not_eq_true', Bool.not_eq_false'])) ?_; simp only [go_sem, Bool.not_eq_true', Bool.not_eq_false'])
    (refine acall2 [] (rooms9_ok l w hl hw) (by simp only [go_sem, Bool.not_eq_true', Bool.not_eq_false']; rfl) (fit_of (by simp only [go_sem, Bool.not_eq_true', Bool.not_eq_false']) (by simp only [go_sem, Bool.not_eq_true', Bool.not_eq_false']) (by simp only [go_sem, Bool.not_eq_true', Bool.not_eq_false']) (by simp only [go_sem, Bool.not_eq_true', Bool.not_eq_false']) (by simp only [go_sem, Bool.not_eq_true', Bool.not_eq_false']) (by simp only [go_sem, Bool.not_eq_true', Bool.not_eq_false']) (by simp only [go_sem, Bool.not_eq_true', Bool.not_eq_false'])) ?_; simp only [go_sem, Bool.not_eq_true', Bool.not_eq_false'])
    (refine cut_end [64, 88, 144 ] ( ()) (by simp only [go_sem, Bool.not_eq_true', Bool.not_eq_false']; rfl) ?_ ?_; (focus (simp only [go_sem, Bool.not_eq_true', Bool.not_eq_false']; done)))
    trivial
  rintro - -
  (refine swp_seqW ?_; simp only [go_sem, Bool.not_eq_true', Bool.not_eq_false'])
  (refine acall2 [] (same5_ok l hl hw) (by simp only [go_sem, Bool.not_eq_true', Bool.not_eq_false']; rfl) (fit_of (by simp only [go_sem, Bool.not_eq_true', Bool.not_eq_false']) (by simp only [go_sem, Bool.not_eq_true', Bool.not_eq_false']) (by simp only [go_sem, Bool.not_eq_true', Bool.not_eq_false']) (by simp only [go_sem, Bool.not_eq_true', Bool.not_eq_false']) (by simp only [go_sem, Bool.not_eq_true', Bool.not_eq_false']) (by simp only [go_sem, Bool.not_eq_true', Bool.not_eq_false']) (by simp only [go_sem, Bool.not_eq_true', Bool.not_eq_false'])) ?_; simp only [go_sem, Bool.not_eq_true', Bool.not_eq_false'])
  (refine swp_seqW ?_; simp only [go_sem, Bool.not_eq_true', Bool.not_eq_false'])
  (refine acall2 [] (isR2_ok l hl hw) (by simp only [go_sem, Bool.not_eq_true', Bool.not_eq_false']; rfl) (fit_of (by simp only [go_sem, Bool.not_eq_true', Bool.not_eq_false']) (by simp only [go_sem, Bool.not_eq_true', Bool.not_eq_false']) (by simp only [go_sem, Bool.not_eq_true', Bool.not_eq_false']) (by simp only [go_sem, Bool.not_eq_true', Bool.not_eq_false']) (by simp only [go_sem, Bool.not_eq_true', Bool.not_eq_false']) (by simp only [go_sem, Bool.not_eq_true', Bool.not_eq_false']) (by simp only [go_sem, Bool.not_eq_true', Bool.not_eq_false'])) ?_; simp only [go_sem, Bool.not_eq_true', Bool.not_eq_false'])
  refine ⟨fun hv => ?_, fun hv => ?_⟩
  · have e : docN l = [] := by simp [docN, hv]
    rw [e, parN_nil, abvN_nil, kidN_nil, holN_nil, romN_nil e]
    repeat' first | contradiction | intro _ | refine And.intro ?_ ?_ | refine ex_get (by omega) ?_ | (show drawB _ _ = true; kernel_rfl) | (refine ret2 [] (by simp only [go_sem, Bool.not_eq_true', Bool.not_eq_false']; rfl) ?_; simp only [go_sem, Bool.not_eq_true', Bool.not_eq_false']) | (refine acall2 [] (awake8_ok) (by simp only [go_sem, Bool.not_eq_true', Bool.not_eq_false']; rfl) (fit_of (by simp only [go_sem, Bool.not_eq_true', Bool.not_eq_false']) (by simp only [go_sem, Bool.not_eq_true', Bool.not_eq_false']) (by simp only [go_sem, Bool.not_eq_true', Bool.not_eq_false']) (by simp only [go_sem, Bool.not_eq_true', Bool.not_eq_false']) (by simp only [go_sem, Bool.not_eq_true', Bool.not_eq_false']) (by simp only [go_sem, Bool.not_eq_true', Bool.not_eq_false']) (by simp only [go_sem, Bool.not_eq_true', Bool.not_eq_false'])) ?_; simp only [go_sem, Bool.not_eq_true', Bool.not_eq_false'])
    all_goals (simp only [List.length_nil]; omega)
  have e : docN l = l := by simp [docN, hv]
  rw [e]
  have ea := abv_eq hv a
  have er := rooms_eq hv w
  have la := abvN_len l a hv
  have lr := romN_len l w hv
  (refine swp_seqW ?_; simp only [go_sem, Bool.not_eq_true', Bool.not_eq_false'])
  (refine acall2 [] (kids8r_ok l a hl) (by simp only [go_sem, Bool.not_eq_true', Bool.not_eq_false']; rfl) (fit_of (by simp only [go_sem, Bool.not_eq_true', Bool.not_eq_false']) (by simp only [go_sem, Bool.not_eq_true', Bool.not_eq_false']) (by simp only [go_sem, Bool.not_eq_true', Bool.not_eq_false']) (by simp only [go_sem, Bool.not_eq_true', Bool.not_eq_false']) (by simp only [go_sem, Bool.not_eq_true', Bool.not_eq_false']) (by simp only [go_sem, Bool.not_eq_true', Bool.not_eq_false']) (by simp only [go_sem, Bool.not_eq_true', Bool.not_eq_false'])) ?_; simp only [go_sem, Bool.not_eq_true', Bool.not_eq_false'])
  refine swp_cutS (fun W : List Int => stQ l a b w [(10, .raw (.int .i64 (parN l a))), (11, .sl 1 ((abvN l a).map cInt)), (12, .sl 1 ((kidN l a).map cInt)), (13, .raw (.bool (holN l a b))), (14, .sl 2 ((romN l w).map cRm)), (15, .sl 1 (W.map cInt))]) (fun W => W = kidN l a ∧ W.length ≤ 60) 3 ?_ ?_
  · (refine swp_seqW ?_; simp only [go_sem, Bool.not_eq_true', Bool.not_eq_false', List.length_map])
    have hk := kidR_len l a l.length
    refine ⟨fun k1 => ?_, fun k1 => ?_⟩
    · (refine swp_condW ?_; simp only [go_sem, Bool.not_eq_true', Bool.not_eq_false'])
      refine ⟨fun k2 => ?_, fun k2 => ?_⟩
      · (refine swp_lastW ?_; simp only [go_sem, Bool.not_eq_true', Bool.not_eq_false'])
        have e1 : kidN l a = [] := kidN_no (by omega) (by simp [hasN]; omega)
        (refine cut_end [176 ] ( []) (by simp only [go_sem, Bool.not_eq_true', Bool.not_eq_false']; rfl) ?_ ?_; (focus (simp only [go_sem, Bool.not_eq_true', Bool.not_eq_false']; done)))
        exact ⟨e1.symm, Nat.zero_le _⟩
      · (refine swp_lastW ?_; simp only [go_sem, Bool.not_eq_true', Bool.not_eq_false'])
        have e1 := kid_eq hv (a := a) (by
          rcases (by omega : a = -1 ∨ 0 ≤ a) with q | q
          · exact .inl q
          · right; simp [hasN]; omega)
        (refine cut_end [96 ] ( kidR l a l.length) (by simp only [go_sem, Bool.not_eq_true', Bool.not_eq_false']; rfl) ?_ ?_; (focus (simp only [go_sem, Bool.not_eq_true', Bool.not_eq_false']; done)))
        exact ⟨e1.symm, by omega⟩
    · (refine swp_condW ?_; simp only [go_sem, Bool.not_eq_true', Bool.not_eq_false'])
      (refine swp_lastW ?_; simp only [go_sem, Bool.not_eq_true', Bool.not_eq_false'])
      have e1 : kidN l a = [] := kidN_no (by omega) (by simp [hasN]; omega)
      (refine cut_end [176 ] ( []) (by simp only [go_sem, Bool.not_eq_true', Bool.not_eq_false']; rfl) ?_ ?_; (focus (simp only [go_sem, Bool.not_eq_true', Bool.not_eq_false']; done)))
      exact ⟨e1.symm, Nat.zero_le _⟩
  rintro W ⟨eW, lW⟩
  (refine swp_lastW ?_; simp only [go_sem, Bool.not_eq_true', Bool.not_eq_false'])
  (refine acall2 [] (parent8r_ok l a ha hl) (by simp only [go_sem, Bool.not_eq_true', Bool.not_eq_false']; rfl) (fit_of (by simp only [go_sem, Bool.not_eq_true', Bool.not_eq_false']) (by simp only [go_sem, Bool.not_eq_true', Bool.not_eq_false']) (by simp only [go_sem, Bool.not_eq_true', Bool.not_eq_false']) (by simp only [go_sem, Bool.not_eq_true', Bool.not_eq_false']) (by simp only [go_sem, Bool.not_eq_true', Bool.not_eq_false']) (by simp only [go_sem, Bool.not_eq_true', Bool.not_eq_false']) (by simp only [go_sem, Bool.not_eq_true', Bool.not_eq_false'])) ?_; simp only [go_sem, Bool.not_eq_true', Bool.not_eq_false'])
  (refine acall2 [] (above8r_ok l a ha hl) (by simp only [go_sem, Bool.not_eq_true', Bool.not_eq_false']; rfl) (fit_of (by simp only [go_sem, Bool.not_eq_true', Bool.not_eq_false']) (by simp only [go_sem, Bool.not_eq_true', Bool.not_eq_false']) (by simp only [go_sem, Bool.not_eq_true', Bool.not_eq_false']) (by simp only [go_sem, Bool.not_eq_true', Bool.not_eq_false']) (by simp only [go_sem, Bool.not_eq_true', Bool.not_eq_false']) (by simp only [go_sem, Bool.not_eq_true', Bool.not_eq_false']) (by simp only [go_sem, Bool.not_eq_true', Bool.not_eq_false'])) ?_; simp only [go_sem, Bool.not_eq_true', Bool.not_eq_false'])
  (refine acallF2 [96 ] [] ( intE (t := true) (abvN l a) (abvR l a) (by omega) (by rw [← ea]; omega) (decide_eq_true ea)) (by simp only [go_sem, Bool.not_eq_true', Bool.not_eq_false']; rfl) (fit_of (by simp only [go_sem, Bool.not_eq_true', Bool.not_eq_false']) (by simp only [go_sem, Bool.not_eq_true', Bool.not_eq_false']) (by simp only [go_sem, Bool.not_eq_true', Bool.not_eq_false']) (by simp only [go_sem, Bool.not_eq_true', Bool.not_eq_false']) (by simp only [go_sem, Bool.not_eq_true', Bool.not_eq_false']) (by simp only [go_sem, Bool.not_eq_true', Bool.not_eq_false']) (by simp only [go_sem, Bool.not_eq_true', Bool.not_eq_false'])) ?_; simp only [go_sem, Bool.not_eq_true', Bool.not_eq_false'])
  (refine acall2 [] (intE (t := true) (kidN l a) W (by rw [← eW]; omega) (by omega) (decide_eq_true eW.symm)) (by simp only [go_sem, Bool.not_eq_true', Bool.not_eq_false']; rfl) (fit_of (by simp only [go_sem, Bool.not_eq_true', Bool.not_eq_false']) (by simp only [go_sem, Bool.not_eq_true', Bool.not_eq_false']) (by simp only [go_sem, Bool.not_eq_true', Bool.not_eq_false']) (by simp only [go_sem, Bool.not_eq_true', Bool.not_eq_false']) (by simp only [go_sem, Bool.not_eq_true', Bool.not_eq_false']) (by simp only [go_sem, Bool.not_eq_true', Bool.not_eq_false']) (by simp only [go_sem, Bool.not_eq_true', Bool.not_eq_false'])) ?_; simp only [go_sem, Bool.not_eq_true', Bool.not_eq_false'])
  (refine acall2 [] (holds8r_ok l a b hl) (by simp only [go_sem, Bool.not_eq_true', Bool.not_eq_false']; rfl) (fit_of (by simp only [go_sem, Bool.not_eq_true', Bool.not_eq_false']) (by simp only [go_sem, Bool.not_eq_true', Bool.not_eq_false']) (by simp only [go_sem, Bool.not_eq_true', Bool.not_eq_false']) (by simp only [go_sem, Bool.not_eq_true', Bool.not_eq_false']) (by simp only [go_sem, Bool.not_eq_true', Bool.not_eq_false']) (by simp only [go_sem, Bool.not_eq_true', Bool.not_eq_false']) (by simp only [go_sem, Bool.not_eq_true', Bool.not_eq_false'])) ?_; simp only [go_sem, Bool.not_eq_true', Bool.not_eq_false'])
  refine ⟨fun _ => ?_, fun q => by simp at q⟩
  (refine acall2 [] (rooms8r_ok l w hl (isS_ins hv)) (by simp only [go_sem, Bool.not_eq_true', Bool.not_eq_false']; rfl) (fit_of (by simp only [go_sem, Bool.not_eq_true', Bool.not_eq_false']) (by simp only [go_sem, Bool.not_eq_true', Bool.not_eq_false']) (by simp only [go_sem, Bool.not_eq_true', Bool.not_eq_false']) (by simp only [go_sem, Bool.not_eq_true', Bool.not_eq_false']) (by simp only [go_sem, Bool.not_eq_true', Bool.not_eq_false']) (by simp only [go_sem, Bool.not_eq_true', Bool.not_eq_false']) (by simp only [go_sem, Bool.not_eq_true', Bool.not_eq_false'])) ?_; simp only [go_sem, Bool.not_eq_true', Bool.not_eq_false'])
  (refine acallF2 [256 ] [] ( romE (t := true) (romN l w) (rmsN l w) (by omega) (by rw [← er]; omega) (decide_eq_true er)) (by simp only [go_sem, Bool.not_eq_true', Bool.not_eq_false']; rfl) (fit_of (by simp only [go_sem, Bool.not_eq_true', Bool.not_eq_false']) (by simp only [go_sem, Bool.not_eq_true', Bool.not_eq_false']) (by simp only [go_sem, Bool.not_eq_true', Bool.not_eq_false']) (by simp only [go_sem, Bool.not_eq_true', Bool.not_eq_false']) (by simp only [go_sem, Bool.not_eq_true', Bool.not_eq_false']) (by simp only [go_sem, Bool.not_eq_true', Bool.not_eq_false']) (by simp only [go_sem, Bool.not_eq_true', Bool.not_eq_false'])) ?_; simp only [go_sem, Bool.not_eq_true', Bool.not_eq_false'])
  (refine acall2 [] (awake8_ok) (by simp only [go_sem, Bool.not_eq_true', Bool.not_eq_false']; rfl) (fit_of (by simp only [go_sem, Bool.not_eq_true', Bool.not_eq_false']) (by simp only [go_sem, Bool.not_eq_true', Bool.not_eq_false']) (by simp only [go_sem, Bool.not_eq_true', Bool.not_eq_false']) (by simp only [go_sem, Bool.not_eq_true', Bool.not_eq_false']) (by simp only [go_sem, Bool.not_eq_true', Bool.not_eq_false']) (by simp only [go_sem, Bool.not_eq_true', Bool.not_eq_false']) (by simp only [go_sem, Bool.not_eq_true', Bool.not_eq_false'])) ?_; simp only [go_sem, Bool.not_eq_true', Bool.not_eq_false'])
end Go.Proofs.Ytiidfcadmdahmaa
/- CHAPTER 08: the law TreeRooms. -/
/- G -/
/- BOOLS -/
/- GET hgi hgp hgl -/
set_option linter.unusedSimpArgs false
set_option linter.unusedVariables false
namespace Go.Proofs.Ytiidfcadmdahmaa
open Go.RowKit

theorem rmR_sum {l : List LNo} (hi : ∀ x ∈ l, 0 ≤ x.st.inset ∧ x.st.inset ≤ 1099511627776) {w : Int} (hw : 1 ≤ w ∧ w ≤ 1099511627776) : ∀ f i, (rmR l w f i).x + (rmR l w f i).w ≤ 1099511627777
  | 0, i => by show (0 : Int) + w ≤ _; omega
  | f + 1, i => by
    rw [rmR]
    split
    · show (0 : Int) + w ≤ _; omega
    · have h1 := rmR_sum hi hw f (parN l i).toNat
      obtain ⟨o1, o2, o3, o4⟩ := rmR_ok hi hw f (parN l i).toNat
      have : 0 ≤ insN l (parN l i).toNat := by
        unfold insN
        cases e : l[(parN l i).toNat]? with
        | none => simp
        | some x => exact (hi x (List.mem_of_getElem? e)).1
      simp only [inR]
      omega
def stR (l : List LNo) (w : Int) (t : List (Nat × AV)) : AS := ⟨t ++ [(0, .sl 20 (l.map cNo)), (1, .raw (.int .i64 w))], [], none⟩
attribute [go_sem] stR
set_option maxRecDepth 100000 in
set_option maxHeartbeats 8000000 in
theorem treeRooms_ok (l : List LNo) (w : Int) : FnOk Try.prog 5 [.sl 20 (l.map cNo), .raw (.int .i64 w)] [] (.raw (.bool true)) [] := by
  refine fn_of_swp Try.func5 rfl (by kernel_rfl) (by kernel_rfl) (Nat.le_of_ble_eq_true rfl) Try.results5 ?_
  (refine swp_seqW ?_; simp only [go_sem, Bool.not_eq_true', Bool.not_eq_false'])
  (refine swp_seqW ?_; simp only [go_sem, Bool.not_eq_true', Bool.not_eq_false'])
  (refine acall2 [] (vast8_ok l) (by simp only [go_sem, Bool.not_eq_true', Bool.not_eq_false']; rfl) (fit_of (by simp only [go_sem, Bool.not_eq_true', Bool.not_eq_false']) (by simp only [go_sem, Bool.not_eq_true', Bool.not_eq_false']) (by simp only [go_sem, Bool.not_eq_true', Bool.not_eq_false']) (by simp only [go_sem, Bool.not_eq_true', Bool.not_eq_false']) (by simp only [go_sem, Bool.not_eq_true', Bool.not_eq_false']) (by simp only [go_sem, Bool.not_eq_true', Bool.not_eq_false']) (by simp only [go_sem, Bool.not_eq_true', Bool.not_eq_false'])) ?_; simp only [go_sem, Bool.not_eq_true', Bool.not_eq_false'])
  refine ⟨fun h1 => ?_, fun h1 => ?_⟩
  · (refine acall2 [] (awake8_ok) (by simp only [go_sem, Bool.not_eq_true', Bool.not_eq_false']; rfl) (fit_of (by simp only [go_sem, Bool.not_eq_true', Bool.not_eq_false']) (by simp only [go_sem, Bool.not_eq_true', Bool.not_eq_false']) (by simp only [go_sem, Bool.not_eq_true', Bool.not_eq_false']) (by simp only [go_sem, Bool.not_eq_true', Bool.not_eq_false']) (by simp only [go_sem, Bool.not_eq_true', Bool.not_eq_false']) (by simp only [go_sem, Bool.not_eq_true', Bool.not_eq_false']) (by simp only [go_sem, Bool.not_eq_true', Bool.not_eq_false'])) ?_; simp only [go_sem, Bool.not_eq_true', Bool.not_eq_false'])
  obtain ⟨hl6, hw6⟩ := vst_no h1
  have hl : l.length ≤ 1000 := by omega
  have hwd : ∀ x ∈ l, x.words.length ≤ 9223372036854775807 := fun x hx => by have := hw6 x hx; omega
  refine swp_cutS (fun _ : Unit => stR l w [(5, .sl 2 ((romN l w).map cRm))]) (fun _ => True) 3 ?_ ?_
  · (refine swp_lastW ?_; simp only [go_sem, Bool.not_eq_true', Bool.not_eq_false'])
    (refine acall2 [] (rooms9_ok l w hl hwd) (by simp only [go_sem, Bool.not_eq_true', Bool.not_eq_false']; rfl) (fit_of (by simp only [go_sem, Bool.not_eq_true', Bool.not_eq_false']) (by simp only [go_sem, Bool.not_eq_true', Bool.not_eq_false']) (by simp only [go_sem, Bool.not_eq_true', Bool.not_eq_false']) (by simp only [go_sem, Bool.not_eq_true', Bool.not_eq_false']) (by simp only [go_sem, Bool.not_eq_true', Bool.not_eq_false']) (by simp only [go_sem, Bool.not_eq_true', Bool.not_eq_false']) (by simp only [go_sem, Bool.not_eq_true', Bool.not_eq_false'])) ?_; simp only [go_sem, Bool.not_eq_true', Bool.not_eq_false'])
    (refine cut_end [48 ] ( ()) (by simp only [go_sem, Bool.not_eq_true', Bool.not_eq_false']; rfl) ?_ ?_; (focus (simp only [go_sem, Bool.not_eq_true', Bool.not_eq_false']; done)))
    trivial
  rintro - -
  by_cases hv : isS l = true ∧ 1 ≤ w ∧ w ≤ 1099511627776
  rotate_left
  · have e : romN l w = [] := by
      unfold romN
      split
      · next q =>
        have : docN l = [] := by
          unfold docN
          rw [if_neg (fun z => hv ⟨z, q⟩)]
        rw [this, putS, if_neg (by simp)]
      · rfl
    rw [e]
    (refine swp_seqW ?_; simp only [go_sem, Bool.not_eq_true', Bool.not_eq_false'])
    (refine acall2 [] (is6_ok l hl hwd) (by simp only [go_sem, Bool.not_eq_true', Bool.not_eq_false']; rfl) (fit_of (by simp only [go_sem, Bool.not_eq_true', Bool.not_eq_false']) (by simp only [go_sem, Bool.not_eq_true', Bool.not_eq_false']) (by simp only [go_sem, Bool.not_eq_true', Bool.not_eq_false']) (by simp only [go_sem, Bool.not_eq_true', Bool.not_eq_false']) (by simp only [go_sem, Bool.not_eq_true', Bool.not_eq_false']) (by simp only [go_sem, Bool.not_eq_true', Bool.not_eq_false']) (by simp only [go_sem, Bool.not_eq_true', Bool.not_eq_false'])) ?_; simp only [go_sem, Bool.not_eq_true', Bool.not_eq_false'])
    repeat' first | contradiction | intro _ | refine And.intro ?_ ?_ | refine hgi (by omega) ?_ | refine hgp (by omega) ?_ | refine hgl (by omega) ?_ | refine ex_get (by omega) ?_ | (show drawB _ _ = true; kernel_rfl) | (refine ret2 [] (by simp only [go_sem, Bool.not_eq_true', Bool.not_eq_false']; rfl) ?_; simp only [go_sem, Bool.not_eq_true', Bool.not_eq_false']) | (refine acall2 [] (awake8_ok) (by simp only [go_sem, Bool.not_eq_true', Bool.not_eq_false']; rfl) (fit_of (by simp only [go_sem, Bool.not_eq_true', Bool.not_eq_false']) (by simp only [go_sem, Bool.not_eq_true', Bool.not_eq_false']) (by simp only [go_sem, Bool.not_eq_true', Bool.not_eq_false']) (by simp only [go_sem, Bool.not_eq_true', Bool.not_eq_false']) (by simp only [go_sem, Bool.not_eq_true', Bool.not_eq_false']) (by simp only [go_sem, Bool.not_eq_true', Bool.not_eq_false']) (by simp only [go_sem, Bool.not_eq_true', Bool.not_eq_false'])) ?_; simp only [go_sem, Bool.not_eq_true', Bool.not_eq_false'])
    all_goals first
      | exact absurd ⟨by assumption, by omega, by omega⟩ hv
      | (simp only [List.map_nil, List.length_nil] at *; omega)
      | skip
  obtain ⟨hs, hw⟩ := hv
  have hins := isS_ins hs
  have hrs := rmR_sum hins hw
  have hro := rmR_ok hins hw
  have hlam := isS_lam hs
  have hd : docN l = l := by simp [docN, hs]
  have er : romN l w = rmsR l w l.length := by rw [rooms_eq hs, rmsN, if_pos hw]
  have lr := romN_len l w hs
  have lr2 : (romN l w).length = l.length := by rw [er, rmsR_len]
  have hat : ∀ k (h : k < (romN l w).length), (romN l w)[k] = rmR l w l.length k := fun k h => by simp [er, rmsR]
  generalize romN l w = r at er lr lr2 hat
  (refine swp_seqW ?_; simp only [go_sem, Bool.not_eq_true', Bool.not_eq_false'])
  (refine acall2 [] (is6_ok l hl hwd) (by simp only [go_sem, Bool.not_eq_true', Bool.not_eq_false']; rfl) (fit_of (by simp only [go_sem, Bool.not_eq_true', Bool.not_eq_false']) (by simp only [go_sem, Bool.not_eq_true', Bool.not_eq_false']) (by simp only [go_sem, Bool.not_eq_true', Bool.not_eq_false']) (by simp only [go_sem, Bool.not_eq_true', Bool.not_eq_false']) (by simp only [go_sem, Bool.not_eq_true', Bool.not_eq_false']) (by simp only [go_sem, Bool.not_eq_true', Bool.not_eq_false']) (by simp only [go_sem, Bool.not_eq_true', Bool.not_eq_false'])) ?_; simp only [go_sem, Bool.not_eq_true', Bool.not_eq_false'])
  rw [hs]
  refine ⟨fun _ => ⟨fun _ => ⟨fun q => by omega, fun _ => ?_⟩, fun q => by omega⟩, fun q => by cases q⟩
  (refine swp_seqW ?_; simp only [go_sem, Bool.not_eq_true', Bool.not_eq_false', List.length_map])
  refine ⟨fun q => by omega, fun _ => ?_⟩
  refine swp_cutS (fun _ : Unit => stR l w []) (fun _ => True) 3 ?_ ?_
  · (refine swp_seqW ?_; simp only [go_sem, Bool.not_eq_true', Bool.not_eq_false'])
    refine swp_block ?_
    refine swp_loop2 [] (fun i : Nat => stR l w [(5, .sl 2 (r.map cRm)), (6, .raw (.int .i64 i))]) (fun i => i ≤ l.length) (fun i => l.length - i) 4 0 (by simp only [go_sem, Bool.not_eq_true', Bool.not_eq_false']; rfl) (by simp only [go_sem, Bool.not_eq_true', Bool.not_eq_false']) ?_ ?_
    · exact Nat.zero_le _
    · intro i hi
      (refine swp_seqW ?_; simp only [go_sem, Bool.not_eq_true', Bool.not_eq_false', List.length_map])
      refine ⟨fun h5 => ?_, fun h5 => ?_⟩
      rotate_left
      · (refine cut_end [] (()) (by simp only [go_sem, Bool.not_eq_true', Bool.not_eq_false']; rfl) ?_ ?_; (focus (simp only [go_sem, Bool.not_eq_true', Bool.not_eq_false']; done)))
        trivial
      have hil : i < l.length := by omega
      have hir : i < r.length := by omega
      have hpl := parN_lt l i
      have hval := rmR_val (w := w) hil
      have hgi : ∀ {C : LRm → Prop}, (0 : Nat) ≤ 0 → C r[i] → ∃ x, r[i]? = some x ∧ C x := fun _ c => ⟨_, List.getElem?_eq_getElem hir, c⟩
      rw [← hat i hir] at hval
      refine swp_cutS (fun _ : Unit => stR l w [(5, .sl 2 (r.map cRm)), (6, .raw (.int .i64 i))]) (fun _ => True) 3 ?_ ?_
      · refine swp_block ?_
        (refine swp_seqW ?_; simp only [go_sem, Bool.not_eq_true', Bool.not_eq_false'])
        (refine acall2 [] (parent8_ok l i hl hwd) (by simp only [go_sem, Bool.not_eq_true', Bool.not_eq_false']; rfl) (fit_of (by simp only [go_sem, Bool.not_eq_true', Bool.not_eq_false']) (by simp only [go_sem, Bool.not_eq_true', Bool.not_eq_false']) (by simp only [go_sem, Bool.not_eq_true', Bool.not_eq_false']) (by simp only [go_sem, Bool.not_eq_true', Bool.not_eq_false']) (by simp only [go_sem, Bool.not_eq_true', Bool.not_eq_false']) (by simp only [go_sem, Bool.not_eq_true', Bool.not_eq_false']) (by simp only [go_sem, Bool.not_eq_true', Bool.not_eq_false'])) ?_; simp only [go_sem, Bool.not_eq_true', Bool.not_eq_false'])
        rw [hd]
        generalize parN l i = p at hpl hval
        (refine swp_seqW ?_; simp only [go_sem, Bool.not_eq_true', Bool.not_eq_false'])
        refine ⟨fun _ => ⟨fun q => by omega, fun _ => ?_⟩, fun q => by omega⟩
        (refine swp_seqW ?_; simp only [go_sem, Bool.not_eq_true', Bool.not_eq_false'])
        refine ⟨fun q => ?_, fun q => ?_⟩
        · have e1 : r[i] = ⟨0, w⟩ := by rw [hval, valR, if_pos q]
          refine ⟨by omega, hgi (Nat.le_refl 0) ⟨fun z => ?_, fun _ => ?_⟩⟩
          · rw [e1] at z; simp at z
          · (refine cut_end [] (()) (by simp only [go_sem, Bool.not_eq_true', Bool.not_eq_false']; rfl) ?_ ?_; (focus (simp only [go_sem, Bool.not_eq_true', Bool.not_eq_false']; done)))
            trivial
        · obtain ⟨k, rfl⟩ : ∃ k : Nat, p = k := ⟨p.toNat, by omega⟩
          have hkl : k < l.length := by omega
          have hkr : k < r.length := by omega
          have e1 : r[i] = inR l k r[k] := by rw [hval, valR, if_neg q, Int.toNat_natCast, hat k hkr]
          have ek := hat k hkr
          have o1 := hro l.length k
          have o2 := hrs l.length k
          rw [← ek] at o1 o2
          obtain ⟨p1, p2, p3, p4⟩ := o1
          have hin := hins l[k] (List.getElem_mem hkl)
          have ei := insN_get hkl
          have ex : r[i].x = min (r[k].x + l[k].st.inset) 1099511627776 := by rw [e1, ← ei]; rfl
          have ew : r[i].w = max (r[k].w - 2 * l[k].st.inset) 1 := by rw [e1, ← ei]; rfl
          have hgp : ∀ {C : LRm → Prop}, (0 : Nat) ≤ 0 → C r[k] → ∃ x, r[k]? = some x ∧ C x := fun _ c => ⟨_, List.getElem?_eq_getElem hkr, c⟩
          have hgl : ∀ {C : LNo → Prop}, (0 : Nat) ≤ 0 → C l[k] → ∃ x, l[k]? = some x ∧ C x := fun _ c => ⟨_, List.getElem?_eq_getElem hkl, c⟩
          clear e1 ek hval hat hrs hro er ei
          generalize r[i] = x at hgi ex ew
          generalize r[k] = y at hgp ex ew o2 p1 p2 p3 p4
          generalize l[k] = z at hgl ex ew hin
          (refine swp_lastW ?_; simp only [go_sem, Bool.not_eq_true', Bool.not_eq_false', List.length_map, Int.toNat_natCast])
          repeat' first | contradiction | intro _ | refine And.intro ?_ ?_ | refine hgi (by omega) ?_ | refine hgp (by omega) ?_ | refine hgl (by omega) ?_ | refine ex_get (by omega) ?_ | (show drawB _ _ = true; kernel_rfl) | (refine ret2 [] (by simp only [go_sem, Bool.not_eq_true', Bool.not_eq_false']; rfl) ?_; simp only [go_sem, Bool.not_eq_true', Bool.not_eq_false'])
          all_goals first
            | omega
            | ((refine cut_end [] (()) (by simp only [go_sem, Bool.not_eq_true', Bool.not_eq_false']; rfl) ?_ ?_; (focus (simp only [go_sem, Bool.not_eq_true', Bool.not_eq_false']; done)))
               trivial)
            | skip
      rintro - -
      (refine swp_lastW ?_; simp only [go_sem, Bool.not_eq_true', Bool.not_eq_false'])
      refine ⟨by omega, ?_⟩
      (refine loop_end [] (i + 1) (by simp only [go_sem, Bool.not_eq_true', Bool.not_eq_false']; rfl) ?_ ?_ ?_; (focus first | omega | (simp only; omega)); (focus (simp only [go_sem, Bool.not_eq_true', Bool.not_eq_false']; done)))
      omega
  rintro - -
  (refine swp_lastW ?_; simp only [go_sem, Bool.not_eq_true', Bool.not_eq_false'])
  (refine acall2 [] (awake8_ok) (by simp only [go_sem, Bool.not_eq_true', Bool.not_eq_false']; rfl) (fit_of (by simp only [go_sem, Bool.not_eq_true', Bool.not_eq_false']) (by simp only [go_sem, Bool.not_eq_true', Bool.not_eq_false']) (by simp only [go_sem, Bool.not_eq_true', Bool.not_eq_false']) (by simp only [go_sem, Bool.not_eq_true', Bool.not_eq_false']) (by simp only [go_sem, Bool.not_eq_true', Bool.not_eq_false']) (by simp only [go_sem, Bool.not_eq_true', Bool.not_eq_false']) (by simp only [go_sem, Bool.not_eq_true', Bool.not_eq_false'])) ?_; simp only [go_sem, Bool.not_eq_true', Bool.not_eq_false'])
end Go.Proofs.Ytiidfcadmdahmaa
/- CHAPTER 08: what TreeOnce asks, of the plain functions. -/
/- G -/
set_option linter.unusedSimpArgs false
set_option linter.unusedVariables false
namespace Go.Proofs.Ytiidfcadmdahmaa
open Go.RowKit

theorem kid_mem {l : List LNo} (h : isS l = true) {a : Int} (ha : a = -1 ∨ hasN l a = true) (x : Int) : x ∈ kidN l a ↔ ∃ k : Nat, x = k ∧ k < l.length ∧ parN l k = a := by
  rw [kid_eq h ha, kidR, List.mem_map]
  constructor
  · rintro ⟨k, hk, rfl⟩
    rw [List.mem_filter, List.mem_range, decide_eq_true_eq] at hk
    exact ⟨k, rfl, hk.1, hk.2⟩
  · rintro ⟨k, rfl, h1, h2⟩
    exact ⟨k, by rw [List.mem_filter, List.mem_range, decide_eq_true_eq]; exact ⟨h1, h2⟩, rfl⟩
theorem kid_sorted {l : List LNo} (h : isS l = true) {a : Int} (ha : a = -1 ∨ hasN l a = true) : (kidN l a).Pairwise (· < ·) := by
  rw [kid_eq h ha, kidR, List.pairwise_map]
  have h1 : (List.range l.length).Pairwise (· < ·) := List.pairwise_lt_range
  refine List.Pairwise.imp ?_ (h1.filter _)
  intro a b h
  omega
structure KidsP (l : List LNo) (a : Int) (K : List Int) : Prop where
  at_ : ∀ i (h : i < K.length), ∃ k : Nat, K[i] = k ∧ k < l.length ∧ parN l k = a
  all : ∀ k : Nat, k < l.length → parN l k = a → (k : Int) ∈ K
  lt : ∀ i j (hi : i < K.length) (hj : j < K.length), i < j → K[i] < K[j]
  len : K.length ≤ l.length
theorem kids_p {l : List LNo} (h : isS l = true) {a : Int} (ha : a = -1 ∨ hasN l a = true) : KidsP l a (kidN l a) := by
  refine ⟨fun i hi => (kid_mem h ha _).1 (List.getElem_mem hi), fun k h1 h2 => (kid_mem h ha _).2 ⟨k, rfl, h1, h2⟩, fun i j hi hj hij => ?_, by rw [kid_eq h ha]; exact kidR_len _ _ _⟩
  exact List.pairwise_iff_getElem.1 (kid_sorted h ha) i j hi hj hij
/-- how often each was seen. -/
structure SeenP (l : List LNo) (a : Int) (K : List Int) (S : List Int) : Prop where
  len : S.length = l.length
  at_ : ∀ b (h : b < S.length), S[b] = if parN l b < a ∨ (b : Int) ∈ K then 1 else 0
theorem seen_start (l : List LNo) : SeenP l (-1) [] (List.replicate l.length 0) := by
  refine ⟨by simp, fun b hb => ?_⟩
  have := (parN_lt l b).1
  rw [if_neg (by simp; omega)]
  simp
theorem seen_step {l : List LNo} {a : Int} {K S : List Int} (hK : KidsP l a K) {i : Nat} (hi : i < K.length) {k : Nat} (hk : K[i] = k) (h : SeenP l a (K.take i) S) (hks : k < S.length) : S[k] = 0 ∧ SeenP l a (K.take (i + 1)) (S.set k (S[k] + 1)) := by
  obtain ⟨k2, e1, e2, e3⟩ := hK.at_ i hi
  obtain rfl : k = k2 := by omega
  have h0 : (k : Int) ∉ K.take i := by
    intro hm
    obtain ⟨j, hj, e⟩ := List.getElem_of_mem hm
    rw [List.getElem_take] at e
    have hj2 : j < i ∧ j < K.length := by rw [List.length_take] at hj; omega
    have := hK.lt j i hj2.2 hi hj2.1
    omega
  have h1 : S[k] = 0 := by
    rw [h.at_ k hks, if_neg]
    rintro (q | q)
    · omega
    · exact h0 q
  refine ⟨h1, by rw [List.length_set]; exact h.len, fun b hb => ?_⟩
  rw [List.length_set] at hb
  rw [List.getElem_set, List.take_succ_eq_append_getElem hi, hk]
  by_cases q : k = b
  · subst q
    rw [if_pos rfl, if_pos (.inr (by simp)), h1]; rfl
  · rw [if_neg q, h.at_ b hb]
    have : (parN l b < a ∨ (b : Int) ∈ K.take i) ↔ (parN l b < a ∨ (b : Int) ∈ K.take i ++ [(k : Int)]) := by
      rw [List.mem_append, List.mem_singleton]
      constructor
      · rintro (z | z)
        · exact .inl z
        · exact .inr (.inl z)
      · rintro (z | z | z)
        · exact .inl z
        · exact .inr z
        · omega
    by_cases z : parN l b < a ∨ (b : Int) ∈ K.take i
    · rw [if_pos z, if_pos (this.1 z)]
    · rw [if_neg z, if_neg (fun y => z (this.2 y))]
theorem seen_next {l : List LNo} {a : Int} {K S : List Int} (hK : KidsP l a K) (h : SeenP l a K S) : SeenP l (a + 1) [] S := by
  refine ⟨h.len, fun b hb => ?_⟩
  rw [h.at_ b hb]
  have hb2 : b < l.length := by rw [← h.len]; exact hb
  have : (parN l b < a ∨ (b : Int) ∈ K) ↔ (parN l b < a + 1 ∨ (b : Int) ∈ ([] : List Int)) := by
    constructor
    · rintro (z | z)
      · left; omega
      · obtain ⟨i, hi, e⟩ := List.getElem_of_mem z
        obtain ⟨k, e1, e2, e3⟩ := hK.at_ i hi
        have : k = b := by omega
        subst this
        left; omega
    · rintro (z | z)
      · by_cases q : parN l b = a
        · exact .inr (hK.all b hb2 q)
        · left; omega
      · cases z
  by_cases z : parN l b < a ∨ (b : Int) ∈ K
  · rw [if_pos z, if_pos (this.1 z)]
  · rw [if_neg z, if_neg (fun y => z (this.2 y))]
theorem seen_end {l : List LNo} {S : List Int} (h : SeenP l l.length [] S) {b : Nat} (hb : b < S.length) : S[b] = 1 := by
  rw [h.at_ b hb, if_pos]
  have := (parN_lt l b).2
  have := h.len
  left; omega
/-- from a place upwards. -/
def upP (l : List LNo) : Int → List Int → Prop
  | at_, [] => parN l at_ = -1
  | at_, p :: t => parN l at_ = p ∧ (0 ≤ p ∧ p < l.length) ∧ upP l p t
theorem abvL_up (l : List LNo) : ∀ (f a : Nat), a < l.length → parI l a a < f → upP l a (abvL l f (parI l a a))
  | 0, a, h, h1 => by
    have := (parI_lt l a a).1
    have e : parI l a a = -1 := by omega
    rw [e]
    show parN l a = -1
    rw [parN_nat h, e]
  | f + 1, a, h, h1 => by
    have hp := parI_lt l a a
    rw [abvL]
    split
    · next q =>
      obtain ⟨p, hp2⟩ : ∃ p : Nat, parI l a a = p := ⟨(parI l a a).toNat, by omega⟩
      rw [hp2] at hp h1 ⊢
      have hq := parI_lt l p p
      rw [Int.toNat_natCast]
      exact ⟨by rw [parN_nat h, hp2], ⟨by omega, by omega⟩, abvL_up l f p (by omega) (by omega)⟩
    · show parN l a = -1
      rw [parN_nat h]; omega
theorem abv_up {l : List LNo} {b : Nat} (hb : b < l.length) : upP l b (abvN l b) := by
  have hp := parI_lt l b b
  unfold abvN
  rw [if_pos (by simp only [hasN, Bool.and_eq_true, decide_eq_true_eq]; omega), Int.toNat_natCast]
  exact abvL_up l _ b hb (by omega)
theorem abvD_mem (l : List LNo) (b : Int) : ∀ (k : Nat) (x : Int), x ∈ abvD l b k ↔ ∃ a : Nat, x = a ∧ a < k ∧ b < a + sizN l a
  | 0, x => ⟨fun h => (by cases h), fun ⟨a, _, h, _⟩ => absurd h (Nat.not_lt_zero _)⟩
  | k + 1, x => by
    have ih := abvD_mem l b k x
    rw [abvD]
    split
    · next q =>
      rw [List.mem_cons, ih]
      constructor
      · rintro (e | ⟨a, e1, e2, e3⟩)
        · exact ⟨k, e, by omega, q⟩
        · exact ⟨a, e1, by omega, e3⟩
      · rintro ⟨a, e1, e2, e3⟩
        by_cases z : a = k
        · subst z; exact .inl e1
        · exact .inr ⟨a, e1, by omega, e3⟩
    · next q =>
      rw [ih]
      constructor
      · rintro ⟨a, e1, e2, e3⟩
        exact ⟨a, e1, by omega, e3⟩
      · rintro ⟨a, e1, e2, e3⟩
        by_cases z : a = k
        · subst z; exact absurd e3 q
        · exact ⟨a, e1, by omega, e3⟩
theorem hol_abv {l : List LNo} (h : isS l = true) {a b : Nat} (ha : a < l.length) (hb : b < l.length) : holN l a b = (decide ((a : Int) = b) || (abvN l b).contains (a : Int)) := by
  have hl := isS_lam h
  have h1 : hasN l a = true := by simp only [hasN, Bool.and_eq_true, decide_eq_true_eq]; omega
  have h2 : hasN l b = true := by simp only [hasN, Bool.and_eq_true, decide_eq_true_eq]; omega
  rw [Bool.eq_iff_iff]
  simp only [holN, h1, h2, Bool.true_and, Bool.and_eq_true, decide_eq_true_eq, Bool.or_eq_true, List.contains_iff_mem]
  rw [abv_eq h, abvR, if_pos h2, Int.toNat_natCast, abvD_mem, Int.toNat_natCast]
  have hp := hl.pos a ha
  constructor
  · rintro ⟨q1, q2⟩
    by_cases q : a = b
    · subst q; exact .inl rfl
    · exact .inr ⟨a, rfl, by omega, q2⟩
  · rintro (q | ⟨c, e1, e2, e3⟩)
    · omega
    · have : c = a := by omega
      subst this
      omega
end Go.Proofs.Ytiidfcadmdahmaa
/- CHAPTER 08: the law TreeOnce. -/
/- G -/
/- BOOLS -/
set_option linter.unusedSimpArgs false
set_option linter.unusedVariables false
namespace Go.Proofs.Ytiidfcadmdahmaa
open Go.RowKit

section
variable (l : List LNo) (a b : Int) (hv : isS l = true) (hl : l.length ≤ 1000) (hw : ∀ x ∈ l, x.words.length ≤ 9223372036854775807)
include hv
theorem doc_eq : docN l = l := by simp [docN, hv]
include hl hw
theorem parentV : FnOk Try.prog 14 [.sl 20 (l.map cNo), .raw (.int .i64 a)] [] (.raw (.int .i64 (parN l a))) [] := by
  have h := parent8_ok l a hl hw
  rwa [doc_eq l hv] at h
theorem aboveV : FnOk Try.prog 15 [.sl 20 (l.map cNo), .raw (.int .i64 a)] [] (.hdr 8) [(8, .row 3 1 ((abvN l a).map cInt))] := by
  have h := above9_ok l a hl hw
  rwa [doc_eq l hv] at h
theorem kidsV : FnOk Try.prog 16 [.sl 20 (l.map cNo), .raw (.int .i64 a)] [] (.hdr 8) [(8, .row 3 1 ((kidN l a).map cInt))] := by
  have h := kids8_ok l a hl hw
  rwa [doc_eq l hv] at h
theorem holdsV : FnOk Try.prog 17 [.sl 20 (l.map cNo), .raw (.int .i64 a), .raw (.int .i64 b)] [] (.raw (.bool (holN l a b))) [] := by
  have h := holds8_ok l a b hl hw
  rwa [doc_eq l hv] at h
end
def stO (l : List LNo) (S : List Int) (t : List (Nat × AV)) : AS := ⟨t ++ [(0, .sl 20 (l.map cNo)), (3, .hdr 8)], [(8, some (.row 3 1 (S.map cInt)))], none⟩
attribute [go_sem] stO
set_option maxRecDepth 100000 in
set_option maxHeartbeats 8000000 in
theorem treeOnce_ok (l : List LNo) : FnOk Try.prog 4 [.sl 20 (l.map cNo)] [] (.raw (.bool true)) [] := by
  refine fn_of_swp Try.func4 rfl (by kernel_rfl) (by kernel_rfl) (Nat.le_of_ble_eq_true rfl) Try.results4 ?_
  (refine swp_seqW ?_; simp only [go_sem, Bool.not_eq_true', Bool.not_eq_false'])
  (refine swp_seqW ?_; simp only [go_sem, Bool.not_eq_true', Bool.not_eq_false'])
  (refine acall2 [] (vast8_ok l) (by simp only [go_sem, Bool.not_eq_true', Bool.not_eq_false']; rfl) (fit_of (by simp only [go_sem, Bool.not_eq_true', Bool.not_eq_false']) (by simp only [go_sem, Bool.not_eq_true', Bool.not_eq_false']) (by simp only [go_sem, Bool.not_eq_true', Bool.not_eq_false']) (by simp only [go_sem, Bool.not_eq_true', Bool.not_eq_false']) (by simp only [go_sem, Bool.not_eq_true', Bool.not_eq_false']) (by simp only [go_sem, Bool.not_eq_true', Bool.not_eq_false']) (by simp only [go_sem, Bool.not_eq_true', Bool.not_eq_false'])) ?_; simp only [go_sem, Bool.not_eq_true', Bool.not_eq_false'])
  refine ⟨fun h1 => ?_, fun h1 => ?_⟩
  · (refine acall2 [] (awake8_ok) (by simp only [go_sem, Bool.not_eq_true', Bool.not_eq_false']; rfl) (fit_of (by simp only [go_sem, Bool.not_eq_true', Bool.not_eq_false']) (by simp only [go_sem, Bool.not_eq_true', Bool.not_eq_false']) (by simp only [go_sem, Bool.not_eq_true', Bool.not_eq_false']) (by simp only [go_sem, Bool.not_eq_true', Bool.not_eq_false']) (by simp only [go_sem, Bool.not_eq_true', Bool.not_eq_false']) (by simp only [go_sem, Bool.not_eq_true', Bool.not_eq_false']) (by simp only [go_sem, Bool.not_eq_true', Bool.not_eq_false'])) ?_; simp only [go_sem, Bool.not_eq_true', Bool.not_eq_false'])
  obtain ⟨hl6, hw6⟩ := vst_no h1
  have hl : l.length ≤ 1000 := by omega
  have hwd : ∀ x ∈ l, x.words.length ≤ 9223372036854775807 := fun x hx => by have := hw6 x hx; omega
  (refine swp_seqW ?_; simp only [go_sem, Bool.not_eq_true', Bool.not_eq_false'])
  (refine acall2 [] (is6_ok l hl hwd) (by simp only [go_sem, Bool.not_eq_true', Bool.not_eq_false']; rfl) (fit_of (by simp only [go_sem, Bool.not_eq_true', Bool.not_eq_false']) (by simp only [go_sem, Bool.not_eq_true', Bool.not_eq_false']) (by simp only [go_sem, Bool.not_eq_true', Bool.not_eq_false']) (by simp only [go_sem, Bool.not_eq_true', Bool.not_eq_false']) (by simp only [go_sem, Bool.not_eq_true', Bool.not_eq_false']) (by simp only [go_sem, Bool.not_eq_true', Bool.not_eq_false']) (by simp only [go_sem, Bool.not_eq_true', Bool.not_eq_false'])) ?_; simp only [go_sem, Bool.not_eq_true', Bool.not_eq_false'])
  refine ⟨fun hv => ?_, fun hv => ?_⟩
  · (refine acall2 [] (awake8_ok) (by simp only [go_sem, Bool.not_eq_true', Bool.not_eq_false']; rfl) (fit_of (by simp only [go_sem, Bool.not_eq_true', Bool.not_eq_false']) (by simp only [go_sem, Bool.not_eq_true', Bool.not_eq_false']) (by simp only [go_sem, Bool.not_eq_true', Bool.not_eq_false']) (by simp only [go_sem, Bool.not_eq_true', Bool.not_eq_false']) (by simp only [go_sem, Bool.not_eq_true', Bool.not_eq_false']) (by simp only [go_sem, Bool.not_eq_true', Bool.not_eq_false']) (by simp only [go_sem, Bool.not_eq_true', Bool.not_eq_false'])) ?_; simp only [go_sem, Bool.not_eq_true', Bool.not_eq_false'])
  refine swp_cutS (fun S : List Int => stO l S []) (fun S => S = List.replicate l.length 0) 3 ?_ ?_
  · (refine swp_lastW ?_; simp only [go_sem, Bool.not_eq_true', Bool.not_eq_false', List.length_map])
    refine ⟨by omega, ?_⟩
    (refine cut_end [] (List.replicate l.length 0) (by simp only [go_sem, Bool.not_eq_true', Bool.not_eq_false']; rfl) ?_ ?_; (focus (simp only [go_sem, Bool.not_eq_true', Bool.not_eq_false', List.map_replicate]; done)))
    rfl
  rintro S0 rfl
  refine swp_cutS (fun S : List Int => stO l S []) (fun S => SeenP l l.length [] S) 3 ?_ ?_
  · (refine swp_seqW ?_; simp only [go_sem, Bool.not_eq_true', Bool.not_eq_false'])
    refine swp_block ?_
    refine swp_loop2 [] (fun z : KY (List Int) => stO l z.o [(4, .raw (.int .i64 ((z.k : Int) - 1)))]) (fun z => z.k ≤ l.length + 1 ∧ SeenP l ((z.k : Int) - 1) [] z.o) (fun z => l.length + 1 - z.k) 4 ⟨0, List.replicate l.length 0⟩ (by simp only [go_sem, Bool.not_eq_true', Bool.not_eq_false']; rfl) (by simp only [go_sem, Bool.not_eq_true', Bool.not_eq_false', Int.reduceToNat, Int.reduceLT, Int.reduceLE, Int.reduceEq, Int.reduceAdd, Int.reduceSub, Int.reduceMul, Int.reduceNeg, Int.reduceNe, decide_false, Int.cast_ofNat_Int, kSet, List.getElem?_cons_succ, List.getElem?_cons_zero, List.set_cons_succ, List.set_cons_zero, exists_eq_left', forall_const, true_implies]) ?_ ?_
    · exact ⟨Nat.zero_le _, seen_start l⟩
    · rintro ⟨k, S⟩ ⟨hk, hS⟩
      simp only at hk hS
      (refine swp_seqW ?_; simp only [go_sem, Bool.not_eq_true', Bool.not_eq_false', List.length_map])
      refine ⟨fun h5 => ?_, fun h5 => ?_⟩
      rotate_left
      · (refine cut_end [] (S) (by simp only [go_sem, Bool.not_eq_true', Bool.not_eq_false']; rfl) ?_ ?_; (focus (simp only [go_sem, Bool.not_eq_true', Bool.not_eq_false']; done)))
        have e : (k : Int) - 1 = l.length := by omega
        rw [← e]; exact hS
      have hKP := kids_p hv (a := (k : Int) - 1) (by
        rcases (by omega : k = 0 ∨ 0 < k) with q | q
        · left; omega
        · right; simp only [hasN, Bool.and_eq_true, decide_eq_true_eq]; omega)
      refine swp_cutS (fun S : List Int => stO l S [(4, .raw (.int .i64 ((k : Int) - 1)))]) (fun S => SeenP l k [] S) 3 ?_ ?_
      · refine swp_block ?_
        (refine swp_seqW ?_; simp only [go_sem, Bool.not_eq_true', Bool.not_eq_false'])
        (refine acall2 [] (kidsV l ((k : Int) - 1) hv hl hwd) (by simp only [go_sem, Bool.not_eq_true', Bool.not_eq_false']; rfl) (fit_of (by simp only [go_sem, Bool.not_eq_true', Bool.not_eq_false']) (by simp only [go_sem, Bool.not_eq_true', Bool.not_eq_false']) (by simp only [go_sem, Bool.not_eq_true', Bool.not_eq_false']) (by simp only [go_sem, Bool.not_eq_true', Bool.not_eq_false']) (by simp only [go_sem, Bool.not_eq_true', Bool.not_eq_false']) (by simp only [go_sem, Bool.not_eq_true', Bool.not_eq_false']) (by simp only [go_sem, Bool.not_eq_true', Bool.not_eq_false'])) ?_; simp only [go_sem, Bool.not_eq_true', Bool.not_eq_false'])
        (refine swp_seqW ?_; simp only [go_sem, Bool.not_eq_true', Bool.not_eq_false'])
        refine swp_block ?_
        generalize kidN l ((k : Int) - 1) = K at hKP
        refine swp_loop2 [80 ]  (fun z : KY (List Int) => stO l z.o [(4, .raw (.int .i64 ((k : Int) - 1))), (5, .sl 1 (K.map cInt)), (6, .raw (.int .i64 z.k))]) (fun z => z.k ≤ K.length ∧ SeenP l ((k : Int) - 1) (K.take z.k) z.o) (fun z => K.length - z.k) 4 ⟨0, S⟩ (by simp only [go_sem, Bool.not_eq_true', Bool.not_eq_false']; rfl) (by simp only [go_sem, Bool.not_eq_true', Bool.not_eq_false', List.take_zero]) ?_ ?_
        · exact ⟨Nat.zero_le _, hS⟩
        · rintro ⟨i, S⟩ ⟨hi, hS⟩
          simp only at hi hS
          (refine swp_seqW ?_; simp only [go_sem, Bool.not_eq_true', Bool.not_eq_false', List.length_map])
          refine ⟨fun h7 => ?_, fun h7 => ?_⟩
          rotate_left
          · have e : K.take i = K := List.take_of_length_le (by omega)
            rw [e] at hS
            have := seen_next hKP hS
            (refine cut_end [] (S) (by simp only [go_sem, Bool.not_eq_true', Bool.not_eq_false']; rfl) ?_ ?_; (focus (simp only [go_sem, Bool.not_eq_true', Bool.not_eq_false']; done)))
            rw [show (k : Int) = k - 1 + 1 by omega]; exact this
          have hik : i < K.length := by omega
          obtain ⟨m, e1, e2, e3⟩ := hKP.at_ i hik
          have hms : m < S.length := by rw [hS.len]; exact e2
          obtain ⟨s1, s2⟩ := seen_step hKP hik e1 hS hms
          have hlt : ∀ j (hj : j < K.length), j < i → K[j] < K[i] := fun j hj q => hKP.lt j i hj hik q
          have hml := parN_lt l m
          have hKl := hKP.len
          refine swp_seqS ?_
          refine swp_block ?_
          (refine swp_seqW ?_; simp only [go_sem, Bool.not_eq_true', Bool.not_eq_false'])
          refine ⟨by omega, ex_get hik ?_⟩
          rw [e1] at hlt ⊢
          (refine swp_seqW ?_; simp only [go_sem, Bool.not_eq_true', Bool.not_eq_false', List.length_map])
          repeat' first | contradiction | intro _ | refine And.intro ?_ ?_ | refine ex_get (by omega) ?_ | (show drawB _ _ = true; kernel_rfl) | (refine ret2 [] (by simp only [go_sem, Bool.not_eq_true', Bool.not_eq_false']; rfl) ?_; simp only [go_sem, Bool.not_eq_true', Bool.not_eq_false']) | (refine acall2 [] (parentV l m hv hl hwd) (by simp only [go_sem, Bool.not_eq_true', Bool.not_eq_false']; rfl) (fit_of (by simp only [go_sem, Bool.not_eq_true', Bool.not_eq_false']) (by simp only [go_sem, Bool.not_eq_true', Bool.not_eq_false']) (by simp only [go_sem, Bool.not_eq_true', Bool.not_eq_false']) (by simp only [go_sem, Bool.not_eq_true', Bool.not_eq_false']) (by simp only [go_sem, Bool.not_eq_true', Bool.not_eq_false']) (by simp only [go_sem, Bool.not_eq_true', Bool.not_eq_false']) (by simp only [go_sem, Bool.not_eq_true', Bool.not_eq_false'])) ?_; simp only [go_sem, Bool.not_eq_true', Bool.not_eq_false'])
          all_goals first
            | omega
            | (have := hlt ((i : Int) - 1).toNat (by omega) (by omega)
               omega)
            | ((refine swp_lastW ?_; simp only [go_sem, Bool.not_eq_true', Bool.not_eq_false', List.length_map])
               refine ⟨by omega, ex_get hms ⟨by omega, by omega, ex_get hms ?_⟩⟩
               (refine swp_lastW ?_; simp only [go_sem, Bool.not_eq_true', Bool.not_eq_false'])
               refine ⟨by omega, ?_⟩
               (refine loop_end [] (⟨i + 1, S.set m (S[m] + 1)⟩) (by simp only [go_sem, Bool.not_eq_true', Bool.not_eq_false']; rfl) ?_ ?_ ?_; (focus first | omega | (simp only; omega)); (focus (simp only [go_sem, Bool.not_eq_true', Bool.not_eq_false', List.map_set]; done)))
               exact ⟨by simp only; omega, s2⟩)
      rintro S hS
      (refine swp_lastW ?_; simp only [go_sem, Bool.not_eq_true', Bool.not_eq_false'])
      refine ⟨by omega, ?_⟩
      have e9 : (k : Int) + 1 - 1 = k - 1 + 1 := by omega
      (refine loop_end [] (⟨k + 1, S⟩) (by simp only [go_sem, Bool.not_eq_true', Bool.not_eq_false']; rfl) ?_ ?_ ?_; (focus first | omega | (simp only; omega)); (focus (simp only [go_sem, Bool.not_eq_true', Bool.not_eq_false', e9]; done)))
      exact ⟨by simp only; omega, by simp only; rw [show (((k + 1 : Nat) : Int) - 1) = k by omega]; exact hS⟩
  rintro S hS
  have hS1 : ∀ b (h : b < S.length), S[b] = 1 := fun b h => seen_end hS h
  have hSl := hS.len
  clear hS
  refine swp_cutS (fun _ : Unit => stO l S []) (fun _ => True) 3 ?_ ?_
  · (refine swp_seqW ?_; simp only [go_sem, Bool.not_eq_true', Bool.not_eq_false'])
    refine swp_block ?_
    refine swp_loop2 [] (fun b : Nat => stO l S [(8, .raw (.int .i64 b))]) (fun b => b ≤ l.length) (fun b => l.length - b) 4 0 (by simp only [go_sem, Bool.not_eq_true', Bool.not_eq_false']; rfl) (by simp only [go_sem, Bool.not_eq_true', Bool.not_eq_false']) ?_ ?_
    · exact Nat.zero_le _
    · intro b hb
      (refine swp_seqW ?_; simp only [go_sem, Bool.not_eq_true', Bool.not_eq_false', List.length_map])
      refine ⟨fun h5 => ?_, fun h5 => ?_⟩
      rotate_left
      · (refine cut_end [] (()) (by simp only [go_sem, Bool.not_eq_true', Bool.not_eq_false']; rfl) ?_ ?_; (focus (simp only [go_sem, Bool.not_eq_true', Bool.not_eq_false']; done)))
        trivial
      have hbl : b < l.length := by omega
      have hbs : b < S.length := by omega
      have hb1 := hS1 b hbs
      have hup := abv_up hbl
      have hUl := abvN_len l b hv
      refine swp_cutS (fun _ : Unit => stO l S [(8, .raw (.int .i64 b))]) (fun _ => True) 3 ?_ ?_
      · refine swp_block ?_
        (refine swp_seqW ?_; simp only [go_sem, Bool.not_eq_true', Bool.not_eq_false', List.length_map])
        refine ⟨by omega, ex_get hbs ⟨fun q => by omega, fun _ => ?_⟩⟩
        have hhol : ∀ a : Nat, a < l.length → holN l a b = (decide ((a : Int) = b) || (abvN l b).contains (a : Int)) := fun a ha => hol_abv hv ha hbl
        refine swp_cutS (fun _ : Unit => stO l S [(8, .raw (.int .i64 b)), (9, .sl 1 ((abvN l b).map cInt))]) (fun _ => True) 3 ?_ ?_
        · (refine swp_lastW ?_; simp only [go_sem, Bool.not_eq_true', Bool.not_eq_false'])
          (refine acall2 [] (aboveV l b hv hl hwd) (by simp only [go_sem, Bool.not_eq_true', Bool.not_eq_false']; rfl) (fit_of (by simp only [go_sem, Bool.not_eq_true', Bool.not_eq_false']) (by simp only [go_sem, Bool.not_eq_true', Bool.not_eq_false']) (by simp only [go_sem, Bool.not_eq_true', Bool.not_eq_false']) (by simp only [go_sem, Bool.not_eq_true', Bool.not_eq_false']) (by simp only [go_sem, Bool.not_eq_true', Bool.not_eq_false']) (by simp only [go_sem, Bool.not_eq_true', Bool.not_eq_false']) (by simp only [go_sem, Bool.not_eq_true', Bool.not_eq_false'])) ?_; simp only [go_sem, Bool.not_eq_true', Bool.not_eq_false'])
          (refine cut_end [120 ] ( ()) (by simp only [go_sem, Bool.not_eq_true', Bool.not_eq_false']; rfl) ?_ ?_; (focus (simp only [go_sem, Bool.not_eq_true', Bool.not_eq_false']; done)))
          trivial
        rintro - -
        generalize abvN l b = U at hup hUl hhol
        (refine swp_seqW ?_; simp only [go_sem, Bool.not_eq_true', Bool.not_eq_false'])
        refine swp_cutS (fun a : Int => stO l S [(8, .raw (.int .i64 b)), (9, .sl 1 (U.map cInt)), (10, .raw (.int .i64 a))]) (fun a => upP l a []) 3 ?_ ?_
        · (refine swp_seqW ?_; simp only [go_sem, Bool.not_eq_true', Bool.not_eq_false'])
          refine swp_block ?_
          refine swp_loop2 [] (fun z : KY Int => stO l S [(8, .raw (.int .i64 b)), (9, .sl 1 (U.map cInt)), (10, .raw (.int .i64 z.o)), (11, .raw (.int .i64 z.k))]) (fun z => z.k ≤ U.length ∧ upP l z.o (U.drop z.k)) (fun z => U.length - z.k) 4 ⟨0, (b : Int)⟩ (by simp only [go_sem, Bool.not_eq_true', Bool.not_eq_false']; rfl) (by simp only [go_sem, Bool.not_eq_true', Bool.not_eq_false']) ?_ ?_
          · exact ⟨Nat.zero_le _, hup⟩
          · rintro ⟨i, a⟩ ⟨hi, hu⟩
            simp only at hi hu
            (refine swp_seqW ?_; simp only [go_sem, Bool.not_eq_true', Bool.not_eq_false', List.length_map])
            refine ⟨fun h7 => ?_, fun h7 => ?_⟩
            rotate_left
            · rw [List.drop_of_length_le (by omega)] at hu
              (refine cut_end [] (a) (by simp only [go_sem, Bool.not_eq_true', Bool.not_eq_false']; rfl) ?_ ?_; (focus (simp only [go_sem, Bool.not_eq_true', Bool.not_eq_false']; done)))
              exact hu
            have hiu : i < U.length := by omega
            rw [List.drop_eq_getElem_cons hiu] at hu
            obtain ⟨u1, u2, u3⟩ := hu
            refine swp_seqS ?_
            refine swp_block ?_
            (refine swp_seqW ?_; simp only [go_sem, Bool.not_eq_true', Bool.not_eq_false'])
            repeat' first | contradiction | intro _ | refine And.intro ?_ ?_ | refine ex_get (by omega) ?_ | (show drawB _ _ = true; kernel_rfl) | (refine ret2 [] (by simp only [go_sem, Bool.not_eq_true', Bool.not_eq_false']; rfl) ?_; simp only [go_sem, Bool.not_eq_true', Bool.not_eq_false']) | (refine acall2 [] (parentV l a hv hl hwd) (by simp only [go_sem, Bool.not_eq_true', Bool.not_eq_false']; rfl) (fit_of (by simp only [go_sem, Bool.not_eq_true', Bool.not_eq_false']) (by simp only [go_sem, Bool.not_eq_true', Bool.not_eq_false']) (by simp only [go_sem, Bool.not_eq_true', Bool.not_eq_false']) (by simp only [go_sem, Bool.not_eq_true', Bool.not_eq_false']) (by simp only [go_sem, Bool.not_eq_true', Bool.not_eq_false']) (by simp only [go_sem, Bool.not_eq_true', Bool.not_eq_false']) (by simp only [go_sem, Bool.not_eq_true', Bool.not_eq_false'])) ?_; simp only [go_sem, Bool.not_eq_true', Bool.not_eq_false'])
            all_goals first
              | omega
              | ((refine swp_lastW ?_; simp only [go_sem, Bool.not_eq_true', Bool.not_eq_false', List.length_map])
                 refine ⟨by omega, ex_get hiu ?_⟩
                 (refine swp_lastW ?_; simp only [go_sem, Bool.not_eq_true', Bool.not_eq_false'])
                 refine ⟨by omega, ?_⟩
                 (refine loop_end [] (⟨i + 1, U[i]⟩) (by simp only [go_sem, Bool.not_eq_true', Bool.not_eq_false']; rfl) ?_ ?_ ?_; (focus first | omega | (simp only; omega)); (focus (simp only [go_sem, Bool.not_eq_true', Bool.not_eq_false']; done)))
                 exact ⟨hiu, u3⟩)
        rintro a ha
        (refine swp_seqW ?_; simp only [go_sem, Bool.not_eq_true', Bool.not_eq_false'])
        (refine acall2 [] (parentV l a hv hl hwd) (by simp only [go_sem, Bool.not_eq_true', Bool.not_eq_false']; rfl) (fit_of (by simp only [go_sem, Bool.not_eq_true', Bool.not_eq_false']) (by simp only [go_sem, Bool.not_eq_true', Bool.not_eq_false']) (by simp only [go_sem, Bool.not_eq_true', Bool.not_eq_false']) (by simp only [go_sem, Bool.not_eq_true', Bool.not_eq_false']) (by simp only [go_sem, Bool.not_eq_true', Bool.not_eq_false']) (by simp only [go_sem, Bool.not_eq_true', Bool.not_eq_false']) (by simp only [go_sem, Bool.not_eq_true', Bool.not_eq_false'])) ?_; simp only [go_sem, Bool.not_eq_true', Bool.not_eq_false'])
        have ha : parN l a = -1 := ha
        refine ⟨fun q => absurd ha q, fun _ => ?_⟩
        (refine swp_seqW ?_; simp only [go_sem, Bool.not_eq_true', Bool.not_eq_false'])
        refine swp_block ?_
        refine swp_loop2 [] (fun a : Nat => stO l S [(8, .raw (.int .i64 b)), (9, .sl 1 (U.map cInt)), (12, .raw (.int .i64 a))]) (fun a => a ≤ l.length) (fun a => l.length - a) 4 0 (by simp only [go_sem, Bool.not_eq_true', Bool.not_eq_false']; rfl) (by simp only [go_sem, Bool.not_eq_true', Bool.not_eq_false']) ?_ ?_
        · exact Nat.zero_le _
        · intro a hal
          (refine swp_seqW ?_; simp only [go_sem, Bool.not_eq_true', Bool.not_eq_false', List.length_map])
          refine ⟨fun h7 => ?_, fun h7 => ?_⟩
          rotate_left
          · (refine cut_end [] (()) (by simp only [go_sem, Bool.not_eq_true', Bool.not_eq_false']; rfl) ?_ ?_; (focus (simp only [go_sem, Bool.not_eq_true', Bool.not_eq_false']; done)))
            trivial
          have hh := hhol a (by omega)
          refine swp_cutS (fun _ : Unit => stO l S [(8, .raw (.int .i64 b)), (9, .sl 1 (U.map cInt)), (12, .raw (.int .i64 a))]) (fun _ => True) 3 ?_ ?_
          · refine swp_block ?_
            (refine swp_seqW ?_; simp only [go_sem, Bool.not_eq_true', Bool.not_eq_false'])
            refine swp_cutS (fun t : Bool => stO l S [(8, .raw (.int .i64 b)), (9, .sl 1 (U.map cInt)), (12, .raw (.int .i64 a)), (13, .raw (.bool t))]) (fun t => t = (decide ((a : Int) = b) || U.contains (a : Int))) 3 ?_ ?_
            · (refine swp_seqW ?_; simp only [go_sem, Bool.not_eq_true', Bool.not_eq_false'])
              refine swp_block ?_
              refine swp_loop2 [] (fun z : KY Bool => stO l S [(8, .raw (.int .i64 b)), (9, .sl 1 (U.map cInt)), (12, .raw (.int .i64 a)), (13, .raw (.bool z.o)), (14, .raw (.int .i64 z.k))]) (fun z => z.k ≤ U.length ∧ z.o = (decide ((a : Int) = b) || (U.take z.k).contains (a : Int))) (fun z => U.length - z.k) 4 ⟨0, decide ((a : Int) = b)⟩ (by simp only [go_sem, Bool.not_eq_true', Bool.not_eq_false']; rfl) (by simp only [go_sem, Bool.not_eq_true', Bool.not_eq_false']) ?_ ?_
              · exact ⟨Nat.zero_le _, by simp⟩
              · rintro ⟨i, t⟩ ⟨hi, ht⟩
                simp only at hi ht
                (refine swp_lastW ?_; simp only [go_sem, Bool.not_eq_true', Bool.not_eq_false', List.length_map])
                refine ⟨fun h9 => ?_, fun h9 => ?_⟩
                · have hiu : i < U.length := by omega
                  have e1 : (U.take (i + 1)).contains (a : Int) = ((U.take i).contains (a : Int) || decide (U[i] = (a : Int))) := by
                    rw [List.take_succ_eq_append_getElem hiu, List.contains_append]
                    congr 1
                    simp [eq_comm]
                  refine ⟨fun q => ⟨by omega, ex_get hiu ⟨by omega, ?_⟩⟩, fun q => ⟨by omega, ?_⟩⟩
                  · rw [q] at ht
                    have ht := ht.symm
                    simp only [Bool.or_eq_false_iff] at ht
                    (refine loop_end [] (⟨i + 1, decide (U[i] = (a : Int))⟩) (by simp only [go_sem, Bool.not_eq_true', Bool.not_eq_false']; rfl) ?_ ?_ ?_; (focus first | omega | (simp only; omega)); (focus (simp only [go_sem, Bool.not_eq_true', Bool.not_eq_false']; done)))
                    exact ⟨hiu, by simp only; rw [e1, ht.1, ht.2]; simp⟩
                  · subst q
                    (refine loop_end [] (⟨i + 1, true⟩) (by simp only [go_sem, Bool.not_eq_true', Bool.not_eq_false']; rfl) ?_ ?_ ?_; (focus first | omega | (simp only; omega)); (focus (simp only [go_sem, Bool.not_eq_true', Bool.not_eq_false']; done)))
                    exact ⟨hiu, by simp only; rw [e1, ← Bool.or_assoc, ← ht]; rfl⟩
                · rw [List.take_of_length_le (by omega)] at ht
                  (refine cut_end [] (t) (by simp only [go_sem, Bool.not_eq_true', Bool.not_eq_false']; rfl) ?_ ?_; (focus (simp only [go_sem, Bool.not_eq_true', Bool.not_eq_false']; done)))
                  exact ht
            rintro t ht
            (refine swp_lastW ?_; simp only [go_sem, Bool.not_eq_true', Bool.not_eq_false'])
            (refine acall2 [] (holdsV l a b hv hl hwd) (by simp only [go_sem, Bool.not_eq_true', Bool.not_eq_false']; rfl) (fit_of (by simp only [go_sem, Bool.not_eq_true', Bool.not_eq_false']) (by simp only [go_sem, Bool.not_eq_true', Bool.not_eq_false']) (by simp only [go_sem, Bool.not_eq_true', Bool.not_eq_false']) (by simp only [go_sem, Bool.not_eq_true', Bool.not_eq_false']) (by simp only [go_sem, Bool.not_eq_true', Bool.not_eq_false']) (by simp only [go_sem, Bool.not_eq_true', Bool.not_eq_false']) (by simp only [go_sem, Bool.not_eq_true', Bool.not_eq_false'])) ?_; simp only [go_sem, Bool.not_eq_true', Bool.not_eq_false'])
            rw [hh, ← ht]
            refine ⟨fun q => by simp at q, fun _ => ?_⟩
            (refine cut_end [] (()) (by simp only [go_sem, Bool.not_eq_true', Bool.not_eq_false']; rfl) ?_ ?_; (focus (simp only [go_sem, Bool.not_eq_true', Bool.not_eq_false']; done)))
            trivial
          rintro - -
          (refine swp_lastW ?_; simp only [go_sem, Bool.not_eq_true', Bool.not_eq_false'])
          refine ⟨by omega, ?_⟩
          (refine loop_end [] (a + 1) (by simp only [go_sem, Bool.not_eq_true', Bool.not_eq_false']; rfl) ?_ ?_ ?_; (focus first | omega | (simp only; omega)); (focus (simp only [go_sem, Bool.not_eq_true', Bool.not_eq_false']; done)))
          omega
      rintro - -
      (refine swp_lastW ?_; simp only [go_sem, Bool.not_eq_true', Bool.not_eq_false'])
      refine ⟨by omega, ?_⟩
      (refine loop_end [] (b + 1) (by simp only [go_sem, Bool.not_eq_true', Bool.not_eq_false']; rfl) ?_ ?_ ?_; (focus first | omega | (simp only; omega)); (focus (simp only [go_sem, Bool.not_eq_true', Bool.not_eq_false']; done)))
      omega
  rintro - -
  (refine swp_lastW ?_; simp only [go_sem, Bool.not_eq_true', Bool.not_eq_false'])
  (refine acall2 [] (awake8_ok) (by simp only [go_sem, Bool.not_eq_true', Bool.not_eq_false']; rfl) (fit_of (by simp only [go_sem, Bool.not_eq_true', Bool.not_eq_false']) (by simp only [go_sem, Bool.not_eq_true', Bool.not_eq_false']) (by simp only [go_sem, Bool.not_eq_true', Bool.not_eq_false']) (by simp only [go_sem, Bool.not_eq_true', Bool.not_eq_false']) (by simp only [go_sem, Bool.not_eq_true', Bool.not_eq_false']) (by simp only [go_sem, Bool.not_eq_true', Bool.not_eq_false']) (by simp only [go_sem, Bool.not_eq_true', Bool.not_eq_false'])) ?_; simp only [go_sem, Bool.not_eq_true', Bool.not_eq_false'])
end Go.Proofs.Ytiidfcadmdahmaa
