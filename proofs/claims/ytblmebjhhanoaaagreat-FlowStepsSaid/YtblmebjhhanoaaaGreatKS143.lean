/- CONTRACTS of the functions, and plain laws, joined out of: GFloL GStpE. -/
import Derived.Test.YtblmebjhhanoaaaGreatKS142
/- CHAPTER 14: the law FlowGalleys. -/
/- G -/
/- BOOLS -/
set_option linter.unusedSimpArgs false
set_option linter.unusedVariables false
namespace Go.Proofs.YtblmebjhhanoaaaGreat
open Go.RowKit

def lonB (l : List LNo) : Bool := decide (60 < l.length) || l.any (fun x => decide (60 < x.words.length))
theorem lon_no {l : List LNo} (h : lonB l = false) : l.length ≤ 60 ∧ ∀ x ∈ l, x.words.length ≤ 60 := by
  unfold lonB at h
  rw [Bool.or_eq_false_iff, decide_eq_false_iff_not, List.any_eq_false] at h
  exact ⟨by omega, fun x hx => by have := h.2 x hx; simp only [decide_eq_true_eq] at this; omega⟩
theorem lon_pcs {l : List LNo} (h : ∀ x ∈ l, x.words.length ≤ 60) : ∀ k : Nat, k ≤ l.length → psN l k ≤ 60 * (k : Int)
  | 0, _ => by rw [psN_zero]; omega
  | k + 1, hk => by
    have h1 := lon_pcs h k (by omega)
    have h2 := psN_succ (l := l) (k := k) (by omega)
    have h3 := h l[k] (List.getElem_mem (by omega))
    have h4 : pcsN (ndN l k) ≤ 60 := by
      rw [ndN_get (by omega)]
      unfold pcsN
      split
      · omega
      · split <;> omega
    omega
theorem lon_pall {l : List LNo} (h : l.length ≤ 60 ∧ ∀ x ∈ l, x.words.length ≤ 60) : pall l ≤ 9223372036854775807 := by
  have := lon_pcs h.2 l.length (Nat.le_refl _)
  unfold pall
  omega
set_option maxRecDepth 100000 in
set_option maxHeartbeats 4000000 in
theorem long_ok (l : List LNo) (hw : ∀ x ∈ l, x.words.length ≤ 9223372036854775807) : FnOk Tryz.prog 6 [.sl 20 (l.map cNo)] [] (.raw (.bool (lonB l))) [] := by
  refine fn_of_swp Tryz.func6 rfl (by kernel_rfl) (by kernel_rfl) (Nat.le_of_ble_eq_true rfl) Tryz.results6 ?_
  (refine swp_seqW ?_; simp only [go_sem, Bool.not_eq_true', Bool.not_eq_false'])
  (refine swp_seqW ?_; simp only [go_sem, Bool.not_eq_true', Bool.not_eq_false', List.length_map])
  refine ⟨fun h1 => ?_, fun h1 => ?_⟩
  · have e : lonB l = true := by unfold lonB; rw [decide_eq_true (by omega)]; rfl
    rw [e]
  have e0 : decide (60 < l.length) = false := decide_eq_false (by omega)
  refine swp_cutS (fun _ : Unit => ⟨[], [], none⟩) (fun _ => lonB l = false) 120 ?_ ?_
  · (refine swp_seqW ?_; simp only [go_sem, Bool.not_eq_true', Bool.not_eq_false'])
    refine swp_block ?_
    refine swp_loop2 [] (fun k : Nat => ⟨[(0, .sl 20 (l.map cNo)), (3, .raw (.int .i64 k))], [], none⟩) (fun k => k ≤ l.length ∧ ∀ i (h : i < l.length), i < k → l[i].words.length ≤ 60) (fun k => l.length - k) 120 0 (by simp only [go_sem, Bool.not_eq_true', Bool.not_eq_false']; rfl) (by simp only [go_sem, Bool.not_eq_true', Bool.not_eq_false']) ?_ ?_
    · exact ⟨Nat.zero_le _, fun i _ h => absurd h (Nat.not_lt_zero _)⟩
    rintro k ⟨h2, h3⟩
    (refine swp_seqW ?_; simp only [go_sem, Bool.not_eq_true', Bool.not_eq_false', List.length_map])
    refine ⟨fun h5 => ?_, fun h5 => ?_⟩
    · have hk : k < l.length := by omega
      refine swp_seqS ?_
      refine swp_block ?_
      (refine swp_seqW ?_; simp only [go_sem, Bool.not_eq_true', Bool.not_eq_false', List.length_map])
      refine ⟨by omega, ex_get hk ?_⟩
      (refine swp_condW ?_; simp only [go_sem, Bool.not_eq_true', Bool.not_eq_false'])
      refine ⟨fun h6 => ?_, fun h6 => ?_⟩
      · have e : lonB l = true := by
          unfold lonB
          rw [e0, Bool.false_or, List.any_eq_true]
          exact ⟨_, List.getElem_mem hk, by rw [decide_eq_true_eq]; omega⟩
        rw [e]
        (refine swp_lastW ?_; simp only [go_sem, Bool.not_eq_true', Bool.not_eq_false'])
      · (refine swp_lastW ?_; simp only [go_sem, Bool.not_eq_true', Bool.not_eq_false'])
        (refine swp_lastW ?_; simp only [go_sem, Bool.not_eq_true', Bool.not_eq_false'])
        refine ⟨by omega, ?_⟩
        (refine loop_end [] (k + 1) (by simp only [go_sem, Bool.not_eq_true', Bool.not_eq_false']; rfl) ?_ ?_ ?_; (focus first | omega | (simp only; omega)); (focus (simp only [go_sem, Bool.not_eq_true', Bool.not_eq_false']; done)))
        refine ⟨hk, fun i hi h7 => ?_⟩
        rcases Nat.lt_succ_iff_lt_or_eq.1 h7 with h8 | h8
        · exact h3 i hi h8
        · subst h8; omega
    · (refine cut_end [] (()) (by simp only [go_sem, Bool.not_eq_true', Bool.not_eq_false']; rfl) ?_ ?_; (focus (simp only [go_sem, Bool.not_eq_true', Bool.not_eq_false']; done)))
      unfold lonB
      rw [e0, Bool.false_or, List.any_eq_false]
      intro x hx
      obtain ⟨i, hi, rfl⟩ := List.getElem_of_mem hx
      have := h3 i hi (by omega)
      simp only [decide_eq_true_eq]
      omega
  rintro - h
  rw [h]
  (refine swp_lastW ?_; simp only [go_sem, Bool.not_eq_true', Bool.not_eq_false'])
def aGl (g : LGal) : AV := .agg [.sl 8 (g.a.map cAt), .sl 7 (g.f.map cFl), .raw (.int .i64 g.h)]
attribute [go_sem] aGl
set_option maxRecDepth 100000 in
theorem gsame_ok (g : LGal) (ha : g.a.length ≤ 4000) (hf : g.f.length ≤ 4000) : FnOk Tryz.prog 10 [aGl g, aGl g] [] (.raw (.bool true)) [] := by
  refine fn_of_awp Tryz.func10 rfl (by kernel_rfl) (by kernel_rfl) (Nat.le_of_ble_eq_true rfl) Tryz.results10 ?_
  simp only [go_sem, Bool.not_eq_true', Bool.not_eq_false']
  (refine acall2 [] (same14_ok g.a g.a ha ha) (by simp only [go_sem, Bool.not_eq_true', Bool.not_eq_false']; rfl) (fit_of (by simp only [go_sem, Bool.not_eq_true', Bool.not_eq_false']) (by simp only [go_sem, Bool.not_eq_true', Bool.not_eq_false']) (by simp only [go_sem, Bool.not_eq_true', Bool.not_eq_false']) (by simp only [go_sem, Bool.not_eq_true', Bool.not_eq_false']) (by simp only [go_sem, Bool.not_eq_true', Bool.not_eq_false']) (by simp only [go_sem, Bool.not_eq_true', Bool.not_eq_false']) (by simp only [go_sem, Bool.not_eq_true', Bool.not_eq_false'])) ?_; simp only [go_sem, Bool.not_eq_true', Bool.not_eq_false'])
  (refine acall2 [] (fsame_ok g.f g.f hf hf) (by simp only [go_sem, Bool.not_eq_true', Bool.not_eq_false']; rfl) (fit_of (by simp only [go_sem, Bool.not_eq_true', Bool.not_eq_false']) (by simp only [go_sem, Bool.not_eq_true', Bool.not_eq_false']) (by simp only [go_sem, Bool.not_eq_true', Bool.not_eq_false']) (by simp only [go_sem, Bool.not_eq_true', Bool.not_eq_false']) (by simp only [go_sem, Bool.not_eq_true', Bool.not_eq_false']) (by simp only [go_sem, Bool.not_eq_true', Bool.not_eq_false']) (by simp only [go_sem, Bool.not_eq_true', Bool.not_eq_false'])) ?_; simp only [go_sem, Bool.not_eq_true', Bool.not_eq_false'])
set_option maxRecDepth 100000 in
theorem laid_ok (s : ByteArray) (l : List LNo) (g : LGal) (hr : rdS s = some l) (hl : l.length ≤ 60) (hw : ∀ x ∈ l, x.words.length ≤ 9223372036854775807) (hp : pall l ≤ 9223372036854775807) (hg : resG l 100 = g) : FnOk Tryz.prog 24 [.raw (.string s)] [] (aGal g 8 9) [(8, .row 47 8 (g.a.map cAt)), (9, .row 62 7 (g.f.map cFl))] := by
  have h := of14_ok l 100 hl hw hp
  rw [hg] at h
  refine fn_of_awp Tryz.func24 rfl (by kernel_rfl) (by kernel_rfl) (Nat.le_of_ble_eq_true rfl) Tryz.results24 ?_
  simp only [go_sem, Bool.not_eq_true', Bool.not_eq_false']
  (refine acall2 [] (rdS_ok s l hr) (by simp only [go_sem, Bool.not_eq_true', Bool.not_eq_false']; rfl) (fit_of (by simp only [go_sem, Bool.not_eq_true', Bool.not_eq_false']) (by simp only [go_sem, Bool.not_eq_true', Bool.not_eq_false']) (by simp only [go_sem, Bool.not_eq_true', Bool.not_eq_false']) (by simp only [go_sem, Bool.not_eq_true', Bool.not_eq_false']) (by simp only [go_sem, Bool.not_eq_true', Bool.not_eq_false']) (by simp only [go_sem, Bool.not_eq_true', Bool.not_eq_false']) (by simp only [go_sem, Bool.not_eq_true', Bool.not_eq_false'])) ?_; simp only [go_sem, Bool.not_eq_true', Bool.not_eq_false'])
  (refine acall2 [] (h) (by simp only [go_sem, Bool.not_eq_true', Bool.not_eq_false']; rfl) (fit_of (by simp only [go_sem, Bool.not_eq_true', Bool.not_eq_false']) (by simp only [go_sem, Bool.not_eq_true', Bool.not_eq_false']) (by simp only [go_sem, Bool.not_eq_true', Bool.not_eq_false']) (by simp only [go_sem, Bool.not_eq_true', Bool.not_eq_false']) (by simp only [go_sem, Bool.not_eq_true', Bool.not_eq_false']) (by simp only [go_sem, Bool.not_eq_true', Bool.not_eq_false']) (by simp only [go_sem, Bool.not_eq_true', Bool.not_eq_false'])) ?_; simp only [go_sem, Bool.not_eq_true', Bool.not_eq_false'])
  (refine ret2 [] (by simp only [go_sem, Bool.not_eq_true', Bool.not_eq_false']; rfl) ?_; simp only [go_sem, Bool.not_eq_true', Bool.not_eq_false'])
set_option maxRecDepth 100000 in
theorem line_ok (n f t x y w : Int) : FnOk Tryz.prog 22 [.raw (.int .i64 n), .raw (.int .i64 f), .raw (.int .i64 t), .raw (.int .i64 x), .raw (.int .i64 y), .raw (.int .i64 w)] [] (aAt ⟨1, n, f, t, x, y, w, 10⟩) [] := by
  refine fn_of_awp Tryz.func22 rfl (by kernel_rfl) (by kernel_rfl) (Nat.le_of_ble_eq_true rfl) Tryz.results22 ?_
  simp only [go_sem, Bool.not_eq_true', Bool.not_eq_false']
set_option maxRecDepth 100000 in
theorem box_ok (n x y : Int) : FnOk Tryz.prog 23 [.raw (.int .i64 n), .raw (.int .i64 x), .raw (.int .i64 y)] [] (aAt ⟨2, n, 0, 0, x, y, 20, 8⟩) [] := by
  refine fn_of_awp Tryz.func23 rfl (by kernel_rfl) (by kernel_rfl) (Nat.le_of_ble_eq_true rfl) Tryz.results23 ?_
  simp only [go_sem, Bool.not_eq_true', Bool.not_eq_false']
set_option maxRecDepth 100000 in
set_option maxHeartbeats 8000000 in
theorem awake14_ok : FnOk Tryz.prog 7 [] [] (.raw (.bool true)) [] := by
  have l15 := laid_ok scr15 nds15 _ rd15 (Nat.le_of_ble_eq_true rfl) w15 (of_decide_eq_true (by kernel_rfl)) gal15
  have l14b := laid_ok scr14b nds14b _ rd14b (Nat.le_of_ble_eq_true rfl) w14b (of_decide_eq_true (by kernel_rfl)) gal14b
  have l14c := laid_ok scr14c nds14c _ rd14c (Nat.le_of_ble_eq_true rfl) w14c (of_decide_eq_true (by kernel_rfl)) gal14c
  have g15 := gsame_ok ⟨ats15, [], 40⟩ (Nat.le_of_ble_eq_true rfl) (Nat.le_of_ble_eq_true rfl)
  have g14b := gsame_ok ⟨ats14b, fls14b, 25⟩ (Nat.le_of_ble_eq_true rfl) (Nat.le_of_ble_eq_true rfl)
  have g14c := gsame_ok ⟨ats14c, fls14c, 33⟩ (Nat.le_of_ble_eq_true rfl) (Nat.le_of_ble_eq_true rfl)
  unfold scr15 at l15
  unfold scr14b at l14b
  unfold scr14c at l14c
  simp only [aGl, aGal, ats15, ats14b, ats14c, fls14b, fls14c, List.map_cons, List.map_nil, cAt, cFl] at l15 l14b l14c g15 g14b g14c
  refine fn_of_swp Tryz.func7 rfl (by kernel_rfl) (by kernel_rfl) (Nat.le_of_ble_eq_true rfl) Tryz.results7 ?_
  (refine swp_seqW ?_; simp only [go_sem, Bool.not_eq_true', Bool.not_eq_false'])
  (refine swp_seqW ?_; simp only [go_sem, Bool.not_eq_true', Bool.not_eq_false'])
  (refine acall2 [] (line_ok 1 0 2 0 5 62) (by simp only [go_sem, Bool.not_eq_true', Bool.not_eq_false']; rfl) (fit_of (by simp only [go_sem, Bool.not_eq_true', Bool.not_eq_false']) (by simp only [go_sem, Bool.not_eq_true', Bool.not_eq_false']) (by simp only [go_sem, Bool.not_eq_true', Bool.not_eq_false']) (by simp only [go_sem, Bool.not_eq_true', Bool.not_eq_false']) (by simp only [go_sem, Bool.not_eq_true', Bool.not_eq_false']) (by simp only [go_sem, Bool.not_eq_true', Bool.not_eq_false']) (by simp only [go_sem, Bool.not_eq_true', Bool.not_eq_false'])) ?_; simp only [go_sem, Bool.not_eq_true', Bool.not_eq_false'])
  (refine acall2 [] (line_ok 1 2 3 0 15 50) (by simp only [go_sem, Bool.not_eq_true', Bool.not_eq_false']; rfl) (fit_of (by simp only [go_sem, Bool.not_eq_true', Bool.not_eq_false']) (by simp only [go_sem, Bool.not_eq_true', Bool.not_eq_false']) (by simp only [go_sem, Bool.not_eq_true', Bool.not_eq_false']) (by simp only [go_sem, Bool.not_eq_true', Bool.not_eq_false']) (by simp only [go_sem, Bool.not_eq_true', Bool.not_eq_false']) (by simp only [go_sem, Bool.not_eq_true', Bool.not_eq_false']) (by simp only [go_sem, Bool.not_eq_true', Bool.not_eq_false'])) ?_; simp only [go_sem, Bool.not_eq_true', Bool.not_eq_false'])
  (refine acall2 [] (box_ok 3 0 32) (by simp only [go_sem, Bool.not_eq_true', Bool.not_eq_false']; rfl) (fit_of (by simp only [go_sem, Bool.not_eq_true', Bool.not_eq_false']) (by simp only [go_sem, Bool.not_eq_true', Bool.not_eq_false']) (by simp only [go_sem, Bool.not_eq_true', Bool.not_eq_false']) (by simp only [go_sem, Bool.not_eq_true', Bool.not_eq_false']) (by simp only [go_sem, Bool.not_eq_true', Bool.not_eq_false']) (by simp only [go_sem, Bool.not_eq_true', Bool.not_eq_false']) (by simp only [go_sem, Bool.not_eq_true', Bool.not_eq_false'])) ?_; simp only [go_sem, Bool.not_eq_true', Bool.not_eq_false'])
  (refine swp_seqW ?_; simp only [go_sem, Bool.not_eq_true', Bool.not_eq_false'])
  (refine acall2 [] (line_ok 1 0 2 30 0 62) (by simp only [go_sem, Bool.not_eq_true', Bool.not_eq_false']; rfl) (fit_of (by simp only [go_sem, Bool.not_eq_true', Bool.not_eq_false']) (by simp only [go_sem, Bool.not_eq_true', Bool.not_eq_false']) (by simp only [go_sem, Bool.not_eq_true', Bool.not_eq_false']) (by simp only [go_sem, Bool.not_eq_true', Bool.not_eq_false']) (by simp only [go_sem, Bool.not_eq_true', Bool.not_eq_false']) (by simp only [go_sem, Bool.not_eq_true', Bool.not_eq_false']) (by simp only [go_sem, Bool.not_eq_true', Bool.not_eq_false'])) ?_; simp only [go_sem, Bool.not_eq_true', Bool.not_eq_false'])
  (refine acall2 [] (line_ok 1 2 3 30 10 50) (by simp only [go_sem, Bool.not_eq_true', Bool.not_eq_false']; rfl) (fit_of (by simp only [go_sem, Bool.not_eq_true', Bool.not_eq_false']) (by simp only [go_sem, Bool.not_eq_true', Bool.not_eq_false']) (by simp only [go_sem, Bool.not_eq_true', Bool.not_eq_false']) (by simp only [go_sem, Bool.not_eq_true', Bool.not_eq_false']) (by simp only [go_sem, Bool.not_eq_true', Bool.not_eq_false']) (by simp only [go_sem, Bool.not_eq_true', Bool.not_eq_false']) (by simp only [go_sem, Bool.not_eq_true', Bool.not_eq_false'])) ?_; simp only [go_sem, Bool.not_eq_true', Bool.not_eq_false'])
  (refine swp_seqW ?_; simp only [go_sem, Bool.not_eq_true', Bool.not_eq_false'])
  (refine acall2 [] (box_ok 2 10 25) (by simp only [go_sem, Bool.not_eq_true', Bool.not_eq_false']; rfl) (fit_of (by simp only [go_sem, Bool.not_eq_true', Bool.not_eq_false']) (by simp only [go_sem, Bool.not_eq_true', Bool.not_eq_false']) (by simp only [go_sem, Bool.not_eq_true', Bool.not_eq_false']) (by simp only [go_sem, Bool.not_eq_true', Bool.not_eq_false']) (by simp only [go_sem, Bool.not_eq_true', Bool.not_eq_false']) (by simp only [go_sem, Bool.not_eq_true', Bool.not_eq_false']) (by simp only [go_sem, Bool.not_eq_true', Bool.not_eq_false'])) ?_; simp only [go_sem, Bool.not_eq_true', Bool.not_eq_false'])
  (refine swp_lastW ?_; simp only [go_sem, Bool.not_eq_true', Bool.not_eq_false'])
  (refine acall2 [] (l15) (by simp only [go_sem, Bool.not_eq_true', Bool.not_eq_false']; rfl) (fit_of (by simp only [go_sem, Bool.not_eq_true', Bool.not_eq_false']) (by simp only [go_sem, Bool.not_eq_true', Bool.not_eq_false']) (by simp only [go_sem, Bool.not_eq_true', Bool.not_eq_false']) (by simp only [go_sem, Bool.not_eq_true', Bool.not_eq_false']) (by simp only [go_sem, Bool.not_eq_true', Bool.not_eq_false']) (by simp only [go_sem, Bool.not_eq_true', Bool.not_eq_false']) (by simp only [go_sem, Bool.not_eq_true', Bool.not_eq_false'])) ?_; simp only [go_sem, Bool.not_eq_true', Bool.not_eq_false'])
  (refine acallF2 [192, 193, 40, 48 ] [] ( g15) (by simp only [go_sem, Bool.not_eq_true', Bool.not_eq_false']; rfl) (fit_of (by simp only [go_sem, Bool.not_eq_true', Bool.not_eq_false']) (by simp only [go_sem, Bool.not_eq_true', Bool.not_eq_false']) (by simp only [go_sem, Bool.not_eq_true', Bool.not_eq_false']) (by simp only [go_sem, Bool.not_eq_true', Bool.not_eq_false']) (by simp only [go_sem, Bool.not_eq_true', Bool.not_eq_false']) (by simp only [go_sem, Bool.not_eq_true', Bool.not_eq_false']) (by simp only [go_sem, Bool.not_eq_true', Bool.not_eq_false'])) ?_; simp only [go_sem, Bool.not_eq_true', Bool.not_eq_false'])
  (refine acall2 [] (l14b) (by simp only [go_sem, Bool.not_eq_true', Bool.not_eq_false']; rfl) (fit_of (by simp only [go_sem, Bool.not_eq_true', Bool.not_eq_false']) (by simp only [go_sem, Bool.not_eq_true', Bool.not_eq_false']) (by simp only [go_sem, Bool.not_eq_true', Bool.not_eq_false']) (by simp only [go_sem, Bool.not_eq_true', Bool.not_eq_false']) (by simp only [go_sem, Bool.not_eq_true', Bool.not_eq_false']) (by simp only [go_sem, Bool.not_eq_true', Bool.not_eq_false']) (by simp only [go_sem, Bool.not_eq_true', Bool.not_eq_false'])) ?_; simp only [go_sem, Bool.not_eq_true', Bool.not_eq_false'])
  (refine acallF2 [224, 225, 88, 104 ] [] ( g14b) (by simp only [go_sem, Bool.not_eq_true', Bool.not_eq_false']; rfl) (fit_of (by simp only [go_sem, Bool.not_eq_true', Bool.not_eq_false']) (by simp only [go_sem, Bool.not_eq_true', Bool.not_eq_false']) (by simp only [go_sem, Bool.not_eq_true', Bool.not_eq_false']) (by simp only [go_sem, Bool.not_eq_true', Bool.not_eq_false']) (by simp only [go_sem, Bool.not_eq_true', Bool.not_eq_false']) (by simp only [go_sem, Bool.not_eq_true', Bool.not_eq_false']) (by simp only [go_sem, Bool.not_eq_true', Bool.not_eq_false'])) ?_; simp only [go_sem, Bool.not_eq_true', Bool.not_eq_false'])
  (refine acall2 [] (l14c) (by simp only [go_sem, Bool.not_eq_true', Bool.not_eq_false']; rfl) (fit_of (by simp only [go_sem, Bool.not_eq_true', Bool.not_eq_false']) (by simp only [go_sem, Bool.not_eq_true', Bool.not_eq_false']) (by simp only [go_sem, Bool.not_eq_true', Bool.not_eq_false']) (by simp only [go_sem, Bool.not_eq_true', Bool.not_eq_false']) (by simp only [go_sem, Bool.not_eq_true', Bool.not_eq_false']) (by simp only [go_sem, Bool.not_eq_true', Bool.not_eq_false']) (by simp only [go_sem, Bool.not_eq_true', Bool.not_eq_false'])) ?_; simp only [go_sem, Bool.not_eq_true', Bool.not_eq_false'])
  (refine acallF2 [264, 265, 144, 160 ] [] ( g14c) (by simp only [go_sem, Bool.not_eq_true', Bool.not_eq_false']; rfl) (fit_of (by simp only [go_sem, Bool.not_eq_true', Bool.not_eq_false']) (by simp only [go_sem, Bool.not_eq_true', Bool.not_eq_false']) (by simp only [go_sem, Bool.not_eq_true', Bool.not_eq_false']) (by simp only [go_sem, Bool.not_eq_true', Bool.not_eq_false']) (by simp only [go_sem, Bool.not_eq_true', Bool.not_eq_false']) (by simp only [go_sem, Bool.not_eq_true', Bool.not_eq_false']) (by simp only [go_sem, Bool.not_eq_true', Bool.not_eq_false'])) ?_; simp only [go_sem, Bool.not_eq_true', Bool.not_eq_false'])
  repeat' first | contradiction | intro _ | refine And.intro ?_ ?_ | refine ex_get (by omega) ?_ | (show drawB _ _ = true; kernel_rfl) | (refine ret2 [] (by simp only [go_sem, Bool.not_eq_true', Bool.not_eq_false']; rfl) ?_; simp only [go_sem, Bool.not_eq_true', Bool.not_eq_false'])
end Go.Proofs.YtblmebjhhanoaaaGreat
/- CHAPTER 14: the law FlowSteps. -/
/- G -/
/- BOOLS -/
set_option linter.unusedSimpArgs false
set_option linter.unusedVariables false
namespace Go.Proofs.YtblmebjhhanoaaaGreat
open Go.RowKit

theorem res_rel {l : List LNo} {w : Int} (hl : l.length ≤ 60) (he : errG l w = 0) (hf : (resG l w).f = []) :
    (M13.runF ⟨0, 0⟩ (stpR l w (l.length + 1) 0 l.length)).2 = (resG l w).a.map (fun b => b.y) ∧ (resG l w).h = (M13.runF ⟨0, 0⟩ (stpR l w (l.length + 1) 0 l.length)).1.y + (M13.runF ⟨0, 0⟩ (stpR l w (l.length + 1) 0 l.length)).1.m ∧ ∀ a ∈ (resG l w).a, ∃ j : Nat, a.node = j ∧ j < l.length ∧ a.x = (rmR l w l.length j).x := by
  have hP := errG_ok hl he
  have e : resG l w = endG (allS l w) := if_pos he
  rw [e] at hf ⊢
  have hf2 : (allS l w).f = [] := List.map_eq_nil_iff.1 hf
  have hR := rel_row hP (l.length + 1) 0 l.length ⟨[], [], ⟨0, 0⟩⟩ (⟨0, 0⟩, []) (Int.le_refl _) ⟨rfl, rfl, rfl, rfl, fun a ha => by cases ha⟩ hf2
  refine ⟨hR.a, ?_, hR.x⟩
  show hgtS (atP (allS l w).p) (allS l w).f = _
  rw [hf2]
  show (allS l w).p.y + (allS l w).p.m = _
  have h1 := hR.y
  have h2 := hR.m
  show _ = (List.foldl M13.stepF (⟨0, 0⟩, []) (stpR l w (l.length + 1) 0 l.length)).1.y + (List.foldl M13.stepF (⟨0, 0⟩, []) (stpR l w (l.length + 1) 0 l.length)).1.m
  rw [h1, h2]
  rfl
set_option maxRecDepth 100000 in
set_option maxHeartbeats 16000000 in
theorem flowSteps_ok (l : List LNo) (w : Int) (hi : l.length ≤ 9223372036854775807 ∧ ∀ x ∈ l, x.words.length ≤ 9223372036854775807) : FnOk Tryz.prog 4 [.sl 20 (l.map cNo), .raw (.int .i64 w)] [] (.raw (.bool true)) [] := by
  obtain ⟨-, hw⟩ := hi
  refine fn_of_swp Tryz.func4 rfl (by kernel_rfl) (by kernel_rfl) (Nat.le_of_ble_eq_true rfl) Tryz.results4 ?_
  (refine swp_seqW ?_; simp only [go_sem, Bool.not_eq_true', Bool.not_eq_false'])
  (refine swp_seqW ?_; simp only [go_sem, Bool.not_eq_true', Bool.not_eq_false'])
  (refine acall2 [] (long_ok l hw) (by simp only [go_sem, Bool.not_eq_true', Bool.not_eq_false']; rfl) (fit_of (by simp only [go_sem, Bool.not_eq_true', Bool.not_eq_false']) (by simp only [go_sem, Bool.not_eq_true', Bool.not_eq_false']) (by simp only [go_sem, Bool.not_eq_true', Bool.not_eq_false']) (by simp only [go_sem, Bool.not_eq_true', Bool.not_eq_false']) (by simp only [go_sem, Bool.not_eq_true', Bool.not_eq_false']) (by simp only [go_sem, Bool.not_eq_true', Bool.not_eq_false']) (by simp only [go_sem, Bool.not_eq_true', Bool.not_eq_false'])) ?_; simp only [go_sem, Bool.not_eq_true', Bool.not_eq_false'])
  refine ⟨fun h1 => ?_, fun h1 => ?_⟩
  · (refine acall2 [] (awake14_ok) (by simp only [go_sem, Bool.not_eq_true', Bool.not_eq_false']; rfl) (fit_of (by simp only [go_sem, Bool.not_eq_true', Bool.not_eq_false']) (by simp only [go_sem, Bool.not_eq_true', Bool.not_eq_false']) (by simp only [go_sem, Bool.not_eq_true', Bool.not_eq_false']) (by simp only [go_sem, Bool.not_eq_true', Bool.not_eq_false']) (by simp only [go_sem, Bool.not_eq_true', Bool.not_eq_false']) (by simp only [go_sem, Bool.not_eq_true', Bool.not_eq_false']) (by simp only [go_sem, Bool.not_eq_true', Bool.not_eq_false'])) ?_; simp only [go_sem, Bool.not_eq_true', Bool.not_eq_false'])
  have hn := lon_no h1
  have hp := lon_pall hn
  have hl := hn.1
  obtain ⟨r1, r2, r3, r4⟩ := res_len (w := w) hl
  (refine swp_seqW ?_; simp only [go_sem, Bool.not_eq_true', Bool.not_eq_false'])
  (refine acall2 [] (of14_ok l w hl hw hp) (by simp only [go_sem, Bool.not_eq_true', Bool.not_eq_false']; rfl) (fit_of (by simp only [go_sem, Bool.not_eq_true', Bool.not_eq_false']) (by simp only [go_sem, Bool.not_eq_true', Bool.not_eq_false']) (by simp only [go_sem, Bool.not_eq_true', Bool.not_eq_false']) (by simp only [go_sem, Bool.not_eq_true', Bool.not_eq_false']) (by simp only [go_sem, Bool.not_eq_true', Bool.not_eq_false']) (by simp only [go_sem, Bool.not_eq_true', Bool.not_eq_false']) (by simp only [go_sem, Bool.not_eq_true', Bool.not_eq_false'])) ?_; simp only [go_sem, Bool.not_eq_true', Bool.not_eq_false'])
  by_cases he : errG l w = 0
  rotate_left
  · (refine swp_seqW ?_; simp only [go_sem, Bool.not_eq_true', Bool.not_eq_false', List.length_map])
    repeat' first | contradiction | intro _ | refine And.intro ?_ ?_ | refine ex_get (by omega) ?_ | (show drawB _ _ = true; kernel_rfl) | (refine ret2 [] (by simp only [go_sem, Bool.not_eq_true', Bool.not_eq_false']; rfl) ?_; simp only [go_sem, Bool.not_eq_true', Bool.not_eq_false']) | (refine acall2 [] (awake14_ok) (by simp only [go_sem, Bool.not_eq_true', Bool.not_eq_false']; rfl) (fit_of (by simp only [go_sem, Bool.not_eq_true', Bool.not_eq_false']) (by simp only [go_sem, Bool.not_eq_true', Bool.not_eq_false']) (by simp only [go_sem, Bool.not_eq_true', Bool.not_eq_false']) (by simp only [go_sem, Bool.not_eq_true', Bool.not_eq_false']) (by simp only [go_sem, Bool.not_eq_true', Bool.not_eq_false']) (by simp only [go_sem, Bool.not_eq_true', Bool.not_eq_false']) (by simp only [go_sem, Bool.not_eq_true', Bool.not_eq_false'])) ?_; simp only [go_sem, Bool.not_eq_true', Bool.not_eq_false'])
    all_goals first
      | omega
      | skip
  by_cases hf : (resG l w).f = []
  rotate_left
  · have hf1 : 0 < (resG l w).f.length := List.length_pos_iff.2 hf
    rw [he]
    generalize resG l w = g at *
    (refine swp_seqW ?_; simp only [go_sem, Bool.not_eq_true', Bool.not_eq_false', List.length_map])
    repeat' first | contradiction | intro _ | refine And.intro ?_ ?_ | refine ex_get (by omega) ?_ | (show drawB _ _ = true; kernel_rfl) | (refine ret2 [] (by simp only [go_sem, Bool.not_eq_true', Bool.not_eq_false']; rfl) ?_; simp only [go_sem, Bool.not_eq_true', Bool.not_eq_false']) | (refine acall2 [] (awake14_ok) (by simp only [go_sem, Bool.not_eq_true', Bool.not_eq_false']; rfl) (fit_of (by simp only [go_sem, Bool.not_eq_true', Bool.not_eq_false']) (by simp only [go_sem, Bool.not_eq_true', Bool.not_eq_false']) (by simp only [go_sem, Bool.not_eq_true', Bool.not_eq_false']) (by simp only [go_sem, Bool.not_eq_true', Bool.not_eq_false']) (by simp only [go_sem, Bool.not_eq_true', Bool.not_eq_false']) (by simp only [go_sem, Bool.not_eq_true', Bool.not_eq_false']) (by simp only [go_sem, Bool.not_eq_true', Bool.not_eq_false'])) ?_; simp only [go_sem, Bool.not_eq_true', Bool.not_eq_false'])
    all_goals first
      | omega
      | skip
  obtain ⟨q1, q2, q3⟩ := res_rel hl he hf
  have hP := errG_ok hl he
  have hrm := rooms_eq hP.v w
  have hrs : rmsN l w = rmsR l w l.length := if_pos hP.w
  have hdn : docN l = l := by simp [docN, hP.v]
  have hroo := rooms8_ok l w (by omega) hw (isS_ins hP.v) (by rw [hdn]; exact isS_nst hP.v)
  rw [hrm, hrs] at hroo
  have hrl : (rmsR l w l.length).length = l.length := by simp [rmsR]
  have hrg : ∀ j : Nat, j < l.length → (rmsR l w l.length)[j]? = some (rmR l w l.length j) := fun j hj => by simp [rmsR, hj]
  have hst := steps_ok hP (l.length + 1) (l.length + 1) (Nat.le_refl _) 0 l.length (isS_nst hP.v) (Int.le_refl _)
  have hnl := stpR_len (w := w) hP.v (l.length + 1) 0 l.length (isS_nst hP.v) (Int.le_refl _)
  have hne := stpR_nea (w := w) hP.v (l.length + 1) 0 l.length (Int.le_refl _)
  have hck : chkN l = 0 := by
    have := he
    unfold errG at this
    rw [if_pos hP.w] at this
    exact this
  have hps := hP.ps
  unfold pall at hps
  rw [psN_zero, Int.toNat_natCast] at hnl
  generalize stpR l w (l.length + 1) 0 l.length = ST at *
  have hfr := far4_run ⟨0, 0⟩ ST ⟨by simp, by simp, by simp, by simp⟩ hne
  have hrun := run13_ok 0 0 ST (by omega) (fun k hk => by
    obtain ⟨f1, f2, f3, f4⟩ := hfr k hk
    unfold M13.Bd
    omega) (fun k hk => by
    obtain ⟨⟨f1, f2⟩, f3, f4⟩ := hne _ (List.getElem_mem hk)
    unfold M13.Bd
    omega)
  have hfe := hfr ST.length (Nat.le_refl _)
  rw [List.take_length] at hfe
  generalize M13.runF ⟨0, 0⟩ ST = RR at *
  obtain ⟨⟨py, pm⟩, ys⟩ := RR
  simp only at q1 q2 hrun
  obtain ⟨f1, f2, f3, f4⟩ := hfe
  simp only at f1 f2 f3 f4
  have hat := pat_ok ⟨py, pm⟩ ⟨⟨by simp only; omega, by simp only; omega⟩, ⟨by simp only; omega, by simp only; omega⟩, by omega, by omega⟩
  generalize hg : resG l w = g at *
  rw [he]
  (refine swp_seqW ?_; simp only [go_sem, Bool.not_eq_true', Bool.not_eq_false', List.length_map, hf, List.map_nil, List.length_nil])
  refine ⟨fun q => absurd q (by omega), fun _ => ?_⟩
  (refine swp_seqW ?_; simp only [go_sem, Bool.not_eq_true', Bool.not_eq_false'])
  (refine acall2 [] (hroo) (by simp only [go_sem, Bool.not_eq_true', Bool.not_eq_false']; rfl) (fit_of (by simp only [go_sem, Bool.not_eq_true', Bool.not_eq_false']) (by simp only [go_sem, Bool.not_eq_true', Bool.not_eq_false']) (by simp only [go_sem, Bool.not_eq_true', Bool.not_eq_false']) (by simp only [go_sem, Bool.not_eq_true', Bool.not_eq_false']) (by simp only [go_sem, Bool.not_eq_true', Bool.not_eq_false']) (by simp only [go_sem, Bool.not_eq_true', Bool.not_eq_false']) (by simp only [go_sem, Bool.not_eq_true', Bool.not_eq_false'])) ?_; simp only [go_sem, Bool.not_eq_true', Bool.not_eq_false'])
  have hck6 := check6_ok l (by omega) hw hp
  rw [hck] at hck6
  generalize rmsR l w l.length = rms at *
  simp only [Int.natCast_zero] at hst
  (refine swp_seqW ?_; simp only [go_sem, Bool.not_eq_true', Bool.not_eq_false', List.length_map])
  refine ⟨fun _ => ?_, fun q => absurd (by omega) q⟩
  (refine acall2 [] (hck6) (by simp only [go_sem, Bool.not_eq_true', Bool.not_eq_false']; rfl) (fit_of (by simp only [go_sem, Bool.not_eq_true', Bool.not_eq_false']) (by simp only [go_sem, Bool.not_eq_true', Bool.not_eq_false']) (by simp only [go_sem, Bool.not_eq_true', Bool.not_eq_false']) (by simp only [go_sem, Bool.not_eq_true', Bool.not_eq_false']) (by simp only [go_sem, Bool.not_eq_true', Bool.not_eq_false']) (by simp only [go_sem, Bool.not_eq_true', Bool.not_eq_false']) (by simp only [go_sem, Bool.not_eq_true', Bool.not_eq_false'])) ?_; simp only [go_sem, Bool.not_eq_true', Bool.not_eq_false'])
  (refine swp_seqW ?_; simp only [go_sem, Bool.not_eq_true', Bool.not_eq_false', List.length_map])
  (refine acallF2 [184 ] [] ( hst) (by simp only [go_sem, Bool.not_eq_true', Bool.not_eq_false']; rfl) (fit_of (by simp only [go_sem, Bool.not_eq_true', Bool.not_eq_false']) (by simp only [go_sem, Bool.not_eq_true', Bool.not_eq_false']) (by simp only [go_sem, Bool.not_eq_true', Bool.not_eq_false']) (by simp only [go_sem, Bool.not_eq_true', Bool.not_eq_false']) (by simp only [go_sem, Bool.not_eq_true', Bool.not_eq_false']) (by simp only [go_sem, Bool.not_eq_true', Bool.not_eq_false']) (by simp only [go_sem, Bool.not_eq_true', Bool.not_eq_false'])) ?_; simp only [go_sem, Bool.not_eq_true', Bool.not_eq_false', List.length_map])
  (refine acallF2 [320 ] [] ( hrun) (by simp only [go_sem, Bool.not_eq_true', Bool.not_eq_false']; rfl) (fit_of (by simp only [go_sem, Bool.not_eq_true', Bool.not_eq_false']) (by simp only [go_sem, Bool.not_eq_true', Bool.not_eq_false']) (by simp only [go_sem, Bool.not_eq_true', Bool.not_eq_false']) (by simp only [go_sem, Bool.not_eq_true', Bool.not_eq_false']) (by simp only [go_sem, Bool.not_eq_true', Bool.not_eq_false']) (by simp only [go_sem, Bool.not_eq_true', Bool.not_eq_false']) (by simp only [go_sem, Bool.not_eq_true', Bool.not_eq_false'])) ?_; simp only [go_sem, Bool.not_eq_true', Bool.not_eq_false', List.length_map])
  have hyl : ys.length = g.a.length := by rw [q1, List.length_map]
  refine swp_seqS ?_
  (refine swp_seqW ?_; simp only [go_sem, Bool.not_eq_true', Bool.not_eq_false', List.length_map])
  refine ⟨fun _ => ?_, fun q => absurd (by omega) q⟩
  (refine acall2 [] (hat) (by simp only [go_sem, Bool.not_eq_true', Bool.not_eq_false']; rfl) (fit_of (by simp only [go_sem, Bool.not_eq_true', Bool.not_eq_false']) (by simp only [go_sem, Bool.not_eq_true', Bool.not_eq_false']) (by simp only [go_sem, Bool.not_eq_true', Bool.not_eq_false']) (by simp only [go_sem, Bool.not_eq_true', Bool.not_eq_false']) (by simp only [go_sem, Bool.not_eq_true', Bool.not_eq_false']) (by simp only [go_sem, Bool.not_eq_true', Bool.not_eq_false']) (by simp only [go_sem, Bool.not_eq_true', Bool.not_eq_false'])) ?_; simp only [go_sem, Bool.not_eq_true', Bool.not_eq_false'])
  (refine ⟨(show drawB _ _ = true by kernel_rfl), ?_⟩)
  (refine swp_condW ?_; simp only [go_sem, Bool.not_eq_true', Bool.not_eq_false'])
  refine ⟨fun q => absurd (by omega) q, fun _ => ?_⟩
  (refine swp_lastW ?_; simp only [go_sem, Bool.not_eq_true', Bool.not_eq_false'])
  refine swp_cutS (fun _ : Unit => ⟨[], [], none⟩) (fun _ => True) 160 ?_ ?_
  · (refine swp_seqW ?_; simp only [go_sem, Bool.not_eq_true', Bool.not_eq_false'])
    refine swp_block ?_
    refine swp_loop2 [48, 49 ]  (fun i : Nat => ⟨[(0, .sl 20 (l.map cNo)), (5, .hdr 800), (7, .sl 2 (rms.map cRm)), (9, .hdr 801), (10, .raw (.int .i64 i))], [(800, some (.cells 28 [.sl 8 (g.a.map cAt), .sl 7 [], .raw (.int .i64 g.h)])), (801, some (.row 3 1 (ys.map cInt)))], none⟩) (fun i => i ≤ ys.length) (fun i => ys.length - i) 160 0 (by simp only [go_sem, Bool.not_eq_true', Bool.not_eq_false']; rfl) (by simp only [go_sem, Bool.not_eq_true', Bool.not_eq_false']) ?_ ?_
    · exact Nat.zero_le _
    intro i hi
    (refine swp_seqW ?_; simp only [go_sem, Bool.not_eq_true', Bool.not_eq_false', List.length_map])
    refine ⟨fun h5 => ?_, fun h5 => ?_⟩
    rotate_left
    · (refine cut_end [] (()) (by simp only [go_sem, Bool.not_eq_true', Bool.not_eq_false']; rfl) ?_ ?_; (focus (simp only [go_sem, Bool.not_eq_true', Bool.not_eq_false']; done)))
      trivial
    have hiy : i < ys.length := by omega
    have hia : i < g.a.length := by omega
    obtain ⟨j, j1, j2, j3⟩ := q3 g.a[i] (List.getElem_mem hia)
    have hat2 : g.a[i]? = some g.a[i] := List.getElem?_eq_getElem hia
    have hay : ys[i]? = some g.a[i].y := by rw [q1, List.getElem?_map, hat2]; rfl
    have hrj := hrg j j2
    generalize g.a[i] = a at *
    generalize rmR l w l.length j = rm at *
    refine swp_seqS ?_
    refine swp_block ?_
    (refine swp_lastW ?_; simp only [go_sem, Bool.not_eq_true', Bool.not_eq_false', List.length_map])
    refine ⟨⟨by omega, by omega⟩, a, hat2, ⟨by omega, by omega⟩, a.y, hay, fun _ => ⟨⟨by omega, by omega⟩, a, hat2, fun _ => ⟨⟨by omega, by omega⟩, a, hat2, fun _ => ?_, fun q => absurd q (by omega)⟩, fun q => absurd q (by omega)⟩, fun q => absurd rfl q⟩
    refine ⟨⟨by omega, by omega⟩, a, hat2, ⟨by omega, by omega⟩, a, hat2, ⟨by omega, by omega⟩, rm, by rw [j1, Int.toNat_natCast]; exact hrj, ?_⟩
    (refine ⟨(show drawB _ _ = true by kernel_rfl), ?_⟩)
    refine ⟨fun q => absurd j3 q, fun _ => ?_⟩
    (refine swp_lastW ?_; simp only [go_sem, Bool.not_eq_true', Bool.not_eq_false'])
    refine ⟨by omega, ?_⟩
    (refine loop_end [] (i + 1) (by simp only [go_sem, Bool.not_eq_true', Bool.not_eq_false']; rfl) ?_ ?_ ?_; (focus first | omega | (simp only; omega)); (focus (simp only [go_sem, Bool.not_eq_true', Bool.not_eq_false']; done)))
    omega
  rintro - -
  (refine swp_lastW ?_; simp only [go_sem, Bool.not_eq_true', Bool.not_eq_false'])
  (refine acall2 [] (awake14_ok) (by simp only [go_sem, Bool.not_eq_true', Bool.not_eq_false']; rfl) (fit_of (by simp only [go_sem, Bool.not_eq_true', Bool.not_eq_false']) (by simp only [go_sem, Bool.not_eq_true', Bool.not_eq_false']) (by simp only [go_sem, Bool.not_eq_true', Bool.not_eq_false']) (by simp only [go_sem, Bool.not_eq_true', Bool.not_eq_false']) (by simp only [go_sem, Bool.not_eq_true', Bool.not_eq_false']) (by simp only [go_sem, Bool.not_eq_true', Bool.not_eq_false']) (by simp only [go_sem, Bool.not_eq_true', Bool.not_eq_false'])) ?_; simp only [go_sem, Bool.not_eq_true', Bool.not_eq_false'])
end Go.Proofs.YtblmebjhhanoaaaGreat
