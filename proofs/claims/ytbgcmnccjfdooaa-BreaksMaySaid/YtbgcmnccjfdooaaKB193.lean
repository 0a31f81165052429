/- CONTRACTS of the functions, and plain laws, joined out of: GRanC GRanD GForG GBreB GRanE GBreC GBreD NodO GRanF GForH GRanG GRanI GBreE. -/
import Derived.Test.YtbgcmnccjfdooaaKB192
/- CHAPTER 18: rank.At. -/
/- G -/
/- BOOLS -/
set_option linter.unusedSimpArgs false
set_option linter.unusedVariables false
namespace Go.Proofs.Ytbgcmnccjfdooaa
open Go.RowKit

def rnkP (f w b : Bool) : Nat → Int
  | 0 => 0
  | 1 => if f = true then 1 else 0
  | 2 => (if f = true then 1 else 0) + (if w = true then 2 else 0)
  | _ => (if f = true then 1 else 0) + (if w = true then 2 else 0) + (if b = true then 4 else 0)
def rnkK (l : List LNo) (of : List Int) (k : Int) (x : LKin) : Int := rnkP (fewB l of k x) (x.both.any (insI l)) (betB l of k) 3
def rnkA (l : List LNo) (of : List Int) (k : Int) : Int := if kinG l of k = true ∧ k ≠ 0 ∧ k ≠ of.length then rnkK l of k (kinA l of k) else 0
theorem both_has (l : List LNo) (of : List Int) (k : Int) : ∀ b ∈ (kinA l of k).both, hasN l b = true := by
  unfold kinA
  split
  · next h =>
    rw [kinG, Bool.and_eq_true] at h
    have hv := (chk_has h.1).1
    exact fun b hb => choS_has hv hb
  · exact fun b hb => (List.not_mem_nil hb).elim
def bPl (l : List LNo) (of : List Int) (k : Int) (x : LKin) : List AV := [.bnd (.func 81) [sPl l of k x], .bnd (.func 82) [sPl l of k x], .bnd (.func 83) [sPl l of k x]]
attribute [go_sem] bPl
set_option maxRecDepth 100000 in
set_option maxHeartbeats 8000000 in
theorem rnkA_ok (l : List LNo) (of : List Int) (k : Int) (hl : l.length ≤ 1000) (ho : of.length ≤ 1000) (hw : ∀ x ∈ l, x.words.length ≤ 9223372036854775807) : FnOk Try.prog 41 [.sl 20 (l.map cNo), .sl 1 (of.map cInt), .raw (.int .i64 k)] [] (.tup [.raw (.int .i64 (rnkA l of k)), .raw (.int .i64 (errB (kinG l of k)))]) [] := by
  have hn := kinA_len l of k
  have hbo := both_has l of k
  refine fn_of_swp Try.func41 rfl (by kernel_rfl) (by kernel_rfl) (Nat.le_of_ble_eq_true rfl) Try.results41 ?_
  (refine swp_seqW ?_; simp only [go_sem, Bool.not_eq_true', Bool.not_eq_false'])
  refine swp_cutS (fun _ : Unit => ⟨[(1, .sl 1 (of.map cInt)), (2, .raw (.int .i64 k)), (8, .hdr 800), (9, .raw (.int .i64 (errB (kinG l of k))))], [(800, some (.cells 95 (lPl l of k (kinA l of k))))], none⟩) (fun _ => True) 120 ?_ ?_
  · (refine swp_lastW ?_; simp only [go_sem, Bool.not_eq_true', Bool.not_eq_false'])
    (refine acall2 [] (at18_ok l of k hl ho hw) (by simp only [go_sem, Bool.not_eq_true', Bool.not_eq_false']; rfl) (fit_of (by simp only [go_sem, Bool.not_eq_true', Bool.not_eq_false']) (by simp only [go_sem, Bool.not_eq_true', Bool.not_eq_false']) (by simp only [go_sem, Bool.not_eq_true', Bool.not_eq_false']) (by simp only [go_sem, Bool.not_eq_true', Bool.not_eq_false']) (by simp only [go_sem, Bool.not_eq_true', Bool.not_eq_false']) (by simp only [go_sem, Bool.not_eq_true', Bool.not_eq_false']) (by simp only [go_sem, Bool.not_eq_true', Bool.not_eq_false'])) ?_; simp only [go_sem, Bool.not_eq_true', Bool.not_eq_false'])
    (refine cut_end [48, 49, 50 ] ( ()) (by simp only [go_sem, Bool.not_eq_true', Bool.not_eq_false']; rfl) ?_ ?_; (focus (simp only [go_sem, Bool.not_eq_true', Bool.not_eq_false']; done)))
    trivial
  rintro - -
  have e4 : errB false = 4 := rfl
  have e3 : errB true = 0 := rfl
  by_cases hq : kinG l of k = true ∧ k ≠ 0 ∧ k ≠ of.length
  rotate_left
  · have e : rnkA l of k = 0 := if_neg hq
    rw [e]
    rcases hg : kinG l of k with _ | _
    · rw [e4]
      (refine swp_seqW ?_; simp only [go_sem, Bool.not_eq_true', Bool.not_eq_false', List.length_map])
      repeat' first | contradiction | intro _ | refine And.intro ?_ ?_ | refine ex_get (by omega) ?_ | (show drawB _ _ = true; kernel_rfl) | (refine ret2 [] (by simp only [go_sem, Bool.not_eq_true', Bool.not_eq_false']; rfl) ?_; simp only [go_sem, Bool.not_eq_true', Bool.not_eq_false'])
      all_goals first
        | omega
        | rfl
        | skip
    · rw [e3]
      (refine swp_seqW ?_; simp only [go_sem, Bool.not_eq_true', Bool.not_eq_false', List.length_map])
      repeat' first | contradiction | intro _ | refine And.intro ?_ ?_ | refine ex_get (by omega) ?_ | (show drawB _ _ = true; kernel_rfl) | (refine ret2 [] (by simp only [go_sem, Bool.not_eq_true', Bool.not_eq_false']; rfl) ?_; simp only [go_sem, Bool.not_eq_true', Bool.not_eq_false'])
      all_goals first
        | omega
        | rfl
        | exact absurd ⟨hg, by assumption, by assumption⟩ hq
        | skip
  have e : rnkA l of k = rnkK l of k (kinA l of k) := if_pos hq
  obtain ⟨hg, hk, hb⟩ := hq
  rw [e, hg, e3]
  have hc : chkB l of = true := by
    rw [kinG, Bool.and_eq_true] at hg
    exact hg.1
  have hv := (chk_has hc).1
  generalize kinA l of k = x at *
  (refine swp_seqW ?_; simp only [go_sem, Bool.not_eq_true', Bool.not_eq_false', List.length_map])
  refine ⟨fun _ => ⟨fun q => absurd q hb, fun _ => ?_⟩, fun q => absurd q hk⟩
  (refine swp_seqW ?_; simp only [go_sem, Bool.not_eq_true', Bool.not_eq_false'])
  (refine swp_seqW ?_; simp only [go_sem, Bool.not_eq_true', Bool.not_eq_false'])
  have cF := few_ok l of k x hl ho hw hv
  have cW := within_ok l of k x (by omega) hbo
  have cB := betw18_ok l of k x hl ho hw
  rw [rnkK]
  generalize fewB l of k x = f at cF ⊢
  generalize x.both.any (insI l) = w at cW ⊢
  generalize betB l of k = b at cB ⊢
  refine swp_cutS (fun _ : Unit => ⟨[(11, .raw (.int .i64 (rnkP f w b 3)))], [], none⟩) (fun _ => True) 160 ?_ ?_
  · (refine swp_seqW ?_; simp only [go_sem, Bool.not_eq_true', Bool.not_eq_false'])
    refine swp_block ?_
    refine swp_loop2 [] (fun i : Nat => ⟨[(11, .raw (.int .i64 (rnkP f w b i))), (41, .agg (bPl l of k x)), (42, .raw (.int .i64 i))], [], none⟩) (fun i => i ≤ 3) (fun i => 3 - i) 200 0 (by simp only [go_sem, Bool.not_eq_true', Bool.not_eq_false']; rfl) (by simp only [go_sem, Bool.not_eq_true', Bool.not_eq_false', rnkP]) ?_ ?_
    · exact Nat.zero_le _
    · rintro i hi
      (refine swp_seqW ?_; simp only [go_sem, Bool.not_eq_true', Bool.not_eq_false'])
      (refine swp_seqW ?_; simp only [go_sem, Bool.not_eq_true', Bool.not_eq_false'])
      refine ⟨fun h5 => ?_, fun h5 => ?_⟩
      rotate_left
      · have e5 : i = 3 := by omega
        rw [e5]
        (refine cut_end [] (()) (by simp only [go_sem, Bool.not_eq_true', Bool.not_eq_false']; rfl) ?_ ?_; (focus (simp only [go_sem, Bool.not_eq_true', Bool.not_eq_false']; done)))
        trivial
      refine swp_seqS ?_
      refine swp_block ?_
      rcases (by omega : i = 0 ∨ i = 1 ∨ i = 2) with rfl | rfl | rfl
      · refine swp_seqS ?_
        refine swp_region (sli_cons rfl (does_move _ (.inl rfl)) (sli_cons rfl (does_arrIdx (l := bPl l of k x) (kd := .i64) (q := 0) rfl Try.underlying99 (by kernel_rfl) Try.underlying25 rfl (by simp only [go_sem, Bool.not_eq_true', Bool.not_eq_false']) (by simp only [go_sem, Bool.not_eq_true', Bool.not_eq_false']) (by omega) (by omega) rfl) (sli_cons rfl (does_move _ (.inr rfl)) (sli_cons rfl (does_move _ (.inr rfl)) (sli_nil ?_)))))
        simp only [go_sem, Bool.not_eq_true', Bool.not_eq_false']
        (refine swp_seqW ?_; simp only [go_sem, Bool.not_eq_true', Bool.not_eq_false'])
        (refine acallM2 [] (cF) (by simp only [go_sem, Bool.not_eq_true', Bool.not_eq_false']; rfl) (fit_of (by simp only [go_sem, Bool.not_eq_true', Bool.not_eq_false']) (by simp only [go_sem, Bool.not_eq_true', Bool.not_eq_false']) (by simp only [go_sem, Bool.not_eq_true', Bool.not_eq_false']) (by simp only [go_sem, Bool.not_eq_true', Bool.not_eq_false']) (by simp only [go_sem, Bool.not_eq_true', Bool.not_eq_false']) (by simp only [go_sem, Bool.not_eq_true', Bool.not_eq_false']) (by simp only [go_sem, Bool.not_eq_true', Bool.not_eq_false'])) ?_; simp only [go_sem, Bool.not_eq_true', Bool.not_eq_false'])
        rcases f with _ | _
        · (refine swp_condW ?_; simp only [go_sem, Bool.not_eq_true', Bool.not_eq_false'])
          (refine swp_lastW ?_; simp only [go_sem, Bool.not_eq_true', Bool.not_eq_false'])
          (refine swp_lastW ?_; simp only [go_sem, Bool.not_eq_true', Bool.not_eq_false'])
          refine ⟨by omega, ?_⟩
          have eo : rnkP false w b 0 = rnkP false w b 1 := by simp [rnkP]
          rw [eo]
          refine loop_end [] (0 + 1) (by simp only [go_sem, Bool.not_eq_true', Bool.not_eq_false']; rfl) ?_ ?_ ?_
          · omega
          · simp only [go_sem, Bool.not_eq_true', Bool.not_eq_false']
            omega
          · omega
        · (refine swp_condW ?_; simp only [go_sem, Bool.not_eq_true', Bool.not_eq_false'])
          refine swp_region (sli_cons rfl (does_move _ (.inl rfl)) (sli_cons rfl (does_move _ (.inl rfl)) (sli_cons rfl (does_shl (kb := .i64) (a := 1) (b := 0) rfl (by simp only [go_sem, Bool.not_eq_true', Bool.not_eq_false']) (by simp only [go_sem, Bool.not_eq_true', Bool.not_eq_false']) (by omega) (by omega)) (sli_cons rfl (does_int (k := rnkP true w b 0) (l := IntKind.i64.wrap (1 * 2 ^ (0 : Int).toNat)) rfl (by simp only [go_sem, Bool.not_eq_true', Bool.not_eq_false']) (by simp only [go_sem, Bool.not_eq_true', Bool.not_eq_false']) rfl trivial) (sli_cons rfl (does_move _ (.inr rfl)) (sli_nil ?_))))))
          have eo : orI (rnkP true w b 0) (IntKind.i64.wrap (1 * 2 ^ (0 : Int).toNat)) = rnkP true w b 1 := by
            cases w <;> cases b <;> rfl
          rw [eo]
          simp only [go_sem, Bool.not_eq_true', Bool.not_eq_false']
          (refine swp_lastW ?_; simp only [go_sem, Bool.not_eq_true', Bool.not_eq_false'])
          refine ⟨by omega, ?_⟩
          refine loop_end [] (0 + 1) (by simp only [go_sem, Bool.not_eq_true', Bool.not_eq_false']; rfl) ?_ ?_ ?_
          · omega
          · simp only [go_sem, Bool.not_eq_true', Bool.not_eq_false']
            omega
          · omega
      · refine swp_seqS ?_
        refine swp_region (sli_cons rfl (does_move _ (.inl rfl)) (sli_cons rfl (does_arrIdx (l := bPl l of k x) (kd := .i64) (q := 1) rfl Try.underlying99 (by kernel_rfl) Try.underlying25 rfl (by simp only [go_sem, Bool.not_eq_true', Bool.not_eq_false']) (by simp only [go_sem, Bool.not_eq_true', Bool.not_eq_false']) (by omega) (by omega) rfl) (sli_cons rfl (does_move _ (.inr rfl)) (sli_cons rfl (does_move _ (.inr rfl)) (sli_nil ?_)))))
        simp only [go_sem, Bool.not_eq_true', Bool.not_eq_false']
        (refine swp_seqW ?_; simp only [go_sem, Bool.not_eq_true', Bool.not_eq_false'])
        (refine acallM2 [] (cW) (by simp only [go_sem, Bool.not_eq_true', Bool.not_eq_false']; rfl) (fit_of (by simp only [go_sem, Bool.not_eq_true', Bool.not_eq_false']) (by simp only [go_sem, Bool.not_eq_true', Bool.not_eq_false']) (by simp only [go_sem, Bool.not_eq_true', Bool.not_eq_false']) (by simp only [go_sem, Bool.not_eq_true', Bool.not_eq_false']) (by simp only [go_sem, Bool.not_eq_true', Bool.not_eq_false']) (by simp only [go_sem, Bool.not_eq_true', Bool.not_eq_false']) (by simp only [go_sem, Bool.not_eq_true', Bool.not_eq_false'])) ?_; simp only [go_sem, Bool.not_eq_true', Bool.not_eq_false'])
        rcases w with _ | _
        · (refine swp_condW ?_; simp only [go_sem, Bool.not_eq_true', Bool.not_eq_false'])
          (refine swp_lastW ?_; simp only [go_sem, Bool.not_eq_true', Bool.not_eq_false'])
          (refine swp_lastW ?_; simp only [go_sem, Bool.not_eq_true', Bool.not_eq_false'])
          refine ⟨by omega, ?_⟩
          have eo : rnkP f false b 1 = rnkP f false b 2 := by simp [rnkP]
          rw [eo]
          refine loop_end [] (1 + 1) (by simp only [go_sem, Bool.not_eq_true', Bool.not_eq_false']; rfl) ?_ ?_ ?_
          · omega
          · simp only [go_sem, Bool.not_eq_true', Bool.not_eq_false']
            omega
          · omega
        · (refine swp_condW ?_; simp only [go_sem, Bool.not_eq_true', Bool.not_eq_false'])
          refine swp_region (sli_cons rfl (does_move _ (.inl rfl)) (sli_cons rfl (does_move _ (.inl rfl)) (sli_cons rfl (does_shl (kb := .i64) (a := 1) (b := 1) rfl (by simp only [go_sem, Bool.not_eq_true', Bool.not_eq_false']) (by simp only [go_sem, Bool.not_eq_true', Bool.not_eq_false']) (by omega) (by omega)) (sli_cons rfl (does_int (k := rnkP f true b 1) (l := IntKind.i64.wrap (1 * 2 ^ (1 : Int).toNat)) rfl (by simp only [go_sem, Bool.not_eq_true', Bool.not_eq_false']) (by simp only [go_sem, Bool.not_eq_true', Bool.not_eq_false']) rfl trivial) (sli_cons rfl (does_move _ (.inr rfl)) (sli_nil ?_))))))
          have eo : orI (rnkP f true b 1) (IntKind.i64.wrap (1 * 2 ^ (1 : Int).toNat)) = rnkP f true b 2 := by
            cases f <;> cases b <;> rfl
          rw [eo]
          simp only [go_sem, Bool.not_eq_true', Bool.not_eq_false']
          (refine swp_lastW ?_; simp only [go_sem, Bool.not_eq_true', Bool.not_eq_false'])
          refine ⟨by omega, ?_⟩
          refine loop_end [] (1 + 1) (by simp only [go_sem, Bool.not_eq_true', Bool.not_eq_false']; rfl) ?_ ?_ ?_
          · omega
          · simp only [go_sem, Bool.not_eq_true', Bool.not_eq_false']
            omega
          · omega
      · refine swp_seqS ?_
        refine swp_region (sli_cons rfl (does_move _ (.inl rfl)) (sli_cons rfl (does_arrIdx (l := bPl l of k x) (kd := .i64) (q := 2) rfl Try.underlying99 (by kernel_rfl) Try.underlying25 rfl (by simp only [go_sem, Bool.not_eq_true', Bool.not_eq_false']) (by simp only [go_sem, Bool.not_eq_true', Bool.not_eq_false']) (by omega) (by omega) rfl) (sli_cons rfl (does_move _ (.inr rfl)) (sli_cons rfl (does_move _ (.inr rfl)) (sli_nil ?_)))))
        simp only [go_sem, Bool.not_eq_true', Bool.not_eq_false']
        (refine swp_seqW ?_; simp only [go_sem, Bool.not_eq_true', Bool.not_eq_false'])
        (refine acallM2 [] (cB) (by simp only [go_sem, Bool.not_eq_true', Bool.not_eq_false']; rfl) (fit_of (by simp only [go_sem, Bool.not_eq_true', Bool.not_eq_false']) (by simp only [go_sem, Bool.not_eq_true', Bool.not_eq_false']) (by simp only [go_sem, Bool.not_eq_true', Bool.not_eq_false']) (by simp only [go_sem, Bool.not_eq_true', Bool.not_eq_false']) (by simp only [go_sem, Bool.not_eq_true', Bool.not_eq_false']) (by simp only [go_sem, Bool.not_eq_true', Bool.not_eq_false']) (by simp only [go_sem, Bool.not_eq_true', Bool.not_eq_false'])) ?_; simp only [go_sem, Bool.not_eq_true', Bool.not_eq_false'])
        rcases b with _ | _
        · (refine swp_condW ?_; simp only [go_sem, Bool.not_eq_true', Bool.not_eq_false'])
          (refine swp_lastW ?_; simp only [go_sem, Bool.not_eq_true', Bool.not_eq_false'])
          (refine swp_lastW ?_; simp only [go_sem, Bool.not_eq_true', Bool.not_eq_false'])
          refine ⟨by omega, ?_⟩
          have eo : rnkP f w false 2 = rnkP f w false 3 := by simp [rnkP]
          rw [eo]
          refine loop_end [] (2 + 1) (by simp only [go_sem, Bool.not_eq_true', Bool.not_eq_false']; rfl) ?_ ?_ ?_
          · omega
          · simp only [go_sem, Bool.not_eq_true', Bool.not_eq_false']
            omega
          · omega
        · (refine swp_condW ?_; simp only [go_sem, Bool.not_eq_true', Bool.not_eq_false'])
          refine swp_region (sli_cons rfl (does_move _ (.inl rfl)) (sli_cons rfl (does_move _ (.inl rfl)) (sli_cons rfl (does_shl (kb := .i64) (a := 1) (b := 2) rfl (by simp only [go_sem, Bool.not_eq_true', Bool.not_eq_false']) (by simp only [go_sem, Bool.not_eq_true', Bool.not_eq_false']) (by omega) (by omega)) (sli_cons rfl (does_int (k := rnkP f w true 2) (l := IntKind.i64.wrap (1 * 2 ^ (2 : Int).toNat)) rfl (by simp only [go_sem, Bool.not_eq_true', Bool.not_eq_false']) (by simp only [go_sem, Bool.not_eq_true', Bool.not_eq_false']) rfl trivial) (sli_cons rfl (does_move _ (.inr rfl)) (sli_nil ?_))))))
          have eo : orI (rnkP f w true 2) (IntKind.i64.wrap (1 * 2 ^ (2 : Int).toNat)) = rnkP f w true 3 := by
            cases f <;> cases w <;> rfl
          rw [eo]
          simp only [go_sem, Bool.not_eq_true', Bool.not_eq_false']
          (refine swp_lastW ?_; simp only [go_sem, Bool.not_eq_true', Bool.not_eq_false'])
          refine ⟨by omega, ?_⟩
          refine loop_end [] (2 + 1) (by simp only [go_sem, Bool.not_eq_true', Bool.not_eq_false']; rfl) ?_ ?_ ?_
          · omega
          · simp only [go_sem, Bool.not_eq_true', Bool.not_eq_false']
            omega
          · omega
  rintro - -
  (refine swp_lastW ?_; simp only [go_sem, Bool.not_eq_true', Bool.not_eq_false'])
end Go.Proofs.Ytbgcmnccjfdooaa
/- CHAPTER 18: rank.Lines, All; the examples. -/
/- G -/
/- BOOLS -/
set_option linter.unusedSimpArgs false
set_option linter.unusedVariables false
namespace Go.Proofs.Ytbgcmnccjfdooaa
open Go.RowKit

def linK (l : List LNo) (of : List Int) (k : Int) (f : Int → Int → Int) : Int := if kinG l of k = true then f k (kinA l of k).text else 0
set_option maxRecDepth 100000 in
set_option maxHeartbeats 4000000 in
theorem linK_ok (l : List LNo) (of : List Int) (k : Int) (hl : l.length ≤ 1000) (ho : of.length ≤ 1000) (hw : ∀ x ∈ l, x.words.length ≤ 9223372036854775807) : FnOk Try.prog 40 [.sl 20 (l.map cNo), .sl 1 (of.map cInt), .raw (.int .i64 k)] [] (.tup [.raw (.int .i64 (linK l of k (linA of))), .raw (.int .i64 (linK l of k (linB of))), .raw (.int .i64 (errB (kinG l of k)))]) [] := by
  refine fn_of_swp Try.func40 rfl (by kernel_rfl) (by kernel_rfl) (Nat.le_of_ble_eq_true rfl) Try.results40 ?_
  (refine swp_seqW ?_; simp only [go_sem, Bool.not_eq_true', Bool.not_eq_false'])
  refine swp_cutS (fun _ : Unit => ⟨[(8, .raw (.int .i64 (errB (kinG l of k)))), (9, .hdr 800)], [(800, some (.cells 95 (lPl l of k (kinA l of k))))], none⟩) (fun _ => True) 120 ?_ ?_
  · (refine swp_lastW ?_; simp only [go_sem, Bool.not_eq_true', Bool.not_eq_false'])
    (refine acall2 [] (at18_ok l of k hl ho hw) (by simp only [go_sem, Bool.not_eq_true', Bool.not_eq_false']; rfl) (fit_of (by simp only [go_sem, Bool.not_eq_true', Bool.not_eq_false']) (by simp only [go_sem, Bool.not_eq_true', Bool.not_eq_false']) (by simp only [go_sem, Bool.not_eq_true', Bool.not_eq_false']) (by simp only [go_sem, Bool.not_eq_true', Bool.not_eq_false']) (by simp only [go_sem, Bool.not_eq_true', Bool.not_eq_false']) (by simp only [go_sem, Bool.not_eq_true', Bool.not_eq_false']) (by simp only [go_sem, Bool.not_eq_true', Bool.not_eq_false'])) ?_; simp only [go_sem, Bool.not_eq_true', Bool.not_eq_false'])
    (refine cut_end [56, 57, 58 ] ( ()) (by simp only [go_sem, Bool.not_eq_true', Bool.not_eq_false']; rfl) ?_ ?_; (focus (simp only [go_sem, Bool.not_eq_true', Bool.not_eq_false']; done)))
    trivial
  rintro - -
  have e1 : ∀ f, linK l of k f = if kinG l of k = true then f k (kinA l of k).text else 0 := fun f => rfl
  rw [e1, e1]
  rcases hg : kinG l of k with _ | _
  · have e4 : errB false = 4 := rfl
    rw [e4]
    (refine swp_seqW ?_; simp only [go_sem, Bool.not_eq_true', Bool.not_eq_false'])
    exact fun q => by omega
  · have e3 : errB true = 0 := rfl
    rw [e3]
    (refine swp_seqW ?_; simp only [go_sem, Bool.not_eq_true', Bool.not_eq_false'])
    (refine swp_lastW ?_; simp only [go_sem, Bool.not_eq_true', Bool.not_eq_false'])
    (refine acall2 [] (lines_ok l of k (kinA l of k) ho) (by simp only [go_sem, Bool.not_eq_true', Bool.not_eq_false']; rfl) (fit_of (by simp only [go_sem, Bool.not_eq_true', Bool.not_eq_false']) (by simp only [go_sem, Bool.not_eq_true', Bool.not_eq_false']) (by simp only [go_sem, Bool.not_eq_true', Bool.not_eq_false']) (by simp only [go_sem, Bool.not_eq_true', Bool.not_eq_false']) (by simp only [go_sem, Bool.not_eq_true', Bool.not_eq_false']) (by simp only [go_sem, Bool.not_eq_true', Bool.not_eq_false']) (by simp only [go_sem, Bool.not_eq_true', Bool.not_eq_false'])) ?_; simp only [go_sem, Bool.not_eq_true', Bool.not_eq_false'])
    skip
def allR (l : List LNo) (of : List Int) : List Int := if chkB l of = true then (List.range (of.length + 1)).map (fun k : Nat => rnkA l of k) else []
set_option maxRecDepth 100000 in
set_option maxHeartbeats 4000000 in
theorem allR_ok (l : List LNo) (of : List Int) (hl : l.length ≤ 1000) (ho : of.length ≤ 1000) (hw : ∀ x ∈ l, x.words.length ≤ 9223372036854775807) : FnOk Try.prog 42 [.sl 20 (l.map cNo), .sl 1 (of.map cInt)] [] (.tup [.hdr 8, .raw (.int .i64 (errB (chkB l of)))]) [(8, .row 3 1 ((allR l of).map cInt))] := by
  refine fn_of_awp Try.func42 rfl (by kernel_rfl) (by kernel_rfl) (Nat.le_of_ble_eq_true rfl) Try.results42 ?_
  simp only [go_sem, Bool.not_eq_true', Bool.not_eq_false']
  (refine acall2 [] (check16_ok l of hl ho hw) (by simp only [go_sem, Bool.not_eq_true', Bool.not_eq_false']; rfl) (fit_of (by simp only [go_sem, Bool.not_eq_true', Bool.not_eq_false']) (by simp only [go_sem, Bool.not_eq_true', Bool.not_eq_false']) (by simp only [go_sem, Bool.not_eq_true', Bool.not_eq_false']) (by simp only [go_sem, Bool.not_eq_true', Bool.not_eq_false']) (by simp only [go_sem, Bool.not_eq_true', Bool.not_eq_false']) (by simp only [go_sem, Bool.not_eq_true', Bool.not_eq_false']) (by simp only [go_sem, Bool.not_eq_true', Bool.not_eq_false'])) ?_; simp only [go_sem, Bool.not_eq_true', Bool.not_eq_false'])
  have ea : allR l of = if chkB l of = true then (List.range (of.length + 1)).map (fun k : Nat => rnkA l of k) else [] := rfl
  cases hc : chkB l of with
  | false =>
    rw [hc, if_neg (by simp)] at ea
    have e4 : errB false = 4 := rfl
    rw [e4, ea]
    refine ⟨fun _ => ?_, fun q => by omega⟩
    (refine ret2 [] (by simp only [go_sem, Bool.not_eq_true', Bool.not_eq_false']; rfl) ?_; simp only [go_sem, Bool.not_eq_true', Bool.not_eq_false'])
  | true =>
    rw [hc, if_pos rfl] at ea
    have e4 : errB true = 0 := rfl
    rw [e4, ea]
    refine ⟨fun q => absurd rfl q, fun _ => ?_⟩
    simp only [go_sem, Bool.not_eq_true', Bool.not_eq_false', List.length_map]
    refine ⟨by omega, ?_⟩
    refine aloop2 [] (fun z : KY (List Int) => ⟨[(0, .sl 20 (l.map cNo)), (1, .sl 1 (of.map cInt)), (7, .hdr 72), (19, .raw (.int .i64 (of.length + 1))), (20, .raw (.int .i64 z.k))], [(72, some (.row 3 1 (z.o.map cInt)))], none⟩) (fun z => z.k ≤ of.length + 1 ∧ z.o = (List.range z.k).map (fun k : Nat => rnkA l of k)) (fun z => of.length + 1 - z.k) 40 ⟨0, []⟩ (by simp only [go_sem, Bool.not_eq_true', Bool.not_eq_false']; rfl) (by simp only [go_sem, Bool.not_eq_true', Bool.not_eq_false']) ?_ ?_
    · exact ⟨Nat.zero_le _, rfl⟩
    · rintro ⟨k, o⟩ ⟨k1, k2⟩
      simp only at k1 k2
      have hol : o.length = k := by rw [k2]; simp
      simp only [go_sem, Bool.not_eq_true', Bool.not_eq_false', List.length_map]
      refine ⟨fun h5 => ?_, fun h5 => ?_⟩
      · (refine acall2 [] (rnkA_ok l of k hl ho hw) (by simp only [go_sem, Bool.not_eq_true', Bool.not_eq_false']; rfl) (fit_of (by simp only [go_sem, Bool.not_eq_true', Bool.not_eq_false']) (by simp only [go_sem, Bool.not_eq_true', Bool.not_eq_false']) (by simp only [go_sem, Bool.not_eq_true', Bool.not_eq_false']) (by simp only [go_sem, Bool.not_eq_true', Bool.not_eq_false']) (by simp only [go_sem, Bool.not_eq_true', Bool.not_eq_false']) (by simp only [go_sem, Bool.not_eq_true', Bool.not_eq_false']) (by simp only [go_sem, Bool.not_eq_true', Bool.not_eq_false'])) ?_; simp only [go_sem, Bool.not_eq_true', Bool.not_eq_false'])
        repeat' first | contradiction | intro _ | refine And.intro ?_ ?_ | refine ex_get (by omega) ?_ | (show drawB _ _ = true; kernel_rfl) | (refine ret2 [] (by simp only [go_sem, Bool.not_eq_true', Bool.not_eq_false']; rfl) ?_; simp only [go_sem, Bool.not_eq_true', Bool.not_eq_false'])
        all_goals first
          | omega
          | skip
        (refine loop_end [] (⟨k + 1, o ++ [rnkA l of k]⟩) (by simp only [go_sem, Bool.not_eq_true', Bool.not_eq_false']; rfl) ?_ ?_ ?_; (focus first | omega | (simp only; omega)); (focus (simp only [go_sem, Bool.not_eq_true', Bool.not_eq_false', List.map_append]; done)))
        simp only
        exact ⟨by omega, by rw [k2, List.range_succ, List.map_append]; rfl⟩
      · have e5 : k = of.length + 1 := by omega
        rw [e5, List.range_succ] at k2
        rw [← k2]
        (refine ret2 [] (by simp only [go_sem, Bool.not_eq_true', Bool.not_eq_false']; rfl) ?_; simp only [go_sem, Bool.not_eq_true', Bool.not_eq_false'])
end Go.Proofs.Ytbgcmnccjfdooaa
/- CHAPTER 17: the law ForcedTells. -/
/- G -/
/- BOOLS -/
set_option linter.unusedSimpArgs false
set_option linter.unusedVariables false
namespace Go.Proofs.Ytbgcmnccjfdooaa
open Go.RowKit

def stF (l : List LNo) (of : List Int) (k : Int) (t : List (Nat × AV)) : AS := ⟨t ++ [(0, .sl 20 (l.map cNo)), (1, .sl 1 (of.map cInt)), (2, .raw (.int .i64 k))], [], none⟩
attribute [go_sem] stF
theorem kinG_chk {l : List LNo} {of : List Int} {k : Int} (h : chkB l of = true) (hk : 0 ≤ k ∧ k ≤ of.length) : kinG l of k = true := by
  simp only [kinG, h, Bool.true_and, Bool.and_eq_true, decide_eq_true_eq]; exact hk
theorem kinG_no {l : List LNo} {of : List Int} {k : Int} (h : chkB l of = false ∨ ¬(0 ≤ k ∧ k ≤ of.length)) : kinG l of k = false := by
  rcases h with h | h
  · simp [kinG, h]
  · simp only [kinG, Bool.and_eq_false_iff, decide_eq_false_iff_not]; omega
theorem askA_no {l : List LNo} {of : List Int} {k : Int} (h : kinG l of k = false) : askA l of k = [] := by unfold askA; rw [if_neg (by simp [h])]
theorem forA_no {l : List LNo} {of : List Int} {k : Int} (h : kinG l of k = false) : forA l of k = 0 := by unfold forA; rw [askA_no h]; rfl
theorem allF_len (l : List LNo) (of : List Int) : (allF l of).length ≤ of.length + 1 := by unfold allF; split <;> simp
set_option maxRecDepth 100000 in
set_option maxHeartbeats 8000000 in
theorem forcedTells_ok (l : List LNo) (of : List Int) (k : Int) : FnOk Try.prog 7 [.sl 20 (l.map cNo), .sl 1 (of.map cInt), .raw (.int .i64 k)] [] (.raw (.bool true)) [] := by
  refine fn_of_swp Try.func7 rfl (by kernel_rfl) (by kernel_rfl) (Nat.le_of_ble_eq_true rfl) Try.results7 ?_
  (refine swp_seqW ?_; simp only [go_sem, Bool.not_eq_true', Bool.not_eq_false'])
  (refine swp_seqW ?_; simp only [go_sem, Bool.not_eq_true', Bool.not_eq_false'])
  (refine acall2 [] (vast17_ok l of) (by simp only [go_sem, Bool.not_eq_true', Bool.not_eq_false']; rfl) (fit_of (by simp only [go_sem, Bool.not_eq_true', Bool.not_eq_false']) (by simp only [go_sem, Bool.not_eq_true', Bool.not_eq_false']) (by simp only [go_sem, Bool.not_eq_true', Bool.not_eq_false']) (by simp only [go_sem, Bool.not_eq_true', Bool.not_eq_false']) (by simp only [go_sem, Bool.not_eq_true', Bool.not_eq_false']) (by simp only [go_sem, Bool.not_eq_true', Bool.not_eq_false']) (by simp only [go_sem, Bool.not_eq_true', Bool.not_eq_false'])) ?_; simp only [go_sem, Bool.not_eq_true', Bool.not_eq_false'])
  refine ⟨fun h1 => ?_, fun h1 => ?_⟩
  · (refine acall2 [] (awake17_ok) (by simp only [go_sem, Bool.not_eq_true', Bool.not_eq_false']; rfl) (fit_of (by simp only [go_sem, Bool.not_eq_true', Bool.not_eq_false']) (by simp only [go_sem, Bool.not_eq_true', Bool.not_eq_false']) (by simp only [go_sem, Bool.not_eq_true', Bool.not_eq_false']) (by simp only [go_sem, Bool.not_eq_true', Bool.not_eq_false']) (by simp only [go_sem, Bool.not_eq_true', Bool.not_eq_false']) (by simp only [go_sem, Bool.not_eq_true', Bool.not_eq_false']) (by simp only [go_sem, Bool.not_eq_true', Bool.not_eq_false'])) ?_; simp only [go_sem, Bool.not_eq_true', Bool.not_eq_false'])
  obtain ⟨hl6, ho6, hw6⟩ := vst2_no h1
  have hl : l.length ≤ 1000 := by omega
  have ho : of.length ≤ 1000 := by omega
  have hw : ∀ x ∈ l, x.words.length ≤ 9223372036854775807 := fun x hx => by have := hw6 x hx; omega
  have hw2 : ∀ x ∈ l, x.words.length ≤ 1000 := fun x hx => by have := hw6 x hx; omega
  have hal := askA_len l of k
  have hll := allF_len l of
  refine swp_cutS (fun _ : Unit => stF l of k [(7, .sl 20 (l.map cNo)), (8, .sl 1 (of.map cInt))]) (fun _ => True) 3 ?_ ?_
  · (refine swp_lastW ?_; simp only [go_sem, Bool.not_eq_true', Bool.not_eq_false'])
    (refine acall2 [] (own5_ok l hl hw2) (by simp only [go_sem, Bool.not_eq_true', Bool.not_eq_false']; rfl) (fit_of (by simp only [go_sem, Bool.not_eq_true', Bool.not_eq_false']) (by simp only [go_sem, Bool.not_eq_true', Bool.not_eq_false']) (by simp only [go_sem, Bool.not_eq_true', Bool.not_eq_false']) (by simp only [go_sem, Bool.not_eq_true', Bool.not_eq_false']) (by simp only [go_sem, Bool.not_eq_true', Bool.not_eq_false']) (by simp only [go_sem, Bool.not_eq_true', Bool.not_eq_false']) (by simp only [go_sem, Bool.not_eq_true', Bool.not_eq_false'])) ?_; simp only [go_sem, Bool.not_eq_true', Bool.not_eq_false'])
    refine ⟨⟨by omega, by omega⟩, ?_⟩
    (refine cut_end [48, 72 ] ( ()) (by simp only [go_sem, Bool.not_eq_true', Bool.not_eq_false']; rfl) ?_ ?_; (focus (simp only [go_sem, Bool.not_eq_true', Bool.not_eq_false']; done)))
    trivial
  rintro - -
  refine swp_cutS (fun _ : Unit => stF l of k [(7, .sl 20 (l.map cNo)), (8, .sl 1 (of.map cInt)), (9, .sl 1 ((askA l of k).map cInt)), (10, .raw (.int .i64 (errB (kinG l of k))))]) (fun _ => True) 6 ?_ ?_
  · (refine swp_lastW ?_; simp only [go_sem, Bool.not_eq_true', Bool.not_eq_false'])
    (refine acall2 [] (askA_ok l of k hl ho hw) (by simp only [go_sem, Bool.not_eq_true', Bool.not_eq_false']; rfl) (fit_of (by simp only [go_sem, Bool.not_eq_true', Bool.not_eq_false']) (by simp only [go_sem, Bool.not_eq_true', Bool.not_eq_false']) (by simp only [go_sem, Bool.not_eq_true', Bool.not_eq_false']) (by simp only [go_sem, Bool.not_eq_true', Bool.not_eq_false']) (by simp only [go_sem, Bool.not_eq_true', Bool.not_eq_false']) (by simp only [go_sem, Bool.not_eq_true', Bool.not_eq_false']) (by simp only [go_sem, Bool.not_eq_true', Bool.not_eq_false'])) ?_; simp only [go_sem, Bool.not_eq_true', Bool.not_eq_false'])
    (refine cut_end [48 ] ( ()) (by simp only [go_sem, Bool.not_eq_true', Bool.not_eq_false']; rfl) ?_ ?_; (focus (simp only [go_sem, Bool.not_eq_true', Bool.not_eq_false']; done)))
    trivial
  rintro - -
  (refine swp_seqW ?_; simp only [go_sem, Bool.not_eq_true', Bool.not_eq_false'])
  (refine acall2 [] (forA_ok l of k hl ho hw) (by simp only [go_sem, Bool.not_eq_true', Bool.not_eq_false']; rfl) (fit_of (by simp only [go_sem, Bool.not_eq_true', Bool.not_eq_false']) (by simp only [go_sem, Bool.not_eq_true', Bool.not_eq_false']) (by simp only [go_sem, Bool.not_eq_true', Bool.not_eq_false']) (by simp only [go_sem, Bool.not_eq_true', Bool.not_eq_false']) (by simp only [go_sem, Bool.not_eq_true', Bool.not_eq_false']) (by simp only [go_sem, Bool.not_eq_true', Bool.not_eq_false']) (by simp only [go_sem, Bool.not_eq_true', Bool.not_eq_false'])) ?_; simp only [go_sem, Bool.not_eq_true', Bool.not_eq_false'])
  refine swp_cutS (fun _ : Unit => stF l of k [(7, .sl 20 (l.map cNo)), (8, .sl 1 (of.map cInt)), (9, .sl 1 ((askA l of k).map cInt)), (10, .raw (.int .i64 (errB (kinG l of k)))), (11, .raw (.int .i64 (forA l of k))), (12, .raw (.int .i64 (errB (kinG l of k)))), (13, .sl 1 ((allF l of).map cInt)), (14, .raw (.int .i64 (errB (chkB l of))))]) (fun _ => True) 6 ?_ ?_
  · (refine swp_lastW ?_; simp only [go_sem, Bool.not_eq_true', Bool.not_eq_false'])
    (refine acall2 [] (allF_ok l of hl ho hw) (by simp only [go_sem, Bool.not_eq_true', Bool.not_eq_false']; rfl) (fit_of (by simp only [go_sem, Bool.not_eq_true', Bool.not_eq_false']) (by simp only [go_sem, Bool.not_eq_true', Bool.not_eq_false']) (by simp only [go_sem, Bool.not_eq_true', Bool.not_eq_false']) (by simp only [go_sem, Bool.not_eq_true', Bool.not_eq_false']) (by simp only [go_sem, Bool.not_eq_true', Bool.not_eq_false']) (by simp only [go_sem, Bool.not_eq_true', Bool.not_eq_false']) (by simp only [go_sem, Bool.not_eq_true', Bool.not_eq_false'])) ?_; simp only [go_sem, Bool.not_eq_true', Bool.not_eq_false'])
    (refine cut_end [136 ] ( ()) (by simp only [go_sem, Bool.not_eq_true', Bool.not_eq_false']; rfl) ?_ ?_; (focus (simp only [go_sem, Bool.not_eq_true', Bool.not_eq_false']; done)))
    trivial
  rintro - -
  (refine swp_seqW ?_; simp only [go_sem, Bool.not_eq_true', Bool.not_eq_false'])
  (refine acall2 [] (same5_ok l hl hw) (by simp only [go_sem, Bool.not_eq_true', Bool.not_eq_false']; rfl) (fit_of (by simp only [go_sem, Bool.not_eq_true', Bool.not_eq_false']) (by simp only [go_sem, Bool.not_eq_true', Bool.not_eq_false']) (by simp only [go_sem, Bool.not_eq_true', Bool.not_eq_false']) (by simp only [go_sem, Bool.not_eq_true', Bool.not_eq_false']) (by simp only [go_sem, Bool.not_eq_true', Bool.not_eq_false']) (by simp only [go_sem, Bool.not_eq_true', Bool.not_eq_false']) (by simp only [go_sem, Bool.not_eq_true', Bool.not_eq_false'])) ?_; simp only [go_sem, Bool.not_eq_true', Bool.not_eq_false'])
  (refine acall2 [] (ints8_ok of of ho ho) (by simp only [go_sem, Bool.not_eq_true', Bool.not_eq_false']; rfl) (fit_of (by simp only [go_sem, Bool.not_eq_true', Bool.not_eq_false']) (by simp only [go_sem, Bool.not_eq_true', Bool.not_eq_false']) (by simp only [go_sem, Bool.not_eq_true', Bool.not_eq_false']) (by simp only [go_sem, Bool.not_eq_true', Bool.not_eq_false']) (by simp only [go_sem, Bool.not_eq_true', Bool.not_eq_false']) (by simp only [go_sem, Bool.not_eq_true', Bool.not_eq_false']) (by simp only [go_sem, Bool.not_eq_true', Bool.not_eq_false'])) ?_; simp only [go_sem, Bool.not_eq_true', Bool.not_eq_false'])
  (refine swp_seqW ?_; simp only [go_sem, Bool.not_eq_true', Bool.not_eq_false'])
  (refine acall2 [] (rcheck_ok l of hl ho hw) (by simp only [go_sem, Bool.not_eq_true', Bool.not_eq_false']; rfl) (fit_of (by simp only [go_sem, Bool.not_eq_true', Bool.not_eq_false']) (by simp only [go_sem, Bool.not_eq_true', Bool.not_eq_false']) (by simp only [go_sem, Bool.not_eq_true', Bool.not_eq_false']) (by simp only [go_sem, Bool.not_eq_true', Bool.not_eq_false']) (by simp only [go_sem, Bool.not_eq_true', Bool.not_eq_false']) (by simp only [go_sem, Bool.not_eq_true', Bool.not_eq_false']) (by simp only [go_sem, Bool.not_eq_true', Bool.not_eq_false'])) ?_; simp only [go_sem, Bool.not_eq_true', Bool.not_eq_false'])
  cases hc : chkB l of with
  | false =>
    have e1 : kinG l of k = false := kinG_no (.inl hc)
    have e2 : allF l of = [] := by unfold allF; rw [hc]; rfl
    have e3 : errB false = 4 := rfl
    rw [e1, e2, askA_no e1, forA_no e1, e3]
    refine ⟨fun _ => ?_, fun q => by omega⟩
    repeat' first | contradiction | intro _ | refine And.intro ?_ ?_ | refine ex_get (by omega) ?_ | (show drawB _ _ = true; kernel_rfl) | (refine ret2 [] (by simp only [go_sem, Bool.not_eq_true', Bool.not_eq_false']; rfl) ?_; simp only [go_sem, Bool.not_eq_true', Bool.not_eq_false']) | (refine acall2 [] (awake17_ok) (by simp only [go_sem, Bool.not_eq_true', Bool.not_eq_false']; rfl) (fit_of (by simp only [go_sem, Bool.not_eq_true', Bool.not_eq_false']) (by simp only [go_sem, Bool.not_eq_true', Bool.not_eq_false']) (by simp only [go_sem, Bool.not_eq_true', Bool.not_eq_false']) (by simp only [go_sem, Bool.not_eq_true', Bool.not_eq_false']) (by simp only [go_sem, Bool.not_eq_true', Bool.not_eq_false']) (by simp only [go_sem, Bool.not_eq_true', Bool.not_eq_false']) (by simp only [go_sem, Bool.not_eq_true', Bool.not_eq_false'])) ?_; simp only [go_sem, Bool.not_eq_true', Bool.not_eq_false'])
    all_goals first
      | omega
      | (simp; done)
      | (exfalso; simp at *; done)
      | skip
  | true =>
    have e3 : errB true = 0 := rfl
    rw [e3]
    refine ⟨fun q => absurd rfl q, fun _ => ?_⟩
    (refine swp_seqW ?_; simp only [go_sem, Bool.not_eq_true', Bool.not_eq_false'])
    (refine acall2 [] (rallF_ok l of hl ho hc) (by simp only [go_sem, Bool.not_eq_true', Bool.not_eq_false']; rfl) (fit_of (by simp only [go_sem, Bool.not_eq_true', Bool.not_eq_false']) (by simp only [go_sem, Bool.not_eq_true', Bool.not_eq_false']) (by simp only [go_sem, Bool.not_eq_true', Bool.not_eq_false']) (by simp only [go_sem, Bool.not_eq_true', Bool.not_eq_false']) (by simp only [go_sem, Bool.not_eq_true', Bool.not_eq_false']) (by simp only [go_sem, Bool.not_eq_true', Bool.not_eq_false']) (by simp only [go_sem, Bool.not_eq_true', Bool.not_eq_false'])) ?_; simp only [go_sem, Bool.not_eq_true', Bool.not_eq_false'])
    (refine acallF2 [208 ] [] ( ints8_ok (allF l of) (allF l of) (by omega) (by omega)) (by simp only [go_sem, Bool.not_eq_true', Bool.not_eq_false']; rfl) (fit_of (by simp only [go_sem, Bool.not_eq_true', Bool.not_eq_false']) (by simp only [go_sem, Bool.not_eq_true', Bool.not_eq_false']) (by simp only [go_sem, Bool.not_eq_true', Bool.not_eq_false']) (by simp only [go_sem, Bool.not_eq_true', Bool.not_eq_false']) (by simp only [go_sem, Bool.not_eq_true', Bool.not_eq_false']) (by simp only [go_sem, Bool.not_eq_true', Bool.not_eq_false']) (by simp only [go_sem, Bool.not_eq_true', Bool.not_eq_false'])) ?_; simp only [go_sem, Bool.not_eq_true', Bool.not_eq_false'])
    by_cases hk : 0 ≤ k ∧ k ≤ of.length
    rotate_left
    · have e1 : kinG l of k = false := kinG_no (.inr hk)
      have e4 : errB false = 4 := rfl
      rw [e1, askA_no e1, forA_no e1, e4]
      (refine swp_seqW ?_; simp only [go_sem, Bool.not_eq_true', Bool.not_eq_false', List.length_map])
      repeat' first | contradiction | intro _ | refine And.intro ?_ ?_ | refine ex_get (by omega) ?_ | (show drawB _ _ = true; kernel_rfl) | (refine ret2 [] (by simp only [go_sem, Bool.not_eq_true', Bool.not_eq_false', List.map]; rfl) ?_; simp only [go_sem, Bool.not_eq_true', Bool.not_eq_false', List.map]) | (refine acall2 [] (awake17_ok) (by simp only [go_sem, Bool.not_eq_true', Bool.not_eq_false']; rfl) (fit_of (by simp only [go_sem, Bool.not_eq_true', Bool.not_eq_false']) (by simp only [go_sem, Bool.not_eq_true', Bool.not_eq_false']) (by simp only [go_sem, Bool.not_eq_true', Bool.not_eq_false']) (by simp only [go_sem, Bool.not_eq_true', Bool.not_eq_false']) (by simp only [go_sem, Bool.not_eq_true', Bool.not_eq_false']) (by simp only [go_sem, Bool.not_eq_true', Bool.not_eq_false']) (by simp only [go_sem, Bool.not_eq_true', Bool.not_eq_false'])) ?_; simp only [go_sem, Bool.not_eq_true', Bool.not_eq_false', List.map])
      all_goals first
        | omega
        | (simp; done)
        | (exfalso; simp at *; done)
        | skip
    have e1 : kinG l of k = true := kinG_chk hc hk
    rw [e1, e3]
    (refine swp_seqW ?_; simp only [go_sem, Bool.not_eq_true', Bool.not_eq_false', List.length_map])
    refine ⟨fun _ => ⟨fun q => by omega, fun _ => ?_⟩, fun q => by omega⟩
    (refine swp_lastW ?_; simp only [go_sem, Bool.not_eq_true', Bool.not_eq_false'])
    (refine acall2 [] (rasked_ok l of k hl ho hk hc) (by simp only [go_sem, Bool.not_eq_true', Bool.not_eq_false']; rfl) (fit_of (by simp only [go_sem, Bool.not_eq_true', Bool.not_eq_false']) (by simp only [go_sem, Bool.not_eq_true', Bool.not_eq_false']) (by simp only [go_sem, Bool.not_eq_true', Bool.not_eq_false']) (by simp only [go_sem, Bool.not_eq_true', Bool.not_eq_false']) (by simp only [go_sem, Bool.not_eq_true', Bool.not_eq_false']) (by simp only [go_sem, Bool.not_eq_true', Bool.not_eq_false']) (by simp only [go_sem, Bool.not_eq_true', Bool.not_eq_false'])) ?_; simp only [go_sem, Bool.not_eq_true', Bool.not_eq_false'])
    (refine acallF2 [392 ] [] ( ints8_ok (askA l of k) (askA l of k) (by omega) (by omega)) (by simp only [go_sem, Bool.not_eq_true', Bool.not_eq_false']; rfl) (fit_of (by simp only [go_sem, Bool.not_eq_true', Bool.not_eq_false']) (by simp only [go_sem, Bool.not_eq_true', Bool.not_eq_false']) (by simp only [go_sem, Bool.not_eq_true', Bool.not_eq_false']) (by simp only [go_sem, Bool.not_eq_true', Bool.not_eq_false']) (by simp only [go_sem, Bool.not_eq_true', Bool.not_eq_false']) (by simp only [go_sem, Bool.not_eq_true', Bool.not_eq_false']) (by simp only [go_sem, Bool.not_eq_true', Bool.not_eq_false'])) ?_; simp only [go_sem, Bool.not_eq_true', Bool.not_eq_false'])
    (refine acall2 [] (rforA_ok l of k hl ho hk hc) (by simp only [go_sem, Bool.not_eq_true', Bool.not_eq_false']; rfl) (fit_of (by simp only [go_sem, Bool.not_eq_true', Bool.not_eq_false']) (by simp only [go_sem, Bool.not_eq_true', Bool.not_eq_false']) (by simp only [go_sem, Bool.not_eq_true', Bool.not_eq_false']) (by simp only [go_sem, Bool.not_eq_true', Bool.not_eq_false']) (by simp only [go_sem, Bool.not_eq_true', Bool.not_eq_false']) (by simp only [go_sem, Bool.not_eq_true', Bool.not_eq_false']) (by simp only [go_sem, Bool.not_eq_true', Bool.not_eq_false'])) ?_; simp only [go_sem, Bool.not_eq_true', Bool.not_eq_false'])
    (refine acall2 [] (awake17_ok) (by simp only [go_sem, Bool.not_eq_true', Bool.not_eq_false']; rfl) (fit_of (by simp only [go_sem, Bool.not_eq_true', Bool.not_eq_false']) (by simp only [go_sem, Bool.not_eq_true', Bool.not_eq_false']) (by simp only [go_sem, Bool.not_eq_true', Bool.not_eq_false']) (by simp only [go_sem, Bool.not_eq_true', Bool.not_eq_false']) (by simp only [go_sem, Bool.not_eq_true', Bool.not_eq_false']) (by simp only [go_sem, Bool.not_eq_true', Bool.not_eq_false']) (by simp only [go_sem, Bool.not_eq_true', Bool.not_eq_false'])) ?_; simp only [go_sem, Bool.not_eq_true', Bool.not_eq_false'])
end Go.Proofs.Ytbgcmnccjfdooaa
/- CHAPTER 19: breaks.Of. -/
/- G -/
/- BOOLS -/
set_option linter.unusedSimpArgs false
set_option linter.unusedVariables false
namespace Go.Proofs.Ytbgcmnccjfdooaa
open Go.RowKit

theorem getD_at {of : List Int} {j : Nat} (h : j < of.length) : of.getD j 0 = of[j] := by simp [List.getD_eq_getElem?_getD, h]
def clsK (of : List Int) (k : Int) : Int := if k = 0 then 0 else if k = of.length then 3 else if of.getD k.toNat 0 = of.getD (k - 1).toNat 0 then 2 else 1
def brkA (l : List LNo) (of : List Int) (k : Int) : LBrk := ⟨clsK of k, forA l of k, if forA l of k = 0 then rnkA l of k else 0⟩
def allB (l : List LNo) (of : List Int) : List LBrk := if chkB l of = true then (List.range (of.length + 1)).map (fun k : Nat => brkA l of k) else []
set_option maxRecDepth 100000 in
set_option maxHeartbeats 4000000 in
theorem class19_ok (of : List Int) (k : Int) (ho : of.length ≤ 1000) (hk : 0 ≤ k ∧ k ≤ of.length) : FnOk Try.prog 91 [.sl 1 (of.map cInt), .raw (.int .i64 k)] [] (.raw (.int .i64 (clsK of k))) [] := by
  refine fn_of_awp Try.func91 rfl (by kernel_rfl) (by kernel_rfl) (Nat.le_of_ble_eq_true rfl) Try.results91 ?_
  simp only [go_sem, Bool.not_eq_true', Bool.not_eq_false', List.length_map]
  by_cases h0 : k = 0
  · have e : clsK of k = 0 := if_pos h0
    rw [e]
    repeat' first | contradiction | intro _ | refine And.intro ?_ ?_ | refine ex_get (by omega) ?_ | (show drawB _ _ = true; kernel_rfl) | (refine ret2 [] (by simp only [go_sem, Bool.not_eq_true', Bool.not_eq_false']; rfl) ?_; simp only [go_sem, Bool.not_eq_true', Bool.not_eq_false'])
    all_goals first
      | omega
      | rfl
  by_cases h1 : k = of.length
  · have e : clsK of k = 3 := by unfold clsK; rw [if_neg h0, if_pos h1]
    rw [e]
    repeat' first | contradiction | intro _ | refine And.intro ?_ ?_ | refine ex_get (by omega) ?_ | (show drawB _ _ = true; kernel_rfl) | (refine ret2 [] (by simp only [go_sem, Bool.not_eq_true', Bool.not_eq_false']; rfl) ?_; simp only [go_sem, Bool.not_eq_true', Bool.not_eq_false'])
    all_goals first
      | omega
      | rfl
  have k1 : of.getD k.toNat 0 = of[k.toNat]'(by omega) := getD_at _
  have k2 : of.getD (k - 1).toNat 0 = of[(k - 1).toNat]'(by omega) := getD_at _
  have e : clsK of k = if of[k.toNat]'(by omega) = of[(k - 1).toNat]'(by omega) then 2 else 1 := by unfold clsK; rw [if_neg h0, if_neg h1, k1, k2]
  rw [e]
  clear k1 k2 e
  repeat' first | contradiction | intro _ | refine And.intro ?_ ?_ | refine ex_get (by omega) ?_ | (show drawB _ _ = true; kernel_rfl) | (refine ret2 [] (by simp only [go_sem, Bool.not_eq_true', Bool.not_eq_false']; rfl) ?_; simp only [go_sem, Bool.not_eq_true', Bool.not_eq_false'])
  all_goals first
    | omega
    | (rw [if_pos (by assumption)]; done)
    | (rw [if_neg (by assumption)]; done)
    | skip
theorem allF_at {l : List LNo} {of : List Int} (hc : chkB l of = true) {k : Nat} (hk : k < (allF l of).length) : (allF l of)[k] = forA l of k := by
  simp only [allF, hc, if_true, List.getElem_map, List.getElem_range]
theorem allF_ln {l : List LNo} {of : List Int} (hc : chkB l of = true) : (allF l of).length = of.length + 1 := by simp [allF, hc]
theorem allR_at2 {l : List LNo} {of : List Int} (hc : chkB l of = true) {k : Nat} (hk : k < (allR l of).length) : (allR l of)[k] = rnkA l of k := by
  simp only [allR, hc, if_true, List.getElem_map, List.getElem_range]
theorem allR_ln2 {l : List LNo} {of : List Int} (hc : chkB l of = true) : (allR l of).length = of.length + 1 := by simp [allR, hc]
theorem allB_at {l : List LNo} {of : List Int} (hc : chkB l of = true) {k : Nat} (hk : k < (allB l of).length) : (allB l of)[k] = brkA l of k := by
  simp only [allB, hc, if_true, List.getElem_map, List.getElem_range]
theorem allB_ln {l : List LNo} {of : List Int} (hc : chkB l of = true) : (allB l of).length = of.length + 1 := by simp [allB, hc]
theorem allB_le (l : List LNo) (of : List Int) : (allB l of).length ≤ of.length + 1 := by unfold allB; split <;> simp
set_option maxRecDepth 100000 in
set_option maxHeartbeats 8000000 in
theorem allB_ok (l : List LNo) (of : List Int) (hl : l.length ≤ 1000) (ho : of.length ≤ 1000) (hw : ∀ x ∈ l, x.words.length ≤ 9223372036854775807) : FnOk Try.prog 56 [.sl 20 (l.map cNo), .sl 1 (of.map cInt)] [] (.tup [.hdr 8, .raw (.int .i64 (errB (chkB l of)))]) [(8, .row 69 3 ((allB l of).map cBrk))] := by
  refine fn_of_swp Try.func56 rfl (by kernel_rfl) (by kernel_rfl) (Nat.le_of_ble_eq_true rfl) Try.results56 ?_
  (refine swp_seqW ?_; simp only [go_sem, Bool.not_eq_true', Bool.not_eq_false'])
  (refine swp_seqW ?_; simp only [go_sem, Bool.not_eq_true', Bool.not_eq_false'])
  (refine acall2 [] (check16_ok l of hl ho hw) (by simp only [go_sem, Bool.not_eq_true', Bool.not_eq_false']; rfl) (fit_of (by simp only [go_sem, Bool.not_eq_true', Bool.not_eq_false']) (by simp only [go_sem, Bool.not_eq_true', Bool.not_eq_false']) (by simp only [go_sem, Bool.not_eq_true', Bool.not_eq_false']) (by simp only [go_sem, Bool.not_eq_true', Bool.not_eq_false']) (by simp only [go_sem, Bool.not_eq_true', Bool.not_eq_false']) (by simp only [go_sem, Bool.not_eq_true', Bool.not_eq_false']) (by simp only [go_sem, Bool.not_eq_true', Bool.not_eq_false'])) ?_; simp only [go_sem, Bool.not_eq_true', Bool.not_eq_false'])
  have ea : allB l of = if chkB l of = true then (List.range (of.length + 1)).map (fun k : Nat => brkA l of k) else [] := rfl
  cases hc : chkB l of with
  | false =>
    rw [hc, if_neg (by simp)] at ea
    have e4 : errB false = 4 := rfl
    rw [e4, ea]
    refine ⟨fun _ => ?_, fun q => by omega⟩
    (refine ret2 [] (by simp only [go_sem, Bool.not_eq_true', Bool.not_eq_false', List.map]; rfl) ?_; simp only [go_sem, Bool.not_eq_true', Bool.not_eq_false', List.map])
  | true =>
  rw [hc, if_pos rfl] at ea
  have e4 : errB true = 0 := rfl
  rw [e4, ea]
  refine ⟨fun q => absurd rfl q, fun _ => ?_⟩
  refine swp_cutS (fun _ : Unit => ⟨[(0, .sl 20 (l.map cNo)), (1, .sl 1 (of.map cInt)), (7, .sl 1 ((allF l of).map cInt))], [], none⟩) (fun _ => True) 3 ?_ ?_
  · (refine swp_lastW ?_; simp only [go_sem, Bool.not_eq_true', Bool.not_eq_false'])
    (refine acall2 [] (allF_ok l of hl ho hw) (by simp only [go_sem, Bool.not_eq_true', Bool.not_eq_false']; rfl) (fit_of (by simp only [go_sem, Bool.not_eq_true', Bool.not_eq_false']) (by simp only [go_sem, Bool.not_eq_true', Bool.not_eq_false']) (by simp only [go_sem, Bool.not_eq_true', Bool.not_eq_false']) (by simp only [go_sem, Bool.not_eq_true', Bool.not_eq_false']) (by simp only [go_sem, Bool.not_eq_true', Bool.not_eq_false']) (by simp only [go_sem, Bool.not_eq_true', Bool.not_eq_false']) (by simp only [go_sem, Bool.not_eq_true', Bool.not_eq_false'])) ?_; simp only [go_sem, Bool.not_eq_true', Bool.not_eq_false'])
    rw [hc]
    (refine cut_end [88 ] ( ()) (by simp only [go_sem, Bool.not_eq_true', Bool.not_eq_false']; rfl) ?_ ?_; (focus (simp only [go_sem, Bool.not_eq_true', Bool.not_eq_false']; done)))
    trivial
  rintro - -
  refine swp_cutS (fun _ : Unit => ⟨[(1, .sl 1 (of.map cInt)), (7, .sl 1 ((allF l of).map cInt)), (9, .sl 1 ((allR l of).map cInt))], [], none⟩) (fun _ => True) 3 ?_ ?_
  · (refine swp_lastW ?_; simp only [go_sem, Bool.not_eq_true', Bool.not_eq_false'])
    (refine acall2 [] (allR_ok l of hl ho hw) (by simp only [go_sem, Bool.not_eq_true', Bool.not_eq_false']; rfl) (fit_of (by simp only [go_sem, Bool.not_eq_true', Bool.not_eq_false']) (by simp only [go_sem, Bool.not_eq_true', Bool.not_eq_false']) (by simp only [go_sem, Bool.not_eq_true', Bool.not_eq_false']) (by simp only [go_sem, Bool.not_eq_true', Bool.not_eq_false']) (by simp only [go_sem, Bool.not_eq_true', Bool.not_eq_false']) (by simp only [go_sem, Bool.not_eq_true', Bool.not_eq_false']) (by simp only [go_sem, Bool.not_eq_true', Bool.not_eq_false'])) ?_; simp only [go_sem, Bool.not_eq_true', Bool.not_eq_false'])
    rw [hc]
    (refine cut_end [40 ] ( ()) (by simp only [go_sem, Bool.not_eq_true', Bool.not_eq_false']; rfl) ?_ ?_; (focus (simp only [go_sem, Bool.not_eq_true', Bool.not_eq_false']; done)))
    trivial
  rintro - -
  have f1 := allF_ln hc
  have f2 := fun k (h : k < (allF l of).length) => allF_at hc h
  have r1 := allR_ln2 hc
  have r2 := fun k (h : k < (allR l of).length) => allR_at2 hc h
  generalize allF l of = F at f1 f2 ⊢
  generalize allR l of = R at r1 r2 ⊢
  (refine swp_seqW ?_; simp only [go_sem, Bool.not_eq_true', Bool.not_eq_false'])
  refine swp_cutS (fun _ : Unit => ⟨[(11, .hdr 8)], [(8, some (.row 69 3 (((List.range (of.length + 1)).map (fun k : Nat => brkA l of k)).map cBrk)))], none⟩) (fun _ => True) 3 ?_ ?_
  · (refine swp_seqW ?_; simp only [go_sem, Bool.not_eq_true', Bool.not_eq_false', List.length_map])
    refine ⟨by omega, ?_⟩
    refine swp_block ?_
    refine swp_loop2 [] (fun z : KY (List LBrk) => ⟨[(1, .sl 1 (of.map cInt)), (7, .sl 1 (F.map cInt)), (9, .sl 1 (R.map cInt)), (11, .hdr 8), (34, .raw (.int .i64 (of.length + 1))), (35, .raw (.int .i64 z.k))], [(8, some (.row 69 3 (z.o.map cBrk)))], none⟩) (fun z => z.k ≤ of.length + 1 ∧ z.o = (List.range z.k).map (fun k : Nat => brkA l of k)) (fun z => of.length + 1 - z.k) 40 ⟨0, []⟩ (by simp only [go_sem, Bool.not_eq_true', Bool.not_eq_false']; rfl) (by simp only [go_sem, Bool.not_eq_true', Bool.not_eq_false']) ?_ ?_
    · exact ⟨Nat.zero_le _, rfl⟩
    · rintro ⟨k, o⟩ ⟨k1, k2⟩
      simp only at k1 k2
      have hol : o.length = k := by rw [k2]; simp
      (refine swp_seqW ?_; simp only [go_sem, Bool.not_eq_true', Bool.not_eq_false'])
      (refine swp_seqW ?_; simp only [go_sem, Bool.not_eq_true', Bool.not_eq_false'])
      refine ⟨fun h5 => ?_, fun h5 => ?_⟩
      rotate_left
      · obtain rfl : k = of.length + 1 := by omega
        rw [k2]
        (refine cut_end [] (()) (by simp only [go_sem, Bool.not_eq_true', Bool.not_eq_false']; rfl) ?_ ?_; (focus (simp only [go_sem, Bool.not_eq_true', Bool.not_eq_false']; done)))
        trivial
      have hkF : k < F.length := by omega
      have hkR : k < R.length := by omega
      have eF := f2 k hkF
      have eR := r2 k hkR
      have eo : (List.range (k + 1)).map (fun k : Nat => brkA l of k) = o ++ [⟨clsK of k, F[k], if F[k] = 0 then R[k] else 0⟩] := by
        rw [List.range_succ, List.map_append, ← k2, eF, eR]; rfl
      have hkF2 : ∀ {C : Int → Prop}, (0 : Nat) ≤ 0 → C F[k] → ∃ x, F[k]? = some x ∧ C x := fun _ c => ⟨_, List.getElem?_eq_getElem hkF, c⟩
      have hkR2 : ∀ {C : Int → Prop}, (0 : Nat) ≤ 0 → C R[k] → ∃ x, R[k]? = some x ∧ C x := fun _ c => ⟨_, List.getElem?_eq_getElem hkR, c⟩
      generalize F[k] = a at *
      generalize R[k] = b at *
      clear eF eR f2 r2
      refine swp_seqS ?_
      refine swp_block ?_
      (refine swp_seqW ?_; simp only [go_sem, Bool.not_eq_true', Bool.not_eq_false'])
      (refine swp_seqW ?_; simp only [go_sem, Bool.not_eq_true', Bool.not_eq_false'])
      (refine acall2 [] (class19_ok of k ho (by omega)) (by simp only [go_sem, Bool.not_eq_true', Bool.not_eq_false']; rfl) (fit_of (by simp only [go_sem, Bool.not_eq_true', Bool.not_eq_false']) (by simp only [go_sem, Bool.not_eq_true', Bool.not_eq_false']) (by simp only [go_sem, Bool.not_eq_true', Bool.not_eq_false']) (by simp only [go_sem, Bool.not_eq_true', Bool.not_eq_false']) (by simp only [go_sem, Bool.not_eq_true', Bool.not_eq_false']) (by simp only [go_sem, Bool.not_eq_true', Bool.not_eq_false']) (by simp only [go_sem, Bool.not_eq_true', Bool.not_eq_false'])) ?_; simp only [go_sem, Bool.not_eq_true', Bool.not_eq_false'])
      refine ⟨by omega, hkF2 (Nat.le_refl 0) ?_⟩
      repeat' first | contradiction | intro _ | refine And.intro ?_ ?_ | refine ex_get (by omega) ?_ | (show drawB _ _ = true; kernel_rfl) | (refine ret2 [] (by simp only [go_sem, Bool.not_eq_true', Bool.not_eq_false']; rfl) ?_; simp only [go_sem, Bool.not_eq_true', Bool.not_eq_false'])
      refine swp_cutS (fun c : Int => ⟨[(1, .sl 1 (of.map cInt)), (7, .sl 1 (F.map cInt)), (9, .sl 1 (R.map cInt)), (11, .hdr 8), (12, .raw (.int .i64 k)), (13, .hdr 16), (34, .raw (.int .i64 (of.length + 1))), (35, .raw (.int .i64 k))], [(8, some (.row 69 3 (o.map cBrk))), (16, some (.cells 69 [.raw (.int .i64 (clsK of k)), .raw (.int .i64 a), .raw (.int .i64 c)]))], none⟩) (fun c => c = if a = 0 then b else 0) 40 ?_ ?_
      · (refine swp_lastW ?_; simp only [go_sem, Bool.not_eq_true', Bool.not_eq_false', List.length_map])
        refine ⟨by omega, hkF2 (Nat.le_refl 0) ⟨fun q => ⟨by omega, hkR2 (Nat.le_refl 0) ?_⟩, fun q => ?_⟩⟩
        · (refine cut_end [] (b) (by simp only [go_sem, Bool.not_eq_true', Bool.not_eq_false']; rfl) ?_ ?_; (focus (simp only [go_sem, Bool.not_eq_true', Bool.not_eq_false']; done)))
          rw [if_pos q]
        · (refine cut_end [] (0) (by simp only [go_sem, Bool.not_eq_true', Bool.not_eq_false']; rfl) ?_ ?_; (focus (simp only [go_sem, Bool.not_eq_true', Bool.not_eq_false']; done)))
          rw [if_neg q]
      rintro c rfl
      generalize (if a = 0 then b else 0) = c at *
      (refine swp_lastW ?_; simp only [go_sem, Bool.not_eq_true', Bool.not_eq_false'])
      repeat' first | contradiction | intro _ | refine And.intro ?_ ?_ | refine ex_get (by omega) ?_ | (show drawB _ _ = true; kernel_rfl) | (refine ret2 [] (by simp only [go_sem, Bool.not_eq_true', Bool.not_eq_false']; rfl) ?_; simp only [go_sem, Bool.not_eq_true', Bool.not_eq_false'])
      all_goals first
        | omega
        | skip
      (refine swp_lastW ?_; simp only [go_sem, Bool.not_eq_true', Bool.not_eq_false'])
      refine ⟨by omega, ?_⟩
      (refine loop_end [] (⟨k + 1, o ++ [⟨clsK of k, a, c⟩]⟩) (by simp only [go_sem, Bool.not_eq_true', Bool.not_eq_false']; rfl) ?_ ?_ ?_; (focus first | omega | (simp only; omega)); (focus (simp only [go_sem, Bool.not_eq_true', Bool.not_eq_false', List.map_append]; done)))
      exact ⟨by simp only; omega, eo.symm⟩
  rintro - -
  (refine swp_lastW ?_; simp only [go_sem, Bool.not_eq_true', Bool.not_eq_false'])
  (refine ret2 [] (by simp only [go_sem, Bool.not_eq_true', Bool.not_eq_false']; rfl) ?_; simp only [go_sem, Bool.not_eq_true', Bool.not_eq_false'])
end Go.Proofs.Ytbgcmnccjfdooaa
/- CHAPTER 18: the examples. -/
/- G -/
/- BOOLS -/
set_option linter.unusedSimpArgs false
set_option linter.unusedVariables false
namespace Go.Proofs.Ytbgcmnccjfdooaa
open Go.RowKit

def scr18 : ByteArray := { data := #[91, 73, 49, 32, 40, 49, 32, 48, 32, 53, 32, 53, 32, 53, 32, 53, 41, 32, 91, 66, 49, 32, 123, 49, 32, 49, 125, 93, 93, 32, 40, 49, 32, 48, 32, 53, 32, 53, 41] }
def nds18 : List LNo := [⟨1, 4, ⟨0, 0, 0, 0, 0, 2, 2, 0, 0, 0, 1, 0⟩, 0, 0, [], 0, 0, 0⟩, ⟨2, 1, sty0, 1, 0, [5, 5, 5, 5], 0, 0, 0⟩, ⟨1, 2, ⟨0, 0, 0, 0, 0, 2, 2, 0, 1, 0, 0, 0⟩, 0, 0, [], 0, 0, 0⟩, ⟨3, 1, sty0, 0, 0, [], 0, 1, 1⟩, ⟨2, 1, sty0, 1, 0, [5, 5], 0, 0, 0⟩]
theorem rd18 : rdS scr18 = some nds18 := by kernel_rfl
theorem of18 : FnOk Try.prog 57 [.raw (.string { data := #[91, 73, 49, 32, 40, 49, 32, 48, 32, 53, 32, 53, 32, 53, 32, 53, 41, 32, 91, 66, 49, 32, 123, 49, 32, 49, 125, 93, 93, 32, 40, 49, 32, 48, 32, 53, 32, 53, 41] })] [] (.tup [.sl 20 (nds18.map cNo), .raw (.int .i64 0), .raw (.int .i64 0)]) [] := rdS_ok scr18 nds18 rd18
theorem w18 : ∀ x ∈ nds18, x.words.length ≤ 9223372036854775807 := hw_of (by kernel_rfl)
def row18 : List Int := [1, 1, 1, 1, 3, 4, 4]
theorem all18 : FnOk Try.prog 42 [.sl 20 (nds18.map cNo), .sl 1 ([1, 1, 1, 1, 3, 4, 4].map cInt)] [] (.tup [.hdr 8, .raw (.int .i64 0)]) [(8, .row 3 1 (([0, 3, 2, 3, 6, 0, 1, 0] : List Int).map cInt))] := by
  have h := allR_ok nds18 row18 (Nat.le_of_ble_eq_true rfl) (Nat.le_of_ble_eq_true rfl) w18
  have e1 : allR nds18 row18 = [0, 3, 2, 3, 6, 0, 1, 0] := by kernel_rfl
  have e2 : errB (chkB nds18 row18) = 0 := by kernel_rfl
  rw [e1, e2] at h
  exact h
theorem int18 : FnOk Try.prog 23 [.sl 1 (([0, 3, 2, 3, 6, 0, 1, 0] : List Int).map cInt), .sl 1 (([0, 3, 2, 3, 6, 0, 1, 0] : List Int).map cInt)] [] (.raw (.bool true)) [] := ints8_ok [0, 3, 2, 3, 6, 0, 1, 0] [0, 3, 2, 3, 6, 0, 1, 0] (Nat.le_of_ble_eq_true rfl) (Nat.le_of_ble_eq_true rfl)
theorem lin18 : FnOk Try.prog 40 [.sl 20 (nds18.map cNo), .sl 1 ([1, 1, 1, 1, 3, 4, 4].map cInt), .raw (.int .i64 3)] [] (.tup [.raw (.int .i64 3), .raw (.int .i64 1), .raw (.int .i64 0)]) [] := by
  have h := linK_ok nds18 row18 3 (Nat.le_of_ble_eq_true rfl) (Nat.le_of_ble_eq_true rfl) w18
  have e1 : linK nds18 row18 3 (linA row18) = 3 := by kernel_rfl
  have e2 : linK nds18 row18 3 (linB row18) = 1 := by kernel_rfl
  have e3 : errB (kinG nds18 row18 3) = 0 := by kernel_rfl
  rw [e1, e2, e3] at h
  exact h
set_option maxRecDepth 100000 in
set_option maxHeartbeats 8000000 in
theorem awake18_ok : FnOk Try.prog 39 [] [] (.raw (.bool true)) [] := by
  refine fn_of_awp Try.func39 rfl (by kernel_rfl) (by kernel_rfl) (Nat.le_of_ble_eq_true rfl) Try.results39 ?_
  simp only [go_sem, Bool.not_eq_true', Bool.not_eq_false']
  (refine acall2 [] (of18) (by simp only [go_sem, Bool.not_eq_true', Bool.not_eq_false']; rfl) (fit_of (by simp only [go_sem, Bool.not_eq_true', Bool.not_eq_false']) (by simp only [go_sem, Bool.not_eq_true', Bool.not_eq_false']) (by simp only [go_sem, Bool.not_eq_true', Bool.not_eq_false']) (by simp only [go_sem, Bool.not_eq_true', Bool.not_eq_false']) (by simp only [go_sem, Bool.not_eq_true', Bool.not_eq_false']) (by simp only [go_sem, Bool.not_eq_true', Bool.not_eq_false']) (by simp only [go_sem, Bool.not_eq_true', Bool.not_eq_false'])) ?_; simp only [go_sem, Bool.not_eq_true', Bool.not_eq_false'])
  (refine acallF2 [80 ] [] ( all18) (by simp only [go_sem, Bool.not_eq_true', Bool.not_eq_false']; rfl) (fit_of (by simp only [go_sem, Bool.not_eq_true', Bool.not_eq_false']) (by simp only [go_sem, Bool.not_eq_true', Bool.not_eq_false']) (by simp only [go_sem, Bool.not_eq_true', Bool.not_eq_false']) (by simp only [go_sem, Bool.not_eq_true', Bool.not_eq_false']) (by simp only [go_sem, Bool.not_eq_true', Bool.not_eq_false']) (by simp only [go_sem, Bool.not_eq_true', Bool.not_eq_false']) (by simp only [go_sem, Bool.not_eq_true', Bool.not_eq_false'])) ?_; simp only [go_sem, Bool.not_eq_true', Bool.not_eq_false', Int.reduceToNat, Int.reduceLT, Int.reduceLE, Int.reduceEq, Int.reduceAdd, Int.reduceSub, Int.reduceMul, Int.reduceNeg, Int.reduceNe, decide_false, Int.cast_ofNat_Int, kSet, List.getElem?_cons_succ, List.getElem?_cons_zero, List.set_cons_succ, List.set_cons_zero, exists_eq_left', forall_const, true_implies, List.map])
  (refine acall2 [] (lin18) (by simp only [go_sem, Bool.not_eq_true', Bool.not_eq_false']; rfl) (fit_of (by simp only [go_sem, Bool.not_eq_true', Bool.not_eq_false']) (by simp only [go_sem, Bool.not_eq_true', Bool.not_eq_false']) (by simp only [go_sem, Bool.not_eq_true', Bool.not_eq_false']) (by simp only [go_sem, Bool.not_eq_true', Bool.not_eq_false']) (by simp only [go_sem, Bool.not_eq_true', Bool.not_eq_false']) (by simp only [go_sem, Bool.not_eq_true', Bool.not_eq_false']) (by simp only [go_sem, Bool.not_eq_true', Bool.not_eq_false'])) ?_; simp only [go_sem, Bool.not_eq_true', Bool.not_eq_false', Int.reduceToNat, Int.reduceLT, Int.reduceLE, Int.reduceEq, Int.reduceAdd, Int.reduceSub, Int.reduceMul, Int.reduceNeg, Int.reduceNe, decide_false, Int.cast_ofNat_Int, kSet, List.getElem?_cons_succ, List.getElem?_cons_zero, List.set_cons_succ, List.set_cons_zero, exists_eq_left', forall_const, true_implies, List.map])
  (refine acallF2 [112, 272 ] [] ( int18) (by simp only [go_sem, Bool.not_eq_true', Bool.not_eq_false']; rfl) (fit_of (by simp only [go_sem, Bool.not_eq_true', Bool.not_eq_false']) (by simp only [go_sem, Bool.not_eq_true', Bool.not_eq_false']) (by simp only [go_sem, Bool.not_eq_true', Bool.not_eq_false']) (by simp only [go_sem, Bool.not_eq_true', Bool.not_eq_false']) (by simp only [go_sem, Bool.not_eq_true', Bool.not_eq_false']) (by simp only [go_sem, Bool.not_eq_true', Bool.not_eq_false']) (by simp only [go_sem, Bool.not_eq_true', Bool.not_eq_false'])) ?_; simp only [go_sem, Bool.not_eq_true', Bool.not_eq_false', Int.reduceToNat, Int.reduceLT, Int.reduceLE, Int.reduceEq, Int.reduceAdd, Int.reduceSub, Int.reduceMul, Int.reduceNeg, Int.reduceNe, decide_false, Int.cast_ofNat_Int, kSet, List.getElem?_cons_succ, List.getElem?_cons_zero, List.set_cons_succ, List.set_cons_zero, exists_eq_left', forall_const, true_implies, List.map])
end Go.Proofs.Ytbgcmnccjfdooaa
/- CHAPTER 19: the examples; the laws BreaksFind, BreaksParts. -/
/- G -/
/- BOOLS -/
set_option linter.unusedSimpArgs false
set_option linter.unusedVariables false
namespace Go.Proofs.Ytbgcmnccjfdooaa
open Go.RowKit

def brk19 : List LBrk := [⟨0, 0, 0⟩, ⟨2, 0, 3⟩, ⟨2, 0, 2⟩, ⟨2, 0, 3⟩, ⟨1, 0, 6⟩, ⟨1, 0, 0⟩, ⟨2, 0, 1⟩, ⟨3, 0, 0⟩]
theorem len19 : brk19.length = 8 := rfl
theorem all19 : FnOk Try.prog 56 [.sl 20 (nds18.map cNo), .sl 1 ([1, 1, 1, 1, 3, 4, 4].map cInt)] [] (.tup [.hdr 8, .raw (.int .i64 0)]) [(8, .row 69 3 (brk19.map cBrk))] := by
  have h := allB_ok nds18 row18 (Nat.le_of_ble_eq_true rfl) (Nat.le_of_ble_eq_true rfl) w18
  have e1 : allB nds18 row18 = brk19 := by kernel_rfl
  have e2 : errB (chkB nds18 row18) = 0 := by kernel_rfl
  rw [e1, e2] at h
  exact h
theorem may19 : FnOk Try.prog 48 [.sl 3 (brk19.map cBrk)] [] (.raw (.bool true)) [] := by
  have h := may_ok brk19 (Nat.le_of_ble_eq_true rfl)
  have e : mayB brk19 = true := by decide
  rw [e] at h
  exact h
theorem fst19 (f t r : Int) (e : decide ((fstB brk19 f t).out.at_ = r) = true) : FnOk Try.prog 50 [.sl 3 (brk19.map cBrk), .raw (.int .i64 f), .raw (.int .i64 t)] [] (.raw (.int .i64 r)) [] := by
  have h := first_ok brk19 f t (Nat.le_of_ble_eq_true rfl)
  rw [of_decide_eq_true e] at h
  exact h
theorem bst19 (f t r : Int) (e : decide ((bstB brk19 f t).out.at_ = r) = true) : FnOk Try.prog 52 [.sl 3 (brk19.map cBrk), .raw (.int .i64 f), .raw (.int .i64 t)] [] (.raw (.int .i64 r)) [] := by
  have h := best_ok brk19 f t (Nat.le_of_ble_eq_true rfl)
  rw [of_decide_eq_true e] at h
  exact h
set_option maxRecDepth 100000 in
set_option maxHeartbeats 8000000 in
theorem awake19_ok : FnOk Try.prog 47 [] [] (.raw (.bool true)) [] := by
  refine fn_of_swp Try.func47 rfl (by kernel_rfl) (by kernel_rfl) (Nat.le_of_ble_eq_true rfl) Try.results47 ?_
  (refine swp_seqW ?_; simp only [go_sem, Bool.not_eq_true', Bool.not_eq_false'])
  (refine swp_seqW ?_; simp only [go_sem, Bool.not_eq_true', Bool.not_eq_false'])
  (refine acall2 [] (of18) (by simp only [go_sem, Bool.not_eq_true', Bool.not_eq_false']; rfl) (fit_of (by simp only [go_sem, Bool.not_eq_true', Bool.not_eq_false']) (by simp only [go_sem, Bool.not_eq_true', Bool.not_eq_false']) (by simp only [go_sem, Bool.not_eq_true', Bool.not_eq_false']) (by simp only [go_sem, Bool.not_eq_true', Bool.not_eq_false']) (by simp only [go_sem, Bool.not_eq_true', Bool.not_eq_false']) (by simp only [go_sem, Bool.not_eq_true', Bool.not_eq_false']) (by simp only [go_sem, Bool.not_eq_true', Bool.not_eq_false'])) ?_; simp only [go_sem, Bool.not_eq_true', Bool.not_eq_false'])
  refine swp_cutS (fun _ : Unit => ⟨[(4, .sl 3 (brk19.map cBrk)), (5, .raw (.int .i64 0))], [], none⟩) (fun _ => True) 3 ?_ ?_
  · (refine swp_lastW ?_; simp only [go_sem, Bool.not_eq_true', Bool.not_eq_false'])
    (refine acallF2 [88 ] [] ( all19) (by simp only [go_sem, Bool.not_eq_true', Bool.not_eq_false']; rfl) (fit_of (by simp only [go_sem, Bool.not_eq_true', Bool.not_eq_false']) (by simp only [go_sem, Bool.not_eq_true', Bool.not_eq_false']) (by simp only [go_sem, Bool.not_eq_true', Bool.not_eq_false']) (by simp only [go_sem, Bool.not_eq_true', Bool.not_eq_false']) (by simp only [go_sem, Bool.not_eq_true', Bool.not_eq_false']) (by simp only [go_sem, Bool.not_eq_true', Bool.not_eq_false']) (by simp only [go_sem, Bool.not_eq_true', Bool.not_eq_false'])) ?_; simp only [go_sem, Bool.not_eq_true', Bool.not_eq_false', Int.reduceToNat, Int.reduceLT, Int.reduceLE, Int.reduceEq, Int.reduceAdd, Int.reduceSub, Int.reduceMul, Int.reduceNeg, Int.reduceNe, decide_false, Int.cast_ofNat_Int, kSet, List.getElem?_cons_succ, List.getElem?_cons_zero, List.set_cons_succ, List.set_cons_zero, exists_eq_left', forall_const, true_implies, List.map])
    (refine cut_end [96 ] ( ()) (by simp only [go_sem, Bool.not_eq_true', Bool.not_eq_false']; rfl) ?_ ?_; (focus (simp only [go_sem, Bool.not_eq_true', Bool.not_eq_false']; done)))
    trivial
  rintro - -
  (refine swp_seqW ?_; simp only [go_sem, Bool.not_eq_true', Bool.not_eq_false'])
  (refine swp_seqW ?_; simp only [go_sem, Bool.not_eq_true', Bool.not_eq_false', List.length_map, len19, Int.reduceToNat, Int.reduceLT, Int.reduceLE, Int.reduceEq, Int.reduceAdd, Int.reduceSub, Int.reduceMul, Int.reduceNeg, Int.reduceNe, decide_false, Int.cast_ofNat_Int, kSet, List.getElem?_cons_succ, List.getElem?_cons_zero, List.set_cons_succ, List.set_cons_zero, exists_eq_left', forall_const, true_implies])
  refine swp_cutS (fun _ : Unit => ⟨[(4, .sl 3 (brk19.map cBrk))], [], none⟩) (fun _ => True) 200 ?_ ?_
  · (refine swp_seqW ?_; simp only [go_sem, Bool.not_eq_true', Bool.not_eq_false'])
    refine swp_block ?_
    refine swp_loop2 [] (fun k : Nat => ⟨[(4, .sl 3 (brk19.map cBrk)), (6, .hdr 800), (7, .hdr 808), (8, .raw (.int .i64 k))], [(800, some (.cells 101 [.raw (.int .i64 0), .raw (.int .i64 2), .raw (.int .i64 2), .raw (.int .i64 2), .raw (.int .i64 1), .raw (.int .i64 1), .raw (.int .i64 2), .raw (.int .i64 3)])), (808, some (.cells 101 [.raw (.int .i64 0), .raw (.int .i64 3), .raw (.int .i64 2), .raw (.int .i64 3), .raw (.int .i64 6), .raw (.int .i64 0), .raw (.int .i64 1), .raw (.int .i64 0)]))], none⟩) (fun k => k ≤ 8) (fun k => 8 - k) 200 0 (by simp only [go_sem, Bool.not_eq_true', Bool.not_eq_false']; rfl) (by simp only [go_sem, Bool.not_eq_true', Bool.not_eq_false']) ?_ ?_
    · exact Nat.zero_le _
    · intro k hk
      by_cases h8 : k = 8
      · subst h8
        (refine swp_lastW ?_; simp only [go_sem, Bool.not_eq_true', Bool.not_eq_false', Int.reduceToNat, Int.reduceLT, Int.reduceLE, Int.reduceEq, Int.reduceAdd, Int.reduceSub, Int.reduceMul, Int.reduceNeg, Int.reduceNe, decide_false, Int.cast_ofNat_Int, kSet, List.getElem?_cons_succ, List.getElem?_cons_zero, List.set_cons_succ, List.set_cons_zero, exists_eq_left', forall_const, true_implies])
        (refine cut_end [] (()) (by simp only [go_sem, Bool.not_eq_true', Bool.not_eq_false']; rfl) ?_ ?_; (focus (simp only [go_sem, Bool.not_eq_true', Bool.not_eq_false']; done)))
        trivial
      have h9 : k = 0 ∨ k = 1 ∨ k = 2 ∨ k = 3 ∨ k = 4 ∨ k = 5 ∨ k = 6 ∨ k = 7 := by omega
      rcases h9 with rfl | rfl | rfl | rfl | rfl | rfl | rfl | rfl
      · (refine swp_lastW ?_; simp only [go_sem, Bool.not_eq_true', Bool.not_eq_false', Int.reduceToNat, Int.reduceLT, Int.reduceLE, Int.reduceEq, Int.reduceAdd, Int.reduceSub, Int.reduceMul, Int.reduceNeg, Int.reduceNe, decide_false, Int.cast_ofNat_Int, kSet, List.getElem?_cons_succ, List.getElem?_cons_zero, List.set_cons_succ, List.set_cons_zero, exists_eq_left', forall_const, true_implies, brk19, cBrk, List.map])
        repeat' first | contradiction | intro _ | refine And.intro ?_ ?_ | refine ex_get (by omega) ?_ | (show drawB _ _ = true; kernel_rfl) | (refine ret2 [] (by simp only [go_sem, Bool.not_eq_true', Bool.not_eq_false', Int.reduceToNat, Int.reduceLT, Int.reduceLE, Int.reduceEq, Int.reduceAdd, Int.reduceSub, Int.reduceMul, Int.reduceNeg, Int.reduceNe, decide_false, Int.cast_ofNat_Int, kSet, List.getElem?_cons_succ, List.getElem?_cons_zero, List.set_cons_succ, List.set_cons_zero, exists_eq_left', forall_const, true_implies, List.map]; rfl) ?_; simp only [go_sem, Bool.not_eq_true', Bool.not_eq_false', Int.reduceToNat, Int.reduceLT, Int.reduceLE, Int.reduceEq, Int.reduceAdd, Int.reduceSub, Int.reduceMul, Int.reduceNeg, Int.reduceNe, decide_false, Int.cast_ofNat_Int, kSet, List.getElem?_cons_succ, List.getElem?_cons_zero, List.set_cons_succ, List.set_cons_zero, exists_eq_left', forall_const, true_implies, List.map])
        all_goals first
          | omega
          | ((refine loop_end [] (1) (by simp only [go_sem, Bool.not_eq_true', Bool.not_eq_false']; rfl) ?_ ?_ ?_; (focus first | omega | (simp only; omega)); (focus (simp only [go_sem, Bool.not_eq_true', Bool.not_eq_false', Int.reduceToNat, Int.reduceLT, Int.reduceLE, Int.reduceEq, Int.reduceAdd, Int.reduceSub, Int.reduceMul, Int.reduceNeg, Int.reduceNe, decide_false, Int.cast_ofNat_Int, kSet, List.getElem?_cons_succ, List.getElem?_cons_zero, List.set_cons_succ, List.set_cons_zero, exists_eq_left', forall_const, true_implies]; done)))
             omega)
          | skip
      · (refine swp_lastW ?_; simp only [go_sem, Bool.not_eq_true', Bool.not_eq_false', Int.reduceToNat, Int.reduceLT, Int.reduceLE, Int.reduceEq, Int.reduceAdd, Int.reduceSub, Int.reduceMul, Int.reduceNeg, Int.reduceNe, decide_false, Int.cast_ofNat_Int, kSet, List.getElem?_cons_succ, List.getElem?_cons_zero, List.set_cons_succ, List.set_cons_zero, exists_eq_left', forall_const, true_implies, brk19, cBrk, List.map])
        repeat' first | contradiction | intro _ | refine And.intro ?_ ?_ | refine ex_get (by omega) ?_ | (show drawB _ _ = true; kernel_rfl) | (refine ret2 [] (by simp only [go_sem, Bool.not_eq_true', Bool.not_eq_false', Int.reduceToNat, Int.reduceLT, Int.reduceLE, Int.reduceEq, Int.reduceAdd, Int.reduceSub, Int.reduceMul, Int.reduceNeg, Int.reduceNe, decide_false, Int.cast_ofNat_Int, kSet, List.getElem?_cons_succ, List.getElem?_cons_zero, List.set_cons_succ, List.set_cons_zero, exists_eq_left', forall_const, true_implies, List.map]; rfl) ?_; simp only [go_sem, Bool.not_eq_true', Bool.not_eq_false', Int.reduceToNat, Int.reduceLT, Int.reduceLE, Int.reduceEq, Int.reduceAdd, Int.reduceSub, Int.reduceMul, Int.reduceNeg, Int.reduceNe, decide_false, Int.cast_ofNat_Int, kSet, List.getElem?_cons_succ, List.getElem?_cons_zero, List.set_cons_succ, List.set_cons_zero, exists_eq_left', forall_const, true_implies, List.map])
        all_goals first
          | omega
          | ((refine loop_end [] (2) (by simp only [go_sem, Bool.not_eq_true', Bool.not_eq_false']; rfl) ?_ ?_ ?_; (focus first | omega | (simp only; omega)); (focus (simp only [go_sem, Bool.not_eq_true', Bool.not_eq_false', Int.reduceToNat, Int.reduceLT, Int.reduceLE, Int.reduceEq, Int.reduceAdd, Int.reduceSub, Int.reduceMul, Int.reduceNeg, Int.reduceNe, decide_false, Int.cast_ofNat_Int, kSet, List.getElem?_cons_succ, List.getElem?_cons_zero, List.set_cons_succ, List.set_cons_zero, exists_eq_left', forall_const, true_implies]; done)))
             omega)
          | skip
      · (refine swp_lastW ?_; simp only [go_sem, Bool.not_eq_true', Bool.not_eq_false', Int.reduceToNat, Int.reduceLT, Int.reduceLE, Int.reduceEq, Int.reduceAdd, Int.reduceSub, Int.reduceMul, Int.reduceNeg, Int.reduceNe, decide_false, Int.cast_ofNat_Int, kSet, List.getElem?_cons_succ, List.getElem?_cons_zero, List.set_cons_succ, List.set_cons_zero, exists_eq_left', forall_const, true_implies, brk19, cBrk, List.map])
        repeat' first | contradiction | intro _ | refine And.intro ?_ ?_ | refine ex_get (by omega) ?_ | (show drawB _ _ = true; kernel_rfl) | (refine ret2 [] (by simp only [go_sem, Bool.not_eq_true', Bool.not_eq_false', Int.reduceToNat, Int.reduceLT, Int.reduceLE, Int.reduceEq, Int.reduceAdd, Int.reduceSub, Int.reduceMul, Int.reduceNeg, Int.reduceNe, decide_false, Int.cast_ofNat_Int, kSet, List.getElem?_cons_succ, List.getElem?_cons_zero, List.set_cons_succ, List.set_cons_zero, exists_eq_left', forall_const, true_implies, List.map]; rfl) ?_; simp only [go_sem, Bool.not_eq_true', Bool.not_eq_false', Int.reduceToNat, Int.reduceLT, Int.reduceLE, Int.reduceEq, Int.reduceAdd, Int.reduceSub, Int.reduceMul, Int.reduceNeg, Int.reduceNe, decide_false, Int.cast_ofNat_Int, kSet, List.getElem?_cons_succ, List.getElem?_cons_zero, List.set_cons_succ, List.set_cons_zero, exists_eq_left', forall_const, true_implies, List.map])
        all_goals first
          | omega
          | ((refine loop_end [] (3) (by simp only [go_sem, Bool.not_eq_true', Bool.not_eq_false']; rfl) ?_ ?_ ?_; (focus first | omega | (simp only; omega)); (focus (simp only [go_sem, Bool.not_eq_true', Bool.not_eq_false', Int.reduceToNat, Int.reduceLT, Int.reduceLE, Int.reduceEq, Int.reduceAdd, Int.reduceSub, Int.reduceMul, Int.reduceNeg, Int.reduceNe, decide_false, Int.cast_ofNat_Int, kSet, List.getElem?_cons_succ, List.getElem?_cons_zero, List.set_cons_succ, List.set_cons_zero, exists_eq_left', forall_const, true_implies]; done)))
             omega)
          | skip
      · (refine swp_lastW ?_; simp only [go_sem, Bool.not_eq_true', Bool.not_eq_false', Int.reduceToNat, Int.reduceLT, Int.reduceLE, Int.reduceEq, Int.reduceAdd, Int.reduceSub, Int.reduceMul, Int.reduceNeg, Int.reduceNe, decide_false, Int.cast_ofNat_Int, kSet, List.getElem?_cons_succ, List.getElem?_cons_zero, List.set_cons_succ, List.set_cons_zero, exists_eq_left', forall_const, true_implies, brk19, cBrk, List.map])
        repeat' first | contradiction | intro _ | refine And.intro ?_ ?_ | refine ex_get (by omega) ?_ | (show drawB _ _ = true; kernel_rfl) | (refine ret2 [] (by simp only [go_sem, Bool.not_eq_true', Bool.not_eq_false', Int.reduceToNat, Int.reduceLT, Int.reduceLE, Int.reduceEq, Int.reduceAdd, Int.reduceSub, Int.reduceMul, Int.reduceNeg, Int.reduceNe, decide_false, Int.cast_ofNat_Int, kSet, List.getElem?_cons_succ, List.getElem?_cons_zero, List.set_cons_succ, List.set_cons_zero, exists_eq_left', forall_const, true_implies, List.map]; rfl) ?_; simp only [go_sem, Bool.not_eq_true', Bool.not_eq_false', Int.reduceToNat, Int.reduceLT, Int.reduceLE, Int.reduceEq, Int.reduceAdd, Int.reduceSub, Int.reduceMul, Int.reduceNeg, Int.reduceNe, decide_false, Int.cast_ofNat_Int, kSet, List.getElem?_cons_succ, List.getElem?_cons_zero, List.set_cons_succ, List.set_cons_zero, exists_eq_left', forall_const, true_implies, List.map])
        all_goals first
          | omega
          | ((refine loop_end [] (4) (by simp only [go_sem, Bool.not_eq_true', Bool.not_eq_false']; rfl) ?_ ?_ ?_; (focus first | omega | (simp only; omega)); (focus (simp only [go_sem, Bool.not_eq_true', Bool.not_eq_false', Int.reduceToNat, Int.reduceLT, Int.reduceLE, Int.reduceEq, Int.reduceAdd, Int.reduceSub, Int.reduceMul, Int.reduceNeg, Int.reduceNe, decide_false, Int.cast_ofNat_Int, kSet, List.getElem?_cons_succ, List.getElem?_cons_zero, List.set_cons_succ, List.set_cons_zero, exists_eq_left', forall_const, true_implies]; done)))
             omega)
          | skip
      · (refine swp_lastW ?_; simp only [go_sem, Bool.not_eq_true', Bool.not_eq_false', Int.reduceToNat, Int.reduceLT, Int.reduceLE, Int.reduceEq, Int.reduceAdd, Int.reduceSub, Int.reduceMul, Int.reduceNeg, Int.reduceNe, decide_false, Int.cast_ofNat_Int, kSet, List.getElem?_cons_succ, List.getElem?_cons_zero, List.set_cons_succ, List.set_cons_zero, exists_eq_left', forall_const, true_implies, brk19, cBrk, List.map])
        repeat' first | contradiction | intro _ | refine And.intro ?_ ?_ | refine ex_get (by omega) ?_ | (show drawB _ _ = true; kernel_rfl) | (refine ret2 [] (by simp only [go_sem, Bool.not_eq_true', Bool.not_eq_false', Int.reduceToNat, Int.reduceLT, Int.reduceLE, Int.reduceEq, Int.reduceAdd, Int.reduceSub, Int.reduceMul, Int.reduceNeg, Int.reduceNe, decide_false, Int.cast_ofNat_Int, kSet, List.getElem?_cons_succ, List.getElem?_cons_zero, List.set_cons_succ, List.set_cons_zero, exists_eq_left', forall_const, true_implies, List.map]; rfl) ?_; simp only [go_sem, Bool.not_eq_true', Bool.not_eq_false', Int.reduceToNat, Int.reduceLT, Int.reduceLE, Int.reduceEq, Int.reduceAdd, Int.reduceSub, Int.reduceMul, Int.reduceNeg, Int.reduceNe, decide_false, Int.cast_ofNat_Int, kSet, List.getElem?_cons_succ, List.getElem?_cons_zero, List.set_cons_succ, List.set_cons_zero, exists_eq_left', forall_const, true_implies, List.map])
        all_goals first
          | omega
          | ((refine loop_end [] (5) (by simp only [go_sem, Bool.not_eq_true', Bool.not_eq_false']; rfl) ?_ ?_ ?_; (focus first | omega | (simp only; omega)); (focus (simp only [go_sem, Bool.not_eq_true', Bool.not_eq_false', Int.reduceToNat, Int.reduceLT, Int.reduceLE, Int.reduceEq, Int.reduceAdd, Int.reduceSub, Int.reduceMul, Int.reduceNeg, Int.reduceNe, decide_false, Int.cast_ofNat_Int, kSet, List.getElem?_cons_succ, List.getElem?_cons_zero, List.set_cons_succ, List.set_cons_zero, exists_eq_left', forall_const, true_implies]; done)))
             omega)
          | skip
      · (refine swp_lastW ?_; simp only [go_sem, Bool.not_eq_true', Bool.not_eq_false', Int.reduceToNat, Int.reduceLT, Int.reduceLE, Int.reduceEq, Int.reduceAdd, Int.reduceSub, Int.reduceMul, Int.reduceNeg, Int.reduceNe, decide_false, Int.cast_ofNat_Int, kSet, List.getElem?_cons_succ, List.getElem?_cons_zero, List.set_cons_succ, List.set_cons_zero, exists_eq_left', forall_const, true_implies, brk19, cBrk, List.map])
        repeat' first | contradiction | intro _ | refine And.intro ?_ ?_ | refine ex_get (by omega) ?_ | (show drawB _ _ = true; kernel_rfl) | (refine ret2 [] (by simp only [go_sem, Bool.not_eq_true', Bool.not_eq_false', Int.reduceToNat, Int.reduceLT, Int.reduceLE, Int.reduceEq, Int.reduceAdd, Int.reduceSub, Int.reduceMul, Int.reduceNeg, Int.reduceNe, decide_false, Int.cast_ofNat_Int, kSet, List.getElem?_cons_succ, List.getElem?_cons_zero, List.set_cons_succ, List.set_cons_zero, exists_eq_left', forall_const, true_implies, List.map]; rfl) ?_; simp only [go_sem, Bool.not_eq_true', Bool.not_eq_false', Int.reduceToNat, Int.reduceLT, Int.reduceLE, Int.reduceEq, Int.reduceAdd, Int.reduceSub, Int.reduceMul, Int.reduceNeg, Int.reduceNe, decide_false, Int.cast_ofNat_Int, kSet, List.getElem?_cons_succ, List.getElem?_cons_zero, List.set_cons_succ, List.set_cons_zero, exists_eq_left', forall_const, true_implies, List.map])
        all_goals first
          | omega
          | ((refine loop_end [] (6) (by simp only [go_sem, Bool.not_eq_true', Bool.not_eq_false']; rfl) ?_ ?_ ?_; (focus first | omega | (simp only; omega)); (focus (simp only [go_sem, Bool.not_eq_true', Bool.not_eq_false', Int.reduceToNat, Int.reduceLT, Int.reduceLE, Int.reduceEq, Int.reduceAdd, Int.reduceSub, Int.reduceMul, Int.reduceNeg, Int.reduceNe, decide_false, Int.cast_ofNat_Int, kSet, List.getElem?_cons_succ, List.getElem?_cons_zero, List.set_cons_succ, List.set_cons_zero, exists_eq_left', forall_const, true_implies]; done)))
             omega)
          | skip
      · (refine swp_lastW ?_; simp only [go_sem, Bool.not_eq_true', Bool.not_eq_false', Int.reduceToNat, Int.reduceLT, Int.reduceLE, Int.reduceEq, Int.reduceAdd, Int.reduceSub, Int.reduceMul, Int.reduceNeg, Int.reduceNe, decide_false, Int.cast_ofNat_Int, kSet, List.getElem?_cons_succ, List.getElem?_cons_zero, List.set_cons_succ, List.set_cons_zero, exists_eq_left', forall_const, true_implies, brk19, cBrk, List.map])
        repeat' first | contradiction | intro _ | refine And.intro ?_ ?_ | refine ex_get (by omega) ?_ | (show drawB _ _ = true; kernel_rfl) | (refine ret2 [] (by simp only [go_sem, Bool.not_eq_true', Bool.not_eq_false', Int.reduceToNat, Int.reduceLT, Int.reduceLE, Int.reduceEq, Int.reduceAdd, Int.reduceSub, Int.reduceMul, Int.reduceNeg, Int.reduceNe, decide_false, Int.cast_ofNat_Int, kSet, List.getElem?_cons_succ, List.getElem?_cons_zero, List.set_cons_succ, List.set_cons_zero, exists_eq_left', forall_const, true_implies, List.map]; rfl) ?_; simp only [go_sem, Bool.not_eq_true', Bool.not_eq_false', Int.reduceToNat, Int.reduceLT, Int.reduceLE, Int.reduceEq, Int.reduceAdd, Int.reduceSub, Int.reduceMul, Int.reduceNeg, Int.reduceNe, decide_false, Int.cast_ofNat_Int, kSet, List.getElem?_cons_succ, List.getElem?_cons_zero, List.set_cons_succ, List.set_cons_zero, exists_eq_left', forall_const, true_implies, List.map])
        all_goals first
          | omega
          | ((refine loop_end [] (7) (by simp only [go_sem, Bool.not_eq_true', Bool.not_eq_false']; rfl) ?_ ?_ ?_; (focus first | omega | (simp only; omega)); (focus (simp only [go_sem, Bool.not_eq_true', Bool.not_eq_false', Int.reduceToNat, Int.reduceLT, Int.reduceLE, Int.reduceEq, Int.reduceAdd, Int.reduceSub, Int.reduceMul, Int.reduceNeg, Int.reduceNe, decide_false, Int.cast_ofNat_Int, kSet, List.getElem?_cons_succ, List.getElem?_cons_zero, List.set_cons_succ, List.set_cons_zero, exists_eq_left', forall_const, true_implies]; done)))
             omega)
          | skip
      · (refine swp_lastW ?_; simp only [go_sem, Bool.not_eq_true', Bool.not_eq_false', Int.reduceToNat, Int.reduceLT, Int.reduceLE, Int.reduceEq, Int.reduceAdd, Int.reduceSub, Int.reduceMul, Int.reduceNeg, Int.reduceNe, decide_false, Int.cast_ofNat_Int, kSet, List.getElem?_cons_succ, List.getElem?_cons_zero, List.set_cons_succ, List.set_cons_zero, exists_eq_left', forall_const, true_implies, brk19, cBrk, List.map])
        repeat' first | contradiction | intro _ | refine And.intro ?_ ?_ | refine ex_get (by omega) ?_ | (show drawB _ _ = true; kernel_rfl) | (refine ret2 [] (by simp only [go_sem, Bool.not_eq_true', Bool.not_eq_false', Int.reduceToNat, Int.reduceLT, Int.reduceLE, Int.reduceEq, Int.reduceAdd, Int.reduceSub, Int.reduceMul, Int.reduceNeg, Int.reduceNe, decide_false, Int.cast_ofNat_Int, kSet, List.getElem?_cons_succ, List.getElem?_cons_zero, List.set_cons_succ, List.set_cons_zero, exists_eq_left', forall_const, true_implies, List.map]; rfl) ?_; simp only [go_sem, Bool.not_eq_true', Bool.not_eq_false', Int.reduceToNat, Int.reduceLT, Int.reduceLE, Int.reduceEq, Int.reduceAdd, Int.reduceSub, Int.reduceMul, Int.reduceNeg, Int.reduceNe, decide_false, Int.cast_ofNat_Int, kSet, List.getElem?_cons_succ, List.getElem?_cons_zero, List.set_cons_succ, List.set_cons_zero, exists_eq_left', forall_const, true_implies, List.map])
        all_goals first
          | omega
          | ((refine loop_end [] (8) (by simp only [go_sem, Bool.not_eq_true', Bool.not_eq_false']; rfl) ?_ ?_ ?_; (focus first | omega | (simp only; omega)); (focus (simp only [go_sem, Bool.not_eq_true', Bool.not_eq_false', Int.reduceToNat, Int.reduceLT, Int.reduceLE, Int.reduceEq, Int.reduceAdd, Int.reduceSub, Int.reduceMul, Int.reduceNeg, Int.reduceNe, decide_false, Int.cast_ofNat_Int, kSet, List.getElem?_cons_succ, List.getElem?_cons_zero, List.set_cons_succ, List.set_cons_zero, exists_eq_left', forall_const, true_implies]; done)))
             omega)
          | skip
  rintro - -
  (refine swp_lastW ?_; simp only [go_sem, Bool.not_eq_true', Bool.not_eq_false'])
  (refine acall2 [] (may19) (by simp only [go_sem, Bool.not_eq_true', Bool.not_eq_false']; rfl) (fit_of (by simp only [go_sem, Bool.not_eq_true', Bool.not_eq_false']) (by simp only [go_sem, Bool.not_eq_true', Bool.not_eq_false']) (by simp only [go_sem, Bool.not_eq_true', Bool.not_eq_false']) (by simp only [go_sem, Bool.not_eq_true', Bool.not_eq_false']) (by simp only [go_sem, Bool.not_eq_true', Bool.not_eq_false']) (by simp only [go_sem, Bool.not_eq_true', Bool.not_eq_false']) (by simp only [go_sem, Bool.not_eq_true', Bool.not_eq_false'])) ?_; simp only [go_sem, Bool.not_eq_true', Bool.not_eq_false'])
  (refine acall2 [] (fst19 0 7 (-1) (by kernel_rfl)) (by simp only [go_sem, Bool.not_eq_true', Bool.not_eq_false']; rfl) (fit_of (by simp only [go_sem, Bool.not_eq_true', Bool.not_eq_false']) (by simp only [go_sem, Bool.not_eq_true', Bool.not_eq_false']) (by simp only [go_sem, Bool.not_eq_true', Bool.not_eq_false']) (by simp only [go_sem, Bool.not_eq_true', Bool.not_eq_false']) (by simp only [go_sem, Bool.not_eq_true', Bool.not_eq_false']) (by simp only [go_sem, Bool.not_eq_true', Bool.not_eq_false']) (by simp only [go_sem, Bool.not_eq_true', Bool.not_eq_false'])) ?_; simp only [go_sem, Bool.not_eq_true', Bool.not_eq_false'])
  (refine acall2 [] (bst19 1 3 2 (by kernel_rfl)) (by simp only [go_sem, Bool.not_eq_true', Bool.not_eq_false']; rfl) (fit_of (by simp only [go_sem, Bool.not_eq_true', Bool.not_eq_false']) (by simp only [go_sem, Bool.not_eq_true', Bool.not_eq_false']) (by simp only [go_sem, Bool.not_eq_true', Bool.not_eq_false']) (by simp only [go_sem, Bool.not_eq_true', Bool.not_eq_false']) (by simp only [go_sem, Bool.not_eq_true', Bool.not_eq_false']) (by simp only [go_sem, Bool.not_eq_true', Bool.not_eq_false']) (by simp only [go_sem, Bool.not_eq_true', Bool.not_eq_false'])) ?_; simp only [go_sem, Bool.not_eq_true', Bool.not_eq_false'])
  (refine acall2 [] (bst19 1 4 2 (by kernel_rfl)) (by simp only [go_sem, Bool.not_eq_true', Bool.not_eq_false']; rfl) (fit_of (by simp only [go_sem, Bool.not_eq_true', Bool.not_eq_false']) (by simp only [go_sem, Bool.not_eq_true', Bool.not_eq_false']) (by simp only [go_sem, Bool.not_eq_true', Bool.not_eq_false']) (by simp only [go_sem, Bool.not_eq_true', Bool.not_eq_false']) (by simp only [go_sem, Bool.not_eq_true', Bool.not_eq_false']) (by simp only [go_sem, Bool.not_eq_true', Bool.not_eq_false']) (by simp only [go_sem, Bool.not_eq_true', Bool.not_eq_false'])) ?_; simp only [go_sem, Bool.not_eq_true', Bool.not_eq_false'])
  (refine acall2 [] (bst19 1 7 7 (by kernel_rfl)) (by simp only [go_sem, Bool.not_eq_true', Bool.not_eq_false']; rfl) (fit_of (by simp only [go_sem, Bool.not_eq_true', Bool.not_eq_false']) (by simp only [go_sem, Bool.not_eq_true', Bool.not_eq_false']) (by simp only [go_sem, Bool.not_eq_true', Bool.not_eq_false']) (by simp only [go_sem, Bool.not_eq_true', Bool.not_eq_false']) (by simp only [go_sem, Bool.not_eq_true', Bool.not_eq_false']) (by simp only [go_sem, Bool.not_eq_true', Bool.not_eq_false']) (by simp only [go_sem, Bool.not_eq_true', Bool.not_eq_false'])) ?_; simp only [go_sem, Bool.not_eq_true', Bool.not_eq_false'])
  (refine acall2 [] (bst19 4 4 4 (by kernel_rfl)) (by simp only [go_sem, Bool.not_eq_true', Bool.not_eq_false']; rfl) (fit_of (by simp only [go_sem, Bool.not_eq_true', Bool.not_eq_false']) (by simp only [go_sem, Bool.not_eq_true', Bool.not_eq_false']) (by simp only [go_sem, Bool.not_eq_true', Bool.not_eq_false']) (by simp only [go_sem, Bool.not_eq_true', Bool.not_eq_false']) (by simp only [go_sem, Bool.not_eq_true', Bool.not_eq_false']) (by simp only [go_sem, Bool.not_eq_true', Bool.not_eq_false']) (by simp only [go_sem, Bool.not_eq_true', Bool.not_eq_false'])) ?_; simp only [go_sem, Bool.not_eq_true', Bool.not_eq_false'])
  (refine acall2 [] (bst19 8 9 (-1) (by kernel_rfl)) (by simp only [go_sem, Bool.not_eq_true', Bool.not_eq_false']; rfl) (fit_of (by simp only [go_sem, Bool.not_eq_true', Bool.not_eq_false']) (by simp only [go_sem, Bool.not_eq_true', Bool.not_eq_false']) (by simp only [go_sem, Bool.not_eq_true', Bool.not_eq_false']) (by simp only [go_sem, Bool.not_eq_true', Bool.not_eq_false']) (by simp only [go_sem, Bool.not_eq_true', Bool.not_eq_false']) (by simp only [go_sem, Bool.not_eq_true', Bool.not_eq_false']) (by simp only [go_sem, Bool.not_eq_true', Bool.not_eq_false'])) ?_; simp only [go_sem, Bool.not_eq_true', Bool.not_eq_false'])
end Go.Proofs.Ytbgcmnccjfdooaa
/- CHAPTER 19: the laws BreaksFind, BreaksParts. -/
/- G -/
/- BOOLS -/
set_option linter.unusedSimpArgs false
set_option linter.unusedVariables false
namespace Go.Proofs.Ytbgcmnccjfdooaa
open Go.RowKit

theorem bst_join {l : List LBrk} {f m t x y : Int} (hx : BstP l f m x) (hy : BstP l (m + 1) t y) (h1 : f ≤ m) (h2 : m < t) :
    (0 ≤ y → (x < 0 ∨ ∀ p : y.toNat < l.length, ∀ q : x.toNat < l.length, l[y.toNat].rk ≤ l[x.toNat].rk) → BstP l f t y) ∧ ((y < 0 ∨ 0 ≤ x ∧ ∀ p : y.toNat < l.length, ∀ q : x.toNat < l.length, l[x.toNat].rk < l[y.toNat].rk) → BstP l f t x) := by
  constructor
  · intro h0 h3
    rcases hy with ⟨q1, -⟩ | ⟨k, k1, rfl, k3, k4, k5⟩
    · omega
    refine .inr ⟨k, k1, rfl, by omega, k4, fun i hi p1 p2 => ?_⟩
    by_cases e : m + 1 ≤ i
    · exact k5 i hi e p2
    · have hlt : ¬ k < i := by omega
      refine ⟨?_, fun q => absurd q hlt⟩
      rcases hx with ⟨q1, q2⟩ | ⟨j, j1, rfl, j3, j4, j5⟩
      · exact absurd ⟨p1, by omega⟩ (q2 i hi)
      · rcases h3 with h3 | h3
        · omega
        · have a := h3 (by simpa using k1) (by simpa using j1)
          simp only [Int.toNat_natCast] at a
          have b := (j5 i hi p1 (by omega)).1
          omega
  · intro h3
    rcases hx with ⟨q1, q2⟩ | ⟨j, j1, rfl, j3, j4, j5⟩
    · rcases hy with ⟨r1, r2⟩ | ⟨k, k1, rfl, k3, k4, k5⟩
      · refine .inl ⟨q1, fun i hi q => ?_⟩
        by_cases e : m + 1 ≤ i
        · exact r2 i hi ⟨e, q.2⟩
        · exact q2 i hi ⟨q.1, by omega⟩
      · omega
    · refine .inr ⟨j, j1, rfl, j3, by omega, fun i hi p1 p2 => ?_⟩
      by_cases e : m + 1 ≤ i
      · rcases hy with ⟨r1, r2⟩ | ⟨k, k1, rfl, k3, k4, k5⟩
        · exact absurd ⟨e, p2⟩ (r2 i hi)
        · have a := fun w => (h3.resolve_left w).2 (by simpa using k1) (by simpa using j1)
          have a := a (by omega)
          simp only [Int.toNat_natCast] at a
          have b := (k5 i hi e p2).1
          exact ⟨by omega, fun _ => by omega⟩
      · exact j5 i hi p1 (by omega)
theorem fst_join {l : List LBrk} {f m t x y : Int} (hx : FstP l f m x) (hy : FstP l (m + 1) t y) (h1 : f ≤ m) (h2 : m < t) : FstP l f t (if x < 0 then y else x) := by
  rcases hx with ⟨rfl, q2⟩ | ⟨j, j1, rfl, j3, j4, j5, j6⟩
  · rw [if_pos (by omega)]
    rcases hy with ⟨rfl, r2⟩ | ⟨k, k1, rfl, k3, k4, k5, k6⟩
    · refine .inl ⟨rfl, fun i hi p1 p2 => ?_⟩
      by_cases e : m + 1 ≤ i
      · exact r2 i hi e p2
      · exact q2 i hi p1 (by omega)
    · refine .inr ⟨k, k1, rfl, by omega, k4, k5, fun i hi p1 p2 => ?_⟩
      by_cases e : m + 1 ≤ i
      · exact k6 i hi e p2
      · exact q2 i hi p1 (by omega)
  · rw [if_neg (by omega)]
    exact .inr ⟨j, j1, rfl, j3, by omega, j5, j6⟩
set_option maxRecDepth 100000 in
set_option maxHeartbeats 8000000 in
theorem breaksFind_ok (b : List LBrk) (f t : Int) : FnOk Try.prog 12 [.sl 3 (b.map cBrk), .raw (.int .i64 f), .raw (.int .i64 t)] [] (.raw (.bool true)) [] := by
  refine fn_of_swp Try.func12 rfl (by kernel_rfl) (by kernel_rfl) (Nat.le_of_ble_eq_true rfl) Try.results12 ?_
  (refine swp_seqW ?_; simp only [go_sem, Bool.not_eq_true', Bool.not_eq_false'])
  (refine swp_seqW ?_; simp only [go_sem, Bool.not_eq_true', Bool.not_eq_false', List.length_map])
  refine ⟨fun h1 => ?_, fun h1 => ?_⟩
  · (refine acall2 [] (awake19_ok) (by simp only [go_sem, Bool.not_eq_true', Bool.not_eq_false']; rfl) (fit_of (by simp only [go_sem, Bool.not_eq_true', Bool.not_eq_false']) (by simp only [go_sem, Bool.not_eq_true', Bool.not_eq_false']) (by simp only [go_sem, Bool.not_eq_true', Bool.not_eq_false']) (by simp only [go_sem, Bool.not_eq_true', Bool.not_eq_false']) (by simp only [go_sem, Bool.not_eq_true', Bool.not_eq_false']) (by simp only [go_sem, Bool.not_eq_true', Bool.not_eq_false']) (by simp only [go_sem, Bool.not_eq_true', Bool.not_eq_false'])) ?_; simp only [go_sem, Bool.not_eq_true', Bool.not_eq_false'])
  have hl : b.length ≤ 300 := by omega
  refine swp_cutS (fun _ : Unit => ⟨[(0, .sl 3 (b.map cBrk)), (1, .raw (.int .i64 f)), (2, .raw (.int .i64 t)), (7, .sl 3 (b.map cBrk))], [], none⟩) (fun _ => True) 3 ?_ ?_
  · (refine swp_lastW ?_; simp only [go_sem, Bool.not_eq_true', Bool.not_eq_false', List.length_map])
    refine ⟨⟨by omega, by omega⟩, ?_⟩
    (refine cut_end [56 ] ( ()) (by simp only [go_sem, Bool.not_eq_true', Bool.not_eq_false']; rfl) ?_ ?_; (focus (simp only [go_sem, Bool.not_eq_true', Bool.not_eq_false']; done)))
    trivial
  rintro - -
  (refine swp_lastW ?_; simp only [go_sem, Bool.not_eq_true', Bool.not_eq_false'])
  (refine acall2 [] (may_ok b (by omega)) (by simp only [go_sem, Bool.not_eq_true', Bool.not_eq_false']; rfl) (fit_of (by simp only [go_sem, Bool.not_eq_true', Bool.not_eq_false']) (by simp only [go_sem, Bool.not_eq_true', Bool.not_eq_false']) (by simp only [go_sem, Bool.not_eq_true', Bool.not_eq_false']) (by simp only [go_sem, Bool.not_eq_true', Bool.not_eq_false']) (by simp only [go_sem, Bool.not_eq_true', Bool.not_eq_false']) (by simp only [go_sem, Bool.not_eq_true', Bool.not_eq_false']) (by simp only [go_sem, Bool.not_eq_true', Bool.not_eq_false'])) ?_; simp only [go_sem, Bool.not_eq_true', Bool.not_eq_false'])
  (refine acall2 [] (rmay19_ok b (by omega)) (by simp only [go_sem, Bool.not_eq_true', Bool.not_eq_false']; rfl) (fit_of (by simp only [go_sem, Bool.not_eq_true', Bool.not_eq_false']) (by simp only [go_sem, Bool.not_eq_true', Bool.not_eq_false']) (by simp only [go_sem, Bool.not_eq_true', Bool.not_eq_false']) (by simp only [go_sem, Bool.not_eq_true', Bool.not_eq_false']) (by simp only [go_sem, Bool.not_eq_true', Bool.not_eq_false']) (by simp only [go_sem, Bool.not_eq_true', Bool.not_eq_false']) (by simp only [go_sem, Bool.not_eq_true', Bool.not_eq_false'])) ?_; simp only [go_sem, Bool.not_eq_true', Bool.not_eq_false'])
  repeat' first | contradiction | intro _ | refine And.intro ?_ ?_ | refine ex_get (by omega) ?_ | (show drawB _ _ = true; kernel_rfl) | (refine ret2 [] (by simp only [go_sem, Bool.not_eq_true', Bool.not_eq_false']; rfl) ?_; simp only [go_sem, Bool.not_eq_true', Bool.not_eq_false']) | (refine acall2 [] (first_ok b f t hl) (by simp only [go_sem, Bool.not_eq_true', Bool.not_eq_false']; rfl) (fit_of (by simp only [go_sem, Bool.not_eq_true', Bool.not_eq_false']) (by simp only [go_sem, Bool.not_eq_true', Bool.not_eq_false']) (by simp only [go_sem, Bool.not_eq_true', Bool.not_eq_false']) (by simp only [go_sem, Bool.not_eq_true', Bool.not_eq_false']) (by simp only [go_sem, Bool.not_eq_true', Bool.not_eq_false']) (by simp only [go_sem, Bool.not_eq_true', Bool.not_eq_false']) (by simp only [go_sem, Bool.not_eq_true', Bool.not_eq_false'])) ?_; simp only [go_sem, Bool.not_eq_true', Bool.not_eq_false']) | (refine acall2 [] (rfirst19_ok b f t (by omega)) (by simp only [go_sem, Bool.not_eq_true', Bool.not_eq_false']; rfl) (fit_of (by simp only [go_sem, Bool.not_eq_true', Bool.not_eq_false']) (by simp only [go_sem, Bool.not_eq_true', Bool.not_eq_false']) (by simp only [go_sem, Bool.not_eq_true', Bool.not_eq_false']) (by simp only [go_sem, Bool.not_eq_true', Bool.not_eq_false']) (by simp only [go_sem, Bool.not_eq_true', Bool.not_eq_false']) (by simp only [go_sem, Bool.not_eq_true', Bool.not_eq_false']) (by simp only [go_sem, Bool.not_eq_true', Bool.not_eq_false'])) ?_; simp only [go_sem, Bool.not_eq_true', Bool.not_eq_false']) | (refine acall2 [] (best_ok b f t hl) (by simp only [go_sem, Bool.not_eq_true', Bool.not_eq_false']; rfl) (fit_of (by simp only [go_sem, Bool.not_eq_true', Bool.not_eq_false']) (by simp only [go_sem, Bool.not_eq_true', Bool.not_eq_false']) (by simp only [go_sem, Bool.not_eq_true', Bool.not_eq_false']) (by simp only [go_sem, Bool.not_eq_true', Bool.not_eq_false']) (by simp only [go_sem, Bool.not_eq_true', Bool.not_eq_false']) (by simp only [go_sem, Bool.not_eq_true', Bool.not_eq_false']) (by simp only [go_sem, Bool.not_eq_true', Bool.not_eq_false'])) ?_; simp only [go_sem, Bool.not_eq_true', Bool.not_eq_false']) | (refine acall2 [] (rbest19_ok b f t (by omega)) (by simp only [go_sem, Bool.not_eq_true', Bool.not_eq_false']; rfl) (fit_of (by simp only [go_sem, Bool.not_eq_true', Bool.not_eq_false']) (by simp only [go_sem, Bool.not_eq_true', Bool.not_eq_false']) (by simp only [go_sem, Bool.not_eq_true', Bool.not_eq_false']) (by simp only [go_sem, Bool.not_eq_true', Bool.not_eq_false']) (by simp only [go_sem, Bool.not_eq_true', Bool.not_eq_false']) (by simp only [go_sem, Bool.not_eq_true', Bool.not_eq_false']) (by simp only [go_sem, Bool.not_eq_true', Bool.not_eq_false'])) ?_; simp only [go_sem, Bool.not_eq_true', Bool.not_eq_false']) | (refine acall2 [] (same19_ok b b (by omega) (by omega)) (by simp only [go_sem, Bool.not_eq_true', Bool.not_eq_false']; rfl) (fit_of (by simp only [go_sem, Bool.not_eq_true', Bool.not_eq_false']) (by simp only [go_sem, Bool.not_eq_true', Bool.not_eq_false']) (by simp only [go_sem, Bool.not_eq_true', Bool.not_eq_false']) (by simp only [go_sem, Bool.not_eq_true', Bool.not_eq_false']) (by simp only [go_sem, Bool.not_eq_true', Bool.not_eq_false']) (by simp only [go_sem, Bool.not_eq_true', Bool.not_eq_false']) (by simp only [go_sem, Bool.not_eq_true', Bool.not_eq_false'])) ?_; simp only [go_sem, Bool.not_eq_true', Bool.not_eq_false']) | (refine acall2 [] (awake19_ok) (by simp only [go_sem, Bool.not_eq_true', Bool.not_eq_false']; rfl) (fit_of (by simp only [go_sem, Bool.not_eq_true', Bool.not_eq_false']) (by simp only [go_sem, Bool.not_eq_true', Bool.not_eq_false']) (by simp only [go_sem, Bool.not_eq_true', Bool.not_eq_false']) (by simp only [go_sem, Bool.not_eq_true', Bool.not_eq_false']) (by simp only [go_sem, Bool.not_eq_true', Bool.not_eq_false']) (by simp only [go_sem, Bool.not_eq_true', Bool.not_eq_false']) (by simp only [go_sem, Bool.not_eq_true', Bool.not_eq_false'])) ?_; simp only [go_sem, Bool.not_eq_true', Bool.not_eq_false'])
  all_goals first
    | omega
    | (simp at *; done)
    | skip
set_option maxRecDepth 100000 in
set_option maxHeartbeats 8000000 in
theorem breaksParts_ok (b : List LBrk) (f m t : Int) (hf : -9223372036854775808 ≤ f ∧ f ≤ 9223372036854775807) (ht : -9223372036854775808 ≤ t ∧ t ≤ 9223372036854775807) : FnOk Try.prog 14 [.sl 3 (b.map cBrk), .raw (.int .i64 f), .raw (.int .i64 m), .raw (.int .i64 t)] [] (.raw (.bool true)) [] := by
  refine fn_of_swp Try.func14 rfl (by kernel_rfl) (by kernel_rfl) (Nat.le_of_ble_eq_true rfl) Try.results14 ?_
  (refine swp_seqW ?_; simp only [go_sem, Bool.not_eq_true', Bool.not_eq_false'])
  refine swp_cutS (fun _ : Unit => ⟨[(0, .sl 3 (b.map cBrk)), (1, .raw (.int .i64 f)), (2, .raw (.int .i64 m)), (3, .raw (.int .i64 t))], [], none⟩) (fun _ => b.length ≤ 300 ∧ f ≤ m ∧ m < t) 3 ?_ ?_
  · (refine swp_lastW ?_; simp only [go_sem, Bool.not_eq_true', Bool.not_eq_false', List.length_map])
    repeat' first | contradiction | intro _ | refine And.intro ?_ ?_ | refine ex_get (by omega) ?_ | (show drawB _ _ = true; kernel_rfl) | (refine ret2 [] (by simp only [go_sem, Bool.not_eq_true', Bool.not_eq_false']; rfl) ?_; simp only [go_sem, Bool.not_eq_true', Bool.not_eq_false']) | (refine acall2 [] (awake19_ok) (by simp only [go_sem, Bool.not_eq_true', Bool.not_eq_false']; rfl) (fit_of (by simp only [go_sem, Bool.not_eq_true', Bool.not_eq_false']) (by simp only [go_sem, Bool.not_eq_true', Bool.not_eq_false']) (by simp only [go_sem, Bool.not_eq_true', Bool.not_eq_false']) (by simp only [go_sem, Bool.not_eq_true', Bool.not_eq_false']) (by simp only [go_sem, Bool.not_eq_true', Bool.not_eq_false']) (by simp only [go_sem, Bool.not_eq_true', Bool.not_eq_false']) (by simp only [go_sem, Bool.not_eq_true', Bool.not_eq_false'])) ?_; simp only [go_sem, Bool.not_eq_true', Bool.not_eq_false'])
    all_goals first
      | omega
      | ((refine cut_end [] (()) (by simp only [go_sem, Bool.not_eq_true', Bool.not_eq_false']; rfl) ?_ ?_; (focus (simp only [go_sem, Bool.not_eq_true', Bool.not_eq_false']; done)))
         omega)
      | skip
  rintro - ⟨hl, h1, h2⟩
  have hx := bst_p b f m
  have hy := bst_p b (m + 1) t
  have hz := bst_p b f t
  have fx := fst_p b f m
  have fy := fst_p b (m + 1) t
  have fz := fst_p b f t
  have cx := best_ok b f m hl
  have cy := best_ok b (m + 1) t hl
  have cz := best_ok b f t hl
  have dx := first_ok b f m hl
  have dy := first_ok b (m + 1) t hl
  have dz := first_ok b f t hl
  generalize (bstB b f m).out.at_ = x at hx cx
  generalize (bstB b (m + 1) t).out.at_ = y at hy cy
  generalize (bstB b f t).out.at_ = z at hz cz
  generalize (fstB b f m).out.at_ = u at fx dx
  generalize (fstB b (m + 1) t).out.at_ = v at fy dy
  generalize (fstB b f t).out.at_ = w at fz dz
  obtain ⟨j1, j2⟩ := bst_join hx hy h1 h2
  have j3 := fst_join fx fy h1 h2
  have j4 := FstP.uniq fz j3
  have k1 : 0 ≤ y → x < 0 → z = y := fun p q => BstP.uniq hz (j1 p (.inl q))
  have k2 : 0 ≤ y → ∀ (p : y.toNat < b.length) (q : x.toNat < b.length), b[y.toNat].rk ≤ b[x.toNat].rk → z = y := fun p _ _ r => BstP.uniq hz (j1 p (.inr fun _ _ => r))
  have k3 : y < 0 → z = x := fun p => BstP.uniq hz (j2 (.inl p))
  have k4 : 0 ≤ x → ∀ (p : y.toNat < b.length) (q : x.toNat < b.length), ¬ b[y.toNat].rk ≤ b[x.toNat].rk → z = x := fun p _ _ r => BstP.uniq hz (j2 (.inr ⟨p, fun _ _ => by omega⟩))
  clear j1 j2
  have rx := hx.ran
  have ry := hy.ran
  have rz := hz.ran
  clear hx hy hz fx fy fz j3
  (refine swp_seqW ?_; simp only [go_sem, Bool.not_eq_true', Bool.not_eq_false'])
  (refine acall2 [] (cx) (by simp only [go_sem, Bool.not_eq_true', Bool.not_eq_false']; rfl) (fit_of (by simp only [go_sem, Bool.not_eq_true', Bool.not_eq_false']) (by simp only [go_sem, Bool.not_eq_true', Bool.not_eq_false']) (by simp only [go_sem, Bool.not_eq_true', Bool.not_eq_false']) (by simp only [go_sem, Bool.not_eq_true', Bool.not_eq_false']) (by simp only [go_sem, Bool.not_eq_true', Bool.not_eq_false']) (by simp only [go_sem, Bool.not_eq_true', Bool.not_eq_false']) (by simp only [go_sem, Bool.not_eq_true', Bool.not_eq_false'])) ?_; simp only [go_sem, Bool.not_eq_true', Bool.not_eq_false'])
  refine ⟨by omega, ?_⟩
  (refine acall2 [] (cy) (by simp only [go_sem, Bool.not_eq_true', Bool.not_eq_false']; rfl) (fit_of (by simp only [go_sem, Bool.not_eq_true', Bool.not_eq_false']) (by simp only [go_sem, Bool.not_eq_true', Bool.not_eq_false']) (by simp only [go_sem, Bool.not_eq_true', Bool.not_eq_false']) (by simp only [go_sem, Bool.not_eq_true', Bool.not_eq_false']) (by simp only [go_sem, Bool.not_eq_true', Bool.not_eq_false']) (by simp only [go_sem, Bool.not_eq_true', Bool.not_eq_false']) (by simp only [go_sem, Bool.not_eq_true', Bool.not_eq_false'])) ?_; simp only [go_sem, Bool.not_eq_true', Bool.not_eq_false'])
  (refine acall2 [] (cz) (by simp only [go_sem, Bool.not_eq_true', Bool.not_eq_false']; rfl) (fit_of (by simp only [go_sem, Bool.not_eq_true', Bool.not_eq_false']) (by simp only [go_sem, Bool.not_eq_true', Bool.not_eq_false']) (by simp only [go_sem, Bool.not_eq_true', Bool.not_eq_false']) (by simp only [go_sem, Bool.not_eq_true', Bool.not_eq_false']) (by simp only [go_sem, Bool.not_eq_true', Bool.not_eq_false']) (by simp only [go_sem, Bool.not_eq_true', Bool.not_eq_false']) (by simp only [go_sem, Bool.not_eq_true', Bool.not_eq_false'])) ?_; simp only [go_sem, Bool.not_eq_true', Bool.not_eq_false'])
  (refine swp_seqW ?_; simp only [go_sem, Bool.not_eq_true', Bool.not_eq_false', List.length_map])
  refine swp_cutS (fun _ : Unit => ⟨[(0, .sl 3 (b.map cBrk)), (1, .raw (.int .i64 f)), (2, .raw (.int .i64 m)), (3, .raw (.int .i64 t)), (9, .raw (.int .i64 x)), (10, .raw (.int .i64 y)), (11, .raw (.int .i64 z)), (12, .raw (.int .i64 b.length))], [], none⟩) (fun _ => True) 3 ?_ ?_
  · (refine swp_lastW ?_; simp only [go_sem, Bool.not_eq_true', Bool.not_eq_false'])
    repeat' first | contradiction | intro _ | refine And.intro ?_ ?_ | refine ex_get (by omega) ?_ | (show drawB _ _ = true; kernel_rfl) | (refine ret2 [] (by simp only [go_sem, Bool.not_eq_true', Bool.not_eq_false']; rfl) ?_; simp only [go_sem, Bool.not_eq_true', Bool.not_eq_false'])
    all_goals first
      | omega
      | ((refine cut_end [] (()) (by simp only [go_sem, Bool.not_eq_true', Bool.not_eq_false']; rfl) ?_ ?_; (focus (simp only [go_sem, Bool.not_eq_true', Bool.not_eq_false']; done)))
         trivial)
      | skip
  rintro - -
  (refine swp_seqW ?_; simp only [go_sem, Bool.not_eq_true', Bool.not_eq_false'])
  refine swp_cutS (fun _ : Unit => ⟨[(0, .sl 3 (b.map cBrk)), (1, .raw (.int .i64 f)), (2, .raw (.int .i64 m)), (3, .raw (.int .i64 t)), (11, .raw (.int .i64 z)), (13, .raw (.int .i64 z))], [], none⟩) (fun _ => True) 3 ?_ ?_
  · (refine swp_lastW ?_; simp only [go_sem, Bool.not_eq_true', Bool.not_eq_false', List.length_map])
    repeat' first | contradiction | intro _ | refine And.intro ?_ ?_ | refine ex_get (by omega) ?_ | (show drawB _ _ = true; kernel_rfl) | (refine ret2 [] (by simp only [go_sem, Bool.not_eq_true', Bool.not_eq_false']; rfl) ?_; simp only [go_sem, Bool.not_eq_true', Bool.not_eq_false'])
    all_goals first
      | omega
      | (refine (fun (e : z = y) => ?_) (?_ : z = y)
         rotate_left
         · first
             | (apply k1 <;> omega)
             | (apply k2 <;> first | omega | assumption)
         subst e
         (refine cut_end [] (()) (by simp only [go_sem, Bool.not_eq_true', Bool.not_eq_false']; rfl) ?_ ?_; (focus (simp only [go_sem, Bool.not_eq_true', Bool.not_eq_false']; done)))
         trivial)
      | (refine (fun (e : z = x) => ?_) (?_ : z = x)
         rotate_left
         · first
             | (apply k3 <;> omega)
             | (apply k4 <;> first | omega | assumption)
         subst e
         (refine cut_end [] (()) (by simp only [go_sem, Bool.not_eq_true', Bool.not_eq_false']; rfl) ?_ ?_; (focus (simp only [go_sem, Bool.not_eq_true', Bool.not_eq_false']; done)))
         trivial)
      | skip
  rintro - -
  clear k1 k2 k3 k4
  (refine swp_seqW ?_; simp only [go_sem, Bool.not_eq_true', Bool.not_eq_false'])
  (refine acall2 [] (dx) (by simp only [go_sem, Bool.not_eq_true', Bool.not_eq_false']; rfl) (fit_of (by simp only [go_sem, Bool.not_eq_true', Bool.not_eq_false']) (by simp only [go_sem, Bool.not_eq_true', Bool.not_eq_false']) (by simp only [go_sem, Bool.not_eq_true', Bool.not_eq_false']) (by simp only [go_sem, Bool.not_eq_true', Bool.not_eq_false']) (by simp only [go_sem, Bool.not_eq_true', Bool.not_eq_false']) (by simp only [go_sem, Bool.not_eq_true', Bool.not_eq_false']) (by simp only [go_sem, Bool.not_eq_true', Bool.not_eq_false'])) ?_; simp only [go_sem, Bool.not_eq_true', Bool.not_eq_false'])
  refine swp_cutS (fun _ : Unit => ⟨[(0, .sl 3 (b.map cBrk)), (1, .raw (.int .i64 f)), (3, .raw (.int .i64 t)), (11, .raw (.int .i64 z)), (13, .raw (.int .i64 z)), (14, .raw (.int .i64 w))], [], none⟩) (fun _ => True) 3 ?_ ?_
  · (refine swp_lastW ?_; simp only [go_sem, Bool.not_eq_true', Bool.not_eq_false'])
    refine ⟨fun q => ⟨by omega, ?_⟩, fun q => ?_⟩
    · (refine acall2 [] (dy) (by simp only [go_sem, Bool.not_eq_true', Bool.not_eq_false']; rfl) (fit_of (by simp only [go_sem, Bool.not_eq_true', Bool.not_eq_false']) (by simp only [go_sem, Bool.not_eq_true', Bool.not_eq_false']) (by simp only [go_sem, Bool.not_eq_true', Bool.not_eq_false']) (by simp only [go_sem, Bool.not_eq_true', Bool.not_eq_false']) (by simp only [go_sem, Bool.not_eq_true', Bool.not_eq_false']) (by simp only [go_sem, Bool.not_eq_true', Bool.not_eq_false']) (by simp only [go_sem, Bool.not_eq_true', Bool.not_eq_false'])) ?_; simp only [go_sem, Bool.not_eq_true', Bool.not_eq_false'])
      rw [if_pos q] at j4
      subst j4
      (refine cut_end [] (()) (by simp only [go_sem, Bool.not_eq_true', Bool.not_eq_false']; rfl) ?_ ?_; (focus (simp only [go_sem, Bool.not_eq_true', Bool.not_eq_false']; done)))
      trivial
    · rw [if_neg q] at j4
      subst j4
      (refine cut_end [] (()) (by simp only [go_sem, Bool.not_eq_true', Bool.not_eq_false']; rfl) ?_ ?_; (focus (simp only [go_sem, Bool.not_eq_true', Bool.not_eq_false']; done)))
      trivial
  rintro - -
  (refine swp_lastW ?_; simp only [go_sem, Bool.not_eq_true', Bool.not_eq_false'])
  repeat' first | contradiction | intro _ | refine And.intro ?_ ?_ | refine ex_get (by omega) ?_ | (show drawB _ _ = true; kernel_rfl) | (refine ret2 [] (by simp only [go_sem, Bool.not_eq_true', Bool.not_eq_false']; rfl) ?_; simp only [go_sem, Bool.not_eq_true', Bool.not_eq_false']) | (refine acall2 [] (dz) (by simp only [go_sem, Bool.not_eq_true', Bool.not_eq_false']; rfl) (fit_of (by simp only [go_sem, Bool.not_eq_true', Bool.not_eq_false']) (by simp only [go_sem, Bool.not_eq_true', Bool.not_eq_false']) (by simp only [go_sem, Bool.not_eq_true', Bool.not_eq_false']) (by simp only [go_sem, Bool.not_eq_true', Bool.not_eq_false']) (by simp only [go_sem, Bool.not_eq_true', Bool.not_eq_false']) (by simp only [go_sem, Bool.not_eq_true', Bool.not_eq_false']) (by simp only [go_sem, Bool.not_eq_true', Bool.not_eq_false'])) ?_; simp only [go_sem, Bool.not_eq_true', Bool.not_eq_false']) | (refine acall2 [] (awake19_ok) (by simp only [go_sem, Bool.not_eq_true', Bool.not_eq_false']; rfl) (fit_of (by simp only [go_sem, Bool.not_eq_true', Bool.not_eq_false']) (by simp only [go_sem, Bool.not_eq_true', Bool.not_eq_false']) (by simp only [go_sem, Bool.not_eq_true', Bool.not_eq_false']) (by simp only [go_sem, Bool.not_eq_true', Bool.not_eq_false']) (by simp only [go_sem, Bool.not_eq_true', Bool.not_eq_false']) (by simp only [go_sem, Bool.not_eq_true', Bool.not_eq_false']) (by simp only [go_sem, Bool.not_eq_true', Bool.not_eq_false'])) ?_; simp only [go_sem, Bool.not_eq_true', Bool.not_eq_false'])
  all_goals first
    | omega
    | skip
end Go.Proofs.Ytbgcmnccjfdooaa
/- NODES as arguments. -/
/- G -/
set_option linter.unusedSimpArgs false
set_option linter.unusedVariables false
namespace Go.Proofs.Ytbgcmnccjfdooaa
set_option maxRecDepth 100000
open Go.ChangeShapes Go.WideShapes Go.ChangeAt Go.RowKit Go.Deep

theorem open_st : OpenT Try.prog 43 (fun s : LSty => [.raw (.int .i64 s.top), .raw (.int .i64 s.bottom), .raw (.int .i64 s.padTop), .raw (.int .i64 s.padBottom), .raw (.int .i64 s.inset), .raw (.int .i64 s.orphans), .raw (.int .i64 s.widows), .raw (.int .i64 s.head), .raw (.int .i64 s.before), .raw (.int .i64 s.after), .raw (.int .i64 s.inside), .raw (.int .i64 s.clear)]) (fun _ => True) := ⟨fun {H enc w fuel cs y} h => by
  obtain ⟨ys, n, -, -, hlen, hyl, hg⟩ := DataW.trod_struct Try.underlying43 h
  have hcs : cs.length = 12 := hlen.trans (by kernel_rfl)
  obtain ⟨z0, c0, i0⟩ := fld hg hyl 0 1 (open_i Try.underlying3) 0 rfl rfl rfl (by kernel_rfl)
  obtain ⟨z1, c1, i1⟩ := fld hg hyl 1 1 (open_i Try.underlying3) 1 rfl rfl rfl (by kernel_rfl)
  obtain ⟨z2, c2, i2⟩ := fld hg hyl 2 1 (open_i Try.underlying3) 2 rfl rfl rfl (by kernel_rfl)
  obtain ⟨z3, c3, i3⟩ := fld hg hyl 3 1 (open_i Try.underlying3) 3 rfl rfl rfl (by kernel_rfl)
  obtain ⟨z4, c4, i4⟩ := fld hg hyl 4 1 (open_i Try.underlying3) 4 rfl rfl rfl (by kernel_rfl)
  obtain ⟨z5, c5, i5⟩ := fld hg hyl 5 1 (open_i Try.underlying3) 5 rfl rfl rfl (by kernel_rfl)
  obtain ⟨z6, c6, i6⟩ := fld hg hyl 6 1 (open_i Try.underlying3) 6 rfl rfl rfl (by kernel_rfl)
  obtain ⟨z7, c7, i7⟩ := fld hg hyl 7 1 (open_i Try.underlying3) 7 rfl rfl rfl (by kernel_rfl)
  obtain ⟨z8, c8, i8⟩ := fld hg hyl 8 1 (open_i Try.underlying3) 8 rfl rfl rfl (by kernel_rfl)
  obtain ⟨z9, c9, i9⟩ := fld hg hyl 9 1 (open_i Try.underlying3) 9 rfl rfl rfl (by kernel_rfl)
  obtain ⟨z10, c10, i10⟩ := fld hg hyl 10 1 (open_i Try.underlying3) 10 rfl rfl rfl (by kernel_rfl)
  obtain ⟨z11, c11, i11⟩ := fld hg hyl 11 1 (open_i Try.underlying3) 11 rfl rfl rfl (by kernel_rfl)
  exact ⟨⟨z0, z1, z2, z3, z4, z5, z6, z7, z8, z9, z10, z11⟩, cr_all hcs (cr_app c0 (cr_app c1 (cr_app c2 (cr_app c3 (cr_app c4 (cr_app c5 (cr_app c6 (cr_app c7 (cr_app c8 (cr_app c9 (cr_app c10 c11))))))))))), trivial⟩⟩
theorem open_no : OpenT Try.prog 45 cNo (fun x : LNo => x.words.length ≤ 9223372036854775807) := ⟨fun {H enc w fuel cs y} h => by
  obtain ⟨ys, n, -, -, hlen, hyl, hg⟩ := DataW.trod_struct Try.underlying45 h
  have hcs : cs.length = 20 := hlen.trans (by kernel_rfl)
  obtain ⟨z0, c0, i0⟩ := fld hg hyl 0 1 (open_i Try.underlying3) 0 rfl rfl rfl (by kernel_rfl)
  obtain ⟨z1, c1, i1⟩ := fld hg hyl 1 1 (open_i Try.underlying3) 1 rfl rfl rfl (by kernel_rfl)
  obtain ⟨z2, c2, i2⟩ := fld hg hyl 2 12 open_st 2 rfl rfl rfl (by kernel_rfl)
  obtain ⟨z3, c3, i3⟩ := fld hg hyl 14 1 (open_i Try.underlying3) 3 rfl rfl rfl (by kernel_rfl)
  obtain ⟨z4, c4, i4⟩ := fld hg hyl 15 1 (open_i Try.underlying3) 4 rfl rfl rfl (by kernel_rfl)
  obtain ⟨z5, c5, i5⟩ := fld hg hyl 16 1 (open_sl Try.underlying23 (by kernel_rfl) (Nat.zero_lt_succ _) (fun _ => rfl) (open_i Try.underlying3)) 5 rfl rfl rfl (by kernel_rfl)
  obtain ⟨z6, c6, i6⟩ := fld hg hyl 17 1 (open_i Try.underlying3) 6 rfl rfl rfl (by kernel_rfl)
  obtain ⟨z7, c7, i7⟩ := fld hg hyl 18 1 (open_i Try.underlying3) 7 rfl rfl rfl (by kernel_rfl)
  obtain ⟨z8, c8, i8⟩ := fld hg hyl 19 1 (open_i Try.underlying3) 8 rfl rfl rfl (by kernel_rfl)
  exact ⟨⟨z0, z1, z2, z3, z4, z5, z6, z7, z8⟩, cr_all hcs (cr_app c0 (cr_app c1 (cr_app c2 (cr_app c3 (cr_app c4 (cr_app c5 (cr_app c6 (cr_app c7 c8)))))))), i5.1⟩⟩
theorem open_nos : OpenT Try.prog 22 (fun xs : List LNo => [.sl 20 (xs.map cNo)]) (fun xs => xs.length ≤ 9223372036854775807 ∧ ∀ x ∈ xs, (fun x : LNo => x.words.length ≤ 9223372036854775807) x) := open_sl Try.underlying22 (by kernel_rfl) (Nat.zero_lt_succ _) (fun _ => rfl) open_no
end Go.Proofs.Ytbgcmnccjfdooaa
/- CHAPTER 18: the document's answer. -/
/- G -/
/- BOOLS -/
set_option linter.unusedSimpArgs false
set_option linter.unusedVariables false
namespace Go.Proofs.Ytbgcmnccjfdooaa
open Go.RowKit

theorem kin_R {l : List LNo} {of : List Int} {k : Int} (hc : chkB l of = true) (hk : 0 ≤ k ∧ k ≤ of.length) : kinR l of k l.length = kinA l of k := by
  have hg : kinG l of k = true := by
    simp only [kinG, hc, Bool.true_and, Bool.and_eq_true, decide_eq_true_eq]
    exact hk
  rw [← kin_eq (chk_has hc).1 (chk_row hc)]
  simp [kinA, hg]
theorem cntA_end (of : List Int) (t : Int) (k : Nat) : ∀ j, k ≤ j → cntA of t k j = cntA of t k k
  | 0, h => by rw [Nat.le_zero.1 h]
  | j + 1, h => by
    rcases Nat.lt_or_eq_of_le h with q | q
    · rw [cntA, if_neg (by omega), cntA_end of t k j (by omega)]; rfl
    · rw [← q]
theorem cntB_beg (of : List Int) (t : Int) (k : Nat) : ∀ j, j ≤ k → cntB of t k j = 0
  | 0, _ => rfl
  | j + 1, h => by rw [cntB, if_neg (by omega), cntB_beg of t k j (by omega)]
set_option maxRecDepth 100000 in
set_option maxHeartbeats 4000000 in
theorem rlin_ok (l : List LNo) (of : List Int) (k : Int) (hl : l.length ≤ 1000) (ho : of.length ≤ 1000) (hk : 0 ≤ k ∧ k ≤ of.length) (hc : chkB l of = true) : FnOk Try.prog 44 [.sl 20 (l.map cNo), .sl 1 (of.map cInt), .raw (.int .i64 k)] [] (.tup [.raw (.int .i64 (linA of k (kinA l of k).text)), .raw (.int .i64 (linB of k (kinA l of k).text))]) [] := by
  refine fn_of_swp Try.func44 rfl (by kernel_rfl) (by kernel_rfl) (Nat.le_of_ble_eq_true rfl) Try.results44 ?_
  (refine swp_seqW ?_; simp only [go_sem, Bool.not_eq_true', Bool.not_eq_false'])
  (refine swp_seqW ?_; simp only [go_sem, Bool.not_eq_true', Bool.not_eq_false'])
  (refine acall2 [] (rat_ok l of k hl ho hk) (by simp only [go_sem, Bool.not_eq_true', Bool.not_eq_false']; rfl) (fit_of (by simp only [go_sem, Bool.not_eq_true', Bool.not_eq_false']) (by simp only [go_sem, Bool.not_eq_true', Bool.not_eq_false']) (by simp only [go_sem, Bool.not_eq_true', Bool.not_eq_false']) (by simp only [go_sem, Bool.not_eq_true', Bool.not_eq_false']) (by simp only [go_sem, Bool.not_eq_true', Bool.not_eq_false']) (by simp only [go_sem, Bool.not_eq_true', Bool.not_eq_false']) (by simp only [go_sem, Bool.not_eq_true', Bool.not_eq_false'])) ?_; simp only [go_sem, Bool.not_eq_true', Bool.not_eq_false'])
  rw [kin_R hc hk]
  generalize (kinA l of k).text = t
  (refine swp_seqW ?_; simp only [go_sem, Bool.not_eq_true', Bool.not_eq_false'])
  (refine swp_seqW ?_; simp only [go_sem, Bool.not_eq_true', Bool.not_eq_false'])
  refine ⟨fun h => ?_, fun h => ?_⟩
  · rw [linA, linB, if_pos h, if_pos h]
    exact ⟨rfl, rfl⟩
  obtain ⟨m, rfl⟩ : ∃ m : Nat, k = m := ⟨k.toNat, by omega⟩
  have hm : m ≤ of.length := by omega
  rw [linA, linB, if_neg h, if_neg h, cntA_end of t m of.length hm]
  refine swp_cutS (fun _ : Unit => ⟨[(1, .sl 1 (of.map cInt)), (2, .raw (.int .i64 m)), (8, .raw (.int .i64 t)), (9, .raw (.int .i64 (cntA of t m m))), (10, .raw (.int .i64 0))], [], none⟩) (fun _ => True) 60 ?_ ?_
  · (refine swp_seqW ?_; simp only [go_sem, Bool.not_eq_true', Bool.not_eq_false'])
    refine swp_block ?_
    refine swp_loop2 [] (fun z : KY Nat => ⟨[(1, .sl 1 (of.map cInt)), (2, .raw (.int .i64 m)), (8, .raw (.int .i64 t)), (9, .raw (.int .i64 z.o)), (10, .raw (.int .i64 0)), (11, .raw (.int .i64 z.k))], [], none⟩) (fun z => z.k ≤ m ∧ z.o = cntA of t m z.k) (fun z => m - z.k) 60 ⟨0, 0⟩ (by simp only [go_sem, Bool.not_eq_true', Bool.not_eq_false']; rfl) (by simp only [go_sem, Bool.not_eq_true', Bool.not_eq_false']) ?_ ?_
    · exact ⟨Nat.zero_le _, rfl⟩
    · rintro ⟨j, a⟩ ⟨j1, j2⟩
      simp only at j1 j2
      have ha := cntA_le of t m j
      (refine swp_lastW ?_; simp only [go_sem, Bool.not_eq_true', Bool.not_eq_false', List.length_map])
      refine ⟨fun h5 => ?_, fun h5 => ?_⟩
      · have hj : j < of.length := by omega
        have e0 : of.getD j 0 = of[j] := by simp [List.getD_eq_getElem?_getD, hj]
        have e1 : cntA of t m (j + 1) = a + if of[j] = t then 1 else 0 := by
          rw [cntA, e0, j2]
          congr 1
          have : (j : Int) < m := by omega
          simp [this]
        refine ⟨by omega, ex_get hj ?_⟩
        generalize of[j] = y at e1 ⊢
        clear e0
        have hjm : j + 1 ≤ m := by omega
        have hab : a ≤ 1000 := by omega
        clear j2
        repeat' first | contradiction | intro _ | refine And.intro ?_ ?_ | refine ex_get (by omega) ?_ | (show drawB _ _ = true; kernel_rfl) | (refine ret2 [] (by simp only [go_sem, Bool.not_eq_true', Bool.not_eq_false']; rfl) ?_; simp only [go_sem, Bool.not_eq_true', Bool.not_eq_false'])
        all_goals first
          | omega
          | ((refine loop_end [] (⟨j + 1, a⟩) (by simp only [go_sem, Bool.not_eq_true', Bool.not_eq_false']; rfl) ?_ ?_ ?_; (focus first | omega | (simp only; omega)); (focus (simp only [go_sem, Bool.not_eq_true', Bool.not_eq_false']; done)))
             exact ⟨hjm, by rw [e1]; simp [*]⟩)
          | ((refine loop_end [] (⟨j + 1, a + 1⟩) (by simp only [go_sem, Bool.not_eq_true', Bool.not_eq_false']; rfl) ?_ ?_ ?_; (focus first | omega | (simp only; omega)); (focus (simp only [go_sem, Bool.not_eq_true', Bool.not_eq_false']; done)))
             exact ⟨hjm, by rw [e1]; simp [*]⟩)
          | skip
      · have e : j = m := by omega
        rw [e] at j2
        rw [j2]
        (refine cut_end [] (()) (by simp only [go_sem, Bool.not_eq_true', Bool.not_eq_false']; rfl) ?_ ?_; (focus (simp only [go_sem, Bool.not_eq_true', Bool.not_eq_false']; done)))
        trivial
  rintro - -
  have hca := cntA_le of t m m
  generalize cntA of t m m = ca at hca ⊢
  (refine swp_seqW ?_; simp only [go_sem, Bool.not_eq_true', Bool.not_eq_false'])
  refine aloop2 [] (fun z : KY Nat => ⟨[(1, .sl 1 (of.map cInt)), (8, .raw (.int .i64 t)), (9, .raw (.int .i64 ca)), (10, .raw (.int .i64 z.o)), (12, .raw (.int .i64 z.k))], [], none⟩) (fun z => z.k ≤ of.length ∧ m ≤ z.k ∧ z.o = cntB of t m z.k) (fun z => of.length - z.k) 100 ⟨m, 0⟩ (by simp only [go_sem, Bool.not_eq_true', Bool.not_eq_false']; rfl) (by simp only [go_sem, Bool.not_eq_true', Bool.not_eq_false']) ?_ ?_
  · exact ⟨hm, Nat.le_refl _, (cntB_beg of t m m (Nat.le_refl _)).symm⟩
  · rintro ⟨j, b⟩ ⟨j1, jm, j2⟩
    simp only at j1 jm j2
    have hb := cntB_le of t m j
    simp only [go_sem, Bool.not_eq_true', Bool.not_eq_false', List.length_map]
    refine ⟨fun h5 => ?_, fun h5 => ?_⟩
    · have hj : j < of.length := by omega
      have e0 : of.getD j 0 = of[j] := by simp [List.getD_eq_getElem?_getD, hj]
      have e1 : cntB of t m (j + 1) = b + if of[j] = t then 1 else 0 := by
        rw [cntB, e0, j2]
        congr 1
        have : ¬ (j : Int) < m := by omega
        simp only [this, not_false_eq_true, and_true]
      refine ⟨by omega, ex_get hj ?_⟩
      generalize of[j] = y at e1 ⊢
      have hab : b ≤ 1000 := by omega
      clear e0 j2
      have hjm : m ≤ j + 1 := by omega
      repeat' first | contradiction | intro _ | refine And.intro ?_ ?_ | refine ex_get (by omega) ?_ | (show drawB _ _ = true; kernel_rfl) | (refine ret2 [] (by simp only [go_sem, Bool.not_eq_true', Bool.not_eq_false']; rfl) ?_; simp only [go_sem, Bool.not_eq_true', Bool.not_eq_false'])
      all_goals first
        | omega
        | ((refine loop_end [] (⟨j + 1, b⟩) (by simp only [go_sem, Bool.not_eq_true', Bool.not_eq_false']; rfl) ?_ ?_ ?_; (focus first | omega | (simp only; omega)); (focus (simp only [go_sem, Bool.not_eq_true', Bool.not_eq_false']; done)))
           exact ⟨hj, hjm, by rw [e1]; simp [*]⟩)
        | ((refine loop_end [] (⟨j + 1, b + 1⟩) (by simp only [go_sem, Bool.not_eq_true', Bool.not_eq_false']; rfl) ?_ ?_ ?_; (focus first | omega | (simp only; omega)); (focus (simp only [go_sem, Bool.not_eq_true', Bool.not_eq_false']; done)))
           exact ⟨hj, hjm, by rw [e1]; simp [*]⟩)
        | skip
    · have e : j = of.length := by omega
      rw [← e, ← j2]
      (refine swp_lastW ?_; simp only [go_sem, Bool.not_eq_true', Bool.not_eq_false'])
end Go.Proofs.Ytbgcmnccjfdooaa
/- CHAPTER 17: the plain law of ForcedHeads. -/
/- G -/
/- BOOLS -/
set_option linter.unusedSimpArgs false
set_option linter.unusedVariables false
namespace Go.Proofs.Ytbgcmnccjfdooaa
open Go.RowKit

theorem frc_ran : ∀ (r : List Int) (o : Int), (o = 0 ∨ o = 2 ∨ o = 3 ∨ o = 4) → (r.foldl frcT o = 0 ∨ r.foldl frcT o = 2 ∨ r.foldl frcT o = 3 ∨ r.foldl frcT o = 4)
  | [], _, h => h
  | x :: r, o, h => by
    rw [List.foldl_cons]
    apply frc_ran r
    unfold frcT
    split
    · omega
    · split <;> omega
theorem frc_mem : ∀ (r : List Int) (o : Int), r.foldl frcT o = o ∨ r.foldl frcT o ∈ r
  | [], _ => .inl rfl
  | x :: r, o => by
    rw [List.foldl_cons]
    rcases frc_mem r (frcT o x) with h | h
    · rw [h]
      unfold frcT
      split
      · exact .inr List.mem_cons_self
      · split
        · next q => exact .inr (List.mem_cons.2 (.inl q.1.symm))
        · exact .inl rfl
    · exact .inr (List.mem_cons_of_mem _ h)
theorem frc_ne : ∀ (r : List Int) (o : Int), o ≠ 0 → r.foldl frcT o ≠ 0
  | [], _, h => h
  | x :: r, o, h => by
    rw [List.foldl_cons]
    apply frc_ne r
    unfold frcT
    split
    · omega
    · split <;> omega
theorem frcS_two : ∀ (r : List Int), 2 ∈ r → ∀ o, r.foldl frcT o ≠ 0
  | [], h, _ => by cases h
  | x :: r, h, o => by
    rw [List.foldl_cons]
    rcases List.mem_cons.1 h with q | q
    · apply frc_ne
      unfold frcT
      split
      · omega
      · split <;> omega
    · exact frcS_two r q _
theorem abv_hol {l : List LNo} (h : isS l = true) {a x : Int} (hx : x ∈ abvN l a) : holN l x a = true := by
  rw [abv_eq h, abvR] at hx
  split at hx
  · next q =>
    obtain ⟨m, rfl, h1, h2⟩ := (abvD_mem l a _ x).1 hx
    have q2 := hasN_iff.1 q
    have e1 : hasN l m = true := hasN_iff.2 (by omega)
    simp only [holN, q, e1, Bool.true_and, Bool.and_eq_true, decide_eq_true_eq, Int.toNat_natCast]
    omega
  · cases hx
theorem kin_text {l : List LNo} {of : List Int} {k : Int} (hc : chkB l of = true) (hk : 0 ≤ k ∧ k ≤ of.length) (ht : 0 ≤ (kinA l of k).text) : (kinA l of k).ends = [] ∧ (kinA l of k).begins = [] := by
  have hv := (chk_has hc).1
  have e : kinA l of k = kinS l of k := by unfold kinA; rw [if_pos (kinG_chk hc hk)]
  rw [e] at ht ⊢
  simp only [kinS] at ht ⊢
  unfold txtK at ht
  split at ht
  · next q =>
    obtain ⟨q1, q2, q3⟩ := q
    constructor
    · unfold choS
      split
      · rw [List.filter_eq_nil_iff]
        intro b hb
        have := abv_hol hv hb
        rw [← q3] at this
        have e2 : hldK l of b k = true := by simp only [hldK, this, Bool.and_true, Bool.and_eq_true, decide_eq_true_eq]; omega
        simp [e2]
      · rfl
    · unfold choS
      split
      · rw [List.reverse_eq_nil_iff, List.filter_eq_nil_iff]
        intro b hb
        have := abv_hol hv hb
        rw [q3] at this
        have e2 : hldK l of b (k - 1) = true := by simp only [hldK, this, Bool.and_true, Bool.and_eq_true, decide_eq_true_eq]; omega
        simp [e2]
      · rfl
  · omega
theorem ask_mem {l : List LNo} {x : LKin} {y : Int} : y ∈ askL l x ↔ (∃ b ∈ x.ends, (styN l b).after = y) ∨ (∃ b ∈ x.begins, (0 < (styN l b).head ∧ y = 2) ∨ (styN l b).before = y) := by
  simp only [askL, List.mem_append, List.mem_map, List.mem_flatMap]
  constructor
  · rintro (h | ⟨b, hb, h⟩)
    · exact .inl h
    · refine .inr ⟨b, hb, ?_⟩
      unfold begA at h
      split at h
      · next q =>
        rcases List.mem_cons.1 h with h | h
        · exact .inl ⟨q, h⟩
        · exact .inr (List.mem_singleton.1 h).symm
      · exact .inr (List.mem_singleton.1 h).symm
  · rintro (h | ⟨b, hb, h⟩)
    · exact .inl h
    · refine .inr ⟨b, hb, ?_⟩
      unfold begA
      rcases h with ⟨h1, h2⟩ | h
      · rw [if_pos h1, h2]; simp
      · split <;> simp [h]
/-- does no block ask for any break, nor has a header? -/
def calmB (l : List LNo) : Bool := l.all (fun x => decide (x.st.head = 0) && decide (x.st.before < 2) && decide (x.st.after < 2))
def hdsB (l : List LNo) (b : List Int) : Bool := b.any (fun b => decide (0 < (styN l b).head))
def askB (l : List LNo) (f : Int) (b : List Int) : Bool := b.any (fun b => decide ((styN l b).before = f) || (decide (0 < (styN l b).head) && decide (f = 2)))
def aftB (l : List LNo) (f : Int) (b : List Int) : Bool := b.any (fun b => decide ((styN l b).after = f))
structure HdsP (l : List LNo) (x : LKin) (f : Int) : Prop where
  calm : f ≠ 0 → calmB l = false
  text : f ≠ 0 → x.text < 0
  heads : hdsB l x.begins = true → f ≠ 0
  asks : f ≠ 0 → askB l f x.begins = true ∨ aftB l f x.ends = true
  ran : f ≠ 0 → 2 ≤ f ∧ f ≤ 4
theorem hds_law {l : List LNo} {of : List Int} {k : Int} (hc : chkB l of = true) (hk : 0 ≤ k ∧ k < of.length) : HdsP l (kinA l of k) (forA l of k) := by
  have hh := kinA_has l of k
  have hg := kinG_chk hc (k := k) (by omega)
  have ea : askA l of k = askL l (kinA l of k) := by unfold askA; rw [if_pos ⟨hg, by omega⟩]
  have ef : forA l of k = frcS (askL l (kinA l of k)) := by unfold forA; rw [ea]
  have hm : forA l of k ≠ 0 → forA l of k ∈ askL l (kinA l of k) := fun h => by
    rw [ef] at h ⊢
    exact (frc_mem _ 0).resolve_left h
  have ht := kin_text hc (k := k) (by omega)
  generalize kinA l of k = x at *
  generalize forA l of k = f at *
  refine ⟨fun h => ?_, fun h => ?_, fun h => ?_, fun h => ?_, fun h => ?_⟩
  · have hr := frc_ran (askL l x) 0 (.inl rfl)
    have e : (askL l x).foldl frcT 0 = f := ef.symm
    rw [e] at hr
    rcases hcal : calmB l with _ | _
    · rfl
    · exfalso
      have hs : ∀ b, hasN l b = true → (styN l b).head = 0 ∧ (styN l b).before < 2 ∧ (styN l b).after < 2 := fun b hb => by
        have q := hasN_iff.1 hb
        obtain ⟨n, rfl⟩ : ∃ n : Nat, b = n := ⟨b.toNat, by omega⟩
        have hn : n < l.length := by omega
        have := List.all_eq_true.1 hcal l[n] (List.getElem_mem hn)
        simp only [Bool.and_eq_true, decide_eq_true_eq] at this
        rw [styN_get hn]
        exact ⟨this.1.1, this.1.2, this.2⟩
      rcases ask_mem.1 (hm h) with ⟨b, hb, q⟩ | ⟨b, hb, q⟩
      · have := hs b (hh.1 b hb); omega
      · have := hs b (hh.2 b hb); omega
  · refine Int.lt_of_not_ge fun q => ?_
    obtain ⟨t1, t2⟩ := ht q
    have := hm h
    rw [askL, t1, t2] at this
    cases this
  · rw [ef]
    refine frcS_two _ (ask_mem.2 (.inr ?_)) 0
    obtain ⟨b, hb, q⟩ := List.any_eq_true.1 h
    exact ⟨b, hb, .inl ⟨of_decide_eq_true q, rfl⟩⟩
  · rcases ask_mem.1 (hm h) with ⟨b, hb, q⟩ | ⟨b, hb, q⟩
    · exact .inr (List.any_eq_true.2 ⟨b, hb, decide_eq_true q⟩)
    · refine .inl (List.any_eq_true.2 ⟨b, hb, ?_⟩)
      simp only [Bool.or_eq_true, Bool.and_eq_true, decide_eq_true_eq]
      exact q.symm
  · have hr := frc_ran (askL l x) 0 (.inl rfl)
    have e : (askL l x).foldl frcT 0 = f := ef.symm
    rw [e] at hr
    omega
end Go.Proofs.Ytbgcmnccjfdooaa
/- CHAPTER 18: the document's rank. -/
/- G -/
/- BOOLS -/
set_option linter.unusedSimpArgs false
set_option linter.unusedVariables false
namespace Go.Proofs.Ytbgcmnccjfdooaa
open Go.RowKit

theorem ins_ran {l : List LNo} (hv : isS l = true) {b : Int} (hb : hasN l b = true) : (styN l b).inside = 0 ∨ (styN l b).inside = 1 := by
  have hh := hasN_iff.1 hb
  obtain ⟨n, rfl⟩ : ∃ n : Nat, b = n := ⟨b.toNat, by omega⟩
  have hn : n < l.length := by omega
  rw [styN_get hn]
  have h := isG_nod l _ _ hv l[n] (List.getElem_mem hn)
  unfold nodB at h
  split at h
  · simp only [Bool.and_eq_true] at h
    have h5 := h.2
    simp only [styB, hasL, offN, List.any_cons, List.any_nil, Bool.or_false, Bool.and_eq_true, Bool.not_eq_true', Bool.or_eq_false_iff, decide_eq_false_iff_not] at h5
    omega
  · left
    have hbare : bareB l[n] = true := by
      split at h
      · simp only [Bool.and_eq_true] at h; exact h.1.1.1.1.1.1.1
      · split at h
        · simp only [Bool.and_eq_true] at h; exact h.1.1.1
        · split at h
          · simp only [Bool.and_eq_true] at h; exact h.1.1.1
          · cases h
    simp only [bareB, Bool.and_eq_true, decide_eq_true_eq] at hbare
    omega
theorem kin_txt {l : List LNo} {of : List Int} {k : Int} (hc : chkB l of = true) (hk : 0 ≤ k ∧ k ≤ of.length) : -1 ≤ (kinA l of k).text ∧ (kinA l of k).text < (l.length : Int) + 1 := by
  have hf := (chk_has hc).2
  have e : kinA l of k = kinS l of k := by unfold kinA; rw [if_pos (kinG_chk hc hk)]
  rw [e]
  show -1 ≤ txtK of k ∧ txtK of k < (l.length : Int) + 1
  unfold txtK
  split
  · next q =>
    have hj : k.toNat < of.length := by omega
    have e2 : of.getD k.toNat 0 = of[k.toNat] := by simp [List.getD_eq_getElem?_getD, hj]
    rw [e2]
    have := hasN_iff.1 (hf _ (List.getElem_mem hj))
    omega
  · omega
def b01 (b : Bool) (n : Int) : Int := if b = true then n else 0
theorem rnk_sum (f w b : Bool) : rnkP f w b 3 = b01 f 1 + 2 * b01 w 1 + 4 * b01 b 1 := by cases f <;> cases w <;> cases b <;> rfl
def stQ (l : List LNo) (of : List Int) (k : Int) (x : LKin) (t : List (Nat × AV)) : AS := ⟨t ++ [(0, .sl 20 (l.map cNo)), (1, .sl 1 (of.map cInt)), (2, .raw (.int .i64 k)), (7, .hdr 800)], [(800, some (.cells 28 [.sl 1 (x.ends.map cInt), .sl 1 (x.begins.map cInt), .sl 1 (x.both.map cInt), .raw (.int .i64 x.text)]))], none⟩
attribute [go_sem] stQ
set_option maxRecDepth 100000 in
set_option maxHeartbeats 8000000 in
theorem rrnk_ok (l : List LNo) (of : List Int) (k : Int) (hl : l.length ≤ 1000) (ho : of.length ≤ 1000) (hk : 0 ≤ k ∧ k ≤ of.length) (hc : chkB l of = true) : FnOk Try.prog 45 [.sl 20 (l.map cNo), .sl 1 (of.map cInt), .raw (.int .i64 k)] [] (.raw (.int .i64 (rnkA l of k))) [] := by
  have hn := kinA_len l of k
  have hbo := both_has l of k
  have hg := kinG_chk hc hk
  have hv := (chk_has hc).1
  have htx := kin_txt hc hk
  have hlin := rlin_ok l of k hl ho hk hc
  refine fn_of_swp Try.func45 rfl (by kernel_rfl) (by kernel_rfl) (Nat.le_of_ble_eq_true rfl) Try.results45 ?_
  (refine swp_seqW ?_; simp only [go_sem, Bool.not_eq_true', Bool.not_eq_false'])
  (refine swp_seqW ?_; simp only [go_sem, Bool.not_eq_true', Bool.not_eq_false', List.length_map])
  by_cases hq : k ≠ 0 ∧ k ≠ of.length
  rotate_left
  · have e : rnkA l of k = 0 := if_neg (fun q => hq q.2)
    rw [e]
    repeat' first | contradiction | intro _ | refine And.intro ?_ ?_ | refine ex_get (by omega) ?_ | (show drawB _ _ = true; kernel_rfl) | (refine ret2 [] (by simp only [go_sem, Bool.not_eq_true', Bool.not_eq_false']; rfl) ?_; simp only [go_sem, Bool.not_eq_true', Bool.not_eq_false'])
    all_goals first
      | rfl
      | omega
      | exact absurd ⟨by assumption, by assumption⟩ hq
      | skip
  have e : rnkA l of k = rnkK l of k (kinA l of k) := if_pos ⟨hg, hq⟩
  rw [e, rnkK, rnk_sum]
  refine ⟨fun _ => ⟨fun q => absurd q hq.2, fun _ => ?_⟩, fun q => absurd q hq.1⟩
  refine swp_cutS (fun _ : Unit => stQ l of k (kinA l of k) []) (fun _ => True) 120 ?_ ?_
  · (refine swp_lastW ?_; simp only [go_sem, Bool.not_eq_true', Bool.not_eq_false'])
    (refine acall2 [] (rat_ok l of k hl ho hk) (by simp only [go_sem, Bool.not_eq_true', Bool.not_eq_false']; rfl) (fit_of (by simp only [go_sem, Bool.not_eq_true', Bool.not_eq_false']) (by simp only [go_sem, Bool.not_eq_true', Bool.not_eq_false']) (by simp only [go_sem, Bool.not_eq_true', Bool.not_eq_false']) (by simp only [go_sem, Bool.not_eq_true', Bool.not_eq_false']) (by simp only [go_sem, Bool.not_eq_true', Bool.not_eq_false']) (by simp only [go_sem, Bool.not_eq_true', Bool.not_eq_false']) (by simp only [go_sem, Bool.not_eq_true', Bool.not_eq_false'])) ?_; simp only [go_sem, Bool.not_eq_true', Bool.not_eq_false'])
    rw [kin_R hc hk]
    (refine cut_end [104, 105, 106 ] ( ()) (by simp only [go_sem, Bool.not_eq_true', Bool.not_eq_false']; rfl) ?_ ?_; (focus (simp only [go_sem, Bool.not_eq_true', Bool.not_eq_false']; done)))
    trivial
  rintro - -
  generalize kinA l of k = x at *
  (refine swp_seqW ?_; simp only [go_sem, Bool.not_eq_true', Bool.not_eq_false'])
  refine swp_cutS (fun _ : Unit => stQ l of k x [(8, .raw (.int .i64 (b01 (fewB l of k x) 1)))]) (fun _ => True) 160 ?_ ?_
  · have hp := parN_ran l x.text
    (refine swp_lastW ?_; simp only [go_sem, Bool.not_eq_true', Bool.not_eq_false'])
    refine ⟨fun ht => ?_, fun ht => ?_⟩
    rotate_left
    · have ef : fewB l of k x = false := by simp only [fewB, Bool.and_eq_false_iff, decide_eq_false_iff_not]; omega
      have eb : b01 (fewB l of k x) 1 = 0 := by rw [ef]; rfl
      rw [eb]
      (refine cut_end [] (()) (by simp only [go_sem, Bool.not_eq_true', Bool.not_eq_false']; rfl) ?_ ?_; (focus (simp only [go_sem, Bool.not_eq_true', Bool.not_eq_false']; done)))
      trivial
    have ef : fewB l of k x = (decide (linA of k x.text < (stP l x.text).orphans) || decide (linB of k x.text < (stP l x.text).widows)) := by
      have : decide (0 ≤ x.text) = true := decide_eq_true ht
      rw [fewB, this, Bool.true_and]
    have e1 : (linA of k x.text < (stP l x.text).orphans ∨ linB of k x.text < (stP l x.text).widows) → b01 (fewB l of k x) 1 = 1 := fun q => by rw [ef]; rcases q with q | q <;> simp [b01, q]
    have e0 : ¬ linA of k x.text < (stP l x.text).orphans → ¬ linB of k x.text < (stP l x.text).widows → b01 (fewB l of k x) 1 = 0 := fun q q2 => by rw [ef]; simp [b01, q, q2]
    generalize b01 (fewB l of k x) 1 = V at e1 e0 ⊢
    (refine acall2 [] (parent8r_ok l x.text (by omega) hl) (by simp only [go_sem, Bool.not_eq_true', Bool.not_eq_false']; rfl) (fit_of (by simp only [go_sem, Bool.not_eq_true', Bool.not_eq_false']) (by simp only [go_sem, Bool.not_eq_true', Bool.not_eq_false']) (by simp only [go_sem, Bool.not_eq_true', Bool.not_eq_false']) (by simp only [go_sem, Bool.not_eq_true', Bool.not_eq_false']) (by simp only [go_sem, Bool.not_eq_true', Bool.not_eq_false']) (by simp only [go_sem, Bool.not_eq_true', Bool.not_eq_false']) (by simp only [go_sem, Bool.not_eq_true', Bool.not_eq_false'])) ?_; simp only [go_sem, Bool.not_eq_true', Bool.not_eq_false'])
    refine ⟨fun q => ?_, fun q => ?_⟩
    · have e : stP l x.text = styN l (parN l x.text) := if_pos q
      rw [e] at e0 e1
      generalize parN l x.text = b at hp q e0 e1 ⊢
      obtain ⟨n, rfl⟩ : ∃ n : Nat, b = n := ⟨b.toNat, by omega⟩
      have hn : n < l.length := by omega
      rw [styN_get hn] at e0 e1
      refine ⟨by omega, ?_⟩
      simp only [Int.toNat_natCast]
      refine ex_get hn ⟨by omega, ex_get hn ?_⟩
      (refine acall2 [] (hlin) (by simp only [go_sem, Bool.not_eq_true', Bool.not_eq_false']; rfl) (fit_of (by simp only [go_sem, Bool.not_eq_true', Bool.not_eq_false']) (by simp only [go_sem, Bool.not_eq_true', Bool.not_eq_false']) (by simp only [go_sem, Bool.not_eq_true', Bool.not_eq_false']) (by simp only [go_sem, Bool.not_eq_true', Bool.not_eq_false']) (by simp only [go_sem, Bool.not_eq_true', Bool.not_eq_false']) (by simp only [go_sem, Bool.not_eq_true', Bool.not_eq_false']) (by simp only [go_sem, Bool.not_eq_true', Bool.not_eq_false'])) ?_; simp only [go_sem, Bool.not_eq_true', Bool.not_eq_false'])
      repeat' first | contradiction | intro _ | refine And.intro ?_ ?_ | refine ex_get (by omega) ?_ | (show drawB _ _ = true; kernel_rfl) | (refine ret2 [] (by simp only [go_sem, Bool.not_eq_true', Bool.not_eq_false']; rfl) ?_; simp only [go_sem, Bool.not_eq_true', Bool.not_eq_false'])
      all_goals first
        | (have ev := e1 (by omega)
           rw [ev]
           (refine cut_end [] (()) (by simp only [go_sem, Bool.not_eq_true', Bool.not_eq_false']; rfl) ?_ ?_; (focus (simp only [go_sem, Bool.not_eq_true', Bool.not_eq_false']; done)))
           trivial)
        | (have ev := e0 (by omega) (by omega)
           rw [ev]
           (refine cut_end [] (()) (by simp only [go_sem, Bool.not_eq_true', Bool.not_eq_false']; rfl) ?_ ?_; (focus (simp only [go_sem, Bool.not_eq_true', Bool.not_eq_false']; done)))
           trivial)
        | skip
    · have e : stP l x.text = sty2 := if_neg q
      rw [e] at e0 e1
      simp only [sty2] at e0 e1
      (refine acall2 [] (hlin) (by simp only [go_sem, Bool.not_eq_true', Bool.not_eq_false']; rfl) (fit_of (by simp only [go_sem, Bool.not_eq_true', Bool.not_eq_false']) (by simp only [go_sem, Bool.not_eq_true', Bool.not_eq_false']) (by simp only [go_sem, Bool.not_eq_true', Bool.not_eq_false']) (by simp only [go_sem, Bool.not_eq_true', Bool.not_eq_false']) (by simp only [go_sem, Bool.not_eq_true', Bool.not_eq_false']) (by simp only [go_sem, Bool.not_eq_true', Bool.not_eq_false']) (by simp only [go_sem, Bool.not_eq_true', Bool.not_eq_false'])) ?_; simp only [go_sem, Bool.not_eq_true', Bool.not_eq_false'])
      repeat' first | contradiction | intro _ | refine And.intro ?_ ?_ | refine ex_get (by omega) ?_ | (show drawB _ _ = true; kernel_rfl) | (refine ret2 [] (by simp only [go_sem, Bool.not_eq_true', Bool.not_eq_false']; rfl) ?_; simp only [go_sem, Bool.not_eq_true', Bool.not_eq_false'])
      all_goals first
        | (have ev := e1 (by omega)
           rw [ev]
           (refine cut_end [] (()) (by simp only [go_sem, Bool.not_eq_true', Bool.not_eq_false']; rfl) ?_ ?_; (focus (simp only [go_sem, Bool.not_eq_true', Bool.not_eq_false']; done)))
           trivial)
        | (have ev := e0 (by omega) (by omega)
           rw [ev]
           (refine cut_end [] (()) (by simp only [go_sem, Bool.not_eq_true', Bool.not_eq_false']; rfl) ?_ ?_; (focus (simp only [go_sem, Bool.not_eq_true', Bool.not_eq_false']; done)))
           trivial)
        | skip
  rintro - -
  have hV : ∀ c : Bool, 0 ≤ b01 c 1 ∧ b01 c 1 ≤ 1 := fun c => by cases c <;> simp [b01]
  have hV1 := hV (fewB l of k x)
  generalize b01 (fewB l of k x) 1 = V at hV1 ⊢
  (refine swp_seqW ?_; simp only [go_sem, Bool.not_eq_true', Bool.not_eq_false'])
  refine swp_cutS (fun _ : Unit => stQ l of k x [(8, .raw (.int .i64 V)), (14, .raw (.int .i64 (b01 (x.both.any (insI l)) 1)))]) (fun _ => True) 200 ?_ ?_
  · (refine swp_seqW ?_; simp only [go_sem, Bool.not_eq_true', Bool.not_eq_false'])
    refine swp_block ?_
    refine swp_loop2 [] (fun z : KY Int => stQ l of k x [(8, .raw (.int .i64 V)), (14, .raw (.int .i64 z.o)), (15, .raw (.int .i64 z.k))]) (fun z => z.k ≤ x.both.length ∧ z.o = b01 ((x.both.take z.k).any (insI l)) 1) (fun z => x.both.length - z.k) 200 ⟨0, 0⟩ (by simp only [go_sem, Bool.not_eq_true', Bool.not_eq_false']; rfl) (by simp only [go_sem, Bool.not_eq_true', Bool.not_eq_false']) ?_ ?_
    · exact ⟨Nat.zero_le _, rfl⟩
    · rintro ⟨j, o⟩ ⟨j1, j2⟩
      simp only at j1 j2
      (refine swp_lastW ?_; simp only [go_sem, Bool.not_eq_true', Bool.not_eq_false', List.length_map])
      refine ⟨fun h5 => ?_, fun h5 => ?_⟩
      · have hj : j < x.both.length := by omega
        have hb := hbo _ (List.getElem_mem hj)
        have hi := ins_ran hv hb
        have hh := hasN_iff.1 hb
        have e1 : b01 ((x.both.take (j + 1)).any (insI l)) 1 = max o (styN l x.both[j]).inside := by
          rw [List.take_succ_eq_append_getElem hj, List.any_append, j2]
          have e2 : [x.both[j]].any (insI l) = decide ((styN l x.both[j]).inside = 1) := by simp [insI]
          rw [e2]
          cases (x.both.take j).any (insI l) <;> rcases hi with q | q <;> rw [q] <;> rfl
        refine ⟨by omega, ex_get hj ?_⟩
        generalize x.both[j] = b at hh e1 ⊢
        obtain ⟨n, rfl⟩ : ∃ n : Nat, b = n := ⟨b.toNat, by omega⟩
        have hn2 : n < l.length := by omega
        rw [styN_get hn2] at e1
        refine ⟨by omega, ?_⟩
        simp only [Int.toNat_natCast]
        refine ex_get hn2 ⟨by omega, ?_⟩
        (refine loop_end [] (⟨j + 1, max o l[n].st.inside⟩) (by simp only [go_sem, Bool.not_eq_true', Bool.not_eq_false']; rfl) ?_ ?_ ?_; (focus first | omega | (simp only; omega)); (focus (simp only [go_sem, Bool.not_eq_true', Bool.not_eq_false']; done)))
        exact ⟨hj, e1.symm⟩
      · rw [List.take_of_length_le (by omega)] at j2
        rw [j2]
        (refine cut_end [] (()) (by simp only [go_sem, Bool.not_eq_true', Bool.not_eq_false']; rfl) ?_ ?_; (focus (simp only [go_sem, Bool.not_eq_true', Bool.not_eq_false']; done)))
        trivial
  rintro - -
  have hW1 := hV (x.both.any (insI l))
  generalize b01 (x.both.any (insI l)) 1 = W at hW1 ⊢
  have hal := askA_len l of k
  (refine swp_seqW ?_; simp only [go_sem, Bool.not_eq_true', Bool.not_eq_false'])
  refine swp_cutS (fun _ : Unit => ⟨[(8, .raw (.int .i64 V)), (14, .raw (.int .i64 W)), (16, .raw (.int .i64 0)), (17, .sl 1 ((askA l of k).map cInt))], [], none⟩) (fun _ => True) 300 ?_ ?_
  · (refine swp_lastW ?_; simp only [go_sem, Bool.not_eq_true', Bool.not_eq_false'])
    (refine acall2 [] (rasked_ok l of k hl ho hk hc) (by simp only [go_sem, Bool.not_eq_true', Bool.not_eq_false']; rfl) (fit_of (by simp only [go_sem, Bool.not_eq_true', Bool.not_eq_false']) (by simp only [go_sem, Bool.not_eq_true', Bool.not_eq_false']) (by simp only [go_sem, Bool.not_eq_true', Bool.not_eq_false']) (by simp only [go_sem, Bool.not_eq_true', Bool.not_eq_false']) (by simp only [go_sem, Bool.not_eq_true', Bool.not_eq_false']) (by simp only [go_sem, Bool.not_eq_true', Bool.not_eq_false']) (by simp only [go_sem, Bool.not_eq_true', Bool.not_eq_false'])) ?_; simp only [go_sem, Bool.not_eq_true', Bool.not_eq_false'])
    (refine cut_end [1632 ] ( ()) (by simp only [go_sem, Bool.not_eq_true', Bool.not_eq_false']; rfl) ?_ ?_; (focus (simp only [go_sem, Bool.not_eq_true', Bool.not_eq_false']; done)))
    trivial
  rintro - -
  rw [betB]
  have hW2 := hV ((askA l of k).any (fun y => decide (1 = y)))
  generalize askA l of k = all at hal hW2 ⊢
  refine swp_cutS (fun _ : Unit => ⟨[(8, .raw (.int .i64 V)), (14, .raw (.int .i64 W)), (16, .raw (.int .i64 (b01 (all.any (fun y => decide (1 = y))) 1)))], [], none⟩) (fun _ => True) 300 ?_ ?_
  · (refine swp_seqW ?_; simp only [go_sem, Bool.not_eq_true', Bool.not_eq_false'])
    refine swp_block ?_
    refine swp_loop2 [] (fun z : KY Int => ⟨[(8, .raw (.int .i64 V)), (14, .raw (.int .i64 W)), (16, .raw (.int .i64 z.o)), (17, .sl 1 (all.map cInt)), (18, .raw (.int .i64 z.k))], [], none⟩) (fun z => z.k ≤ all.length ∧ z.o = b01 ((all.take z.k).any (fun y => decide (1 = y))) 1) (fun z => all.length - z.k) 300 ⟨0, 0⟩ (by simp only [go_sem, Bool.not_eq_true', Bool.not_eq_false']; rfl) (by simp only [go_sem, Bool.not_eq_true', Bool.not_eq_false']) ?_ ?_
    · exact ⟨Nat.zero_le _, rfl⟩
    · rintro ⟨j, o⟩ ⟨j1, j2⟩
      simp only at j1 j2
      (refine swp_lastW ?_; simp only [go_sem, Bool.not_eq_true', Bool.not_eq_false', List.length_map])
      refine ⟨fun h5 => ?_, fun h5 => ?_⟩
      · have hj : j < all.length := by omega
        have e1 : b01 ((all.take (j + 1)).any (fun y => decide (1 = y))) 1 = if all[j] = 1 then 1 else o := by
          rw [List.take_succ_eq_append_getElem hj, List.any_append, j2]
          by_cases q : all[j] = 1
          · rw [if_pos q]
            simp [q, b01]
          · have q2 : ¬ 1 = all[j] := fun h => q h.symm
            rw [if_neg q]
            simp [q2]
        refine ⟨by omega, ex_get hj ⟨fun q => ?_, fun q => ?_⟩⟩
        · rw [if_pos q] at e1
          refine ⟨by omega, ?_⟩
          (refine loop_end [] (⟨j + 1, 1⟩) (by simp only [go_sem, Bool.not_eq_true', Bool.not_eq_false']; rfl) ?_ ?_ ?_; (focus first | omega | (simp only; omega)); (focus (simp only [go_sem, Bool.not_eq_true', Bool.not_eq_false']; done)))
          exact ⟨hj, e1.symm⟩
        · rw [if_neg q] at e1
          refine ⟨by omega, ?_⟩
          (refine loop_end [] (⟨j + 1, o⟩) (by simp only [go_sem, Bool.not_eq_true', Bool.not_eq_false']; rfl) ?_ ?_ ?_; (focus first | omega | (simp only; omega)); (focus (simp only [go_sem, Bool.not_eq_true', Bool.not_eq_false']; done)))
          exact ⟨hj, e1.symm⟩
      · rw [List.take_of_length_le (by omega)] at j2
        rw [j2]
        (refine cut_end [] (()) (by simp only [go_sem, Bool.not_eq_true', Bool.not_eq_false']; rfl) ?_ ?_; (focus (simp only [go_sem, Bool.not_eq_true', Bool.not_eq_false']; done)))
        trivial
  rintro - -
  generalize b01 (all.any (fun y => decide (1 = y))) 1 = Z at hW2 ⊢
  (refine swp_lastW ?_; simp only [go_sem, Bool.not_eq_true', Bool.not_eq_false'])
  repeat' first | contradiction | intro _ | refine And.intro ?_ ?_ | refine ex_get (by omega) ?_ | (show drawB _ _ = true; kernel_rfl) | (refine ret2 [] (by simp only [go_sem, Bool.not_eq_true', Bool.not_eq_false']; rfl) ?_; simp only [go_sem, Bool.not_eq_true', Bool.not_eq_false'])
  all_goals first
    | omega
    | skip
set_option maxRecDepth 100000 in
set_option maxHeartbeats 4000000 in
theorem rallR_ok (l : List LNo) (of : List Int) (hl : l.length ≤ 1000) (ho : of.length ≤ 1000) (hc : chkB l of = true) : FnOk Try.prog 43 [.sl 20 (l.map cNo), .sl 1 (of.map cInt)] [] (.hdr 8) [(8, .row 3 1 ((allR l of).map cInt))] := by
  have ea : allR l of = (List.range (of.length + 1)).map (fun k : Nat => rnkA l of k) := by unfold allR; rw [if_pos hc]
  rw [ea]
  refine fn_of_awp Try.func43 rfl (by kernel_rfl) (by kernel_rfl) (Nat.le_of_ble_eq_true rfl) Try.results43 ?_
  simp only [go_sem, Bool.not_eq_true', Bool.not_eq_false', List.length_map]
  refine aloop2 [] (fun z : KY (List Int) => ⟨[(0, .sl 20 (l.map cNo)), (1, .sl 1 (of.map cInt)), (5, .hdr 16), (6, .raw (.int .i64 z.k))], [(16, some (.row 3 1 (z.o.map cInt)))], none⟩) (fun z => z.k ≤ of.length + 1 ∧ z.o = (List.range z.k).map (fun k : Nat => rnkA l of k)) (fun z => of.length + 1 - z.k) 40 ⟨0, []⟩ (by simp only [go_sem, Bool.not_eq_true', Bool.not_eq_false']; rfl) (by simp only [go_sem, Bool.not_eq_true', Bool.not_eq_false']) ?_ ?_
  · exact ⟨Nat.zero_le _, rfl⟩
  · rintro ⟨k, o⟩ ⟨k1, k2⟩
    simp only at k1 k2
    have hol : o.length = k := by rw [k2]; simp
    simp only [go_sem, Bool.not_eq_true', Bool.not_eq_false', List.length_map]
    refine ⟨fun h5 => ?_, fun h5 => ?_⟩
    · (refine acall2 [] (rrnk_ok l of k hl ho (by omega) hc) (by simp only [go_sem, Bool.not_eq_true', Bool.not_eq_false']; rfl) (fit_of (by simp only [go_sem, Bool.not_eq_true', Bool.not_eq_false']) (by simp only [go_sem, Bool.not_eq_true', Bool.not_eq_false']) (by simp only [go_sem, Bool.not_eq_true', Bool.not_eq_false']) (by simp only [go_sem, Bool.not_eq_true', Bool.not_eq_false']) (by simp only [go_sem, Bool.not_eq_true', Bool.not_eq_false']) (by simp only [go_sem, Bool.not_eq_true', Bool.not_eq_false']) (by simp only [go_sem, Bool.not_eq_true', Bool.not_eq_false'])) ?_; simp only [go_sem, Bool.not_eq_true', Bool.not_eq_false'])
      repeat' first | contradiction | intro _ | refine And.intro ?_ ?_ | refine ex_get (by omega) ?_ | (show drawB _ _ = true; kernel_rfl) | (refine ret2 [] (by simp only [go_sem, Bool.not_eq_true', Bool.not_eq_false']; rfl) ?_; simp only [go_sem, Bool.not_eq_true', Bool.not_eq_false'])
      all_goals first
        | omega
        | skip
      (refine loop_end [] (⟨k + 1, o ++ [rnkA l of k]⟩) (by simp only [go_sem, Bool.not_eq_true', Bool.not_eq_false']; rfl) ?_ ?_ ?_; (focus first | omega | (simp only; omega)); (focus (simp only [go_sem, Bool.not_eq_true', Bool.not_eq_false', List.map_append]; done)))
      simp only
      exact ⟨by omega, by rw [k2, List.range_succ, List.map_append]; rfl⟩
    · have e5 : k = of.length + 1 := by omega
      rw [e5, List.range_succ] at k2
      rw [← k2]
      (refine ret2 [] (by simp only [go_sem, Bool.not_eq_true', Bool.not_eq_false']; rfl) ?_; simp only [go_sem, Bool.not_eq_true', Bool.not_eq_false'])
end Go.Proofs.Ytbgcmnccjfdooaa
/- CHAPTER 18: the plain law of RankParts. -/
/- G -/
/- BOOLS -/
set_option linter.unusedSimpArgs false
set_option linter.unusedVariables false
namespace Go.Proofs.Ytbgcmnccjfdooaa
open Go.RowKit

/-- how many atoms are a text's, among the first. -/
def cntT (of : List Int) (t : Int) : Nat → Nat
  | 0 => 0
  | j + 1 => cntT of t j + if of.getD j 0 = t then 1 else 0
theorem cnt_sum (of : List Int) (t k : Int) : ∀ j, cntA of t k j + cntB of t k j = cntT of t j
  | 0 => rfl
  | j + 1 => by
    have := cnt_sum of t k j
    rw [cntA, cntB, cntT]
    by_cases q : of.getD j 0 = t <;> by_cases h : (j : Int) < k <;> simp [q, h] <;> omega
theorem cntA_pos (of : List Int) (t k : Int) (i : Nat) (h : of.getD i 0 = t) (hk : (i : Int) < k) : ∀ j, i < j → 1 ≤ cntA of t k j
  | 0, h => absurd h (Nat.not_lt_zero _)
  | j + 1, h2 => by
    rcases Nat.lt_succ_iff_lt_or_eq.1 h2 with q | q
    · have := cntA_pos of t k i h hk j q
      rw [cntA]; omega
    · subst q
      rw [cntA, if_pos ⟨h, hk⟩]; omega
theorem cntB_pos (of : List Int) (t k : Int) (i : Nat) (h : of.getD i 0 = t) (hk : ¬ (i : Int) < k) : ∀ j, i < j → 1 ≤ cntB of t k j
  | 0, h => absurd h (Nat.not_lt_zero _)
  | j + 1, h2 => by
    rcases Nat.lt_succ_iff_lt_or_eq.1 h2 with q | q
    · have := cntB_pos of t k i h hk j q
      rw [cntB]; omega
    · subst q
      rw [cntB, if_pos ⟨h, hk⟩]; omega
structure PrtP (l : List LNo) (of : List Int) (k n a b t : Int) : Prop where
  ran : 0 ≤ n ∧ n ≤ 7
  text : 0 ≤ t → andI n 4 = 0
  none : t < 0 → andI n 1 = 0 ∧ a + b = 0
  sum : 0 ≤ t → a + b = cntT of t of.length
  some : 0 ≤ t → 1 ≤ a ∧ 1 ≤ b
theorem txt_in {of : List Int} {k : Int} (h : 0 ≤ txtK of k) : 0 < k ∧ k < of.length ∧ of.getD k.toNat 0 = txtK of k ∧ of.getD (k - 1).toNat 0 = txtK of k := by
  unfold txtK at h ⊢
  split at h
  · next q => rw [if_pos q]; exact ⟨q.1, q.2.1, rfl, q.2.2.symm⟩
  · omega
theorem prt_law {l : List LNo} {of : List Int} {k : Int} (hc : chkB l of = true) (hk : 0 ≤ k ∧ k ≤ of.length) : PrtP l of k (rnkA l of k) (linA of k (kinA l of k).text) (linB of k (kinA l of k).text) (kinA l of k).text := by
  have hg := kinG_chk hc hk
  have et : (kinA l of k).text = txtK of k := by unfold kinA; rw [if_pos hg]; rfl
  have hbg := kin_text hc hk
  refine ⟨?_, fun h => ?_, fun h => ⟨?_, ?_⟩, fun h => ?_, fun h => ?_⟩
  · unfold rnkA
    split
    · rw [rnkK]
      generalize fewB l of k (kinA l of k) = f
      generalize (kinA l of k).both.any (insI l) = w
      generalize betB l of k = b
      cases f <;> cases w <;> cases b <;> simp [rnkP]
    · omega
  · unfold rnkA
    split
    · rw [rnkK]
      have hb : betB l of k = false := by
        obtain ⟨h1, h2⟩ := hbg h
        unfold betB askA askL
        split
        · rw [h1, h2]; rfl
        · rfl
      rw [hb]
      generalize fewB l of k (kinA l of k) = f
      generalize (kinA l of k).both.any (insI l) = w
      cases f <;> cases w <;> rfl
    · rfl
  · unfold rnkA
    split
    · rw [rnkK]
      have hf : fewB l of k (kinA l of k) = false := by simp only [fewB, Bool.and_eq_false_iff, decide_eq_false_iff_not]; omega
      rw [hf]
      generalize (kinA l of k).both.any (insI l) = w
      generalize betB l of k = b
      cases w <;> cases b <;> rfl
    · rfl
  · rw [linA, linB, if_pos h, if_pos h]; rfl
  · rw [linA, linB, if_neg (by omega), if_neg (by omega)]
    have := cnt_sum of (kinA l of k).text k of.length
    omega
  · rw [et] at h ⊢
    obtain ⟨h1, h2, h3, h4⟩ := txt_in h
    rw [linA, linB, if_neg (by omega), if_neg (by omega)]
    have p1 := cntA_pos of (txtK of k) k (k - 1).toNat h4 (by omega) of.length (by omega)
    have p2 := cntB_pos of (txtK of k) k k.toNat h3 (by omega) of.length (by omega)
    omega
end Go.Proofs.Ytbgcmnccjfdooaa
/- CHAPTER 19: the law BreaksMay. -/
/- G -/
/- BOOLS -/
set_option linter.unusedSimpArgs false
set_option linter.unusedVariables false
namespace Go.Proofs.Ytbgcmnccjfdooaa
open Go.RowKit

theorem cls_spec (of : List Int) (k : Int) : (k = 0 → clsK of k = 0) ∧ (k ≠ 0 → k = of.length → clsK of k = 3) ∧ (k ≠ 0 → k ≠ of.length → (of.getD k.toNat 0 = of.getD (k - 1).toNat 0 → clsK of k = 2) ∧ (of.getD k.toNat 0 ≠ of.getD (k - 1).toNat 0 → clsK of k = 1)) := by
  unfold clsK
  refine ⟨fun h => if_pos h, fun h g => by rw [if_neg h, if_pos g], fun h g => ⟨fun e => by rw [if_neg h, if_neg g, if_pos e], fun e => by rw [if_neg h, if_neg g, if_neg e]⟩⟩
theorem for_ran (l : List LNo) (of : List Int) (k : Int) : forA l of k = 0 ∨ forA l of k = 2 ∨ forA l of k = 3 ∨ forA l of k = 4 := frc_ran _ 0 (.inl rfl)
theorem for_end (l : List LNo) (of : List Int) : forA l of of.length = 0 := by
  unfold forA askA
  rw [if_neg (fun q => q.2 rfl)]
  rfl
theorem for_txt {l : List LNo} {of : List Int} {k : Int} (hc : chkB l of = true) (hk : 0 < k ∧ k < of.length) (he : of.getD k.toNat 0 = of.getD (k - 1).toNat 0) : forA l of k = 0 := by
  have hg := kinG_chk hc (k := k) (l := l) (of := of) (by omega)
  have hx : hasN l (of[k.toNat]'(by omega)) = true := (chk_has hc).2 _ (List.getElem_mem _)
  have hx := hasN_iff.1 hx
  have e1 : of.getD k.toNat 0 = of[k.toNat]'(by omega) := getD_at _
  have et : (kinA l of k).text = txtK of k := by unfold kinA; rw [if_pos hg]; rfl
  have et2 : txtK of k = of.getD k.toNat 0 := by unfold txtK; rw [if_pos ⟨hk.1, hk.2, he⟩]
  obtain ⟨h1, h2⟩ := kin_text hc (k := k) (by omega) (by rw [et, et2, e1]; exact hx.1)
  unfold forA askA
  split
  · unfold askL
    rw [h1, h2]
    rfl
  · rfl
theorem rnk_end {l : List LNo} {of : List Int} {k : Int} (h : k = 0 ∨ k = of.length) : rnkA l of k = 0 := by
  unfold rnkA
  exact if_neg (fun q => h.elim q.2.1 q.2.2)
theorem allB_may {l : List LNo} {of : List Int} (hc : chkB l of = true) : mayB (allB l of) = true := by
  have hln := allB_ln hc
  unfold mayB
  refine decide_eq_true ⟨by omega, fun i hi => ?_⟩
  rw [allB_at hc hi, hln]
  have hk : 0 ≤ (i : Int) ∧ (i : Int) ≤ of.length := by omega
  obtain ⟨c1, c2, c3⟩ := cls_spec of i
  have f1 := for_ran l of i
  have f2 := fun (h : (i : Int) = of.length) => (show forA l of i = 0 by rw [h]; exact for_end l of)
  have f3 := fun h h2 => for_txt (k := i) hc h h2
  have r1 := (prt_law hc hk).ran
  have r2 := fun h => rnk_end (l := l) (of := of) (k := i) h
  rw [rightQ_iff]
  simp only [brkA]
  by_cases h0 : (i : Int) = 0
  · have e0 := c1 h0
    have er := r2 (.inl h0)
    rw [er, e0]
    refine ⟨fun _ => rfl, fun q => by omega, fun q => by omega, fun q => by omega, .inl ?_⟩
    split <;> rfl
  by_cases h1 : (i : Int) = of.length
  · have e0 := c2 h0 h1
    have er := r2 (.inr h1)
    have ef := f2 h1
    rw [er, e0, ef]
    refine ⟨fun _ => by omega, fun q _ => rfl, fun q => by omega, fun q => by omega, .inl ?_⟩
    split <;> rfl
  obtain ⟨d1, d2⟩ := c3 h0 h1
  by_cases he : of.getD (i : Int).toNat 0 = of.getD ((i : Int) - 1).toNat 0
  · have e0 := d1 he
    have ef := f3 (by omega) he
    rw [e0, ef]
    refine ⟨fun _ => by omega, fun q _ => by omega, fun _ _ => .inr rfl, fun q => by omega, ?_⟩
    rw [if_pos rfl]
    omega
  · have e0 := d2 he
    rw [e0]
    refine ⟨fun _ => by omega, fun q _ => by omega, fun _ _ => .inl rfl, fun q => by omega, ?_⟩
    split <;> omega
structure BMay (of : List Int) (k f r : Int) (x : LBrk) : Prop where
  fo : x.fo = f
  rk : f = 0 → x.rk = r
  yes : 0 < k → k < of.length → of.getD k.toNat 0 = of.getD (k - 1).toNat 0 → x.cl = 2
  no : k = 0 ∨ k = of.length ∨ of.getD k.toNat 0 ≠ of.getD (k - 1).toNat 0 → x.cl ≠ 2
theorem b_may (l : List LNo) (of : List Int) (k : Int) : BMay of k (forA l of k) (rnkA l of k) (brkA l of k) := by
  obtain ⟨c1, c2, c3⟩ := cls_spec of k
  refine ⟨rfl, fun q => if_pos q, fun h1 h2 h3 => (c3 (by omega) (by omega)).1 h3, fun h => ?_⟩
  show clsK of k ≠ 2
  by_cases h0 : k = 0
  · rw [c1 h0]; decide
  by_cases h1 : k = of.length
  · rw [c2 h0 h1]; decide
  · rw [(c3 h0 h1).2 (by omega)]; decide
def stB9 (of : List Int) (B : List LBrk) (F R : List Int) (t : List (Nat × AV)) : AS := ⟨t ++ [(1, .sl 1 (of.map cInt)), (5, .sl 3 (B.map cBrk)), (7, .sl 1 (F.map cInt)), (9, .sl 1 (R.map cInt))], [], none⟩
attribute [go_sem] stB9
set_option maxRecDepth 100000 in
set_option maxHeartbeats 8000000 in
theorem breaksMay_ok (l : List LNo) (of : List Int) : FnOk Try.prog 13 [.sl 20 (l.map cNo), .sl 1 (of.map cInt)] [] (.raw (.bool true)) [] := by
  refine fn_of_swp Try.func13 rfl (by kernel_rfl) (by kernel_rfl) (Nat.le_of_ble_eq_true rfl) Try.results13 ?_
  (refine swp_seqW ?_; simp only [go_sem, Bool.not_eq_true', Bool.not_eq_false'])
  (refine swp_seqW ?_; simp only [go_sem, Bool.not_eq_true', Bool.not_eq_false'])
  (refine acall2 [] (vast19_ok l of) (by simp only [go_sem, Bool.not_eq_true', Bool.not_eq_false']; rfl) (fit_of (by simp only [go_sem, Bool.not_eq_true', Bool.not_eq_false']) (by simp only [go_sem, Bool.not_eq_true', Bool.not_eq_false']) (by simp only [go_sem, Bool.not_eq_true', Bool.not_eq_false']) (by simp only [go_sem, Bool.not_eq_true', Bool.not_eq_false']) (by simp only [go_sem, Bool.not_eq_true', Bool.not_eq_false']) (by simp only [go_sem, Bool.not_eq_true', Bool.not_eq_false']) (by simp only [go_sem, Bool.not_eq_true', Bool.not_eq_false'])) ?_; simp only [go_sem, Bool.not_eq_true', Bool.not_eq_false'])
  rcases hvs : vst2 l of with _ | _
  rotate_left
  · simp only [go_sem, Bool.not_eq_true', Bool.not_eq_false']
    (refine acall2 [] (awake19_ok) (by simp only [go_sem, Bool.not_eq_true', Bool.not_eq_false']; rfl) (fit_of (by simp only [go_sem, Bool.not_eq_true', Bool.not_eq_false']) (by simp only [go_sem, Bool.not_eq_true', Bool.not_eq_false']) (by simp only [go_sem, Bool.not_eq_true', Bool.not_eq_false']) (by simp only [go_sem, Bool.not_eq_true', Bool.not_eq_false']) (by simp only [go_sem, Bool.not_eq_true', Bool.not_eq_false']) (by simp only [go_sem, Bool.not_eq_true', Bool.not_eq_false']) (by simp only [go_sem, Bool.not_eq_true', Bool.not_eq_false'])) ?_; simp only [go_sem, Bool.not_eq_true', Bool.not_eq_false'])
  obtain ⟨hl6, ho6, hw6⟩ := vst2_no hvs
  have hl : l.length ≤ 1000 := by omega
  have ho : of.length ≤ 1000 := by omega
  have hw : ∀ x ∈ l, x.words.length ≤ 9223372036854775807 := fun x hx => by have := hw6 x hx; omega
  simp only [go_sem, Bool.not_eq_true', Bool.not_eq_false']
  refine swp_cutS (fun _ : Unit => ⟨[(0, .sl 20 (l.map cNo)), (1, .sl 1 (of.map cInt)), (5, .sl 3 ((allB l of).map cBrk)), (6, .raw (.int .i64 (errB (chkB l of))))], [], none⟩) (fun _ => True) 3 ?_ ?_
  · (refine swp_lastW ?_; simp only [go_sem, Bool.not_eq_true', Bool.not_eq_false'])
    (refine acall2 [] (allB_ok l of hl ho hw) (by simp only [go_sem, Bool.not_eq_true', Bool.not_eq_false']; rfl) (fit_of (by simp only [go_sem, Bool.not_eq_true', Bool.not_eq_false']) (by simp only [go_sem, Bool.not_eq_true', Bool.not_eq_false']) (by simp only [go_sem, Bool.not_eq_true', Bool.not_eq_false']) (by simp only [go_sem, Bool.not_eq_true', Bool.not_eq_false']) (by simp only [go_sem, Bool.not_eq_true', Bool.not_eq_false']) (by simp only [go_sem, Bool.not_eq_true', Bool.not_eq_false']) (by simp only [go_sem, Bool.not_eq_true', Bool.not_eq_false'])) ?_; simp only [go_sem, Bool.not_eq_true', Bool.not_eq_false'])
    (refine cut_end [56 ] ( ()) (by simp only [go_sem, Bool.not_eq_true', Bool.not_eq_false']; rfl) ?_ ?_; (focus (simp only [go_sem, Bool.not_eq_true', Bool.not_eq_false']; done)))
    trivial
  rintro - -
  refine swp_cutS (fun _ : Unit => ⟨[(0, .sl 20 (l.map cNo)), (1, .sl 1 (of.map cInt)), (5, .sl 3 ((allB l of).map cBrk)), (6, .raw (.int .i64 (errB (chkB l of)))), (7, .sl 1 ((allF l of).map cInt)), (8, .raw (.int .i64 (errB (chkB l of))))], [], none⟩) (fun _ => True) 3 ?_ ?_
  · (refine swp_lastW ?_; simp only [go_sem, Bool.not_eq_true', Bool.not_eq_false'])
    (refine acall2 [] (allF_ok l of hl ho hw) (by simp only [go_sem, Bool.not_eq_true', Bool.not_eq_false']; rfl) (fit_of (by simp only [go_sem, Bool.not_eq_true', Bool.not_eq_false']) (by simp only [go_sem, Bool.not_eq_true', Bool.not_eq_false']) (by simp only [go_sem, Bool.not_eq_true', Bool.not_eq_false']) (by simp only [go_sem, Bool.not_eq_true', Bool.not_eq_false']) (by simp only [go_sem, Bool.not_eq_true', Bool.not_eq_false']) (by simp only [go_sem, Bool.not_eq_true', Bool.not_eq_false']) (by simp only [go_sem, Bool.not_eq_true', Bool.not_eq_false'])) ?_; simp only [go_sem, Bool.not_eq_true', Bool.not_eq_false'])
    (refine cut_end [40 ] ( ()) (by simp only [go_sem, Bool.not_eq_true', Bool.not_eq_false']; rfl) ?_ ?_; (focus (simp only [go_sem, Bool.not_eq_true', Bool.not_eq_false']; done)))
    trivial
  rintro - -
  refine swp_cutS (fun _ : Unit => stB9 of (allB l of) (allF l of) (allR l of) [(6, .raw (.int .i64 (errB (chkB l of)))), (8, .raw (.int .i64 (errB (chkB l of)))), (10, .raw (.int .i64 (errB (chkB l of))))]) (fun _ => True) 3 ?_ ?_
  · (refine swp_lastW ?_; simp only [go_sem, Bool.not_eq_true', Bool.not_eq_false'])
    (refine acall2 [] (allR_ok l of hl ho hw) (by simp only [go_sem, Bool.not_eq_true', Bool.not_eq_false']; rfl) (fit_of (by simp only [go_sem, Bool.not_eq_true', Bool.not_eq_false']) (by simp only [go_sem, Bool.not_eq_true', Bool.not_eq_false']) (by simp only [go_sem, Bool.not_eq_true', Bool.not_eq_false']) (by simp only [go_sem, Bool.not_eq_true', Bool.not_eq_false']) (by simp only [go_sem, Bool.not_eq_true', Bool.not_eq_false']) (by simp only [go_sem, Bool.not_eq_true', Bool.not_eq_false']) (by simp only [go_sem, Bool.not_eq_true', Bool.not_eq_false'])) ?_; simp only [go_sem, Bool.not_eq_true', Bool.not_eq_false'])
    (refine cut_end [40 ] ( ()) (by simp only [go_sem, Bool.not_eq_true', Bool.not_eq_false']; rfl) ?_ ?_; (focus (simp only [go_sem, Bool.not_eq_true', Bool.not_eq_false']; done)))
    trivial
  rintro - -
  (refine swp_seqW ?_; simp only [go_sem, Bool.not_eq_true', Bool.not_eq_false'])
  cases hc : chkB l of with
  | false =>
    have e4 : errB false = 4 := rfl
    have ea : allB l of = [] := by unfold allB; rw [hc]; rfl
    rw [e4, ea]
    (refine swp_seqW ?_; simp only [go_sem, Bool.not_eq_true', Bool.not_eq_false', List.length_nil, List.map])
    repeat' first | contradiction | intro _ | refine And.intro ?_ ?_ | refine ex_get (by omega) ?_ | (show drawB _ _ = true; kernel_rfl) | (refine ret2 [] (by simp only [go_sem, Bool.not_eq_true', Bool.not_eq_false']; rfl) ?_; simp only [go_sem, Bool.not_eq_true', Bool.not_eq_false']) | (refine acall2 [] (awake19_ok) (by simp only [go_sem, Bool.not_eq_true', Bool.not_eq_false']; rfl) (fit_of (by simp only [go_sem, Bool.not_eq_true', Bool.not_eq_false']) (by simp only [go_sem, Bool.not_eq_true', Bool.not_eq_false']) (by simp only [go_sem, Bool.not_eq_true', Bool.not_eq_false']) (by simp only [go_sem, Bool.not_eq_true', Bool.not_eq_false']) (by simp only [go_sem, Bool.not_eq_true', Bool.not_eq_false']) (by simp only [go_sem, Bool.not_eq_true', Bool.not_eq_false']) (by simp only [go_sem, Bool.not_eq_true', Bool.not_eq_false'])) ?_; simp only [go_sem, Bool.not_eq_true', Bool.not_eq_false'])
    all_goals first
      | omega
      | skip
  | true =>
  have e4 : errB true = 0 := rfl
  rw [e4]
  (refine swp_seqW ?_; simp only [go_sem, Bool.not_eq_true', Bool.not_eq_false'])
  have hm := allB_may hc
  have b1 := allB_ln hc
  have b2 := fun k (h : k < (allB l of).length) => allB_at hc h
  have f1 := allF_ln hc
  have f2 := fun k (h : k < (allF l of).length) => allF_at hc h
  have r1 := allR_ln2 hc
  have r2 := fun k (h : k < (allR l of).length) => allR_at2 hc h
  generalize allF l of = F at f1 f2 ⊢
  generalize allR l of = R at r1 r2 ⊢
  generalize allB l of = B at b1 b2 hm ⊢
  refine swp_cutS (fun _ : Unit => stB9 of B F R []) (fun _ => True) 3 ?_ ?_
  · (refine swp_lastW ?_; simp only [go_sem, Bool.not_eq_true', Bool.not_eq_false', List.length_map])
    repeat' first | contradiction | intro _ | refine And.intro ?_ ?_ | refine ex_get (by omega) ?_ | (show drawB _ _ = true; kernel_rfl) | (refine ret2 [] (by simp only [go_sem, Bool.not_eq_true', Bool.not_eq_false']; rfl) ?_; simp only [go_sem, Bool.not_eq_true', Bool.not_eq_false']) | (refine acall2 [] (may_ok B (by omega)) (by simp only [go_sem, Bool.not_eq_true', Bool.not_eq_false']; rfl) (fit_of (by simp only [go_sem, Bool.not_eq_true', Bool.not_eq_false']) (by simp only [go_sem, Bool.not_eq_true', Bool.not_eq_false']) (by simp only [go_sem, Bool.not_eq_true', Bool.not_eq_false']) (by simp only [go_sem, Bool.not_eq_true', Bool.not_eq_false']) (by simp only [go_sem, Bool.not_eq_true', Bool.not_eq_false']) (by simp only [go_sem, Bool.not_eq_true', Bool.not_eq_false']) (by simp only [go_sem, Bool.not_eq_true', Bool.not_eq_false'])) ?_; simp only [go_sem, Bool.not_eq_true', Bool.not_eq_false'])
    all_goals first
      | omega
      | ((refine cut_end [] (()) (by simp only [go_sem, Bool.not_eq_true', Bool.not_eq_false']; rfl) ?_ ?_; (focus (simp only [go_sem, Bool.not_eq_true', Bool.not_eq_false']; done)))
         trivial)
      | (rw [hm] at *
         contradiction)
      | skip
  rintro - -
  refine swp_cutS (fun _ : Unit => ⟨[], [], none⟩) (fun _ => True) 3 ?_ ?_
  · (refine swp_seqW ?_; simp only [go_sem, Bool.not_eq_true', Bool.not_eq_false'])
    refine swp_block ?_
    refine swp_loop2 [] (fun k : Nat => stB9 of B F R [(11, .raw (.int .i64 k))]) (fun k => k ≤ B.length) (fun k => B.length - k) 4 0 (by simp only [go_sem, Bool.not_eq_true', Bool.not_eq_false']; rfl) (by simp only [go_sem, Bool.not_eq_true', Bool.not_eq_false']) ?_ ?_
    · exact Nat.zero_le _
    · intro k hk
      (refine swp_seqW ?_; simp only [go_sem, Bool.not_eq_true', Bool.not_eq_false', List.length_map])
      refine ⟨fun h5 => ?_, fun h5 => ?_⟩
      rotate_left
      · (refine cut_end [] (()) (by simp only [go_sem, Bool.not_eq_true', Bool.not_eq_false']; rfl) ?_ ?_; (focus (simp only [go_sem, Bool.not_eq_true', Bool.not_eq_false']; done)))
        trivial
      have hkB : k < B.length := by omega
      have hkF : k < F.length := by omega
      have hkR : k < R.length := by omega
      have hX := b_may l of k
      rw [← b2 k hkB, ← f2 k hkF, ← r2 k hkR] at hX
      obtain ⟨x1, x2, x3, x4⟩ := hX
      clear b2 f2 r2
      refine swp_seqS ?_
      refine swp_block ?_
      refine swp_cutS (fun _ : Unit => stB9 of B F R [(11, .raw (.int .i64 k))]) (fun _ => True) 8 ?_ ?_
      · clear x3 x4
        (refine swp_lastW ?_; simp only [go_sem, Bool.not_eq_true', Bool.not_eq_false', List.length_map])
        repeat' first | contradiction | intro _ | refine And.intro ?_ ?_ | refine ex_get (by omega) ?_ | (show drawB _ _ = true; kernel_rfl) | (refine ret2 [] (by simp only [go_sem, Bool.not_eq_true', Bool.not_eq_false']; rfl) ?_; simp only [go_sem, Bool.not_eq_true', Bool.not_eq_false'])
        all_goals first
          | omega
          | ((refine cut_end [] (()) (by simp only [go_sem, Bool.not_eq_true', Bool.not_eq_false']; rfl) ?_ ?_; (focus (simp only [go_sem, Bool.not_eq_true', Bool.not_eq_false']; done)))
             trivial)
          | skip
      rintro - -
      clear x1 x2
      by_cases hin : 0 < k ∧ k < of.length
      · have e1 : of.getD (k : Int).toNat 0 = of[k] := getD_at hin.2
        have e2 : of.getD ((k : Int) - 1).toNat 0 = of[((k : Int) - 1).toNat]'(by omega) := getD_at _
        rw [e1, e2] at x3 x4
        (refine swp_lastW ?_; simp only [go_sem, Bool.not_eq_true', Bool.not_eq_false', List.length_map])
        repeat' first | contradiction | intro _ | refine And.intro ?_ ?_ | refine ex_get (by omega) ?_ | (show drawB _ _ = true; kernel_rfl) | (refine ret2 [] (by simp only [go_sem, Bool.not_eq_true', Bool.not_eq_false']; rfl) ?_; simp only [go_sem, Bool.not_eq_true', Bool.not_eq_false'])
        all_goals first
          | omega
          | ((refine swp_lastW ?_; simp only [go_sem, Bool.not_eq_true', Bool.not_eq_false'])
             refine ⟨by omega, ?_⟩
             (refine loop_end [] (k + 1) (by simp only [go_sem, Bool.not_eq_true', Bool.not_eq_false']; rfl) ?_ ?_ ?_; (focus first | omega | (simp only; omega)); (focus (simp only [go_sem, Bool.not_eq_true', Bool.not_eq_false']; done)))
             omega)
          | (rename_i q
             simp only [bne_iff_ne, ne_eq, decide_eq_decide, decide_eq_false_iff_not, Classical.not_not] at q
             first | omega | exact x4 q)
          | skip
      · have x4 := x4 (by omega)
        clear x3
        (refine swp_lastW ?_; simp only [go_sem, Bool.not_eq_true', Bool.not_eq_false', List.length_map])
        repeat' first | contradiction | intro _ | refine And.intro ?_ ?_ | refine ex_get (by omega) ?_ | (show drawB _ _ = true; kernel_rfl) | (refine ret2 [] (by simp only [go_sem, Bool.not_eq_true', Bool.not_eq_false']; rfl) ?_; simp only [go_sem, Bool.not_eq_true', Bool.not_eq_false'])
        all_goals first
          | omega
          | ((refine swp_lastW ?_; simp only [go_sem, Bool.not_eq_true', Bool.not_eq_false'])
             refine ⟨by omega, ?_⟩
             (refine loop_end [] (k + 1) (by simp only [go_sem, Bool.not_eq_true', Bool.not_eq_false']; rfl) ?_ ?_ ?_; (focus first | omega | (simp only; omega)); (focus (simp only [go_sem, Bool.not_eq_true', Bool.not_eq_false']; done)))
             omega)
          | (rename_i q
             simp only [bne_iff_ne, ne_eq, decide_eq_decide, decide_eq_false_iff_not, Classical.not_not] at q
             first | omega | exact x4 q)
          | skip
  rintro - -
  (refine swp_lastW ?_; simp only [go_sem, Bool.not_eq_true', Bool.not_eq_false'])
  (refine acall2 [] (awake19_ok) (by simp only [go_sem, Bool.not_eq_true', Bool.not_eq_false']; rfl) (fit_of (by simp only [go_sem, Bool.not_eq_true', Bool.not_eq_false']) (by simp only [go_sem, Bool.not_eq_true', Bool.not_eq_false']) (by simp only [go_sem, Bool.not_eq_true', Bool.not_eq_false']) (by simp only [go_sem, Bool.not_eq_true', Bool.not_eq_false']) (by simp only [go_sem, Bool.not_eq_true', Bool.not_eq_false']) (by simp only [go_sem, Bool.not_eq_true', Bool.not_eq_false']) (by simp only [go_sem, Bool.not_eq_true', Bool.not_eq_false'])) ?_; simp only [go_sem, Bool.not_eq_true', Bool.not_eq_false'])
end Go.Proofs.Ytbgcmnccjfdooaa
