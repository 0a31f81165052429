/- CONTRACTS of the functions, and plain laws, joined out of: GKinE GKinF GKinG GKinH GKinI GKinJ GScrD GScrE GScrF GKinK GKinL GForA GForB GForC GForF G15 GRanA GRanB GRanC GRanD GRanE GRanF GForG GForH. -/
import Derived.Test.YtbgcmnccjfdooaaKT18M1
/- CHAPTER 16: kin.At. -/
/- G -/
/- BOOLS -/
set_option linter.unusedSimpArgs false
set_option linter.unusedVariables false
namespace Go.Proofs.Ytbgcmnccjfdooaa
open Go.RowKit

theorem tm_split : ∀ (r : List Int) (i x : Int), x ∈ r → x = i ∨ x ∈ r.drop (tmG r i)
  | [], _, _, h => by cases h
  | y :: r, i, x, h => by
    rw [tmG]
    split
    · next q =>
      rw [List.drop_succ_cons]
      rcases List.mem_cons.1 h with e | e
      · left; omega
      · exact tm_split r i x e
    · exact .inr h
theorem mayG_ran : ∀ (l : List LNo) (i : Nat) (r : List Int), mayG l i r = true → ∀ x ∈ r, (i : Int) ≤ x ∧ x < i + l.length
  | [], i, r, h, x, hx => by
    rw [mayG, decide_eq_true_eq] at h
    rw [List.eq_nil_of_length_eq_zero h] at hx
    cases hx
  | y :: l, i, r, h, x, hx => by
    rw [mayG, Bool.and_eq_true] at h
    rcases tm_split r i x hx with e | e
    · simp only [List.length_cons]; omega
    · have := mayG_ran l (i + 1) _ h.2 x e
      simp only [List.length_cons]
      omega
theorem chk_has {l : List LNo} {of : List Int} (h : chkB l of = true) : isS l = true ∧ ∀ x ∈ of, hasN l x = true := by
  rw [chkB, Bool.and_eq_true] at h
  refine ⟨h.1, fun x hx => ?_⟩
  have := mayG_ran l 0 of h.2 x hx
  exact hasN_iff.2 (by omega)
structure LKin where
  ends : List Int
  begins : List Int
  both : List Int
  text : Int
deriving DecidableEq
def kin0 : LKin := ⟨[], [], [], 0⟩
def txtK (of : List Int) (k : Int) : Int := if 0 < k ∧ k < of.length ∧ of.getD k.toNat 0 = of.getD (k - 1).toNat 0 then of.getD k.toNat 0 else -1
def kinS (l : List LNo) (of : List Int) (k : Int) : LKin := ⟨choS l of (k - 1) (fun b => !hldK l of b k), (choS l of k (fun b => !hldK l of b (k - 1))).reverse, choS l of k (fun b => hldK l of b (k - 1)), txtK of k⟩
def kinG (l : List LNo) (of : List Int) (k : Int) : Bool := chkB l of && (decide (0 ≤ k) && decide (k ≤ of.length))
def kinA (l : List LNo) (of : List Int) (k : Int) : LKin := if kinG l of k = true then kinS l of k else kin0
theorem choS_len (l : List LNo) (of : List Int) (a : Int) (q : Int → Bool) (h : isS l = true) : (choS l of a q).length ≤ l.length := by
  unfold choS
  split
  · have h1 := List.length_filter_le q (abvN l (of.getD a.toNat 0))
    have h2 := abvN_len l (of.getD a.toNat 0) h
    omega
  · simp
def aKin (t : Int) : AV := .agg [.hdr 8, .hdr 9, .hdr 10, .raw (.int .i64 t)]
def oKin (x : LKin) : List (Nat × AO) := [(8, .row 3 1 (x.ends.map cInt)), (9, .row 3 1 (x.begins.map cInt)), (10, .row 3 1 (x.both.map cInt))]
attribute [go_sem] aKin oKin
set_option maxRecDepth 100000 in
set_option maxHeartbeats 8000000 in
theorem kinAt_ok (l : List LNo) (of : List Int) (k : Int) (hl : l.length ≤ 1000) (ho : of.length ≤ 1000) (hw : ∀ x ∈ l, x.words.length ≤ 9223372036854775807) : FnOk Try.prog 18 [.sl 20 (l.map cNo), .sl 1 (of.map cInt), .raw (.int .i64 k)] [] (.tup [aKin (kinA l of k).text, .raw (.int .i64 (errB (kinG l of k)))]) (oKin (kinA l of k)) := by
  refine fn_of_swp Try.func18 rfl (by kernel_rfl) (by kernel_rfl) (Nat.le_of_ble_eq_true rfl) Try.results18 ?_
  (refine swp_seqW ?_; simp only [go_sem, Bool.not_eq_true', Bool.not_eq_false'])
  cases hc : chkB l of with
  | false =>
    have e1 : kinG l of k = false := by simp [kinG, hc]
    have e2 : kinA l of k = kin0 := by simp [kinA, e1]
    rw [e1, e2]
    (refine swp_seqW ?_; simp only [go_sem, Bool.not_eq_true', Bool.not_eq_false'])
    (refine acall2 [] (check16_ok l of hl ho hw) (by simp only [go_sem, Bool.not_eq_true', Bool.not_eq_false']; rfl) (fit_of (by simp only [go_sem, Bool.not_eq_true', Bool.not_eq_false']) (by simp only [go_sem, Bool.not_eq_true', Bool.not_eq_false']) (by simp only [go_sem, Bool.not_eq_true', Bool.not_eq_false']) (by simp only [go_sem, Bool.not_eq_true', Bool.not_eq_false']) (by simp only [go_sem, Bool.not_eq_true', Bool.not_eq_false']) (by simp only [go_sem, Bool.not_eq_true', Bool.not_eq_false']) (by simp only [go_sem, Bool.not_eq_true', Bool.not_eq_false'])) ?_; simp only [go_sem, Bool.not_eq_true', Bool.not_eq_false'])
    rw [hc]
    have e3 : errB false = 4 := rfl
    rw [e3]
    refine ⟨fun _ => ?_, fun q => by omega⟩
    (refine ret2 [] (by simp only [go_sem, Bool.not_eq_true', Bool.not_eq_false', kin0, List.map]; rfl) ?_; simp only [go_sem, Bool.not_eq_true', Bool.not_eq_false', kin0, List.map])
  | true =>
    obtain ⟨hv, hf⟩ := chk_has hc
    (refine swp_seqW ?_; simp only [go_sem, Bool.not_eq_true', Bool.not_eq_false'])
    (refine acall2 [] (check16_ok l of hl ho hw) (by simp only [go_sem, Bool.not_eq_true', Bool.not_eq_false']; rfl) (fit_of (by simp only [go_sem, Bool.not_eq_true', Bool.not_eq_false']) (by simp only [go_sem, Bool.not_eq_true', Bool.not_eq_false']) (by simp only [go_sem, Bool.not_eq_true', Bool.not_eq_false']) (by simp only [go_sem, Bool.not_eq_true', Bool.not_eq_false']) (by simp only [go_sem, Bool.not_eq_true', Bool.not_eq_false']) (by simp only [go_sem, Bool.not_eq_true', Bool.not_eq_false']) (by simp only [go_sem, Bool.not_eq_true', Bool.not_eq_false'])) ?_; simp only [go_sem, Bool.not_eq_true', Bool.not_eq_false'])
    rw [hc]
    have e3 : errB true = 0 := rfl
    rw [e3]
    refine ⟨fun q => absurd rfl q, fun _ => ?_⟩
    (refine swp_seqW ?_; simp only [go_sem, Bool.not_eq_true', Bool.not_eq_false', List.length_map])
    by_cases hr : 0 ≤ k ∧ k ≤ of.length
    rotate_left
    · have e1 : kinG l of k = false := by
        simp only [kinG, hc, Bool.true_and, Bool.and_eq_false_iff, decide_eq_false_iff_not]
        omega
      have e2 : kinA l of k = kin0 := by simp [kinA, e1]
      have e4 : errB false = 4 := rfl
      rw [e1, e2, e4]
      refine ⟨fun q => ⟨fun q2 => ?_, fun q2 => by omega⟩, fun q => ?_⟩
      all_goals (refine ret2 [] (by simp only [go_sem, Bool.not_eq_true', Bool.not_eq_false', kin0, List.map]; rfl) ?_; simp only [go_sem, Bool.not_eq_true', Bool.not_eq_false', kin0, List.map])
    have e1 : kinG l of k = true := by
      simp only [kinG, hc, Bool.true_and, Bool.and_eq_true, decide_eq_true_eq]
      exact hr
    have e2 : kinA l of k = kinS l of k := by simp [kinA, e1]
    rw [e1, e2, e3]
    have hk : -1000 ≤ k ∧ k ≤ 100000 := by omega
    have c1 := choS_len l of (k - 1) (fun b => !hldK l of b k) hv
    have c2 := choS_len l of k (fun b => !hldK l of b (k - 1)) hv
    have c3 := choS_len l of k (fun b => hldK l of b (k - 1)) hv
    refine ⟨fun _ => ⟨fun q => by omega, fun _ => ?_⟩, fun q => by omega⟩
    (refine swp_seqW ?_; simp only [go_sem, Bool.not_eq_true', Bool.not_eq_false'])
    (refine swp_seqW ?_; simp only [go_sem, Bool.not_eq_true', Bool.not_eq_false'])
    (refine swp_seqW ?_; simp only [go_sem, Bool.not_eq_true', Bool.not_eq_false'])
    (refine swp_seqW ?_; simp only [go_sem, Bool.not_eq_true', Bool.not_eq_false'])
    refine ⟨by omega, ?_⟩
    (refine acall2 [] (cho2_ok l of k (k - 1) hv hl ho hw hf hk) (by simp only [go_sem, Bool.not_eq_true', Bool.not_eq_false']; rfl) (fit_of (by simp only [go_sem, Bool.not_eq_true', Bool.not_eq_false']) (by simp only [go_sem, Bool.not_eq_true', Bool.not_eq_false']) (by simp only [go_sem, Bool.not_eq_true', Bool.not_eq_false']) (by simp only [go_sem, Bool.not_eq_true', Bool.not_eq_false']) (by simp only [go_sem, Bool.not_eq_true', Bool.not_eq_false']) (by simp only [go_sem, Bool.not_eq_true', Bool.not_eq_false']) (by simp only [go_sem, Bool.not_eq_true', Bool.not_eq_false'])) ?_; simp only [go_sem, Bool.not_eq_true', Bool.not_eq_false'])
    (refine swp_seqW ?_; simp only [go_sem, Bool.not_eq_true', Bool.not_eq_false'])
    (refine acall2 [] (cho3_ok l of k k hv hl ho hw hf hk) (by simp only [go_sem, Bool.not_eq_true', Bool.not_eq_false']; rfl) (fit_of (by simp only [go_sem, Bool.not_eq_true', Bool.not_eq_false']) (by simp only [go_sem, Bool.not_eq_true', Bool.not_eq_false']) (by simp only [go_sem, Bool.not_eq_true', Bool.not_eq_false']) (by simp only [go_sem, Bool.not_eq_true', Bool.not_eq_false']) (by simp only [go_sem, Bool.not_eq_true', Bool.not_eq_false']) (by simp only [go_sem, Bool.not_eq_true', Bool.not_eq_false']) (by simp only [go_sem, Bool.not_eq_true', Bool.not_eq_false'])) ?_; simp only [go_sem, Bool.not_eq_true', Bool.not_eq_false'])
    (refine swp_seqW ?_; simp only [go_sem, Bool.not_eq_true', Bool.not_eq_false'])
    (refine acall2 [] (reverse_ok (choS l of k (fun b => !hldK l of b (k - 1))) (by omega)) (by simp only [go_sem, Bool.not_eq_true', Bool.not_eq_false']; rfl) (fit_of (by simp only [go_sem, Bool.not_eq_true', Bool.not_eq_false']) (by simp only [go_sem, Bool.not_eq_true', Bool.not_eq_false']) (by simp only [go_sem, Bool.not_eq_true', Bool.not_eq_false']) (by simp only [go_sem, Bool.not_eq_true', Bool.not_eq_false']) (by simp only [go_sem, Bool.not_eq_true', Bool.not_eq_false']) (by simp only [go_sem, Bool.not_eq_true', Bool.not_eq_false']) (by simp only [go_sem, Bool.not_eq_true', Bool.not_eq_false'])) ?_; simp only [go_sem, Bool.not_eq_true', Bool.not_eq_false'])
    (refine swp_seqW ?_; simp only [go_sem, Bool.not_eq_true', Bool.not_eq_false'])
    (refine acall2 [] (cho4_ok l of k k hv hl ho hw hf hk) (by simp only [go_sem, Bool.not_eq_true', Bool.not_eq_false']; rfl) (fit_of (by simp only [go_sem, Bool.not_eq_true', Bool.not_eq_false']) (by simp only [go_sem, Bool.not_eq_true', Bool.not_eq_false']) (by simp only [go_sem, Bool.not_eq_true', Bool.not_eq_false']) (by simp only [go_sem, Bool.not_eq_true', Bool.not_eq_false']) (by simp only [go_sem, Bool.not_eq_true', Bool.not_eq_false']) (by simp only [go_sem, Bool.not_eq_true', Bool.not_eq_false']) (by simp only [go_sem, Bool.not_eq_true', Bool.not_eq_false'])) ?_; simp only [go_sem, Bool.not_eq_true', Bool.not_eq_false'])
    have eS : kinS l of k = ⟨choS l of (k - 1) (fun b => !hldK l of b k), (choS l of k (fun b => !hldK l of b (k - 1))).reverse, choS l of k (fun b => hldK l of b (k - 1)), txtK of k⟩ := rfl
    rw [eS]
    generalize choS l of (k - 1) (fun b => !hldK l of b k) = E
    generalize (choS l of k (fun b => !hldK l of b (k - 1))).reverse = B
    generalize choS l of k (fun b => hldK l of b (k - 1)) = D
    refine swp_cutS (fun t : Int => ⟨[(6, .hdr 24), (11, .hdr 40)], [(24, some (.cells 28 [.hdr 25, .hdr 26, .hdr 27, .raw (.int .i64 0)])), (25, some (.row 3 1 [])), (26, some (.row 3 1 [])), (27, some (.row 3 1 [])), (40, some (.cells 28 [.hdr 41, .hdr 42, .hdr 43, .raw (.int .i64 t)])), (41, some (.row 3 1 (E.map cInt))), (42, some (.row 3 1 (B.map cInt))), (43, some (.row 3 1 (D.map cInt)))], none⟩) (fun t => t = txtK of k) 10 ?_ ?_
    · (refine swp_seqW ?_; simp only [go_sem, Bool.not_eq_true', Bool.not_eq_false', List.length_map])
      have hget : ∀ j (h : j < of.length), of.getD j 0 = of[j] := fun j h => by simp [List.getD_eq_getElem?_getD, h]
      repeat' first | contradiction | intro _ | refine And.intro ?_ ?_ | refine ex_get (by omega) ?_ | (show drawB _ _ = true; kernel_rfl) | (refine ret2 [] (by simp only [go_sem, Bool.not_eq_true', Bool.not_eq_false']; rfl) ?_; simp only [go_sem, Bool.not_eq_true', Bool.not_eq_false'])
      all_goals first
        | omega
        | ((refine swp_condW ?_; simp only [go_sem, Bool.not_eq_true', Bool.not_eq_false'])
           (refine swp_lastW ?_; simp only [go_sem, Bool.not_eq_true', Bool.not_eq_false'])
           have e5 : -1 = txtK of k := by unfold txtK; rw [if_neg (by omega)]
           (refine cut_end [] (-1) (by simp only [go_sem, Bool.not_eq_true', Bool.not_eq_false']; rfl) ?_ ?_; (focus (simp only [go_sem, Bool.not_eq_true', Bool.not_eq_false']; done)))
           exact e5)
        | skip
      have k1 := hget k.toNat (by omega)
      have k2 := hget (k - 1).toNat (by omega)
      (refine swp_condW ?_; simp only [go_sem, Bool.not_eq_true', Bool.not_eq_false'])
      refine ⟨fun z => ?_, fun z => ?_⟩
      · (refine swp_lastW ?_; simp only [go_sem, Bool.not_eq_true', Bool.not_eq_false'])
        refine ⟨by omega, ex_get (by omega) ?_⟩
        have e5 : of[k.toNat] = txtK of k := by unfold txtK; rw [if_pos ⟨by omega, by omega, by rw [k1, k2]; exact z⟩, k1]
        (refine cut_end [] (of[k.toNat]) (by simp only [go_sem, Bool.not_eq_true', Bool.not_eq_false']; rfl) ?_ ?_; (focus (simp only [go_sem, Bool.not_eq_true', Bool.not_eq_false']; done)))
        exact e5
      · (refine swp_lastW ?_; simp only [go_sem, Bool.not_eq_true', Bool.not_eq_false'])
        have e5 : -1 = txtK of k := by unfold txtK; rw [if_neg (by rw [k1, k2]; exact fun q => z q.2.2)]
        (refine cut_end [] (-1) (by simp only [go_sem, Bool.not_eq_true', Bool.not_eq_false']; rfl) ?_ ?_; (focus (simp only [go_sem, Bool.not_eq_true', Bool.not_eq_false']; done)))
        exact e5
    rintro t rfl
    (refine swp_lastW ?_; simp only [go_sem, Bool.not_eq_true', Bool.not_eq_false'])
    (refine ret2 [] (by simp only [go_sem, Bool.not_eq_true', Bool.not_eq_false']; rfl) ?_; simp only [go_sem, Bool.not_eq_true', Bool.not_eq_false'])
end Go.Proofs.Ytbgcmnccjfdooaa
/- CHAPTER 16: kin.Held. -/
/- G -/
/- BOOLS -/
set_option linter.unusedSimpArgs false
set_option linter.unusedVariables false
namespace Go.Proofs.Ytbgcmnccjfdooaa
open Go.RowKit

abbrev hO (l : List LNo) (of : List Int) (b : Int) : List (Nat × AO) := [(0, .cells 76 [.sl 20 (l.map cNo), .sl 1 (of.map cInt)]), (1, .cells 3 [.raw (.int .i64 b)])]
set_option maxRecDepth 100000 in
set_option maxHeartbeats 4000000 in
theorem held1_ok (l : List LNo) (of : List Int) (b x : Int) (hl : l.length ≤ 1000) (hs : ∀ x ∈ l, 1 ≤ x.size ∧ x.size ≤ l.length) (hb : hasN l b = true) (hx : hasN l x = true) : FnOk Try.prog 66 [.raw (.int .i64 x), .hdr 0, .hdr 1] [(0, .cells 76 [.sl 20 (l.map cNo), .sl 1 (of.map cInt)]), (1, .cells 3 [.raw (.int .i64 b)])] (.raw (.bool (holN l b x))) [(0, .cells 76 [.sl 20 (l.map cNo), .sl 1 (of.map cInt)]), (1, .cells 3 [.raw (.int .i64 b)])] := by
  refine fn_of_awp Try.func66 rfl (by kernel_rfl) (by kernel_rfl) (Nat.le_of_ble_eq_true rfl) Try.results66 ?_
  simp only [go_sem, Bool.not_eq_true', Bool.not_eq_false']
  (refine acall2 [] (holds16_ok l b x hl hs hb hx) (by simp only [go_sem, Bool.not_eq_true', Bool.not_eq_false']; rfl) (fit_of (by simp only [go_sem, Bool.not_eq_true', Bool.not_eq_false']) (by simp only [go_sem, Bool.not_eq_true', Bool.not_eq_false']) (by simp only [go_sem, Bool.not_eq_true', Bool.not_eq_false']) (by simp only [go_sem, Bool.not_eq_true', Bool.not_eq_false']) (by simp only [go_sem, Bool.not_eq_true', Bool.not_eq_false']) (by simp only [go_sem, Bool.not_eq_true', Bool.not_eq_false']) (by simp only [go_sem, Bool.not_eq_true', Bool.not_eq_false'])) ?_; simp only [go_sem, Bool.not_eq_true', Bool.not_eq_false'])
  (refine ret2 [] (by simp only [go_sem, Bool.not_eq_true', Bool.not_eq_false']; rfl) ?_; simp only [go_sem, Bool.not_eq_true', Bool.not_eq_false'])
set_option maxRecDepth 100000 in
set_option maxHeartbeats 4000000 in
theorem idxH_ok (l : List LNo) (of : List Int) (b : Int) (hl : l.length ≤ 1000) (ho : of.length ≤ 1000) (hs : ∀ x ∈ l, 1 ≤ x.size ∧ x.size ≤ l.length) (hf : ∀ x ∈ of, hasN l x = true) (hb : hasN l b = true) : FnOk Try.prog 67 [.sl 1 (of.map cInt), .clo (.func 66) [.hdr 0, .hdr 1]] [(0, .cells 76 [.sl 20 (l.map cNo), .sl 1 (of.map cInt)]), (1, .cells 3 [.raw (.int .i64 b)])] (.raw (.int .i64 (idxI (holN l b) of))) [(0, .cells 76 [.sl 20 (l.map cNo), .sl 1 (of.map cInt)]), (1, .cells 3 [.raw (.int .i64 b)])] := by
  refine fn_of_awp Try.func67 rfl (by kernel_rfl) (by kernel_rfl) (Nat.le_of_ble_eq_true rfl) Try.results67 ?_
  simp only [go_sem, Bool.not_eq_true', Bool.not_eq_false', List.length_map]
  refine aloop2 [] (fun k : Nat => ⟨[(0, .sl 1 (of.map cInt)), (1, .clo (.func 66) [.hdr 0, .hdr 1]), (7, .raw (.int .i64 of.length)), (8, .raw (.int .i64 k))], [(0, some (.cells 76 [.sl 20 (l.map cNo), .sl 1 (of.map cInt)])), (1, some (.cells 3 [.raw (.int .i64 b)]))], none⟩) (fun k => k ≤ of.length ∧ ∀ j (hj : j < of.length), j < k → holN l b of[j] = false) (fun k => of.length - k) 4 0 (by simp only [go_sem, Bool.not_eq_true', Bool.not_eq_false']; rfl) (by simp only [go_sem, Bool.not_eq_true', Bool.not_eq_false']) ?_ ?_
  · exact ⟨Nat.zero_le _, fun j _ h => absurd h (Nat.not_lt_zero j)⟩
  · rintro k ⟨h1, h2⟩
    simp only [go_sem, Bool.not_eq_true', Bool.not_eq_false', List.length_map]
    refine ⟨fun h5 => ?_, fun h5 => ?_⟩
    · have hk : k < of.length := by omega
      refine ⟨by omega, ex_get hk ?_⟩
      (refine acall2 [] (held1_ok l of b of[k] hl hs hb (hf _ (List.getElem_mem hk))) (by simp only [go_sem, Bool.not_eq_true', Bool.not_eq_false']; rfl) (fit_of (by simp only [go_sem, Bool.not_eq_true', Bool.not_eq_false']) (by simp only [go_sem, Bool.not_eq_true', Bool.not_eq_false']) (by simp only [go_sem, Bool.not_eq_true', Bool.not_eq_false']) (by simp only [go_sem, Bool.not_eq_true', Bool.not_eq_false']) (by simp only [go_sem, Bool.not_eq_true', Bool.not_eq_false']) (by simp only [go_sem, Bool.not_eq_true', Bool.not_eq_false']) (by simp only [go_sem, Bool.not_eq_true', Bool.not_eq_false'])) ?_; simp only [go_sem, Bool.not_eq_true', Bool.not_eq_false'])
      refine ⟨fun h6 => ?_, fun h6 => ⟨by omega, ?_⟩⟩
      · rw [idxI_at hk h2 h6]
        (refine ret2 [] (by simp only [go_sem, Bool.not_eq_true', Bool.not_eq_false']; rfl) ?_; simp only [go_sem, Bool.not_eq_true', Bool.not_eq_false'])
      · (refine loop_end [] (k + 1) (by simp only [go_sem, Bool.not_eq_true', Bool.not_eq_false']; rfl) ?_ ?_ ?_; (focus first | omega | (simp only; omega)); (focus (simp only [go_sem, Bool.not_eq_true', Bool.not_eq_false']; done)))
        refine ⟨by omega, fun j hj h7 => ?_⟩
        rcases Nat.lt_succ_iff_lt_or_eq.1 h7 with h8 | h8
        · exact h2 j hj h8
        · subst h8; exact h6
    · rw [idxI_no (fun j hj => h2 j hj (by omega))]
      (refine ret2 [] (by simp only [go_sem, Bool.not_eq_true', Bool.not_eq_false']; rfl) ?_; simp only [go_sem, Bool.not_eq_true', Bool.not_eq_false'])
/-- how many ahead are so. -/
def whl (q : Int → Bool) : List Int → Nat
  | [] => 0
  | x :: r => if q x = true then whl q r + 1 else 0
def heldS (l : List LNo) (of : List Int) (b : Int) : Int × Int := if idxI (holN l b) of < 0 then (0, 0) else (idxI (holN l b) of, idxI (holN l b) of + whl (holN l b) (of.drop (idxI (holN l b) of).toNat))
def heldG (l : List LNo) (of : List Int) (b : Int) : Bool := chkB l of && (decide (0 ≤ b) && (decide (b < l.length) && decide (kinN l b.toNat = 1)))
def heldA (l : List LNo) (of : List Int) (b : Int) : Int × Int := if heldG l of b = true then heldS l of b else (0, 0)
theorem idxI_lt (p : Int → Bool) (l : List Int) : -1 ≤ idxI p l ∧ idxI p l < l.length := by
  unfold idxI
  split
  · omega
  · omega
set_option maxRecDepth 100000 in
set_option maxHeartbeats 8000000 in
theorem held16_ok (l : List LNo) (of : List Int) (b : Int) (hl : l.length ≤ 1000) (ho : of.length ≤ 1000) (hw : ∀ x ∈ l, x.words.length ≤ 9223372036854775807) : FnOk Try.prog 19 [.sl 20 (l.map cNo), .sl 1 (of.map cInt), .raw (.int .i64 b)] [] (.tup [.raw (.int .i64 (heldA l of b).1), .raw (.int .i64 (heldA l of b).2)]) [] := by
  refine fn_of_swp Try.func19 rfl (by kernel_rfl) (by kernel_rfl) (Nat.le_of_ble_eq_true rfl) Try.results19 ?_
  (refine swp_seqW ?_; simp only [go_sem, Bool.not_eq_true', Bool.not_eq_false'])
  by_cases hg : heldG l of b = true
  rotate_left
  · have e : heldA l of b = (0, 0) := if_neg hg
    rw [e]
    (refine swp_seqW ?_; simp only [go_sem, Bool.not_eq_true', Bool.not_eq_false'])
    (refine acall2 [] (check16_ok l of hl ho hw) (by simp only [go_sem, Bool.not_eq_true', Bool.not_eq_false']; rfl) (fit_of (by simp only [go_sem, Bool.not_eq_true', Bool.not_eq_false']) (by simp only [go_sem, Bool.not_eq_true', Bool.not_eq_false']) (by simp only [go_sem, Bool.not_eq_true', Bool.not_eq_false']) (by simp only [go_sem, Bool.not_eq_true', Bool.not_eq_false']) (by simp only [go_sem, Bool.not_eq_true', Bool.not_eq_false']) (by simp only [go_sem, Bool.not_eq_true', Bool.not_eq_false']) (by simp only [go_sem, Bool.not_eq_true', Bool.not_eq_false'])) ?_; simp only [go_sem, Bool.not_eq_true', Bool.not_eq_false', List.length_map])
    cases hc : chkB l of with
    | false =>
      have e3 : errB false = 4 := rfl
      rw [e3]
      repeat' first | contradiction | intro _ | refine And.intro ?_ ?_ | refine ex_get (by omega) ?_ | (show drawB _ _ = true; kernel_rfl) | (refine ret2 [] (by simp only [go_sem, Bool.not_eq_true', Bool.not_eq_false']; rfl) ?_; simp only [go_sem, Bool.not_eq_true', Bool.not_eq_false'])
      all_goals skip
    | true =>
      have e3 : errB true = 0 := rfl
      rw [e3]
      simp only [heldG, hc, Bool.true_and, Bool.and_eq_true, decide_eq_true_eq, not_and] at hg
      repeat' first | contradiction | intro _ | refine And.intro ?_ ?_ | refine ex_get (by omega) ?_ | (show drawB _ _ = true; kernel_rfl) | (refine ret2 [] (by simp only [go_sem, Bool.not_eq_true', Bool.not_eq_false']; rfl) ?_; simp only [go_sem, Bool.not_eq_true', Bool.not_eq_false'])
      all_goals first
        | omega
        | exact absurd (by rw [kinN_get (by omega)]; assumption) (hg (by omega) (by omega))
  have e : heldA l of b = heldS l of b := if_pos hg
  rw [e]
  simp only [heldG, Bool.and_eq_true, decide_eq_true_eq] at hg
  obtain ⟨hc, hb1, hb2, hb3⟩ := hg
  obtain ⟨hv, hf⟩ := chk_has hc
  have hs := isS_sizes hv
  have hb := hasN_iff.2 ⟨hb1, hb2⟩
  have e3 : errB true = 0 := rfl
  have hbl : b.toNat < l.length := by omega
  rw [kinN_get hbl] at hb3
  (refine swp_seqW ?_; simp only [go_sem, Bool.not_eq_true', Bool.not_eq_false'])
  (refine acall2 [] (check16_ok l of hl ho hw) (by simp only [go_sem, Bool.not_eq_true', Bool.not_eq_false']; rfl) (fit_of (by simp only [go_sem, Bool.not_eq_true', Bool.not_eq_false']) (by simp only [go_sem, Bool.not_eq_true', Bool.not_eq_false']) (by simp only [go_sem, Bool.not_eq_true', Bool.not_eq_false']) (by simp only [go_sem, Bool.not_eq_true', Bool.not_eq_false']) (by simp only [go_sem, Bool.not_eq_true', Bool.not_eq_false']) (by simp only [go_sem, Bool.not_eq_true', Bool.not_eq_false']) (by simp only [go_sem, Bool.not_eq_true', Bool.not_eq_false'])) ?_; simp only [go_sem, Bool.not_eq_true', Bool.not_eq_false', List.length_map])
  rw [hc, e3]
  repeat' first | contradiction | intro _ | refine And.intro ?_ ?_ | refine ex_get (by omega) ?_ | (show drawB _ _ = true; kernel_rfl) | (refine ret2 [] (by simp only [go_sem, Bool.not_eq_true', Bool.not_eq_false']; rfl) ?_; simp only [go_sem, Bool.not_eq_true', Bool.not_eq_false'])
  all_goals first
    | omega
    | skip
  (refine swp_seqW ?_; simp only [go_sem, Bool.not_eq_true', Bool.not_eq_false'])
  (refine swp_seqW ?_; simp only [go_sem, Bool.not_eq_true', Bool.not_eq_false'])
  (refine swp_seqW ?_; simp only [go_sem, Bool.not_eq_true', Bool.not_eq_false'])
  (refine acall2 [] (idxH_ok l of b hl ho hs hf hb) (by simp only [go_sem, Bool.not_eq_true', Bool.not_eq_false']; rfl) (fit_of (by simp only [go_sem, Bool.not_eq_true', Bool.not_eq_false']) (by simp only [go_sem, Bool.not_eq_true', Bool.not_eq_false']) (by simp only [go_sem, Bool.not_eq_true', Bool.not_eq_false']) (by simp only [go_sem, Bool.not_eq_true', Bool.not_eq_false']) (by simp only [go_sem, Bool.not_eq_true', Bool.not_eq_false']) (by simp only [go_sem, Bool.not_eq_true', Bool.not_eq_false']) (by simp only [go_sem, Bool.not_eq_true', Bool.not_eq_false'])) ?_; simp only [go_sem, Bool.not_eq_true', Bool.not_eq_false'])
  have hi := idxI_lt (holN l b) of
  unfold heldS
  generalize idxI (holN l b) of = f at hi ⊢
  refine ⟨fun h1 => ?_, fun h1 => ?_⟩
  · simp [h1]
  rw [if_neg h1]
  obtain ⟨m, rfl⟩ : ∃ m : Nat, f = m := ⟨f.toNat, by omega⟩
  rw [Int.toNat_natCast]
  refine swp_cutS (fun _ : Unit => ⟨[(6, .raw (.int .i64 m)), (7, .raw (.int .i64 ((m : Int) + whl (holN l b) (of.drop m))))], [], none⟩) (fun _ => True) 3 ?_ ?_
  · (refine swp_seqW ?_; simp only [go_sem, Bool.not_eq_true', Bool.not_eq_false'])
    refine swp_block ?_
    refine swp_loop2 [] (fun n : Nat => ⟨[(1, .sl 1 (of.map cInt)), (6, .raw (.int .i64 m)), (7, .raw (.int .i64 n)), (9, .clo (.func 66) [.hdr 40, .hdr 41])], [(40, some (.cells 76 [.sl 20 (l.map cNo), .sl 1 (of.map cInt)])), (41, some (.cells 3 [.raw (.int .i64 b)]))], none⟩) (fun n => m ≤ n ∧ n ≤ of.length ∧ (n : Int) + whl (holN l b) (of.drop n) = (m : Int) + whl (holN l b) (of.drop m)) (fun n => of.length - n) 10 m (by simp only [go_sem, Bool.not_eq_true', Bool.not_eq_false']; rfl) (by simp only [go_sem, Bool.not_eq_true', Bool.not_eq_false']) ?_ ?_
    · exact ⟨Nat.le_refl _, by omega, rfl⟩
    · rintro n ⟨k1, k2, k3⟩
      (refine swp_seqW ?_; simp only [go_sem, Bool.not_eq_true', Bool.not_eq_false', List.length_map])
      refine ⟨fun h5 => ⟨by omega, ?_⟩, fun h5 => ?_⟩
      · have hn : n < of.length := by omega
        rw [List.drop_eq_getElem_cons hn, whl] at k3
        refine ex_get hn ?_
        (refine acall2 [] (held1_ok l of b of[n] hl hs hb (hf _ (List.getElem_mem hn))) (by simp only [go_sem, Bool.not_eq_true', Bool.not_eq_false']; rfl) (fit_of (by simp only [go_sem, Bool.not_eq_true', Bool.not_eq_false']) (by simp only [go_sem, Bool.not_eq_true', Bool.not_eq_false']) (by simp only [go_sem, Bool.not_eq_true', Bool.not_eq_false']) (by simp only [go_sem, Bool.not_eq_true', Bool.not_eq_false']) (by simp only [go_sem, Bool.not_eq_true', Bool.not_eq_false']) (by simp only [go_sem, Bool.not_eq_true', Bool.not_eq_false']) (by simp only [go_sem, Bool.not_eq_true', Bool.not_eq_false'])) ?_; simp only [go_sem, Bool.not_eq_true', Bool.not_eq_false'])
        refine ⟨fun h6 => ?_, fun h6 => ?_⟩
        · rw [if_pos h6] at k3
          (refine swp_lastW ?_; simp only [go_sem, Bool.not_eq_true', Bool.not_eq_false'])
          refine ⟨by omega, ?_⟩
          (refine loop_end [] (n + 1) (by simp only [go_sem, Bool.not_eq_true', Bool.not_eq_false']; rfl) ?_ ?_ ?_; (focus first | omega | (simp only; omega)); (focus (simp only [go_sem, Bool.not_eq_true', Bool.not_eq_false']; done)))
          exact ⟨by omega, by omega, by omega⟩
        · rw [if_neg (by rw [h6]; decide)] at k3
          have e9 : (n : Int) = (m : Int) + whl (holN l b) (of.drop m) := by omega
          rw [← e9]
          (refine cut_end [] (()) (by simp only [go_sem, Bool.not_eq_true', Bool.not_eq_false']; rfl) ?_ ?_; (focus (simp only [go_sem, Bool.not_eq_true', Bool.not_eq_false']; done)))
          trivial
      · rw [List.drop_of_length_le (by omega), whl] at k3
        have e9 : (n : Int) = (m : Int) + whl (holN l b) (of.drop m) := by omega
        rw [← e9]
        (refine cut_end [] (()) (by simp only [go_sem, Bool.not_eq_true', Bool.not_eq_false']; rfl) ?_ ?_; (focus (simp only [go_sem, Bool.not_eq_true', Bool.not_eq_false']; done)))
        trivial
  rintro - -
  (refine swp_lastW ?_; simp only [go_sem, Bool.not_eq_true', Bool.not_eq_false'])
end Go.Proofs.Ytbgcmnccjfdooaa
/- CHAPTER 16: rows that may be: plainly; the document's answer. -/
/- G -/
/- BOOLS -/
set_option linter.unusedSimpArgs false
set_option linter.unusedVariables false
namespace Go.Proofs.Ytbgcmnccjfdooaa
open Go.RowKit

theorem tm_take : ∀ (r : List Int) (i : Int), r.take (tmG r i) = List.replicate (tmG r i) i
  | [], _ => by simp [tmG]
  | y :: r, i => by
    rw [tmG]
    split
    · next q => rw [List.take_succ_cons, List.replicate_succ, tm_take r i, q]
    · simp
theorem tm_count (r : List Int) (i v : Int) : r.count v = (if v = i then tmG r i else 0) + (r.drop (tmG r i)).count v := by
  conv => lhs; rw [← List.take_append_drop (tmG r i) r, List.count_append, tm_take]
  congr 1
  rw [List.count_replicate]
  by_cases q : v = i
  · subst q; simp
  · rw [if_neg q, if_neg (by simp; exact fun z => q z.symm)]
theorem drop_ge : ∀ (r : List Int) (i : Int), r.Pairwise (· ≤ ·) → (∀ x ∈ r, i ≤ x) → ∀ x ∈ r.drop (tmG r i), i + 1 ≤ x
  | [], i, _, _, x, hx => by simp [tmG] at hx
  | y :: r, i, hp, hg, x, hx => by
    rw [List.pairwise_cons] at hp
    rw [tmG] at hx
    split at hx
    · rw [List.drop_succ_cons] at hx
      exact drop_ge r i hp.2 (fun z hz => hg z (List.mem_cons_of_mem _ hz)) x hx
    · next q =>
      have := hg y List.mem_cons_self
      rw [List.drop_zero] at hx
      rcases List.mem_cons.1 hx with e | e
      · omega
      · have := hp.1 x e; omega
theorem pair_app {a b : List Int} (ha : a.Pairwise (· ≤ ·)) (hb : b.Pairwise (· ≤ ·)) (h : ∀ x ∈ a, ∀ y ∈ b, x ≤ y) : (a ++ b).Pairwise (· ≤ ·) := List.pairwise_append.2 ⟨ha, hb, h⟩
theorem mayG_sorted : ∀ (l : List LNo) (i : Nat) (r : List Int), mayG l i r = true → r.Pairwise (· ≤ ·)
  | [], i, r, h => by
    rw [mayG, decide_eq_true_eq] at h
    rw [List.eq_nil_of_length_eq_zero h]; exact List.Pairwise.nil
  | y :: l, i, r, h => by
    rw [mayG, Bool.and_eq_true] at h
    have ih := mayG_sorted l (i + 1) _ h.2
    have hr := mayG_ran l (i + 1) _ h.2
    rw [← List.take_append_drop (tmG r i) r]
    refine pair_app ?_ ih fun x hx z hz => ?_
    · rw [tm_take]
      exact List.pairwise_replicate.2 (.inr (Int.le_refl _))
    · rw [tm_take] at hx
      have := List.eq_of_mem_replicate hx
      have := hr z hz
      omega
theorem mayG_cnt : ∀ (l : List LNo) (i : Nat) (r : List Int), mayG l i r = true → ∀ j (hj : j < l.length), okT l[j] (r.count ((i + j : Nat) : Int)) = true
  | [], i, r, h, j, hj => absurd hj (Nat.not_lt_zero _)
  | y :: l, i, r, h, j, hj => by
    rw [mayG, Bool.and_eq_true] at h
    have hr := mayG_ran l (i + 1) _ h.2
    rw [tm_count r i]
    cases j with
    | zero =>
      have : (r.drop (tmG r i)).count ((i + 0 : Nat) : Int) = 0 := List.count_eq_zero.2 fun hm => by have := hr _ hm; omega
      rw [this, if_pos (by omega)]
      exact h.1
    | succ j =>
      rw [if_neg (by omega), Nat.zero_add, show i + (j + 1) = i + 1 + j by omega]
      exact mayG_cnt l (i + 1) _ h.2 j (by simpa using hj)
theorem mayG_of : ∀ (l : List LNo) (i : Nat) (r : List Int), r.Pairwise (· ≤ ·) → (∀ x ∈ r, (i : Int) ≤ x ∧ x < i + l.length) → (∀ j (hj : j < l.length), okT l[j] (r.count ((i + j : Nat) : Int)) = true) → mayG l i r = true
  | [], i, r, _, h, _ => by
    cases r with
    | nil => rfl
    | cons x r => have := h x List.mem_cons_self; simp only [List.length_nil] at this; omega
  | y :: l, i, r, hp, h, hc => by
    have hd := drop_ge r i hp (fun x hx => (h x hx).1)
    have h0 := hc 0 (by simp)
    rw [tm_count r i, if_pos (by omega), List.count_eq_zero.2 (fun hm => by have := hd _ hm; omega)] at h0
    rw [mayG, Bool.and_eq_true]
    refine ⟨h0, mayG_of l (i + 1) _ (hp.drop) (fun x hx => ⟨by have := hd x hx; omega, ?_⟩) fun j hj => ?_⟩
    · have := (h x (List.mem_of_mem_drop hx)).2
      simp only [List.length_cons] at this
      omega
    · have := hc (j + 1) (by simpa using hj)
      rw [tm_count r i, if_neg (by omega), Nat.zero_add, show i + (j + 1) = i + 1 + j by omega] at this
      exact this
/-- a row that may be. -/
structure RowP (l : List LNo) (of : List Int) : Prop where
  has : ∀ k (h : k < of.length), 0 ≤ of[k] ∧ of[k] < l.length
  kind : ∀ k (h : k < of.length), kinN l of[k].toNat = 2 ∨ kinN l of[k].toNat = 3
  le : ∀ j k (h1 : j < of.length) (h2 : k < of.length), j < k → of[j] ≤ of[k]
  cnt : ∀ j (h : j < l.length), okT l[j] (of.count (j : Int)) = true
theorem chk_row {l : List LNo} {of : List Int} (h : chkB l of = true) : RowP l of := by
  rw [chkB, Bool.and_eq_true] at h
  have h1 := mayG_ran l 0 of h.2
  have h2 := mayG_sorted l 0 of h.2
  have h3 : ∀ j (hj : j < l.length), okT l[j] (of.count (j : Int)) = true := fun j hj => by
    have := mayG_cnt l 0 of h.2 j hj
    rwa [Nat.zero_add] at this
  have h4 : ∀ k (h : k < of.length), 0 ≤ of[k] ∧ of[k] < l.length := fun k hk => by have := h1 _ (List.getElem_mem hk); omega
  refine ⟨h4, fun k hk => ?_, fun j k a b hjk => List.pairwise_iff_getElem.1 h2 j k a b hjk, h3⟩
  have h5 := h4 k hk
  have h6 : of[k].toNat < l.length := by omega
  have h7 := h3 _ h6
  have h8 : 0 < of.count ((of[k].toNat : Nat) : Int) := by
    rw [List.count_pos_iff, Int.toNat_of_nonneg h5.1]
    exact List.getElem_mem hk
  rw [kinN_get h6]
  unfold okT at h7
  split at h7
  · left; assumption
  · split at h7
    · right; assumption
    · rw [decide_eq_true_eq] at h7; omega
theorem row_chk {l : List LNo} {of : List Int} (hv : isS l = true) (h : RowP l of) : chkB l of = true := by
  rw [chkB, Bool.and_eq_true]
  refine ⟨hv, mayG_of l 0 of (List.pairwise_iff_getElem.2 fun i j a b hij => h.le i j a b hij) (fun x hx => ?_) fun j hj => ?_⟩
  · obtain ⟨k, hk, rfl⟩ := List.getElem_of_mem hx
    have := h.has k hk
    omega
  · have := h.cnt j hj
    rwa [Nat.zero_add]
theorem row_of {l : List LNo} {of : List Int} (h1 : ∀ k (h : k < of.length), 0 ≤ of[k] ∧ of[k] < l.length) (h2 : ∀ k (h : k < of.length), kinN l of[k].toNat = 2 ∨ kinN l of[k].toNat = 3) (h3 : ∀ k (h : k + 1 < of.length), of[k]'(by omega) ≤ of[k + 1])
    (h4 : ∀ j (h : j < l.length), (l[j].kind = 2 → 1 ≤ of.count (j : Int) ∧ of.count (j : Int) ≤ l[j].words.length) ∧ (l[j].kind = 3 → of.count (j : Int) = 1)) : RowP l of := by
  refine ⟨h1, h2, ?_, fun j hj => ?_⟩
  · intro j k
    induction k with
    | zero => intro _ _ h; exact absurd h (Nat.not_lt_zero _)
    | succ k ih =>
      intro a b hjk
      have := h3 k b
      by_cases q : j = k
      · subst q; exact this
      · have := ih a (by omega) (by omega)
        omega
  · unfold okT
    have h := h4 j hj
    split
    · next q => have := h.1 q; simp [this.1, this.2]
    · next q =>
      split
      · next q3 => simp [h.2 q3]
      · next q3 =>
        rw [decide_eq_true_eq, List.count_eq_zero]
        intro hm
        obtain ⟨k, hk, e⟩ := List.getElem_of_mem hm
        have := h2 k hk
        rw [e, Int.toNat_natCast, kinN_get hj] at this
        omega
end Go.Proofs.Ytbgcmnccjfdooaa
/- CHAPTER 16: the document's answer: Check. -/
/- G -/
/- BOOLS -/
set_option linter.unusedSimpArgs false
set_option linter.unusedVariables false
namespace Go.Proofs.Ytbgcmnccjfdooaa
open Go.RowKit

set_option maxRecDepth 100000 in
set_option maxHeartbeats 8000000 in
theorem rcheck_ok (l : List LNo) (of : List Int) (hl : l.length ≤ 1000) (ho : of.length ≤ 1000) (hw : ∀ x ∈ l, x.words.length ≤ 9223372036854775807) : FnOk Try.prog 20 [.sl 20 (l.map cNo), .sl 1 (of.map cInt)] [] (.raw (.int .i64 (errB (chkB l of)))) [] := by
  have hrow : chkB l of = true → RowP l of := fun h => chk_row h
  have hbad : ¬ RowP l of → (4 : Int) = errB (chkB l of) := fun h => by
    cases e : chkB l of with
    | true => exact absurd (hrow e) h
    | false => rfl
  refine fn_of_swp Try.func20 rfl (by kernel_rfl) (by kernel_rfl) (Nat.le_of_ble_eq_true rfl) Try.results20 ?_
  (refine swp_seqW ?_; simp only [go_sem, Bool.not_eq_true', Bool.not_eq_false'])
  (refine swp_seqW ?_; simp only [go_sem, Bool.not_eq_true', Bool.not_eq_false'])
  (refine acall2 [] (isR2_ok l hl hw) (by simp only [go_sem, Bool.not_eq_true', Bool.not_eq_false']; rfl) (fit_of (by simp only [go_sem, Bool.not_eq_true', Bool.not_eq_false']) (by simp only [go_sem, Bool.not_eq_true', Bool.not_eq_false']) (by simp only [go_sem, Bool.not_eq_true', Bool.not_eq_false']) (by simp only [go_sem, Bool.not_eq_true', Bool.not_eq_false']) (by simp only [go_sem, Bool.not_eq_true', Bool.not_eq_false']) (by simp only [go_sem, Bool.not_eq_true', Bool.not_eq_false']) (by simp only [go_sem, Bool.not_eq_true', Bool.not_eq_false'])) ?_; simp only [go_sem, Bool.not_eq_true', Bool.not_eq_false'])
  refine ⟨fun hv => ?_, fun hv => ?_⟩
  · simp [chkB, hv, errB]
  refine swp_cutS (fun _ : Unit => ⟨[(0, .sl 20 (l.map cNo)), (1, .sl 1 (of.map cInt))], [], none⟩) (fun _ => (∀ k (h : k < of.length), 0 ≤ of[k] ∧ of[k] < l.length) ∧ (∀ k (h : k < of.length), kinN l of[k].toNat = 2 ∨ kinN l of[k].toNat = 3) ∧ (∀ k (h : k + 1 < of.length), of[k]'(by omega) ≤ of[k + 1])) 3 ?_ ?_
  · (refine swp_seqW ?_; simp only [go_sem, Bool.not_eq_true', Bool.not_eq_false'])
    refine swp_block ?_
    refine swp_loop2 [] (fun k : Nat => ⟨[(0, .sl 20 (l.map cNo)), (1, .sl 1 (of.map cInt)), (5, .raw (.int .i64 k))], [], none⟩) (fun n => n ≤ of.length ∧ (∀ k (h : k < of.length), k < n → 0 ≤ of[k] ∧ of[k] < l.length) ∧ (∀ k (h : k < of.length), k < n → kinN l of[k].toNat = 2 ∨ kinN l of[k].toNat = 3) ∧ (∀ k (h : k + 1 < of.length), k + 1 < n → of[k]'(by omega) ≤ of[k + 1])) (fun k => of.length - k) 4 0 (by simp only [go_sem, Bool.not_eq_true', Bool.not_eq_false']; rfl) (by simp only [go_sem, Bool.not_eq_true', Bool.not_eq_false']) ?_ ?_
    · exact ⟨Nat.zero_le _, fun k _ h => absurd h (Nat.not_lt_zero _), fun k _ h => absurd h (Nat.not_lt_zero _), fun k _ h => absurd h (Nat.not_lt_zero _)⟩
    · rintro n ⟨h1, h2, h3, h4⟩
      (refine swp_lastW ?_; simp only [go_sem, Bool.not_eq_true', Bool.not_eq_false', List.length_map])
      refine ⟨fun h5 => ?_, fun h5 => ?_⟩
      · have hn : n < of.length := by omega
        have hb1 : ¬ (0 ≤ of[n] ∧ of[n] < l.length) → (4 : Int) = errB (chkB l of) := fun h => hbad fun r => h (r.has n hn)
        have hb2 : ¬ (kinN l of[n].toNat = 2 ∨ kinN l of[n].toNat = 3) → (4 : Int) = errB (chkB l of) := fun h => hbad fun r => h (r.kind n hn)
        have hb3 : ∀ m (hm : m < of.length), m + 1 = n → ¬ of[m] ≤ of[n] → (4 : Int) = errB (chkB l of) := fun m hm e h => hbad fun r => h (r.le m n hm hn (by omega))
        have hkn : ∀ (h : of[n].toNat < l.length), kinN l of[n].toNat = l[of[n].toNat].kind := fun h => kinN_get h
        have ho1 : ∀ (h : 0 < n), of[((n : Int) - 1).toNat]'(by omega) = of[n - 1]'(by omega) := fun h => by
          have : ((n : Int) - 1).toNat = n - 1 := by omega
          simp only [this]
        have hst : (kinN l of[n].toNat = 2 ∨ kinN l of[n].toNat = 3) → (∀ h : 0 < n, of[n - 1]'(by omega) ≤ of[n]) → 0 ≤ of[n] ∧ of[n] < l.length → (n + 1 ≤ of.length ∧ (∀ k (h : k < of.length), k < n + 1 → 0 ≤ of[k] ∧ of[k] < l.length) ∧ (∀ k (h : k < of.length), k < n + 1 → kinN l of[k].toNat = 2 ∨ kinN l of[k].toNat = 3) ∧ (∀ k (h : k + 1 < of.length), k + 1 < n + 1 → of[k]'(by omega) ≤ of[k + 1])) := fun q1 q2 q3 => by
          refine ⟨hn, fun k h h7 => ?_, fun k h h7 => ?_, fun k h h7 => ?_⟩
          · rcases Nat.lt_succ_iff_lt_or_eq.1 h7 with h8 | h8
            · exact h2 k h h8
            · subst h8; exact q3
          · rcases Nat.lt_succ_iff_lt_or_eq.1 h7 with h8 | h8
            · exact h3 k h h8
            · subst h8; exact q1
          · rcases Nat.lt_succ_iff_lt_or_eq.1 h7 with h8 | h8
            · exact h4 k h h8
            · subst h8; exact q2 (Nat.succ_pos _)
        repeat' first | contradiction | intro _ | refine And.intro ?_ ?_ | refine ex_get (by omega) ?_ | (show drawB _ _ = true; kernel_rfl) | (refine ret2 [] (by simp only [go_sem, Bool.not_eq_true', Bool.not_eq_false']; rfl) ?_; simp only [go_sem, Bool.not_eq_true', Bool.not_eq_false'])
        all_goals first
          | omega
          | exact (hb2 (by rw [hkn (by omega)]; omega)).symm
          | ((refine loop_end [] (n + 1) (by simp only [go_sem, Bool.not_eq_true', Bool.not_eq_false']; rfl) ?_ ?_ ?_; (focus first | omega | (simp only; omega)); (focus (simp only [go_sem, Bool.not_eq_true', Bool.not_eq_false']; done)))
             exact hst (by rw [hkn (by omega)]; omega) (fun h => by rw [← ho1 h]; omega) (by omega))
          | exact (hb1 (by omega)).symm
          | (have e9 := ho1 (by omega)
             exact (hb3 (n - 1) (by omega) (by omega) (by omega)).symm)
      · (refine cut_end [] (()) (by simp only [go_sem, Bool.not_eq_true', Bool.not_eq_false']; rfl) ?_ ?_; (focus (simp only [go_sem, Bool.not_eq_true', Bool.not_eq_false']; done)))
        exact ⟨fun k h => h2 k h (by omega), fun k h => h3 k h (by omega), fun k h => h4 k h (by omega)⟩
  rintro - ⟨r1, r2, r3⟩
  refine swp_cutS (fun _ : Unit => ⟨[], [], none⟩) (fun _ => chkB l of = true) 3 ?_ ?_
  · (refine swp_seqW ?_; simp only [go_sem, Bool.not_eq_true', Bool.not_eq_false'])
    refine swp_block ?_
    refine swp_loop2 [] (fun j : Nat => ⟨[(0, .sl 20 (l.map cNo)), (1, .sl 1 (of.map cInt)), (6, .raw (.int .i64 j))], [], none⟩) (fun n => n ≤ l.length ∧ ∀ j (h : j < l.length), j < n → (l[j].kind = 2 → 1 ≤ of.count (j : Int) ∧ of.count (j : Int) ≤ l[j].words.length) ∧ (l[j].kind = 3 → of.count (j : Int) = 1)) (fun k => l.length - k) 4 0 (by simp only [go_sem, Bool.not_eq_true', Bool.not_eq_false']; rfl) (by simp only [go_sem, Bool.not_eq_true', Bool.not_eq_false']) ?_ ?_
    · exact ⟨Nat.zero_le _, fun k _ h => absurd h (Nat.not_lt_zero _)⟩
    · rintro n ⟨h1, h2⟩
      (refine swp_seqW ?_; simp only [go_sem, Bool.not_eq_true', Bool.not_eq_false', List.length_map])
      refine ⟨fun h5 => ?_, fun h5 => ?_⟩
      rotate_left
      · (refine cut_end [] (()) (by simp only [go_sem, Bool.not_eq_true', Bool.not_eq_false']; rfl) ?_ ?_; (focus (simp only [go_sem, Bool.not_eq_true', Bool.not_eq_false']; done)))
        exact row_chk hv (row_of r1 r2 r3 fun j hj => h2 j hj (by omega))
      have hn : n < l.length := by omega
      refine swp_cutS (fun _ : Unit => ⟨[(0, .sl 20 (l.map cNo)), (1, .sl 1 (of.map cInt)), (6, .raw (.int .i64 n))], [], none⟩) (fun _ => (l[n].kind = 2 → 1 ≤ of.count (n : Int) ∧ of.count (n : Int) ≤ l[n].words.length) ∧ (l[n].kind = 3 → of.count (n : Int) = 1)) 3 ?_ ?_
      · refine swp_block ?_
        (refine swp_seqW ?_; simp only [go_sem, Bool.not_eq_true', Bool.not_eq_false'])
        refine swp_cutS (fun _ : Unit => ⟨[(0, .sl 20 (l.map cNo)), (1, .sl 1 (of.map cInt)), (6, .raw (.int .i64 n)), (7, .raw (.int .i64 (of.count (n : Int))))], [], none⟩) (fun _ => True) 3 ?_ ?_
        · (refine swp_seqW ?_; simp only [go_sem, Bool.not_eq_true', Bool.not_eq_false'])
          refine swp_block ?_
          refine swp_loop2 [] (fun z : LMy => ⟨[(0, .sl 20 (l.map cNo)), (1, .sl 1 (of.map cInt)), (6, .raw (.int .i64 n)), (7, .raw (.int .i64 z.i)), (8, .raw (.int .i64 z.k))], [], none⟩) (fun z => z.k ≤ of.length ∧ z.i = (of.take z.k).count (n : Int)) (fun z => of.length - z.k) 4 ⟨0, 0⟩ (by simp only [go_sem, Bool.not_eq_true', Bool.not_eq_false']; rfl) (by simp only [go_sem, Bool.not_eq_true', Bool.not_eq_false']) ?_ ?_
          · exact ⟨Nat.zero_le _, by simp⟩
          · rintro ⟨c, k⟩ ⟨k1, k2⟩
            simp only at k1 k2
            (refine swp_seqW ?_; simp only [go_sem, Bool.not_eq_true', Bool.not_eq_false', List.length_map])
            refine ⟨fun h7 => ?_, fun h7 => ?_⟩
            rotate_left
            · rw [List.take_of_length_le (by omega)] at k2
              rw [← k2]
              (refine cut_end [] (()) (by simp only [go_sem, Bool.not_eq_true', Bool.not_eq_false']; rfl) ?_ ?_; (focus (simp only [go_sem, Bool.not_eq_true', Bool.not_eq_false']; done)))
              trivial
            have hk : k < of.length := by omega
            have hcl : c ≤ k := by
              rw [k2]
              have := List.count_le_length (a := (n : Int)) (l := of.take k)
              rw [List.length_take] at this
              omega
            have e1 : (of.take (k + 1)).count (n : Int) = c + (if of[k] = (n : Int) then 1 else 0) := by
              rw [List.take_succ_eq_append_getElem hk, List.count_append, ← k2, List.count_singleton]
              simp
            (refine swp_lastW ?_; simp only [go_sem, Bool.not_eq_true', Bool.not_eq_false', List.length_map])
            refine ⟨by omega, ex_get hk ⟨fun q => ⟨by omega, by omega, ?_⟩, fun q => ⟨by omega, ?_⟩⟩⟩
            · rw [if_pos q] at e1
              (refine loop_end [] (⟨c + 1, k + 1⟩) (by simp only [go_sem, Bool.not_eq_true', Bool.not_eq_false']; rfl) ?_ ?_ ?_; (focus first | omega | (simp only; omega)); (focus (simp only [go_sem, Bool.not_eq_true', Bool.not_eq_false']; done)))
              exact ⟨hk, e1.symm⟩
            · rw [if_neg q] at e1
              (refine loop_end [] (⟨c, k + 1⟩) (by simp only [go_sem, Bool.not_eq_true', Bool.not_eq_false']; rfl) ?_ ?_ ?_; (focus first | omega | (simp only; omega)); (focus (simp only [go_sem, Bool.not_eq_true', Bool.not_eq_false']; done)))
              exact ⟨hk, e1.symm⟩
        rintro - -
        have hb1 : ¬ ((l[n].kind = 2 → 1 ≤ of.count (n : Int) ∧ of.count (n : Int) ≤ l[n].words.length) ∧ (l[n].kind = 3 → of.count (n : Int) = 1)) → errB (chkB l of) = 4 := fun h => (hbad fun r => h (by
          have := r.cnt n hn
          unfold okT at this
          refine ⟨fun q => ?_, fun q => ?_⟩
          · rw [if_pos q] at this; simpa using this
          · rw [if_neg (by omega), if_pos q] at this; simpa using this)).symm
        generalize of.count (n : Int) = c at hb1 ⊢
        (refine swp_lastW ?_; simp only [go_sem, Bool.not_eq_true', Bool.not_eq_false', List.length_map])
        repeat' first | contradiction | intro _ | refine And.intro ?_ ?_ | refine ex_get (by omega) ?_ | (show drawB _ _ = true; kernel_rfl) | (refine ret2 [] (by simp only [go_sem, Bool.not_eq_true', Bool.not_eq_false']; rfl) ?_; simp only [go_sem, Bool.not_eq_true', Bool.not_eq_false'])
        all_goals first
          | omega
          | exact hb1 (by omega)
          | ((refine cut_end [] (()) (by simp only [go_sem, Bool.not_eq_true', Bool.not_eq_false']; rfl) ?_ ?_; (focus (simp only [go_sem, Bool.not_eq_true', Bool.not_eq_false']; done)))
             omega)
      rintro - hq
      (refine swp_lastW ?_; simp only [go_sem, Bool.not_eq_true', Bool.not_eq_false'])
      refine ⟨by omega, ?_⟩
      (refine loop_end [] (n + 1) (by simp only [go_sem, Bool.not_eq_true', Bool.not_eq_false']; rfl) ?_ ?_ ?_; (focus first | omega | (simp only; omega)); (focus (simp only [go_sem, Bool.not_eq_true', Bool.not_eq_false']; done)))
      refine ⟨hn, fun k h h7 => ?_⟩
      rcases Nat.lt_succ_iff_lt_or_eq.1 h7 with h8 | h8
      · exact h2 k h h8
      · subst h8; exact hq
  rintro - hc
  rw [hc]
  (refine swp_lastW ?_; simp only [go_sem, Bool.not_eq_true', Bool.not_eq_false'])
  rfl
end Go.Proofs.Ytbgcmnccjfdooaa
/- CHAPTER 16: the document's answer: Holds, At, Held, Same. -/
/- G -/
/- BOOLS -/
set_option linter.unusedSimpArgs false
set_option linter.unusedVariables false
namespace Go.Proofs.Ytbgcmnccjfdooaa
open Go.RowKit

set_option maxRecDepth 100000 in
set_option maxHeartbeats 4000000 in
theorem rholds_ok (l : List LNo) (of : List Int) (b a : Int) (hl : l.length ≤ 1000) (ho : of.length ≤ 1000) : FnOk Try.prog 72 [.sl 20 (l.map cNo), .sl 1 (of.map cInt), .raw (.int .i64 b), .raw (.int .i64 a)] [] (.raw (.bool (hldK l of b a))) [] := by
  refine fn_of_awp Try.func72 rfl (by kernel_rfl) (by kernel_rfl) (Nat.le_of_ble_eq_true rfl) Try.results72 ?_
  simp only [go_sem, Bool.not_eq_true', Bool.not_eq_false', List.length_map]
  refine ⟨fun h1 => ⟨fun h2 => ⟨by omega, ?_⟩, fun h2 => ?_⟩, fun h1 => ?_⟩
  · have hk : a.toNat < of.length := by omega
    have e : of.getD a.toNat 0 = of[a.toNat] := by simp [List.getD_eq_getElem?_getD, hk]
    have e2 : hldK l of b a = holN l b of[a.toNat] := by simp [hldK, h1, h2, hk]
    rw [e2]
    repeat' first | contradiction | intro _ | refine And.intro ?_ ?_ | refine ex_get (by omega) ?_ | (show drawB _ _ = true; kernel_rfl) | (refine ret2 [] (by simp only [go_sem, Bool.not_eq_true', Bool.not_eq_false']; rfl) ?_; simp only [go_sem, Bool.not_eq_true', Bool.not_eq_false']) | (refine acall2 [] (holds8r_ok l b of[a.toNat] hl) (by simp only [go_sem, Bool.not_eq_true', Bool.not_eq_false']; rfl) (fit_of (by simp only [go_sem, Bool.not_eq_true', Bool.not_eq_false']) (by simp only [go_sem, Bool.not_eq_true', Bool.not_eq_false']) (by simp only [go_sem, Bool.not_eq_true', Bool.not_eq_false']) (by simp only [go_sem, Bool.not_eq_true', Bool.not_eq_false']) (by simp only [go_sem, Bool.not_eq_true', Bool.not_eq_false']) (by simp only [go_sem, Bool.not_eq_true', Bool.not_eq_false']) (by simp only [go_sem, Bool.not_eq_true', Bool.not_eq_false'])) ?_; simp only [go_sem, Bool.not_eq_true', Bool.not_eq_false'])
  all_goals
    have e : hldK l of b a = false := by simp only [hldK, Bool.and_eq_false_iff, decide_eq_false_iff_not]; omega
    rw [e]
    repeat' first | contradiction | intro _ | refine And.intro ?_ ?_ | refine ex_get (by omega) ?_ | (show drawB _ _ = true; kernel_rfl) | (refine ret2 [] (by simp only [go_sem, Bool.not_eq_true', Bool.not_eq_false']; rfl) ?_; simp only [go_sem, Bool.not_eq_true', Bool.not_eq_false'])
def fltR (p : Nat → Bool) (n : Nat) : List Int := ((List.range n).filter p).map (fun i : Nat => (i : Int))
theorem fltR_zero (p : Nat → Bool) : fltR p 0 = [] := by simp [fltR]
theorem fltR_succ (p : Nat → Bool) (k : Nat) : fltR p (k + 1) = if p k = true then fltR p k ++ [(k : Int)] else fltR p k := by
  unfold fltR
  rw [List.range_succ, List.filter_append, List.map_append]
  split
  · next h => simp [h]
  · next h => simp [h]
theorem fltR_len (p : Nat → Bool) (k : Nat) : (fltR p k).length ≤ k := by
  unfold fltR
  rw [List.length_map]
  have := List.length_filter_le p (List.range k)
  rw [List.length_range] at this
  exact this
def blkB (l : List LNo) (i : Nat) : Bool := decide (kinN l i = 1)
def kinR (l : List LNo) (of : List Int) (k : Int) (n : Nat) : LKin := ⟨(fltR (fun i => blkB l i && (hldK l of i (k - 1) && !hldK l of i k)) n).reverse, fltR (fun i => blkB l i && (hldK l of i k && !hldK l of i (k - 1))) n, (fltR (fun i => blkB l i && (hldK l of i (k - 1) && hldK l of i k)) n).reverse, txtK of k⟩
structure LZk where
  k : Nat
  e : List Int
  b : List Int
  d : List Int
set_option maxRecDepth 100000 in
set_option maxHeartbeats 8000000 in
theorem rat_ok (l : List LNo) (of : List Int) (k : Int) (hl : l.length ≤ 1000) (ho : of.length ≤ 1000) (hk : 0 ≤ k ∧ k ≤ of.length) : FnOk Try.prog 26 [.sl 20 (l.map cNo), .sl 1 (of.map cInt), .raw (.int .i64 k)] [] (aKin (kinR l of k l.length).text) (oKin (kinR l of k l.length)) := by
  refine fn_of_swp Try.func26 rfl (by kernel_rfl) (by kernel_rfl) (Nat.le_of_ble_eq_true rfl) Try.results26 ?_
  (refine swp_seqW ?_; simp only [go_sem, Bool.not_eq_true', Bool.not_eq_false'])
  (refine swp_seqW ?_; simp only [go_sem, Bool.not_eq_true', Bool.not_eq_false'])
  have ek : kinR l of k l.length = ⟨(kinR l of k l.length).ends, (kinR l of k l.length).begins, (kinR l of k l.length).both, txtK of k⟩ := rfl
  refine swp_cutS (fun z : LZk => ⟨[(1, .sl 1 (of.map cInt)), (2, .raw (.int .i64 k)), (6, .hdr 24), (7, .hdr 40)], [(24, some (.cells 28 [.hdr 25, .hdr 26, .hdr 27, .raw (.int .i64 0)])), (25, some (.row 3 1 [])), (26, some (.row 3 1 [])), (27, some (.row 3 1 [])), (40, some (.cells 28 [.hdr 41, .hdr 42, .hdr 43, .raw (.int .i64 (-1))])), (41, some (.row 3 1 (z.e.map cInt))), (42, some (.row 3 1 (z.b.map cInt))), (43, some (.row 3 1 (z.d.map cInt)))], none⟩) (fun z => z.e = (kinR l of k l.length).ends ∧ z.b = (kinR l of k l.length).begins ∧ z.d = (kinR l of k l.length).both) 10 ?_ ?_
  · (refine swp_seqW ?_; simp only [go_sem, Bool.not_eq_true', Bool.not_eq_false'])
    refine swp_block ?_
    refine swp_loop2 [] (fun z : LZk => ⟨[(0, .sl 20 (l.map cNo)), (1, .sl 1 (of.map cInt)), (2, .raw (.int .i64 k)), (6, .hdr 24), (7, .hdr 40), (8, .raw (.int .i64 z.k))], [(24, some (.cells 28 [.hdr 25, .hdr 26, .hdr 27, .raw (.int .i64 0)])), (25, some (.row 3 1 [])), (26, some (.row 3 1 [])), (27, some (.row 3 1 [])), (40, some (.cells 28 [.hdr 41, .hdr 42, .hdr 43, .raw (.int .i64 (-1))])), (41, some (.row 3 1 (z.e.map cInt))), (42, some (.row 3 1 (z.b.map cInt))), (43, some (.row 3 1 (z.d.map cInt)))], none⟩) (fun z => z.k ≤ l.length ∧ z.e = (kinR l of k z.k).ends ∧ z.b = (kinR l of k z.k).begins ∧ z.d = (kinR l of k z.k).both) (fun z => l.length - z.k) 10 ⟨0, [], [], []⟩ (by simp only [go_sem, Bool.not_eq_true', Bool.not_eq_false']; rfl) (by simp only [go_sem, Bool.not_eq_true', Bool.not_eq_false']) ?_ ?_
    · exact ⟨Nat.zero_le _, by simp [kinR, fltR_zero], by simp [kinR, fltR_zero], by simp [kinR, fltR_zero]⟩
    · rintro ⟨n, E, B, D⟩ ⟨h1, h2, h3, h4⟩
      simp only at h1 h2 h3 h4
      (refine swp_seqW ?_; simp only [go_sem, Bool.not_eq_true', Bool.not_eq_false', List.length_map])
      refine ⟨fun h5 => ?_, fun h5 => ?_⟩
      rotate_left
      · obtain rfl : n = l.length := by omega
        (refine cut_end [] (⟨0, E, B, D⟩) (by simp only [go_sem, Bool.not_eq_true', Bool.not_eq_false']; rfl) ?_ ?_; (focus (simp only [go_sem, Bool.not_eq_true', Bool.not_eq_false']; done)))
        exact ⟨h2, h3, h4⟩
      have hn : n < l.length := by omega
      have hkn := kinN_get hn
      have lE : E.length ≤ n := by rw [h2]; simp only [kinR, List.length_reverse]; exact fltR_len _ _
      have lB : B.length ≤ n := by rw [h3]; exact fltR_len _ _
      have lD : D.length ≤ n := by rw [h4]; simp only [kinR, List.length_reverse]; exact fltR_len _ _
      have sE : (kinR l of k (n + 1)).ends = if (blkB l n && (hldK l of n (k - 1) && !hldK l of n k)) = true then (n : Int) :: E else E := by
        rw [h2]; simp only [kinR]; rw [fltR_succ]; split <;> simp
      have sB : (kinR l of k (n + 1)).begins = if (blkB l n && (hldK l of n k && !hldK l of n (k - 1))) = true then B ++ [(n : Int)] else B := by
        rw [h3]; simp only [kinR]; rw [fltR_succ]
      have sD : (kinR l of k (n + 1)).both = if (blkB l n && (hldK l of n (k - 1) && hldK l of n k)) = true then (n : Int) :: D else D := by
        rw [h4]; simp only [kinR]; rw [fltR_succ]; split <;> simp
      refine swp_cutS (fun z : LZk => ⟨[(0, .sl 20 (l.map cNo)), (1, .sl 1 (of.map cInt)), (2, .raw (.int .i64 k)), (6, .hdr 24), (7, .hdr 40), (8, .raw (.int .i64 n))], [(24, some (.cells 28 [.hdr 25, .hdr 26, .hdr 27, .raw (.int .i64 0)])), (25, some (.row 3 1 [])), (26, some (.row 3 1 [])), (27, some (.row 3 1 [])), (40, some (.cells 28 [.hdr 41, .hdr 42, .hdr 43, .raw (.int .i64 (-1))])), (41, some (.row 3 1 (z.e.map cInt))), (42, some (.row 3 1 (z.b.map cInt))), (43, some (.row 3 1 (z.d.map cInt)))], none⟩) (fun z => z.e = (kinR l of k (n + 1)).ends ∧ z.b = (kinR l of k (n + 1)).begins ∧ z.d = (kinR l of k (n + 1)).both) 10 ?_ ?_
      · refine swp_block ?_
        (refine swp_seqW ?_; simp only [go_sem, Bool.not_eq_true', Bool.not_eq_false'])
        refine ⟨by omega, ex_get hn ?_⟩
        rw [← hkn]
        refine ⟨fun q => ?_, fun q => ?_⟩
        · have hb : blkB l n = false := by simp [blkB, q]
          rw [hb] at sE sB sD
          simp only [Bool.false_and, Bool.false_eq_true, if_false] at sE sB sD
          (refine cut_end [] (⟨0, E, B, D⟩) (by simp only [go_sem, Bool.not_eq_true', Bool.not_eq_false']; rfl) ?_ ?_; (focus (simp only [go_sem, Bool.not_eq_true', Bool.not_eq_false']; done)))
          exact ⟨sE.symm, sB.symm, sD.symm⟩
        have hb : blkB l n = true := by simp [blkB, q]
        rw [hb] at sE sB sD
        simp only [Bool.true_and] at sE sB sD
        (refine swp_seqW ?_; simp only [go_sem, Bool.not_eq_true', Bool.not_eq_false'])
        refine ⟨by omega, ?_⟩
        (refine acall2 [] (rholds_ok l of n (k - 1) hl ho) (by simp only [go_sem, Bool.not_eq_true', Bool.not_eq_false']; rfl) (fit_of (by simp only [go_sem, Bool.not_eq_true', Bool.not_eq_false']) (by simp only [go_sem, Bool.not_eq_true', Bool.not_eq_false']) (by simp only [go_sem, Bool.not_eq_true', Bool.not_eq_false']) (by simp only [go_sem, Bool.not_eq_true', Bool.not_eq_false']) (by simp only [go_sem, Bool.not_eq_true', Bool.not_eq_false']) (by simp only [go_sem, Bool.not_eq_true', Bool.not_eq_false']) (by simp only [go_sem, Bool.not_eq_true', Bool.not_eq_false'])) ?_; simp only [go_sem, Bool.not_eq_true', Bool.not_eq_false'])
        (refine acall2 [] (rholds_ok l of n k hl ho) (by simp only [go_sem, Bool.not_eq_true', Bool.not_eq_false']; rfl) (fit_of (by simp only [go_sem, Bool.not_eq_true', Bool.not_eq_false']) (by simp only [go_sem, Bool.not_eq_true', Bool.not_eq_false']) (by simp only [go_sem, Bool.not_eq_true', Bool.not_eq_false']) (by simp only [go_sem, Bool.not_eq_true', Bool.not_eq_false']) (by simp only [go_sem, Bool.not_eq_true', Bool.not_eq_false']) (by simp only [go_sem, Bool.not_eq_true', Bool.not_eq_false']) (by simp only [go_sem, Bool.not_eq_true', Bool.not_eq_false'])) ?_; simp only [go_sem, Bool.not_eq_true', Bool.not_eq_false'])
        generalize hldK l of n (k - 1) = a at sE sB sD ⊢
        generalize hldK l of n k = b at sE sB sD ⊢
        (refine swp_lastW ?_; simp only [go_sem, Bool.not_eq_true', Bool.not_eq_false', List.length_map])
        cases a <;> cases b
        all_goals
          simp only [Bool.false_and, Bool.true_and, Bool.and_true, Bool.and_false, Bool.not_true, Bool.not_false, Bool.false_eq_true, if_true, if_false] at sE sB sD
          repeat' first | contradiction | intro _ | refine And.intro ?_ ?_ | refine ex_get (by omega) ?_ | (show drawB _ _ = true; kernel_rfl) | (refine ret2 [] (by simp only [go_sem, Bool.not_eq_true', Bool.not_eq_false']; rfl) ?_; simp only [go_sem, Bool.not_eq_true', Bool.not_eq_false'])
        all_goals first
          | omega
          | ((refine cut_end [] (⟨0, E, B, D⟩) (by simp only [go_sem, Bool.not_eq_true', Bool.not_eq_false']; rfl) ?_ ?_; (focus (simp only [go_sem, Bool.not_eq_true', Bool.not_eq_false']; done)))
             exact ⟨sE.symm, sB.symm, sD.symm⟩)
          | ((refine cut_end [] (⟨0, E, B ++ [(n : Int)], D⟩) (by simp only [go_sem, Bool.not_eq_true', Bool.not_eq_false']; rfl) ?_ ?_; (focus (simp only [go_sem, Bool.not_eq_true', Bool.not_eq_false', List.map_append, List.map_cons, List.map_nil, List.cons_append, List.nil_append]; done)))
             exact ⟨sE.symm, sB.symm, sD.symm⟩)
          | ((refine cut_end [] (⟨0, (n : Int) :: E, B, D⟩) (by simp only [go_sem, Bool.not_eq_true', Bool.not_eq_false']; rfl) ?_ ?_; (focus (simp only [go_sem, Bool.not_eq_true', Bool.not_eq_false', List.map_append, List.map_cons, List.map_nil, List.cons_append, List.nil_append]; done)))
             exact ⟨sE.symm, sB.symm, sD.symm⟩)
          | ((refine cut_end [] (⟨0, E, B, (n : Int) :: D⟩) (by simp only [go_sem, Bool.not_eq_true', Bool.not_eq_false']; rfl) ?_ ?_; (focus (simp only [go_sem, Bool.not_eq_true', Bool.not_eq_false', List.map_append, List.map_cons, List.map_nil, List.cons_append, List.nil_append]; done)))
             exact ⟨sE.symm, sB.symm, sD.symm⟩)
      rintro ⟨k0, E2, B2, D2⟩ ⟨g1, g2, g3⟩
      simp only at g1 g2 g3
      (refine swp_lastW ?_; simp only [go_sem, Bool.not_eq_true', Bool.not_eq_false'])
      refine ⟨by omega, ?_⟩
      (refine loop_end [] (⟨n + 1, E2, B2, D2⟩) (by simp only [go_sem, Bool.not_eq_true', Bool.not_eq_false']; rfl) ?_ ?_ ?_; (focus first | omega | (simp only; omega)); (focus (simp only [go_sem, Bool.not_eq_true', Bool.not_eq_false']; done)))
      exact ⟨hn, g1, g2, g3⟩
  rintro ⟨k0, E, B, D⟩ ⟨g1, g2, g3⟩
  simp only at g1 g2 g3
  rw [ek, ← g1, ← g2, ← g3]
  clear g1 g2 g3 ek
  refine swp_cutS (fun t : Int => ⟨[(6, .hdr 24), (7, .hdr 40)], [(24, some (.cells 28 [.hdr 25, .hdr 26, .hdr 27, .raw (.int .i64 0)])), (25, some (.row 3 1 [])), (26, some (.row 3 1 [])), (27, some (.row 3 1 [])), (40, some (.cells 28 [.hdr 41, .hdr 42, .hdr 43, .raw (.int .i64 t)])), (41, some (.row 3 1 (E.map cInt))), (42, some (.row 3 1 (B.map cInt))), (43, some (.row 3 1 (D.map cInt)))], none⟩) (fun t => t = txtK of k) 10 ?_ ?_
  · (refine swp_seqW ?_; simp only [go_sem, Bool.not_eq_true', Bool.not_eq_false', List.length_map])
    have hget : ∀ j (h : j < of.length), of.getD j 0 = of[j] := fun j h => by simp [List.getD_eq_getElem?_getD, h]
    repeat' first | contradiction | intro _ | refine And.intro ?_ ?_ | refine ex_get (by omega) ?_ | (show drawB _ _ = true; kernel_rfl) | (refine ret2 [] (by simp only [go_sem, Bool.not_eq_true', Bool.not_eq_false']; rfl) ?_; simp only [go_sem, Bool.not_eq_true', Bool.not_eq_false'])
    all_goals first
      | omega
      | ((refine swp_condW ?_; simp only [go_sem, Bool.not_eq_true', Bool.not_eq_false'])
         (refine swp_lastW ?_; simp only [go_sem, Bool.not_eq_true', Bool.not_eq_false'])
         have e5 : -1 = txtK of k := by unfold txtK; rw [if_neg (by omega)]
         (refine cut_end [] (-1) (by simp only [go_sem, Bool.not_eq_true', Bool.not_eq_false']; rfl) ?_ ?_; (focus (simp only [go_sem, Bool.not_eq_true', Bool.not_eq_false']; done)))
         exact e5)
      | skip
    have k1 := hget k.toNat (by omega)
    have k2 := hget (k - 1).toNat (by omega)
    (refine swp_condW ?_; simp only [go_sem, Bool.not_eq_true', Bool.not_eq_false'])
    refine ⟨fun z => ?_, fun z => ?_⟩
    · (refine swp_lastW ?_; simp only [go_sem, Bool.not_eq_true', Bool.not_eq_false'])
      refine ⟨by omega, ex_get (by omega) ?_⟩
      have e5 : of[k.toNat] = txtK of k := by unfold txtK; rw [if_pos ⟨by omega, by omega, by rw [k1, k2]; exact z⟩, k1]
      (refine cut_end [] (of[k.toNat]) (by simp only [go_sem, Bool.not_eq_true', Bool.not_eq_false']; rfl) ?_ ?_; (focus (simp only [go_sem, Bool.not_eq_true', Bool.not_eq_false']; done)))
      exact e5
    · (refine swp_lastW ?_; simp only [go_sem, Bool.not_eq_true', Bool.not_eq_false'])
      have e5 : -1 = txtK of k := by unfold txtK; rw [if_neg (by rw [k1, k2]; exact fun q => z q.2.2)]
      (refine cut_end [] (-1) (by simp only [go_sem, Bool.not_eq_true', Bool.not_eq_false']; rfl) ?_ ?_; (focus (simp only [go_sem, Bool.not_eq_true', Bool.not_eq_false']; done)))
      exact e5
  rintro t rfl
  (refine swp_lastW ?_; simp only [go_sem, Bool.not_eq_true', Bool.not_eq_false'])
  (refine ret2 [] (by simp only [go_sem, Bool.not_eq_true', Bool.not_eq_false']; rfl) ?_; simp only [go_sem, Bool.not_eq_true', Bool.not_eq_false'])
set_option maxRecDepth 100000 in
set_option maxHeartbeats 4000000 in
theorem rsame_ok (x y : LKin) (h1 : x.ends.length ≤ 1000 ∧ x.begins.length ≤ 1000 ∧ x.both.length ≤ 1000) (h2 : y.ends.length ≤ 1000 ∧ y.begins.length ≤ 1000 ∧ y.both.length ≤ 1000) : FnOk Try.prog 24 [.agg [.sl 1 (x.ends.map cInt), .sl 1 (x.begins.map cInt), .sl 1 (x.both.map cInt), .raw (.int .i64 x.text)], .agg [.sl 1 (y.ends.map cInt), .sl 1 (y.begins.map cInt), .sl 1 (y.both.map cInt), .raw (.int .i64 y.text)]] [] (.raw (.bool (decide (x = y)))) [] := by
  have e : decide (x = y) = (decide (x.ends = y.ends) && decide (x.begins = y.begins) && decide (x.both = y.both) && decide (x.text = y.text)) := by
    obtain ⟨a, b, c, d⟩ := x
    obtain ⟨a2, b2, c2, d2⟩ := y
    rw [Bool.eq_iff_iff]
    simp [and_assoc]
  rw [e]
  refine fn_of_awp Try.func24 rfl (by kernel_rfl) (by kernel_rfl) (Nat.le_of_ble_eq_true rfl) Try.results24 ?_
  simp only [go_sem, Bool.not_eq_true', Bool.not_eq_false']
  (refine acall2 [] (ints8_ok x.ends y.ends h1.1 h2.1) (by simp only [go_sem, Bool.not_eq_true', Bool.not_eq_false']; rfl) (fit_of (by simp only [go_sem, Bool.not_eq_true', Bool.not_eq_false']) (by simp only [go_sem, Bool.not_eq_true', Bool.not_eq_false']) (by simp only [go_sem, Bool.not_eq_true', Bool.not_eq_false']) (by simp only [go_sem, Bool.not_eq_true', Bool.not_eq_false']) (by simp only [go_sem, Bool.not_eq_true', Bool.not_eq_false']) (by simp only [go_sem, Bool.not_eq_true', Bool.not_eq_false']) (by simp only [go_sem, Bool.not_eq_true', Bool.not_eq_false'])) ?_; simp only [go_sem, Bool.not_eq_true', Bool.not_eq_false'])
  refine ⟨fun q1 => ?_, fun q1 => by simp [q1]⟩
  (refine acall2 [] (ints8_ok x.begins y.begins h1.2.1 h2.2.1) (by simp only [go_sem, Bool.not_eq_true', Bool.not_eq_false']; rfl) (fit_of (by simp only [go_sem, Bool.not_eq_true', Bool.not_eq_false']) (by simp only [go_sem, Bool.not_eq_true', Bool.not_eq_false']) (by simp only [go_sem, Bool.not_eq_true', Bool.not_eq_false']) (by simp only [go_sem, Bool.not_eq_true', Bool.not_eq_false']) (by simp only [go_sem, Bool.not_eq_true', Bool.not_eq_false']) (by simp only [go_sem, Bool.not_eq_true', Bool.not_eq_false']) (by simp only [go_sem, Bool.not_eq_true', Bool.not_eq_false'])) ?_; simp only [go_sem, Bool.not_eq_true', Bool.not_eq_false'])
  refine ⟨fun q2 => ?_, fun q2 => by simp [q2]⟩
  (refine acall2 [] (ints8_ok x.both y.both h1.2.2 h2.2.2) (by simp only [go_sem, Bool.not_eq_true', Bool.not_eq_false']; rfl) (fit_of (by simp only [go_sem, Bool.not_eq_true', Bool.not_eq_false']) (by simp only [go_sem, Bool.not_eq_true', Bool.not_eq_false']) (by simp only [go_sem, Bool.not_eq_true', Bool.not_eq_false']) (by simp only [go_sem, Bool.not_eq_true', Bool.not_eq_false']) (by simp only [go_sem, Bool.not_eq_true', Bool.not_eq_false']) (by simp only [go_sem, Bool.not_eq_true', Bool.not_eq_false']) (by simp only [go_sem, Bool.not_eq_true', Bool.not_eq_false'])) ?_; simp only [go_sem, Bool.not_eq_true', Bool.not_eq_false'])
  refine ⟨fun q3 => by simp [q1, q2, q3], fun q3 => by simp [q3]⟩
end Go.Proofs.Ytbgcmnccjfdooaa
/- CHAPTER 16: the plain law: the program's kin are the answer's; the answer's Held. -/
/- G -/
/- BOOLS -/
set_option linter.unusedSimpArgs false
set_option linter.unusedVariables false
namespace Go.Proofs.Ytbgcmnccjfdooaa
open Go.RowKit

theorem fltR_congr {p q : Nat → Bool} {n : Nat} (h : ∀ i, i < n → p i = q i) : fltR p n = fltR q n := by
  unfold fltR
  rw [List.filter_congr fun i hi => h i (List.mem_range.1 hi)]
theorem fltR_tail {q : Nat → Bool} {x : Nat} : ∀ {n : Nat}, x ≤ n → (∀ i, x ≤ i → i < n → q i = false) → fltR q n = fltR q x
  | 0, hx, _ => by rw [show x = 0 by omega]
  | n + 1, hx, h => by
    by_cases e : x = n + 1
    · rw [e]
    · rw [fltR_succ, h n (by omega) (by omega)]
      simp only [Bool.false_eq_true, if_false]
      exact fltR_tail (by omega) fun i a b => h i a (by omega)
theorem abvD_flt (l : List LNo) (a : Int) : ∀ k, abvD l a k = (fltR (fun i => decide (a < i + sizN l i)) k).reverse
  | 0 => by simp [abvD, fltR_zero]
  | k + 1 => by
    rw [abvD, fltR_succ, abvD_flt l a k]
    by_cases h : a < k + sizN l k
    · rw [if_pos h, if_pos (by rw [decide_eq_true_eq]; exact h), List.reverse_append]; rfl
    · rw [if_neg h, if_neg (by rw [decide_eq_true_eq]; exact h)]
theorem leaf_siz {l : List LNo} (h : isS l = true) {i : Nat} (hi : i < l.length) (h1 : 1 < sizN l i) : kinN l i = 1 := by
  have := isG_leaf l 0 _ h l[i] (List.getElem_mem hi)
  rw [sizN_get hi] at h1
  rw [kinN_get hi]
  unfold leafB at this
  simp only [Bool.not_eq_true', Bool.and_eq_false_iff, decide_eq_false_iff_not] at this
  omega
theorem abv_flt {l : List LNo} (h : isS l = true) {x : Nat} (hx : x < l.length) (hk : kinN l x ≠ 1) : abvN l x = (fltR (fun i => blkB l i && holN l i x) l.length).reverse := by
  have h2 : hasN l x = true := hasN_iff.2 (by omega)
  rw [abv_eq h, abvR, if_pos h2, Int.toNat_natCast, abvD_flt]
  congr 1
  rw [fltR_tail (q := fun i => blkB l i && holN l i x) (x := x) (n := l.length) (by omega) (fun i h3 h4 => ?_)]
  · refine fltR_congr fun i hi => ?_
    have e := holN_eq (l := l) (a := i) (b := x) (by omega) h2
    rw [e, ← sizN_get (by omega : i < l.length)]
    by_cases q : (x : Int) < i + sizN l i
    · have := leaf_siz h (by omega : i < l.length) (by omega)
      have e3 : (i : Int) ≤ x := by omega
      simp [blkB, this, q, e3]
    · simp [q]
  · by_cases q : i = x
    · subst q; simp [blkB, hk]
    · have e := holN_eq (l := l) (a := i) (b := x) h4 h2
      have : ¬ ((i : Int) ≤ x) := by omega
      rw [e]
      simp [this]
theorem filter_fltR (q : Int → Bool) (p : Nat → Bool) (n : Nat) : (fltR p n).filter q = fltR (fun i => p i && q i) n := by
  unfold fltR
  rw [List.filter_map, List.filter_filter]
  congr 1
  exact List.filter_congr fun i _ => by simp [Bool.and_comm]
theorem cho_flt {l : List LNo} {of : List Int} (hv : isS l = true) (hr : RowP l of) (a : Int) (q : Int → Bool) : choS l of a q = (fltR (fun i => blkB l i && (hldK l of i a && q i)) l.length).reverse := by
  unfold choS
  split
  · next h =>
    have hk : a.toNat < of.length := by omega
    have e : of.getD a.toNat 0 = of[a.toNat] := by simp [List.getD_eq_getElem?_getD, hk]
    have h1 := hr.has _ hk
    have h2 := hr.kind _ hk
    have h3 : ∀ i : Nat, hldK l of i a = holN l i of[a.toNat] := fun i => by
      unfold hldK
      rw [e]
      have a1 : (0 : Int) ≤ a := h.1
      have a2 : a < of.length := h.2
      simp [a1, a2]
    rw [e]
    obtain ⟨x, hx⟩ : ∃ x : Nat, of[a.toNat] = x := ⟨of[a.toNat].toNat, by omega⟩
    rw [hx] at h1 h2 h3 ⊢
    rw [Int.toNat_natCast] at h2
    rw [abv_flt hv (by omega) (by omega), List.filter_reverse, filter_fltR]
    congr 1
    exact fltR_congr fun i _ => by rw [h3, Bool.and_assoc]
  · next h =>
    have : ∀ i : Nat, hldK l of i a = false := fun i => by
      simp only [hldK, Bool.and_eq_false_iff, decide_eq_false_iff_not]; omega
    rw [fltR_tail (x := 0) (Nat.zero_le _) fun i _ _ => by rw [this]; simp, fltR_zero]; rfl
theorem kin_eq {l : List LNo} {of : List Int} (hv : isS l = true) (hr : RowP l of) (k : Int) : kinS l of k = kinR l of k l.length := by
  unfold kinS kinR
  rw [cho_flt hv hr, cho_flt hv hr, cho_flt hv hr, List.reverse_reverse]
  congr 2
  exact fltR_congr fun i _ => by rw [Bool.and_comm (hldK l of i k)]
theorem whl_is {q : Int → Bool} : ∀ {r : List Int} {m : Nat}, m ≤ r.length → (∀ j (h : j < r.length), j < m → q r[j] = true) → (∀ h : m < r.length, q r[m] = false) → whl q r = m
  | [], m, h, _, _ => by simp at h; rw [h]; rfl
  | x :: r, 0, _, _, h => by
    have := h (by simp)
    rw [whl, if_neg]
    simp only [List.getElem_cons_zero] at this
    rw [this]; decide
  | x :: r, m + 1, h, h1, h2 => by
    have e := h1 0 (by simp) (by omega)
    rw [whl, if_pos (by simpa using e), whl_is (by simpa using h) (fun j hj hm => by have := h1 (j + 1) (by simpa using hj) (by omega); simpa using this) (fun hm => by have := h2 (by simpa using hm); simpa using this)]
/-- what is held, from a place on. -/
def HelP (q : Int → Bool) (of : List Int) (i : Nat) (f t : Int) : Prop :=
  ((∀ j (h : j < of.length), i ≤ j → q of[j] = false) ∧ f = 0 ∧ t = 0) ∨
  ∃ a b : Nat, f = a ∧ t = b ∧ i ≤ a ∧ a < b ∧ b ≤ of.length ∧ (∀ h : a < of.length, q of[a] = true) ∧ (∀ h : b - 1 < of.length, q of[b - 1] = true) ∧ (∀ j (h : j < of.length), i ≤ j → j < a → q of[j] = false) ∧ (∀ j (h : j < of.length), b ≤ j → q of[j] = false)
theorem hel_held {l : List LNo} {of : List Int} (hr : RowP l of) {b : Nat} (hb : b < l.length) {f t : Int} (h : HelP (holN l b) of 0 f t) : heldS l of b = (f, t) := by
  unfold heldS
  rcases h with ⟨h1, rfl, rfl⟩ | ⟨a, c, rfl, rfl, h1, h2, h3, h4, h5, h6, h7⟩
  · rw [idxI_no fun j hj => h1 j hj (Nat.zero_le _)]; rfl
  · have ha : a < of.length := by omega
    rw [idxI_at ha (fun j hj hlt => h6 j hj (Nat.zero_le _) hlt) (h4 ha), if_neg (by omega), Int.toNat_natCast]
    have hhas : ∀ j (h : j < of.length), hasN l of[j] = true := fun j h => hasN_iff.2 (hr.has j h)
    have q1 := h4 ha
    have q2 := h5 (by omega)
    rw [holN_eq hb (hhas _ _), Bool.and_eq_true, decide_eq_true_eq, decide_eq_true_eq] at q1 q2
    have e : whl (holN l b) (of.drop a) = c - a := by
      refine whl_is (by rw [List.length_drop]; omega) (fun j hj hlt => ?_) (fun hj => ?_)
      · rw [List.length_drop] at hj
        rw [List.getElem_drop, holN_eq hb (hhas _ _), Bool.and_eq_true, decide_eq_true_eq, decide_eq_true_eq]
        have m1 : of[a] ≤ of[a + j]'(by omega) := by
          by_cases z : j = 0
          · subst z; exact Int.le_refl _
          · exact hr.le a (a + j) ha (by omega) (by omega)
        have m2 : of[a + j]'(by omega) ≤ of[c - 1]'(by omega) := by
          by_cases z : a + j = c - 1
          · simp only [z]; exact Int.le_refl _
          · exact hr.le (a + j) (c - 1) (by omega) (by omega) (by omega)
        omega
      · rw [List.length_drop] at hj
        rw [List.getElem_drop]
        have : a + (c - a) = c := by omega
        simp only [this]
        exact h7 c (by omega) (Nat.le_refl _)
    rw [e]
    congr 1
    omega
structure LHe where
  n : Nat
  f : Int
  t : Int
set_option maxRecDepth 100000 in
set_option maxHeartbeats 8000000 in
theorem rheld_ok (l : List LNo) (of : List Int) (b : Nat) (hl : l.length ≤ 1000) (ho : of.length ≤ 1000) (hb : b < l.length) (hr : RowP l of) : FnOk Try.prog 25 [.sl 20 (l.map cNo), .sl 1 (of.map cInt), .raw (.int .i64 b)] [] (.tup [.raw (.int .i64 (if kinN l b = 1 then heldS l of b else (0, 0)).1), .raw (.int .i64 (if kinN l b = 1 then heldS l of b else (0, 0)).2)]) [] := by
  have hkb := kinN_get hb
  refine fn_of_swp Try.func25 rfl (by kernel_rfl) (by kernel_rfl) (Nat.le_of_ble_eq_true rfl) Try.results25 ?_
  (refine swp_seqW ?_; simp only [go_sem, Bool.not_eq_true', Bool.not_eq_false'])
  (refine swp_seqW ?_; simp only [go_sem, Bool.not_eq_true', Bool.not_eq_false'])
  refine swp_cutS (fun z : LHe => ⟨[(8, .raw (.int .i64 z.f)), (9, .raw (.int .i64 z.t))], [], none⟩) (fun z => (z.f, z.t) = if kinN l b = 1 then heldS l of b else (0, 0)) 3 ?_ ?_
  · (refine swp_seqW ?_; simp only [go_sem, Bool.not_eq_true', Bool.not_eq_false', List.length_map])
    refine ⟨by omega, ?_⟩
    refine swp_block ?_
    refine swp_loop2 [] (fun z : LHe => ⟨[(0, .sl 20 (l.map cNo)), (1, .sl 1 (of.map cInt)), (2, .raw (.int .i64 b)), (8, .raw (.int .i64 z.f)), (9, .raw (.int .i64 z.t)), (10, .raw (.int .i64 ((z.n : Int) - 1)))], [], none⟩) (fun z => z.n ≤ of.length ∧ (kinN l b = 1 → HelP (holN l b) of z.n z.f z.t) ∧ (kinN l b ≠ 1 → z.f = 0 ∧ z.t = 0)) (fun z => z.n) 10 ⟨of.length, 0, 0⟩ (by simp only [go_sem, Bool.not_eq_true', Bool.not_eq_false']; rfl) (by simp only [go_sem, Bool.not_eq_true', Bool.not_eq_false']) ?_ ?_
    · exact ⟨Nat.le_refl _, fun _ => .inl ⟨fun j h1 h2 => by simp only at h2; omega, rfl, rfl⟩, fun _ => ⟨rfl, rfl⟩⟩
    · rintro ⟨n, f, t⟩ ⟨h1, h2, h3⟩
      simp only at h1 h2 h3
      (refine swp_seqW ?_; simp only [go_sem, Bool.not_eq_true', Bool.not_eq_false'])
      refine ⟨fun h5 => ?_, fun h5 => ?_⟩
      rotate_left
      · obtain rfl : n = 0 := by omega
        (refine cut_end [] (⟨0, f, t⟩) (by simp only [go_sem, Bool.not_eq_true', Bool.not_eq_false']; rfl) ?_ ?_; (focus (simp only [go_sem, Bool.not_eq_true', Bool.not_eq_false']; done)))
        by_cases q : kinN l b = 1
        · rw [if_pos q, hel_held hr hb (h2 q)]
        · rw [if_neg q, (h3 q).1, (h3 q).2]
      obtain ⟨n, rfl⟩ : ∃ m, n = m + 1 := ⟨n - 1, by omega⟩
      have hn : n < of.length := by omega
      have eg : of.getD n 0 = of[n] := by simp [List.getD_eq_getElem?_getD, hn]
      have eh : hldK l of b ((n : Int) + 1 - 1) = holN l b of[n] := by
        have e1 : ((n : Int) + 1 - 1).toNat = n := by omega
        unfold hldK
        rw [e1, eg]
        have a1 : (0 : Int) ≤ (n : Int) + 1 - 1 := by omega
        have a2 : (n : Int) + 1 - 1 < of.length := by omega
        simp [a1, a2, hn]
      refine swp_cutS (fun z : LHe => ⟨[(0, .sl 20 (l.map cNo)), (1, .sl 1 (of.map cInt)), (2, .raw (.int .i64 b)), (8, .raw (.int .i64 z.f)), (9, .raw (.int .i64 z.t)), (10, .raw (.int .i64 ((n : Int) + 1 - 1)))], [], none⟩) (fun z => (kinN l b = 1 → HelP (holN l b) of n z.f z.t) ∧ (kinN l b ≠ 1 → z.f = 0 ∧ z.t = 0)) 10 ?_ ?_
      · refine swp_block ?_
        have hskip : holN l b of[n] = false → kinN l b = 1 → HelP (holN l b) of n f t := fun q z => by
          rcases h2 z with ⟨g1, g2, g3⟩ | ⟨x, y, g1, g2, g3, g4, g5, g6, g7, g8, g9⟩
          · refine .inl ⟨fun j hj hnj => ?_, g2, g3⟩
            by_cases e : j = n
            · subst e; exact q
            · exact g1 j hj (by omega)
          · refine .inr ⟨x, y, g1, g2, by omega, g4, g5, g6, g7, fun j hj hnj hjx => ?_, g9⟩
            by_cases e : j = n
            · subst e; exact q
            · exact g8 j hj (by omega) hjx
        have htake : holN l b of[n] = true → kinN l b = 1 → HelP (holN l b) of n n (if t = 0 then (n : Int) + 1 else t) := fun q z => by
          rcases h2 z with ⟨g1, g2, g3⟩ | ⟨x, y, g1, g2, g3, g4, g5, g6, g7, g8, g9⟩
          · rw [if_pos g3]
            refine .inr ⟨n, n + 1, rfl, by omega, Nat.le_refl _, by omega, by omega, fun _ => q, fun _ => q, fun j hj a c => by omega, fun j hj a => g1 j hj a⟩
          · rw [if_neg (by omega)]
            exact .inr ⟨n, y, rfl, g2, Nat.le_refl _, by omega, g5, fun _ => q, g7, fun j hj a c => by omega, g9⟩
        (refine swp_seqW ?_; simp only [go_sem, Bool.not_eq_true', Bool.not_eq_false'])
        (refine acall2 [] (rholds_ok l of b ((n : Int) + 1 - 1) hl ho) (by simp only [go_sem, Bool.not_eq_true', Bool.not_eq_false']; rfl) (fit_of (by simp only [go_sem, Bool.not_eq_true', Bool.not_eq_false']) (by simp only [go_sem, Bool.not_eq_true', Bool.not_eq_false']) (by simp only [go_sem, Bool.not_eq_true', Bool.not_eq_false']) (by simp only [go_sem, Bool.not_eq_true', Bool.not_eq_false']) (by simp only [go_sem, Bool.not_eq_true', Bool.not_eq_false']) (by simp only [go_sem, Bool.not_eq_true', Bool.not_eq_false']) (by simp only [go_sem, Bool.not_eq_true', Bool.not_eq_false'])) ?_; simp only [go_sem, Bool.not_eq_true', Bool.not_eq_false'])
        rw [eh]
        refine ⟨fun q => ?_, fun q => ?_⟩
        · refine ⟨by omega, ex_get hb ⟨fun z => ?_, fun z => ?_⟩⟩
          · (refine cut_end [] (⟨0, f, t⟩) (by simp only [go_sem, Bool.not_eq_true', Bool.not_eq_false']; rfl) ?_ ?_; (focus (simp only [go_sem, Bool.not_eq_true', Bool.not_eq_false']; done)))
            exact ⟨fun w => absurd (hkb.symm.trans w) z, h3⟩
          · have hz : kinN l b = 1 := hkb.trans z
            have ht := htake q hz
            (refine swp_lastW ?_; simp only [go_sem, Bool.not_eq_true', Bool.not_eq_false'])
            refine ⟨fun z2 => ⟨by omega, ?_⟩, fun z2 => ?_⟩
            · rw [if_pos z2] at ht
              have e9 : (n : Int) + 1 - 1 + 1 = n + 1 := by omega
              have e8 : (n : Int) + 1 - 1 = n := by omega
              have ht2 : HelP (holN l b) of n ((n : Int) + 1 - 1) ((n : Int) + 1 - 1 + 1) := by rw [e9, e8]; exact ht
              (refine cut_end [] (⟨0, (n : Int) + 1 - 1, (n : Int) + 1 - 1 + 1⟩) (by simp only [go_sem, Bool.not_eq_true', Bool.not_eq_false']; rfl) ?_ ?_; (focus (simp only [go_sem, Bool.not_eq_true', Bool.not_eq_false']; done)))
              exact ⟨fun _ => ht2, fun w => absurd hz w⟩
            · rw [if_neg z2] at ht
              have e8 : (n : Int) + 1 - 1 = n := by omega
              have ht2 : HelP (holN l b) of n ((n : Int) + 1 - 1) t := by rw [e8]; exact ht
              (refine cut_end [] (⟨0, (n : Int) + 1 - 1, t⟩) (by simp only [go_sem, Bool.not_eq_true', Bool.not_eq_false']; rfl) ?_ ?_; (focus (simp only [go_sem, Bool.not_eq_true', Bool.not_eq_false']; done)))
              exact ⟨fun _ => ht2, fun w => absurd hz w⟩
        · (refine cut_end [] (⟨0, f, t⟩) (by simp only [go_sem, Bool.not_eq_true', Bool.not_eq_false']; rfl) ?_ ?_; (focus (simp only [go_sem, Bool.not_eq_true', Bool.not_eq_false']; done)))
          exact ⟨hskip q, h3⟩
      rintro ⟨n0, f2, t2⟩ ⟨g1, g2⟩
      simp only at g1 g2
      (refine swp_lastW ?_; simp only [go_sem, Bool.not_eq_true', Bool.not_eq_false'])
      refine ⟨by omega, ?_⟩
      have e9 : (n : Int) - 1 = n + 1 - 1 - 1 := by omega
      (refine loop_end [] (⟨n, f2, t2⟩) (by simp only [go_sem, Bool.not_eq_true', Bool.not_eq_false']; rfl) ?_ ?_ ?_; (focus first | omega | (simp only; omega)); (focus (simp only [go_sem, Bool.not_eq_true', Bool.not_eq_false', e9]; done)))
      exact ⟨by simp only; omega, g1, g2⟩
  rintro ⟨n0, f, t⟩ hz
  rw [← hz]
  (refine swp_lastW ?_; simp only [go_sem, Bool.not_eq_true', Bool.not_eq_false'])
end Go.Proofs.Ytbgcmnccjfdooaa
/- THE SCRIPT'S READER: blocks, nodes. -/
/- G -/
/- BOOLS -/
/- GET get_tk -/
set_option linter.unusedSimpArgs false
set_option linter.unusedVariables false
namespace Go.Proofs.Ytbgcmnccjfdooaa
open Go.RowKit

def pushB (t : ByteArray) (c : Int) : ByteArray := t ++ ByteArray.empty.push (UInt8.ofNat c.toNat)
def attrS (l : List LTk) : Nat → Nat → ByteArray → LSty → Option (LSty × Nat)
  | 0, _, _, _ => none
  | f + 1, k, told, st => if letterS l k told = 0 then some (st, k)
    else if k + 1 < l.length ∧ told.size < 100 ∧ (pushB told (letterS l k told)).size < 100 ∧ numB l (k + 1) (limA (letterS l k told)) (limB (letterS l k told)) = true then attrS l f (k + 2) (pushB told (letterS l k told)) (withS st (letterS l k told) (tkAt l (k + 1)).n) else none
def sty2 : LSty := ⟨0, 0, 0, 0, 0, 2, 2, 0, 0, 0, 0, 0⟩
attribute [go_sem] sty2
section
variable (rec : Nat → Option (List LNo × Nat)) (l : List LTk)
def blockS (k : Nat) : Option (List LNo × Nat) :=
  if k < l.length then match attrS l (l.length + 1) (k + 1) ⟨#[]⟩ sty2 with
    | some (st, k1) => match rec k1 with
      | some (ns, k2) => if k1 ≤ l.length ∧ ns.length < 1000 ∧ signB l k2 93 = true then some (⟨1, 1 + ns.length, st, 0, 0, [], 0, 0, 0⟩ :: ns, k2 + 1) else none
      | none => none
    | none => none
  else none
def oneS (k : Nat) : Option (List LNo × Nat) :=
  if signB l k 91 = true then blockS rec l k
  else if signB l k 40 = true then textS l k
  else if signB l k 123 = true then boxS l (k + 1) ⟨3, 1, sty0, 0, 0, [], 0, 0, 0⟩ 125
  else if signB l (k + 1) 76 = true then boxS l (k + 2) ⟨4, 1, sty0, 0, 0, [], 1, 0, 0⟩ 62
  else if signB l (k + 1) 82 = true then boxS l (k + 2) ⟨4, 1, sty0, 0, 0, [], 2, 0, 0⟩ 62
  else none
def startB (k : Nat) : Bool := signB l k 91 || signB l k 40 || signB l k 123 || signB l k 60
def nodesG : Nat → Nat → Option (List LNo × Nat)
  | 0, _ => none
  | g + 1, k => if k ≤ l.length then
      (if startB l k = true then match oneS rec l k with
        | some (ns, k1) => if k < k1 then match nodesG g k1 with
          | some (r, k2) => if ns.length + r.length < 1000 then some (ns ++ r, k2) else none
          | none => none
          else none
        | none => none
      else some ([], k))
    else none
end
def nodesS (l : List LTk) : Nat → Nat → Option (List LNo × Nat)
  | 0, _ => none
  | f + 1, k => nodesG (nodesS l f) l (l.length + 1) k
structure LBl where
  k : Nat
  told : ByteArray
  st : LSty
set_option maxRecDepth 100000 in
set_option maxHeartbeats 8000000 in
theorem block5_ok (rec : Nat → Option (List LNo × Nat)) (l : List LTk) (hrec : ∀ k r, k ≤ l.length → rec k = some r → FnOk Try.prog 93 [.sl 4 (l.map cTk), .raw (.int .i64 k)] [] (aGot r) []) (k : Nat) (r : List LNo × Nat) (hl : l.length ≤ 1000) (h : blockS rec l k = some r) : FnOk Try.prog 125 [.sl 4 (l.map cTk), .raw (.int .i64 k)] [] (aGot r) [] := by
  refine fn_of_swp Try.func125 rfl (by kernel_rfl) (by kernel_rfl) (Nat.le_of_ble_eq_true rfl) Try.results125 ?_
  unfold blockS at h
  split at h
  case isFalse => cases h
  next hk =>
  split at h
  case h_2 => cases h
  next st k1 ha =>
  split at h
  case h_2 => cases h
  next ns k2 hr =>
  split at h
  case isFalse => cases h
  next hh =>
  obtain ⟨hk1, hns, h93⟩ := hh
  injection h with h
  subst h
  have hk2 : k2 < l.length := (of_decide_eq_true h93).1
  have hnode := hrec k1 (ns, k2) hk1 hr
  (refine swp_seqW ?_; simp only [go_sem, Bool.not_eq_true', Bool.not_eq_false'])
  (refine swp_seqW ?_; simp only [go_sem, Bool.not_eq_true', Bool.not_eq_false'])
  refine ⟨by omega, ?_⟩
  (refine swp_seqW ?_; simp only [go_sem, Bool.not_eq_true', Bool.not_eq_false'])
  (refine swp_seqW ?_; simp only [go_sem, Bool.not_eq_true', Bool.not_eq_false'])
  refine swp_cutS (fun _ : Unit => ⟨[(0, .sl 4 (l.map cTk)), (1, .raw (.int .i64 k1)), (4, .hdr 8), (5, .hdr 16)], [(8, some (.cells 114 [.hdr 9, .raw (.int .i64 0), .raw (.int .i64 0)])), (9, some (.row 45 20 [])), (16, some (.cells 43 (lSty st)))], none⟩) (fun _ => True) 4 ?_ ?_
  · refine swp_block ?_
    refine swp_loop2 [] (fun z : LBl => ⟨[(0, .sl 4 (l.map cTk)), (1, .raw (.int .i64 z.k)), (4, .hdr 8), (5, .hdr 16), (6, .raw (.string z.told))], [(8, some (.cells 114 [.hdr 9, .raw (.int .i64 0), .raw (.int .i64 0)])), (9, some (.row 45 20 [])), (16, some (.cells 43 (lSty z.st)))], none⟩) (fun z => z.k ≤ l.length ∧ z.told.size < 100 ∧ ∃ f, attrS l f z.k z.told z.st = some (st, k1)) (fun z => l.length - z.k) 30 ⟨k + 1, ⟨#[]⟩, sty2⟩ (by simp only [go_sem, Bool.not_eq_true', Bool.not_eq_false']; rfl) (by simp only [go_sem, Bool.not_eq_true', Bool.not_eq_false']) ?_ ?_
    · exact ⟨hk, by show (0 : Nat) < 100; omega, _, ha⟩
    · rintro ⟨kk, told, s⟩ ⟨q1, q2, f, q3⟩
      simp only at q1 q2 q3
      obtain ⟨g, rfl⟩ : ∃ g, f = g + 1 := by
        cases f with
        | zero => simp [attrS] at q3
        | succ g => exact ⟨g, rfl⟩
      rw [attrS] at q3
      (refine swp_seqW ?_; simp only [go_sem, Bool.not_eq_true', Bool.not_eq_false'])
      (refine acall2 [] (letter5_ok l kk told hl (by omega)) (by simp only [go_sem, Bool.not_eq_true', Bool.not_eq_false']; rfl) (fit_of (by simp only [go_sem, Bool.not_eq_true', Bool.not_eq_false']) (by simp only [go_sem, Bool.not_eq_true', Bool.not_eq_false']) (by simp only [go_sem, Bool.not_eq_true', Bool.not_eq_false']) (by simp only [go_sem, Bool.not_eq_true', Bool.not_eq_false']) (by simp only [go_sem, Bool.not_eq_true', Bool.not_eq_false']) (by simp only [go_sem, Bool.not_eq_true', Bool.not_eq_false']) (by simp only [go_sem, Bool.not_eq_true', Bool.not_eq_false'])) ?_; simp only [go_sem, Bool.not_eq_true', Bool.not_eq_false'])
      refine ⟨fun h7 => ?_, fun h7 => ?_⟩
      · rw [if_neg h7] at q3
        split at q3
        case isFalse => cases q3
        next hh =>
        obtain ⟨w1, w2, w3, w4⟩ := hh
        have e1 : ∀ c : UInt8, (ByteArray.empty.push c).size = 1 := fun c => rfl
        (refine swp_lastW ?_; simp only [go_sem, Bool.not_eq_true', Bool.not_eq_false', List.length_map])
        (refine acall2 [] (letter5_ok l kk told hl (by omega)) (by simp only [go_sem, Bool.not_eq_true', Bool.not_eq_false']; rfl) (fit_of (by simp only [go_sem, Bool.not_eq_true', Bool.not_eq_false']) (by simp only [go_sem, Bool.not_eq_true', Bool.not_eq_false']) (by simp only [go_sem, Bool.not_eq_true', Bool.not_eq_false']) (by simp only [go_sem, Bool.not_eq_true', Bool.not_eq_false']) (by simp only [go_sem, Bool.not_eq_true', Bool.not_eq_false']) (by simp only [go_sem, Bool.not_eq_true', Bool.not_eq_false']) (by simp only [go_sem, Bool.not_eq_true', Bool.not_eq_false'])) ?_; simp only [go_sem, Bool.not_eq_true', Bool.not_eq_false'])
        generalize letterS l kk told = c at w3 w4 q3 h7
        (refine acall2 [] (limits5_ok c) (by simp only [go_sem, Bool.not_eq_true', Bool.not_eq_false']; rfl) (fit_of (by simp only [go_sem, Bool.not_eq_true', Bool.not_eq_false']) (by simp only [go_sem, Bool.not_eq_true', Bool.not_eq_false']) (by simp only [go_sem, Bool.not_eq_true', Bool.not_eq_false']) (by simp only [go_sem, Bool.not_eq_true', Bool.not_eq_false']) (by simp only [go_sem, Bool.not_eq_true', Bool.not_eq_false']) (by simp only [go_sem, Bool.not_eq_true', Bool.not_eq_false']) (by simp only [go_sem, Bool.not_eq_true', Bool.not_eq_false'])) ?_; simp only [go_sem, Bool.not_eq_true', Bool.not_eq_false'])
        refine ⟨by omega, ?_⟩
        (refine acall2 [] (num5_ok l (kk + 1) (limA c) (limB c) hl) (by simp only [go_sem, Bool.not_eq_true', Bool.not_eq_false']; rfl) (fit_of (by simp only [go_sem, Bool.not_eq_true', Bool.not_eq_false']) (by simp only [go_sem, Bool.not_eq_true', Bool.not_eq_false']) (by simp only [go_sem, Bool.not_eq_true', Bool.not_eq_false']) (by simp only [go_sem, Bool.not_eq_true', Bool.not_eq_false']) (by simp only [go_sem, Bool.not_eq_true', Bool.not_eq_false']) (by simp only [go_sem, Bool.not_eq_true', Bool.not_eq_false']) (by simp only [go_sem, Bool.not_eq_true', Bool.not_eq_false'])) ?_; simp only [go_sem, Bool.not_eq_true', Bool.not_eq_false', w4])
        refine ⟨by omega, by omega, get_tk (by omega) ?_⟩
        generalize (tkAt l (kk + 1)).n = n at q3
        (refine acall2 [] (with5_ok s c n) (by simp only [go_sem, Bool.not_eq_true', Bool.not_eq_false']; rfl) (fit_of (by simp only [go_sem, Bool.not_eq_true', Bool.not_eq_false']) (by simp only [go_sem, Bool.not_eq_true', Bool.not_eq_false']) (by simp only [go_sem, Bool.not_eq_true', Bool.not_eq_false']) (by simp only [go_sem, Bool.not_eq_true', Bool.not_eq_false']) (by simp only [go_sem, Bool.not_eq_true', Bool.not_eq_false']) (by simp only [go_sem, Bool.not_eq_true', Bool.not_eq_false']) (by simp only [go_sem, Bool.not_eq_true', Bool.not_eq_false'])) ?_; simp only [go_sem, Bool.not_eq_true', Bool.not_eq_false'])
        refine ⟨(by kernel_rfl), ?_⟩
        repeat' first | refine And.intro ?_ ?_
        all_goals first
          | omega
          | (rw [e1]; omega)
          | ((refine loop_end [] (⟨kk + 2, pushB told c, withS s c n⟩) (by simp only [go_sem, Bool.not_eq_true', Bool.not_eq_false']; rfl) ?_ ?_ ?_; (focus first | omega | (simp only; omega)); (focus (simp only [go_sem, Bool.not_eq_true', Bool.not_eq_false', pushB]; done)))
             exact ⟨by show kk + 2 ≤ l.length; omega, w3, g, q3⟩)
      · rw [if_pos h7] at q3
        injection q3 with q3
        injection q3 with q5 q6
        subst q5; subst q6
        (refine cut_end [] (()) (by simp only [go_sem, Bool.not_eq_true', Bool.not_eq_false']; rfl) ?_ ?_; (focus (simp only [go_sem, Bool.not_eq_true', Bool.not_eq_false']; done)))
        trivial
  rintro - -
  (refine swp_seqW ?_; simp only [go_sem, Bool.not_eq_true', Bool.not_eq_false'])
  (refine acall2 [] (hnode) (by simp only [go_sem, Bool.not_eq_true', Bool.not_eq_false']; rfl) (fit_of (by simp only [go_sem, Bool.not_eq_true', Bool.not_eq_false']) (by simp only [go_sem, Bool.not_eq_true', Bool.not_eq_false']) (by simp only [go_sem, Bool.not_eq_true', Bool.not_eq_false']) (by simp only [go_sem, Bool.not_eq_true', Bool.not_eq_false']) (by simp only [go_sem, Bool.not_eq_true', Bool.not_eq_false']) (by simp only [go_sem, Bool.not_eq_true', Bool.not_eq_false']) (by simp only [go_sem, Bool.not_eq_true', Bool.not_eq_false'])) ?_; simp only [go_sem, Bool.not_eq_true', Bool.not_eq_false'])
  (refine swp_seqW ?_; simp only [go_sem, Bool.not_eq_true', Bool.not_eq_false', Int.reduceToNat, Int.reduceLT, Int.reduceLE, Int.reduceEq, Int.reduceAdd, Int.reduceSub, Int.reduceMul, Int.reduceNeg, Int.reduceNe, decide_false, Int.cast_ofNat_Int, kSet, List.getElem?_cons_succ, List.getElem?_cons_zero, List.set_cons_succ, List.set_cons_zero, exists_eq_left', forall_const, true_implies])
  (refine swp_seqW ?_; simp only [go_sem, Bool.not_eq_true', Bool.not_eq_false'])
  (refine acall2 [] (sign5_ok l k2 93 hl) (by simp only [go_sem, Bool.not_eq_true', Bool.not_eq_false']; rfl) (fit_of (by simp only [go_sem, Bool.not_eq_true', Bool.not_eq_false']) (by simp only [go_sem, Bool.not_eq_true', Bool.not_eq_false']) (by simp only [go_sem, Bool.not_eq_true', Bool.not_eq_false']) (by simp only [go_sem, Bool.not_eq_true', Bool.not_eq_false']) (by simp only [go_sem, Bool.not_eq_true', Bool.not_eq_false']) (by simp only [go_sem, Bool.not_eq_true', Bool.not_eq_false']) (by simp only [go_sem, Bool.not_eq_true', Bool.not_eq_false'])) ?_; simp only [go_sem, Bool.not_eq_true', Bool.not_eq_false', h93])
  (refine swp_lastW ?_; simp only [go_sem, Bool.not_eq_true', Bool.not_eq_false', List.length_map])
  repeat' first | refine And.intro ?_ ?_
  all_goals first
    | omega
    | (show drawB _ _ = true; kernel_rfl)
    | (refine ret2 [232] (by simp only [go_sem, Bool.not_eq_true', Bool.not_eq_false']; rfl) ?_; simp only [go_sem, Bool.not_eq_true', Bool.not_eq_false'])
end Go.Proofs.Ytbgcmnccjfdooaa
/- THE SCRIPT'S READER: one node, nodes. -/
/- G -/
/- BOOLS -/
/- GET get_tk -/
set_option linter.unusedSimpArgs false
set_option linter.unusedVariables false
namespace Go.Proofs.Ytbgcmnccjfdooaa
open Go.RowKit

set_option maxRecDepth 100000 in
set_option maxHeartbeats 4000000 in
theorem one5_ok (rec : Nat → Option (List LNo × Nat)) (l : List LTk) (hrec : ∀ k r, k ≤ l.length → rec k = some r → FnOk Try.prog 93 [.sl 4 (l.map cTk), .raw (.int .i64 k)] [] (aGot r) []) (k : Nat) (r : List LNo × Nat) (hl : l.length ≤ 1000) (hk : k ≤ l.length) (h : oneS rec l k = some r) : FnOk Try.prog 115 [.sl 4 (l.map cTk), .raw (.int .i64 k)] [] (aGot r) [] := by
  refine fn_of_swp Try.func115 rfl (by kernel_rfl) (by kernel_rfl) (Nat.le_of_ble_eq_true rfl) Try.results115 ?_
  unfold oneS at h
  (refine swp_seqW ?_; simp only [go_sem, Bool.not_eq_true', Bool.not_eq_false'])
  (refine swp_seqW ?_; simp only [go_sem, Bool.not_eq_true', Bool.not_eq_false'])
  (refine acall2 [] (sign5_ok l k 91 hl) (by simp only [go_sem, Bool.not_eq_true', Bool.not_eq_false']; rfl) (fit_of (by simp only [go_sem, Bool.not_eq_true', Bool.not_eq_false']) (by simp only [go_sem, Bool.not_eq_true', Bool.not_eq_false']) (by simp only [go_sem, Bool.not_eq_true', Bool.not_eq_false']) (by simp only [go_sem, Bool.not_eq_true', Bool.not_eq_false']) (by simp only [go_sem, Bool.not_eq_true', Bool.not_eq_false']) (by simp only [go_sem, Bool.not_eq_true', Bool.not_eq_false']) (by simp only [go_sem, Bool.not_eq_true', Bool.not_eq_false'])) ?_; simp only [go_sem, Bool.not_eq_true', Bool.not_eq_false'])
  refine ⟨fun h1 => ?_, fun h1 => ?_⟩
  · rw [if_pos h1] at h
    (refine acall2 [] (block5_ok rec l hrec k r hl h) (by simp only [go_sem, Bool.not_eq_true', Bool.not_eq_false']; rfl) (fit_of (by simp only [go_sem, Bool.not_eq_true', Bool.not_eq_false']) (by simp only [go_sem, Bool.not_eq_true', Bool.not_eq_false']) (by simp only [go_sem, Bool.not_eq_true', Bool.not_eq_false']) (by simp only [go_sem, Bool.not_eq_true', Bool.not_eq_false']) (by simp only [go_sem, Bool.not_eq_true', Bool.not_eq_false']) (by simp only [go_sem, Bool.not_eq_true', Bool.not_eq_false']) (by simp only [go_sem, Bool.not_eq_true', Bool.not_eq_false'])) ?_; simp only [go_sem, Bool.not_eq_true', Bool.not_eq_false'])
    (refine ret2 [] (by simp only [go_sem, Bool.not_eq_true', Bool.not_eq_false']; rfl) ?_; simp only [go_sem, Bool.not_eq_true', Bool.not_eq_false'])
  rw [if_neg (by rw [h1]; decide)] at h
  (refine swp_seqW ?_; simp only [go_sem, Bool.not_eq_true', Bool.not_eq_false'])
  (refine acall2 [] (sign5_ok l k 40 hl) (by simp only [go_sem, Bool.not_eq_true', Bool.not_eq_false']; rfl) (fit_of (by simp only [go_sem, Bool.not_eq_true', Bool.not_eq_false']) (by simp only [go_sem, Bool.not_eq_true', Bool.not_eq_false']) (by simp only [go_sem, Bool.not_eq_true', Bool.not_eq_false']) (by simp only [go_sem, Bool.not_eq_true', Bool.not_eq_false']) (by simp only [go_sem, Bool.not_eq_true', Bool.not_eq_false']) (by simp only [go_sem, Bool.not_eq_true', Bool.not_eq_false']) (by simp only [go_sem, Bool.not_eq_true', Bool.not_eq_false'])) ?_; simp only [go_sem, Bool.not_eq_true', Bool.not_eq_false'])
  refine ⟨fun h2 => ?_, fun h2 => ?_⟩
  · rw [if_pos h2] at h
    (refine acall2 [] (text5_ok l k r hl h) (by simp only [go_sem, Bool.not_eq_true', Bool.not_eq_false']; rfl) (fit_of (by simp only [go_sem, Bool.not_eq_true', Bool.not_eq_false']) (by simp only [go_sem, Bool.not_eq_true', Bool.not_eq_false']) (by simp only [go_sem, Bool.not_eq_true', Bool.not_eq_false']) (by simp only [go_sem, Bool.not_eq_true', Bool.not_eq_false']) (by simp only [go_sem, Bool.not_eq_true', Bool.not_eq_false']) (by simp only [go_sem, Bool.not_eq_true', Bool.not_eq_false']) (by simp only [go_sem, Bool.not_eq_true', Bool.not_eq_false'])) ?_; simp only [go_sem, Bool.not_eq_true', Bool.not_eq_false'])
    (refine ret2 [] (by simp only [go_sem, Bool.not_eq_true', Bool.not_eq_false']; rfl) ?_; simp only [go_sem, Bool.not_eq_true', Bool.not_eq_false'])
  rw [if_neg (by rw [h2]; decide)] at h
  (refine swp_seqW ?_; simp only [go_sem, Bool.not_eq_true', Bool.not_eq_false'])
  (refine acall2 [] (sign5_ok l k 123 hl) (by simp only [go_sem, Bool.not_eq_true', Bool.not_eq_false']; rfl) (fit_of (by simp only [go_sem, Bool.not_eq_true', Bool.not_eq_false']) (by simp only [go_sem, Bool.not_eq_true', Bool.not_eq_false']) (by simp only [go_sem, Bool.not_eq_true', Bool.not_eq_false']) (by simp only [go_sem, Bool.not_eq_true', Bool.not_eq_false']) (by simp only [go_sem, Bool.not_eq_true', Bool.not_eq_false']) (by simp only [go_sem, Bool.not_eq_true', Bool.not_eq_false']) (by simp only [go_sem, Bool.not_eq_true', Bool.not_eq_false'])) ?_; simp only [go_sem, Bool.not_eq_true', Bool.not_eq_false'])
  refine ⟨fun h3 => ?_, fun h3 => ?_⟩
  · rw [if_pos h3] at h
    refine ⟨by omega, ?_⟩
    (refine acallF2 [112 ] [] ( box5_ok l (k + 1) ⟨3, 1, sty0, 0, 0, [], 0, 0, 0⟩ 125 r hl h) (by simp only [go_sem, Bool.not_eq_true', Bool.not_eq_false']; rfl) (fit_of (by simp only [go_sem, Bool.not_eq_true', Bool.not_eq_false']) (by simp only [go_sem, Bool.not_eq_true', Bool.not_eq_false']) (by simp only [go_sem, Bool.not_eq_true', Bool.not_eq_false']) (by simp only [go_sem, Bool.not_eq_true', Bool.not_eq_false']) (by simp only [go_sem, Bool.not_eq_true', Bool.not_eq_false']) (by simp only [go_sem, Bool.not_eq_true', Bool.not_eq_false']) (by simp only [go_sem, Bool.not_eq_true', Bool.not_eq_false'])) ?_; simp only [go_sem, Bool.not_eq_true', Bool.not_eq_false'])
    (refine ret2 [] (by simp only [go_sem, Bool.not_eq_true', Bool.not_eq_false']; rfl) ?_; simp only [go_sem, Bool.not_eq_true', Bool.not_eq_false'])
  rw [if_neg (by rw [h3]; decide)] at h
  (refine swp_seqW ?_; simp only [go_sem, Bool.not_eq_true', Bool.not_eq_false'])
  refine ⟨by omega, ?_⟩
  (refine acall2 [] (sign5_ok l (k + 1) 76 hl) (by simp only [go_sem, Bool.not_eq_true', Bool.not_eq_false']; rfl) (fit_of (by simp only [go_sem, Bool.not_eq_true', Bool.not_eq_false']) (by simp only [go_sem, Bool.not_eq_true', Bool.not_eq_false']) (by simp only [go_sem, Bool.not_eq_true', Bool.not_eq_false']) (by simp only [go_sem, Bool.not_eq_true', Bool.not_eq_false']) (by simp only [go_sem, Bool.not_eq_true', Bool.not_eq_false']) (by simp only [go_sem, Bool.not_eq_true', Bool.not_eq_false']) (by simp only [go_sem, Bool.not_eq_true', Bool.not_eq_false'])) ?_; simp only [go_sem, Bool.not_eq_true', Bool.not_eq_false'])
  refine ⟨fun h4 => ?_, fun h4 => ?_⟩
  · rw [if_pos h4] at h
    refine ⟨by omega, ?_⟩
    (refine acallF2 [144 ] [] ( box5_ok l (k + 2) ⟨4, 1, sty0, 0, 0, [], 1, 0, 0⟩ 62 r hl h) (by simp only [go_sem, Bool.not_eq_true', Bool.not_eq_false']; rfl) (fit_of (by simp only [go_sem, Bool.not_eq_true', Bool.not_eq_false']) (by simp only [go_sem, Bool.not_eq_true', Bool.not_eq_false']) (by simp only [go_sem, Bool.not_eq_true', Bool.not_eq_false']) (by simp only [go_sem, Bool.not_eq_true', Bool.not_eq_false']) (by simp only [go_sem, Bool.not_eq_true', Bool.not_eq_false']) (by simp only [go_sem, Bool.not_eq_true', Bool.not_eq_false']) (by simp only [go_sem, Bool.not_eq_true', Bool.not_eq_false'])) ?_; simp only [go_sem, Bool.not_eq_true', Bool.not_eq_false'])
    (refine ret2 [] (by simp only [go_sem, Bool.not_eq_true', Bool.not_eq_false']; rfl) ?_; simp only [go_sem, Bool.not_eq_true', Bool.not_eq_false'])
  rw [if_neg (by rw [h4]; decide)] at h
  (refine swp_seqW ?_; simp only [go_sem, Bool.not_eq_true', Bool.not_eq_false'])
  refine ⟨by omega, ?_⟩
  (refine acall2 [] (sign5_ok l (k + 1) 82 hl) (by simp only [go_sem, Bool.not_eq_true', Bool.not_eq_false']; rfl) (fit_of (by simp only [go_sem, Bool.not_eq_true', Bool.not_eq_false']) (by simp only [go_sem, Bool.not_eq_true', Bool.not_eq_false']) (by simp only [go_sem, Bool.not_eq_true', Bool.not_eq_false']) (by simp only [go_sem, Bool.not_eq_true', Bool.not_eq_false']) (by simp only [go_sem, Bool.not_eq_true', Bool.not_eq_false']) (by simp only [go_sem, Bool.not_eq_true', Bool.not_eq_false']) (by simp only [go_sem, Bool.not_eq_true', Bool.not_eq_false'])) ?_; simp only [go_sem, Bool.not_eq_true', Bool.not_eq_false'])
  refine ⟨fun h5 => ?_, fun h5 => ?_⟩
  · rw [if_pos h5] at h
    refine ⟨by omega, ?_⟩
    (refine acallF2 [176 ] [] ( box5_ok l (k + 2) ⟨4, 1, sty0, 0, 0, [], 2, 0, 0⟩ 62 r hl h) (by simp only [go_sem, Bool.not_eq_true', Bool.not_eq_false']; rfl) (fit_of (by simp only [go_sem, Bool.not_eq_true', Bool.not_eq_false']) (by simp only [go_sem, Bool.not_eq_true', Bool.not_eq_false']) (by simp only [go_sem, Bool.not_eq_true', Bool.not_eq_false']) (by simp only [go_sem, Bool.not_eq_true', Bool.not_eq_false']) (by simp only [go_sem, Bool.not_eq_true', Bool.not_eq_false']) (by simp only [go_sem, Bool.not_eq_true', Bool.not_eq_false']) (by simp only [go_sem, Bool.not_eq_true', Bool.not_eq_false'])) ?_; simp only [go_sem, Bool.not_eq_true', Bool.not_eq_false'])
    (refine ret2 [] (by simp only [go_sem, Bool.not_eq_true', Bool.not_eq_false']; rfl) ?_; simp only [go_sem, Bool.not_eq_true', Bool.not_eq_false'])
  rw [if_neg (by rw [h5]; decide)] at h
  cases h
theorem nodesG_len (rec : Nat → Option (List LNo × Nat)) (l : List LTk) : ∀ g k r, nodesG rec l g k = some r → r.1.length < 1000
  | 0, k, r, h => by cases h
  | g + 1, k, r, h => by
    rw [nodesG] at h
    split at h
    case isFalse => cases h
    split at h
    case isFalse =>
      injection h with h
      subst h
      exact Nat.zero_lt_succ _
    split at h
    case h_2 => cases h
    split at h
    case isFalse => cases h
    split at h
    case h_2 => cases h
    split at h
    case isFalse => cases h
    next hh =>
    injection h with h
    subst h
    simp only [List.length_append]
    exact hh
structure LNd where
  k : Nat
  acc : List LNo
set_option maxRecDepth 100000 in
set_option maxHeartbeats 4000000 in
theorem nodesG_ok (rec : Nat → Option (List LNo × Nat)) (l : List LTk) (hrec : ∀ k r, k ≤ l.length → rec k = some r → FnOk Try.prog 93 [.sl 4 (l.map cTk), .raw (.int .i64 k)] [] (aGot r) []) (g k : Nat) (r : List LNo × Nat) (hl : l.length ≤ 1000) (hk : k ≤ l.length) (h : nodesG rec l g k = some r) : FnOk Try.prog 93 [.sl 4 (l.map cTk), .raw (.int .i64 k)] [] (aGot r) [] := by
  have hlen := nodesG_len rec l g k r h
  refine fn_of_swp Try.func93 rfl (by kernel_rfl) (by kernel_rfl) (Nat.le_of_ble_eq_true rfl) Try.results93 ?_
  (refine swp_seqW ?_; simp only [go_sem, Bool.not_eq_true', Bool.not_eq_false'])
  (refine swp_seqW ?_; simp only [go_sem, Bool.not_eq_true', Bool.not_eq_false'])
  refine swp_cutS (fun z : LNd => ⟨[(4, .hdr 8), (5, .hdr 16)], [(8, some (.cells 114 [.hdr 9, .raw (.int .i64 0), .raw (.int .i64 0)])), (9, some (.row 45 20 [])), (16, some (.cells 114 [.hdr 17, .raw (.int .i64 z.k), .raw (.int .i64 0)])), (17, some (.row 45 20 (z.acc.map cNo)))], none⟩) (fun z => (z.acc, z.k) = r) 4 ?_ ?_
  · refine swp_block ?_
    refine swp_loop2 [] (fun z : LNd => ⟨[(0, .sl 4 (l.map cTk)), (4, .hdr 8), (5, .hdr 16)], [(8, some (.cells 114 [.hdr 9, .raw (.int .i64 0), .raw (.int .i64 0)])), (9, some (.row 45 20 [])), (16, some (.cells 114 [.hdr 17, .raw (.int .i64 z.k), .raw (.int .i64 0)])), (17, some (.row 45 20 (z.acc.map cNo)))], none⟩) (fun z => z.k ≤ l.length ∧ ∃ f q, nodesG rec l f z.k = some q ∧ (z.acc ++ q.1, q.2) = r) (fun z => l.length - z.k) 40 ⟨k, []⟩ (by simp only [go_sem, Bool.not_eq_true', Bool.not_eq_false']; rfl) (by simp only [go_sem, Bool.not_eq_true', Bool.not_eq_false']) ?_ ?_
    · exact ⟨hk, g, r, h, rfl⟩
    · rintro ⟨kk, acc⟩ ⟨q1, f, q, q2, q3⟩
      simp only at q1 q2 q3
      obtain ⟨f, rfl⟩ : ∃ f', f = f' + 1 := by
        cases f with
        | zero => cases q2
        | succ g => exact ⟨g, rfl⟩
      rw [nodesG, if_pos q1] at q2
      (refine swp_seqW ?_; simp only [go_sem, Bool.not_eq_true', Bool.not_eq_false'])
      (refine acall2 [] (sign5_ok l kk 91 hl) (by simp only [go_sem, Bool.not_eq_true', Bool.not_eq_false']; rfl) (fit_of (by simp only [go_sem, Bool.not_eq_true', Bool.not_eq_false']) (by simp only [go_sem, Bool.not_eq_true', Bool.not_eq_false']) (by simp only [go_sem, Bool.not_eq_true', Bool.not_eq_false']) (by simp only [go_sem, Bool.not_eq_true', Bool.not_eq_false']) (by simp only [go_sem, Bool.not_eq_true', Bool.not_eq_false']) (by simp only [go_sem, Bool.not_eq_true', Bool.not_eq_false']) (by simp only [go_sem, Bool.not_eq_true', Bool.not_eq_false'])) ?_; simp only [go_sem, Bool.not_eq_true', Bool.not_eq_false'])
      refine ⟨fun c1 => ?_, fun c1 => ?_⟩
      (refine acall2 [] (sign5_ok l kk 40 hl) (by simp only [go_sem, Bool.not_eq_true', Bool.not_eq_false']; rfl) (fit_of (by simp only [go_sem, Bool.not_eq_true', Bool.not_eq_false']) (by simp only [go_sem, Bool.not_eq_true', Bool.not_eq_false']) (by simp only [go_sem, Bool.not_eq_true', Bool.not_eq_false']) (by simp only [go_sem, Bool.not_eq_true', Bool.not_eq_false']) (by simp only [go_sem, Bool.not_eq_true', Bool.not_eq_false']) (by simp only [go_sem, Bool.not_eq_true', Bool.not_eq_false']) (by simp only [go_sem, Bool.not_eq_true', Bool.not_eq_false'])) ?_; simp only [go_sem, Bool.not_eq_true', Bool.not_eq_false'])
      refine ⟨fun c2 => ?_, fun c2 => ?_⟩
      (refine acall2 [] (sign5_ok l kk 123 hl) (by simp only [go_sem, Bool.not_eq_true', Bool.not_eq_false']; rfl) (fit_of (by simp only [go_sem, Bool.not_eq_true', Bool.not_eq_false']) (by simp only [go_sem, Bool.not_eq_true', Bool.not_eq_false']) (by simp only [go_sem, Bool.not_eq_true', Bool.not_eq_false']) (by simp only [go_sem, Bool.not_eq_true', Bool.not_eq_false']) (by simp only [go_sem, Bool.not_eq_true', Bool.not_eq_false']) (by simp only [go_sem, Bool.not_eq_true', Bool.not_eq_false']) (by simp only [go_sem, Bool.not_eq_true', Bool.not_eq_false'])) ?_; simp only [go_sem, Bool.not_eq_true', Bool.not_eq_false'])
      refine ⟨fun c3 => ?_, fun c3 => ?_⟩
      (refine acall2 [] (sign5_ok l kk 60 hl) (by simp only [go_sem, Bool.not_eq_true', Bool.not_eq_false']; rfl) (fit_of (by simp only [go_sem, Bool.not_eq_true', Bool.not_eq_false']) (by simp only [go_sem, Bool.not_eq_true', Bool.not_eq_false']) (by simp only [go_sem, Bool.not_eq_true', Bool.not_eq_false']) (by simp only [go_sem, Bool.not_eq_true', Bool.not_eq_false']) (by simp only [go_sem, Bool.not_eq_true', Bool.not_eq_false']) (by simp only [go_sem, Bool.not_eq_true', Bool.not_eq_false']) (by simp only [go_sem, Bool.not_eq_true', Bool.not_eq_false'])) ?_; simp only [go_sem, Bool.not_eq_true', Bool.not_eq_false'])
      refine ⟨fun c4 => ?_, fun c4 => ?_⟩
      rotate_left
      · rw [if_neg (by simp [startB, c1, c2, c3, c4])] at q2
        injection q2 with q2
        subst q2
        (refine cut_end [] (⟨kk, acc⟩) (by simp only [go_sem, Bool.not_eq_true', Bool.not_eq_false']; rfl) ?_ ?_; (focus (simp only [go_sem, Bool.not_eq_true', Bool.not_eq_false']; done)))
        rw [← q3]; simp
      all_goals (have hs : startB l kk = true := by simp [startB, *])
      all_goals
        rw [if_pos hs] at q2
        split at q2
        case h_2 => cases q2
        next ns k1 hone =>
        split at q2
        case isFalse => cases q2
        next hk1 =>
        split at q2
        case h_2 => cases q2
        next rr k2 hrest =>
        split at q2
        case isFalse => cases q2
        next hh =>
        injection q2 with q2
        subst q2
        subst q3
        simp only [List.length_append] at hlen
        refine swp_block ?_
        (refine swp_seqW ?_; simp only [go_sem, Bool.not_eq_true', Bool.not_eq_false'])
        (refine acall2 [] (one5_ok rec l hrec kk (ns, k1) hl q1 hone) (by simp only [go_sem, Bool.not_eq_true', Bool.not_eq_false']; rfl) (fit_of (by simp only [go_sem, Bool.not_eq_true', Bool.not_eq_false']) (by simp only [go_sem, Bool.not_eq_true', Bool.not_eq_false']) (by simp only [go_sem, Bool.not_eq_true', Bool.not_eq_false']) (by simp only [go_sem, Bool.not_eq_true', Bool.not_eq_false']) (by simp only [go_sem, Bool.not_eq_true', Bool.not_eq_false']) (by simp only [go_sem, Bool.not_eq_true', Bool.not_eq_false']) (by simp only [go_sem, Bool.not_eq_true', Bool.not_eq_false'])) ?_; simp only [go_sem, Bool.not_eq_true', Bool.not_eq_false'])
        (refine swp_lastW ?_; simp only [go_sem, Bool.not_eq_true', Bool.not_eq_false', Int.reduceToNat, Int.reduceLT, Int.reduceLE, Int.reduceEq, Int.reduceAdd, Int.reduceSub, Int.reduceMul, Int.reduceNeg, Int.reduceNe, decide_false, Int.cast_ofNat_Int, kSet, List.getElem?_cons_succ, List.getElem?_cons_zero, List.set_cons_succ, List.set_cons_zero, exists_eq_left', forall_const, true_implies, List.length_map])
        refine ⟨⟨by omega, by omega⟩, ?_⟩
        have hb : k1 ≤ l.length := by
          cases f with
          | zero => cases hrest
          | succ f =>
            rw [nodesG] at hrest
            split at hrest
            case isFalse => cases hrest
            next hb => exact hb
        (refine loop_end [] (⟨k1, acc ++ ns⟩) (by simp only [go_sem, Bool.not_eq_true', Bool.not_eq_false']; rfl) ?_ ?_ ?_; (focus first | omega | (simp only; omega)); (focus (simp only [go_sem, Bool.not_eq_true', Bool.not_eq_false', List.map_append]; done)))
        exact ⟨hb, f, (rr, k2), hrest, by simp⟩
  rintro ⟨kk, acc⟩ hr
  subst hr
  (refine swp_lastW ?_; simp only [go_sem, Bool.not_eq_true', Bool.not_eq_false'])
  (refine ret2 [17] (by simp only [go_sem, Bool.not_eq_true', Bool.not_eq_false']; rfl) ?_; simp only [go_sem, Bool.not_eq_true', Bool.not_eq_false'])
end Go.Proofs.Ytbgcmnccjfdooaa
/- THE SCRIPT'S READER: the whole. -/
/- G -/
/- BOOLS -/
set_option linter.unusedSimpArgs false
set_option linter.unusedVariables false
namespace Go.Proofs.Ytbgcmnccjfdooaa
open Go.RowKit

theorem nodes5_ok (l : List LTk) (hl : l.length ≤ 1000) : ∀ (f k : Nat) (r : List LNo × Nat), k ≤ l.length → nodesS l f k = some r → FnOk Try.prog 93 [.sl 4 (l.map cTk), .raw (.int .i64 k)] [] (aGot r) []
  | 0, _, _, _, h => by cases h
  | f + 1, k, r, hk, h => nodesG_ok (nodesS l f) l (nodes5_ok l hl f) (l.length + 1) k r hl hk h
set_option maxRecDepth 100000 in
set_option maxHeartbeats 4000000 in
theorem of5_ok (s : ByteArray) (l : List LTk) (ns : List LNo) (ha : ascii s) (hs : s.size ≤ 1000) (h1 : tokS s (s.size + 1) 0 = some l) (hl : l.length ≤ 1000) (h2 : nodesS l (l.length + 1) 0 = some (ns, l.length)) : FnOk Try.prog 57 [.raw (.string s)] [] (.tup [.sl 20 (ns.map cNo), .raw (.int .i64 0), .raw (.int .i64 0)]) [] := by
  have hn : FnOk Try.prog 93 [.sl 4 (l.map cTk), .raw (.int .i64 0)] [] (aGot (ns, l.length)) [] := nodes5_ok l hl (l.length + 1) 0 (ns, l.length) (Nat.zero_le _) h2
  refine fn_of_awp Try.func57 rfl (by kernel_rfl) (by kernel_rfl) (Nat.le_of_ble_eq_true rfl) Try.results57 ?_
  simp only [go_sem, Bool.not_eq_true', Bool.not_eq_false']
  (refine acall2 [] (tok4_ok s l ha hs h1) (by simp only [go_sem, Bool.not_eq_true', Bool.not_eq_false']; rfl) (fit_of (by simp only [go_sem, Bool.not_eq_true', Bool.not_eq_false']) (by simp only [go_sem, Bool.not_eq_true', Bool.not_eq_false']) (by simp only [go_sem, Bool.not_eq_true', Bool.not_eq_false']) (by simp only [go_sem, Bool.not_eq_true', Bool.not_eq_false']) (by simp only [go_sem, Bool.not_eq_true', Bool.not_eq_false']) (by simp only [go_sem, Bool.not_eq_true', Bool.not_eq_false']) (by simp only [go_sem, Bool.not_eq_true', Bool.not_eq_false'])) ?_; simp only [go_sem, Bool.not_eq_true', Bool.not_eq_false', Int.reduceToNat, Int.reduceLT, Int.reduceLE, Int.reduceEq, Int.reduceAdd, Int.reduceSub, Int.reduceMul, Int.reduceNeg, Int.reduceNe, decide_false, Int.cast_ofNat_Int, kSet, List.getElem?_cons_succ, List.getElem?_cons_zero, List.set_cons_succ, List.set_cons_zero, exists_eq_left', forall_const, true_implies])
  (refine acallF2 [40 ] [] ( hn) (by simp only [go_sem, Bool.not_eq_true', Bool.not_eq_false']; rfl) (fit_of (by simp only [go_sem, Bool.not_eq_true', Bool.not_eq_false']) (by simp only [go_sem, Bool.not_eq_true', Bool.not_eq_false']) (by simp only [go_sem, Bool.not_eq_true', Bool.not_eq_false']) (by simp only [go_sem, Bool.not_eq_true', Bool.not_eq_false']) (by simp only [go_sem, Bool.not_eq_true', Bool.not_eq_false']) (by simp only [go_sem, Bool.not_eq_true', Bool.not_eq_false']) (by simp only [go_sem, Bool.not_eq_true', Bool.not_eq_false'])) ?_; simp only [go_sem, Bool.not_eq_true', Bool.not_eq_false', Int.reduceToNat, Int.reduceLT, Int.reduceLE, Int.reduceEq, Int.reduceAdd, Int.reduceSub, Int.reduceMul, Int.reduceNeg, Int.reduceNe, decide_false, Int.cast_ofNat_Int, kSet, List.getElem?_cons_succ, List.getElem?_cons_zero, List.set_cons_succ, List.set_cons_zero, exists_eq_left', forall_const, true_implies, List.length_map])
  refine ⟨fun q => absurd q (by omega), fun _ => ?_⟩
  (refine ret2 [] (by simp only [go_sem, Bool.not_eq_true', Bool.not_eq_false']; rfl) ?_; simp only [go_sem, Bool.not_eq_true', Bool.not_eq_false'])
def asciiB (s : ByteArray) : Bool := (List.range s.size).all (fun q => decide (byteAt s q ≤ 127))
theorem ascii_of (s : ByteArray) (h : asciiB s = true) : ascii s := fun q hq => of_decide_eq_true (List.all_eq_true.1 h q (List.mem_range.2 hq))
def rdS (s : ByteArray) : Option (List LNo) :=
  if asciiB s = true ∧ s.size ≤ 1000 then match tokS s (s.size + 1) 0 with
    | some l => if l.length ≤ 1000 then match nodesS l (l.length + 1) 0 with
      | some (ns, k) => if k = l.length then some ns else none
      | none => none
      else none
    | none => none
  else none
set_option maxRecDepth 100000 in
theorem rdS_ok (s : ByteArray) (ns : List LNo) (h : rdS s = some ns) : FnOk Try.prog 57 [.raw (.string s)] [] (.tup [.sl 20 (ns.map cNo), .raw (.int .i64 0), .raw (.int .i64 0)]) [] := by
  unfold rdS at h
  split at h
  case isFalse => cases h
  next ha =>
  split at h
  case h_2 => cases h
  next l h1 =>
  split at h
  case isFalse => cases h
  next hl =>
  split at h
  case h_2 => cases h
  next q k h2 =>
  split at h
  case isFalse => cases h
  next hk =>
  injection h with h
  subst h
  subst hk
  exact of5_ok s l q (ascii_of s ha.1) ha.2 h1 hl h2
def scr08 : ByteArray := { data := #[91, 105, 53, 32, 40, 49, 48, 32, 50, 32, 51, 48, 41, 91, 105, 54, 48, 32, 123, 51, 32, 52, 125, 93, 93, 123, 49, 32, 49, 125] }
def nds08 : List LNo := [⟨1, 4, ⟨0, 0, 0, 0, 5, 2, 2, 0, 0, 0, 0, 0⟩, 0, 0, [], 0, 0, 0⟩, ⟨2, 1, sty0, 10, 2, [30], 0, 0, 0⟩, ⟨1, 2, ⟨0, 0, 0, 0, 60, 2, 2, 0, 0, 0, 0, 0⟩, 0, 0, [], 0, 0, 0⟩, ⟨3, 1, sty0, 0, 0, [], 0, 3, 4⟩, ⟨3, 1, sty0, 0, 0, [], 0, 1, 1⟩]
theorem rd08 : rdS scr08 = some nds08 := by kernel_rfl
end Go.Proofs.Ytbgcmnccjfdooaa
/- CHAPTER 16: the laws' own functions; the chapter's examples. -/
/- G -/
/- BOOLS -/
set_option linter.unusedSimpArgs false
set_option linter.unusedVariables false
namespace Go.Proofs.Ytbgcmnccjfdooaa
open Go.RowKit

def vst2 (l : List LNo) (of : List Int) : Bool := decide (60 < l.length) || (decide (200 < of.length) || l.any (fun x => decide (100 < x.words.length)))
theorem vst2_no {l : List LNo} {of : List Int} (h : vst2 l of = false) : l.length ≤ 60 ∧ of.length ≤ 200 ∧ ∀ x ∈ l, x.words.length ≤ 100 := by
  simp only [vst2, Bool.or_eq_false_iff, decide_eq_false_iff_not, List.any_eq_false, decide_eq_true_eq] at h
  exact ⟨by omega, by omega, fun x hx => by have := h.2.2 x hx; omega⟩
set_option maxRecDepth 100000 in
set_option maxHeartbeats 4000000 in
theorem vast16_ok (l : List LNo) (of : List Int) : FnOk Try.prog 15 [.sl 20 (l.map cNo), .sl 1 (of.map cInt)] [] (.raw (.bool (vst2 l of))) [] := by
  refine fn_of_swp Try.func15 rfl (by kernel_rfl) (by kernel_rfl) (Nat.le_of_ble_eq_true rfl) Try.results15 ?_
  (refine swp_seqW ?_; simp only [go_sem, Bool.not_eq_true', Bool.not_eq_false'])
  (refine swp_seqW ?_; simp only [go_sem, Bool.not_eq_true', Bool.not_eq_false', List.length_map])
  by_cases h0 : 60 < l.length ∨ 200 < of.length
  · have e : vst2 l of = true := by simp only [vst2, Bool.or_eq_true, decide_eq_true_eq]; omega
    rw [e]
    refine ⟨fun h1 => ⟨fun h2 => ?_, fun h2 => absurd h0 (by omega)⟩, fun h1 => ?_⟩
    all_goals trivial
  refine ⟨fun h1 => ⟨fun h2 => by omega, fun h2 => ?_⟩, fun h1 => by omega⟩
  refine swp_cutS (fun _ : Unit => ⟨[], [], none⟩) (fun _ => vst2 l of = false) 3 ?_ ?_
  · (refine swp_seqW ?_; simp only [go_sem, Bool.not_eq_true', Bool.not_eq_false'])
    refine swp_block ?_
    refine swp_loop2 [] (fun k : Nat => ⟨[(0, .sl 20 (l.map cNo)), (5, .raw (.int .i64 k))], [], none⟩) (fun k => k ≤ l.length ∧ ∀ j (hj : j < l.length), j < k → l[j].words.length ≤ 100) (fun k => l.length - k) 4 0 (by simp only [go_sem, Bool.not_eq_true', Bool.not_eq_false']; rfl) (by simp only [go_sem, Bool.not_eq_true', Bool.not_eq_false']) ?_ ?_
    · exact ⟨Nat.zero_le _, fun j _ h => absurd h (Nat.not_lt_zero j)⟩
    · rintro k ⟨hk, ha⟩
      (refine swp_lastW ?_; simp only [go_sem, Bool.not_eq_true', Bool.not_eq_false', List.length_map])
      refine ⟨fun h5 => ?_, fun h5 => ?_⟩
      · have hkl : k < l.length := by omega
        refine ⟨by omega, ex_get hkl ⟨fun h6 => ?_, fun h6 => ⟨by omega, ?_⟩⟩⟩
        · have e : vst2 l of = true := by
            simp only [vst2, Bool.or_eq_true, List.any_eq_true, decide_eq_true_eq]
            exact .inr (.inr ⟨l[k], List.getElem_mem hkl, by omega⟩)
          first | exact e | rw [e]
        · (refine loop_end [] (k + 1) (by simp only [go_sem, Bool.not_eq_true', Bool.not_eq_false']; rfl) ?_ ?_ ?_; (focus first | omega | (simp only; omega)); (focus (simp only [go_sem, Bool.not_eq_true', Bool.not_eq_false']; done)))
          refine ⟨by omega, fun j hj h7 => ?_⟩
          rcases Nat.lt_succ_iff_lt_or_eq.1 h7 with h8 | h8
          · exact ha j hj h8
          · subst h8; omega
      · (refine cut_end [] (()) (by simp only [go_sem, Bool.not_eq_true', Bool.not_eq_false']; rfl) ?_ ?_; (focus (simp only [go_sem, Bool.not_eq_true', Bool.not_eq_false']; done)))
        simp only [vst2, Bool.or_eq_false_iff, decide_eq_false_iff_not, List.any_eq_false, decide_eq_true_eq]
        refine ⟨by omega, by omega, fun x hx => ?_⟩
        obtain ⟨j, hj, rfl⟩ := List.getElem_of_mem hx
        have := ha j hj (by omega)
        omega
  rintro - hv
  rw [hv]
  (refine swp_lastW ?_; simp only [go_sem, Bool.not_eq_true', Bool.not_eq_false'])
set_option maxRecDepth 100000 in
set_option maxHeartbeats 4000000 in
theorem vast17_ok (l : List LNo) (of : List Int) : FnOk Try.prog 30 [.sl 20 (l.map cNo), .sl 1 (of.map cInt)] [] (.raw (.bool (vst2 l of))) [] := by
  refine fn_of_swp Try.func30 rfl (by kernel_rfl) (by kernel_rfl) (Nat.le_of_ble_eq_true rfl) Try.results30 ?_
  (refine swp_seqW ?_; simp only [go_sem, Bool.not_eq_true', Bool.not_eq_false'])
  (refine swp_seqW ?_; simp only [go_sem, Bool.not_eq_true', Bool.not_eq_false', List.length_map])
  by_cases h0 : 60 < l.length ∨ 200 < of.length
  · have e : vst2 l of = true := by simp only [vst2, Bool.or_eq_true, decide_eq_true_eq]; omega
    rw [e]
    refine ⟨fun h1 => ⟨fun h2 => ?_, fun h2 => absurd h0 (by omega)⟩, fun h1 => ?_⟩
    all_goals trivial
  refine ⟨fun h1 => ⟨fun h2 => by omega, fun h2 => ?_⟩, fun h1 => by omega⟩
  refine swp_cutS (fun _ : Unit => ⟨[], [], none⟩) (fun _ => vst2 l of = false) 3 ?_ ?_
  · (refine swp_seqW ?_; simp only [go_sem, Bool.not_eq_true', Bool.not_eq_false'])
    refine swp_block ?_
    refine swp_loop2 [] (fun k : Nat => ⟨[(0, .sl 20 (l.map cNo)), (5, .raw (.int .i64 k))], [], none⟩) (fun k => k ≤ l.length ∧ ∀ j (hj : j < l.length), j < k → l[j].words.length ≤ 100) (fun k => l.length - k) 4 0 (by simp only [go_sem, Bool.not_eq_true', Bool.not_eq_false']; rfl) (by simp only [go_sem, Bool.not_eq_true', Bool.not_eq_false']) ?_ ?_
    · exact ⟨Nat.zero_le _, fun j _ h => absurd h (Nat.not_lt_zero j)⟩
    · rintro k ⟨hk, ha⟩
      (refine swp_lastW ?_; simp only [go_sem, Bool.not_eq_true', Bool.not_eq_false', List.length_map])
      refine ⟨fun h5 => ?_, fun h5 => ?_⟩
      · have hkl : k < l.length := by omega
        refine ⟨by omega, ex_get hkl ⟨fun h6 => ?_, fun h6 => ⟨by omega, ?_⟩⟩⟩
        · have e : vst2 l of = true := by
            simp only [vst2, Bool.or_eq_true, List.any_eq_true, decide_eq_true_eq]
            exact .inr (.inr ⟨l[k], List.getElem_mem hkl, by omega⟩)
          first | exact e | rw [e]
        · (refine loop_end [] (k + 1) (by simp only [go_sem, Bool.not_eq_true', Bool.not_eq_false']; rfl) ?_ ?_ ?_; (focus first | omega | (simp only; omega)); (focus (simp only [go_sem, Bool.not_eq_true', Bool.not_eq_false']; done)))
          refine ⟨by omega, fun j hj h7 => ?_⟩
          rcases Nat.lt_succ_iff_lt_or_eq.1 h7 with h8 | h8
          · exact ha j hj h8
          · subst h8; omega
      · (refine cut_end [] (()) (by simp only [go_sem, Bool.not_eq_true', Bool.not_eq_false']; rfl) ?_ ?_; (focus (simp only [go_sem, Bool.not_eq_true', Bool.not_eq_false']; done)))
        simp only [vst2, Bool.or_eq_false_iff, decide_eq_false_iff_not, List.any_eq_false, decide_eq_true_eq]
        refine ⟨by omega, by omega, fun x hx => ?_⟩
        obtain ⟨j, hj, rfl⟩ := List.getElem_of_mem hx
        have := ha j hj (by omega)
        omega
  rintro - hv
  rw [hv]
  (refine swp_lastW ?_; simp only [go_sem, Bool.not_eq_true', Bool.not_eq_false'])
set_option maxRecDepth 100000 in
set_option maxHeartbeats 4000000 in
theorem vast18_ok (l : List LNo) (of : List Int) : FnOk Try.prog 38 [.sl 20 (l.map cNo), .sl 1 (of.map cInt)] [] (.raw (.bool (vst2 l of))) [] := by
  refine fn_of_swp Try.func38 rfl (by kernel_rfl) (by kernel_rfl) (Nat.le_of_ble_eq_true rfl) Try.results38 ?_
  (refine swp_seqW ?_; simp only [go_sem, Bool.not_eq_true', Bool.not_eq_false'])
  (refine swp_seqW ?_; simp only [go_sem, Bool.not_eq_true', Bool.not_eq_false', List.length_map])
  by_cases h0 : 60 < l.length ∨ 200 < of.length
  · have e : vst2 l of = true := by simp only [vst2, Bool.or_eq_true, decide_eq_true_eq]; omega
    rw [e]
    refine ⟨fun h1 => ⟨fun h2 => ?_, fun h2 => absurd h0 (by omega)⟩, fun h1 => ?_⟩
    all_goals trivial
  refine ⟨fun h1 => ⟨fun h2 => by omega, fun h2 => ?_⟩, fun h1 => by omega⟩
  refine swp_cutS (fun _ : Unit => ⟨[], [], none⟩) (fun _ => vst2 l of = false) 3 ?_ ?_
  · (refine swp_seqW ?_; simp only [go_sem, Bool.not_eq_true', Bool.not_eq_false'])
    refine swp_block ?_
    refine swp_loop2 [] (fun k : Nat => ⟨[(0, .sl 20 (l.map cNo)), (5, .raw (.int .i64 k))], [], none⟩) (fun k => k ≤ l.length ∧ ∀ j (hj : j < l.length), j < k → l[j].words.length ≤ 100) (fun k => l.length - k) 4 0 (by simp only [go_sem, Bool.not_eq_true', Bool.not_eq_false']; rfl) (by simp only [go_sem, Bool.not_eq_true', Bool.not_eq_false']) ?_ ?_
    · exact ⟨Nat.zero_le _, fun j _ h => absurd h (Nat.not_lt_zero j)⟩
    · rintro k ⟨hk, ha⟩
      (refine swp_lastW ?_; simp only [go_sem, Bool.not_eq_true', Bool.not_eq_false', List.length_map])
      refine ⟨fun h5 => ?_, fun h5 => ?_⟩
      · have hkl : k < l.length := by omega
        refine ⟨by omega, ex_get hkl ⟨fun h6 => ?_, fun h6 => ⟨by omega, ?_⟩⟩⟩
        · have e : vst2 l of = true := by
            simp only [vst2, Bool.or_eq_true, List.any_eq_true, decide_eq_true_eq]
            exact .inr (.inr ⟨l[k], List.getElem_mem hkl, by omega⟩)
          first | exact e | rw [e]
        · (refine loop_end [] (k + 1) (by simp only [go_sem, Bool.not_eq_true', Bool.not_eq_false']; rfl) ?_ ?_ ?_; (focus first | omega | (simp only; omega)); (focus (simp only [go_sem, Bool.not_eq_true', Bool.not_eq_false']; done)))
          refine ⟨by omega, fun j hj h7 => ?_⟩
          rcases Nat.lt_succ_iff_lt_or_eq.1 h7 with h8 | h8
          · exact ha j hj h8
          · subst h8; omega
      · (refine cut_end [] (()) (by simp only [go_sem, Bool.not_eq_true', Bool.not_eq_false']; rfl) ?_ ?_; (focus (simp only [go_sem, Bool.not_eq_true', Bool.not_eq_false']; done)))
        simp only [vst2, Bool.or_eq_false_iff, decide_eq_false_iff_not, List.any_eq_false, decide_eq_true_eq]
        refine ⟨by omega, by omega, fun x hx => ?_⟩
        obtain ⟨j, hj, rfl⟩ := List.getElem_of_mem hx
        have := ha j hj (by omega)
        omega
  rintro - hv
  rw [hv]
  (refine swp_lastW ?_; simp only [go_sem, Bool.not_eq_true', Bool.not_eq_false'])
set_option maxRecDepth 100000 in
set_option maxHeartbeats 4000000 in
theorem vast19_ok (l : List LNo) (of : List Int) : FnOk Try.prog 55 [.sl 20 (l.map cNo), .sl 1 (of.map cInt)] [] (.raw (.bool (vst2 l of))) [] := by
  refine fn_of_swp Try.func55 rfl (by kernel_rfl) (by kernel_rfl) (Nat.le_of_ble_eq_true rfl) Try.results55 ?_
  (refine swp_seqW ?_; simp only [go_sem, Bool.not_eq_true', Bool.not_eq_false'])
  (refine swp_seqW ?_; simp only [go_sem, Bool.not_eq_true', Bool.not_eq_false', List.length_map])
  by_cases h0 : 60 < l.length ∨ 200 < of.length
  · have e : vst2 l of = true := by simp only [vst2, Bool.or_eq_true, decide_eq_true_eq]; omega
    rw [e]
    refine ⟨fun h1 => ⟨fun h2 => ?_, fun h2 => absurd h0 (by omega)⟩, fun h1 => ?_⟩
    all_goals trivial
  refine ⟨fun h1 => ⟨fun h2 => by omega, fun h2 => ?_⟩, fun h1 => by omega⟩
  refine swp_cutS (fun _ : Unit => ⟨[], [], none⟩) (fun _ => vst2 l of = false) 3 ?_ ?_
  · (refine swp_seqW ?_; simp only [go_sem, Bool.not_eq_true', Bool.not_eq_false'])
    refine swp_block ?_
    refine swp_loop2 [] (fun k : Nat => ⟨[(0, .sl 20 (l.map cNo)), (5, .raw (.int .i64 k))], [], none⟩) (fun k => k ≤ l.length ∧ ∀ j (hj : j < l.length), j < k → l[j].words.length ≤ 100) (fun k => l.length - k) 4 0 (by simp only [go_sem, Bool.not_eq_true', Bool.not_eq_false']; rfl) (by simp only [go_sem, Bool.not_eq_true', Bool.not_eq_false']) ?_ ?_
    · exact ⟨Nat.zero_le _, fun j _ h => absurd h (Nat.not_lt_zero j)⟩
    · rintro k ⟨hk, ha⟩
      (refine swp_lastW ?_; simp only [go_sem, Bool.not_eq_true', Bool.not_eq_false', List.length_map])
      refine ⟨fun h5 => ?_, fun h5 => ?_⟩
      · have hkl : k < l.length := by omega
        refine ⟨by omega, ex_get hkl ⟨fun h6 => ?_, fun h6 => ⟨by omega, ?_⟩⟩⟩
        · have e : vst2 l of = true := by
            simp only [vst2, Bool.or_eq_true, List.any_eq_true, decide_eq_true_eq]
            exact .inr (.inr ⟨l[k], List.getElem_mem hkl, by omega⟩)
          first | exact e | rw [e]
        · (refine loop_end [] (k + 1) (by simp only [go_sem, Bool.not_eq_true', Bool.not_eq_false']; rfl) ?_ ?_ ?_; (focus first | omega | (simp only; omega)); (focus (simp only [go_sem, Bool.not_eq_true', Bool.not_eq_false']; done)))
          refine ⟨by omega, fun j hj h7 => ?_⟩
          rcases Nat.lt_succ_iff_lt_or_eq.1 h7 with h8 | h8
          · exact ha j hj h8
          · subst h8; omega
      · (refine cut_end [] (()) (by simp only [go_sem, Bool.not_eq_true', Bool.not_eq_false']; rfl) ?_ ?_; (focus (simp only [go_sem, Bool.not_eq_true', Bool.not_eq_false']; done)))
        simp only [vst2, Bool.or_eq_false_iff, decide_eq_false_iff_not, List.any_eq_false, decide_eq_true_eq]
        refine ⟨by omega, by omega, fun x hx => ?_⟩
        obtain ⟨j, hj, rfl⟩ := List.getElem_of_mem hx
        have := ha j hj (by omega)
        omega
  rintro - hv
  rw [hv]
  (refine swp_lastW ?_; simp only [go_sem, Bool.not_eq_true', Bool.not_eq_false'])
end Go.Proofs.Ytbgcmnccjfdooaa
/- CHAPTER 16: the chapter's examples. -/
/- G -/
/- BOOLS -/
set_option linter.unusedSimpArgs false
set_option linter.unusedVariables false
namespace Go.Proofs.Ytbgcmnccjfdooaa
open Go.RowKit

theorem hw_of {l : List LNo} (h : l.all (fun x => decide (x.words.length ≤ 100)) = true) : ∀ x ∈ l, x.words.length ≤ 9223372036854775807 := fun x hx => by
  have := of_decide_eq_true (List.all_eq_true.1 h x hx)
  omega
def sKin (x : LKin) : AV := .agg [.sl 1 (x.ends.map cInt), .sl 1 (x.begins.map cInt), .sl 1 (x.both.map cInt), .raw (.int .i64 x.text)]
attribute [go_sem] sKin
theorem kinA_len (l : List LNo) (of : List Int) (k : Int) : (kinA l of k).ends.length ≤ l.length ∧ (kinA l of k).begins.length ≤ l.length ∧ (kinA l of k).both.length ≤ l.length := by
  unfold kinA
  split
  · next h =>
    rw [kinG, Bool.and_eq_true] at h
    have hv := (chk_has h.1).1
    unfold kinS
    simp only [List.length_reverse]
    exact ⟨choS_len _ _ _ _ hv, choS_len _ _ _ _ hv, choS_len _ _ _ _ hv⟩
  · simp [kin0]
set_option maxRecDepth 100000 in
set_option maxHeartbeats 4000000 in
theorem is16_ok (l : List LNo) (of : List Int) (k : Int) (y : LKin) (hl : l.length ≤ 1000) (ho : of.length ≤ 1000) (hw : ∀ x ∈ l, x.words.length ≤ 9223372036854775807) (hy : y.ends.length ≤ 1000 ∧ y.begins.length ≤ 1000 ∧ y.both.length ≤ 1000) (h1 : kinG l of k = true) (h2 : kinA l of k = y) : FnOk Try.prog 58 [.sl 20 (l.map cNo), .sl 1 (of.map cInt), .raw (.int .i64 k), sKin y] [] (.raw (.bool true)) [] := by
  refine fn_of_awp Try.func58 rfl (by kernel_rfl) (by kernel_rfl) (Nat.le_of_ble_eq_true rfl) Try.results58 ?_
  simp only [go_sem, Bool.not_eq_true', Bool.not_eq_false']
  (refine acall2 [] (kinAt_ok l of k hl ho hw) (by simp only [go_sem, Bool.not_eq_true', Bool.not_eq_false']; rfl) (fit_of (by simp only [go_sem, Bool.not_eq_true', Bool.not_eq_false']) (by simp only [go_sem, Bool.not_eq_true', Bool.not_eq_false']) (by simp only [go_sem, Bool.not_eq_true', Bool.not_eq_false']) (by simp only [go_sem, Bool.not_eq_true', Bool.not_eq_false']) (by simp only [go_sem, Bool.not_eq_true', Bool.not_eq_false']) (by simp only [go_sem, Bool.not_eq_true', Bool.not_eq_false']) (by simp only [go_sem, Bool.not_eq_true', Bool.not_eq_false'])) ?_; simp only [go_sem, Bool.not_eq_true', Bool.not_eq_false'])
  have e3 : errB true = 0 := rfl
  rw [h1, h2, e3]
  refine ⟨fun _ => ?_, fun q => absurd rfl q⟩
  (refine acallF2 [48, 49, 50 ] [] ( rsame_ok y y hy hy) (by simp only [go_sem, Bool.not_eq_true', Bool.not_eq_false']; rfl) (fit_of (by simp only [go_sem, Bool.not_eq_true', Bool.not_eq_false']) (by simp only [go_sem, Bool.not_eq_true', Bool.not_eq_false']) (by simp only [go_sem, Bool.not_eq_true', Bool.not_eq_false']) (by simp only [go_sem, Bool.not_eq_true', Bool.not_eq_false']) (by simp only [go_sem, Bool.not_eq_true', Bool.not_eq_false']) (by simp only [go_sem, Bool.not_eq_true', Bool.not_eq_false']) (by simp only [go_sem, Bool.not_eq_true', Bool.not_eq_false'])) ?_; simp only [go_sem, Bool.not_eq_true', Bool.not_eq_false'])
def scr16 : ByteArray := { data := #[91, 32, 40, 49, 32, 48, 32, 53, 32, 53, 41, 32, 91, 32, 123, 49, 32, 49, 125, 32, 93, 32, 93, 32, 123, 50, 32, 50, 125] }
def nds16 : List LNo := [⟨1, 4, sty2, 0, 0, [], 0, 0, 0⟩, ⟨2, 1, sty0, 1, 0, [5, 5], 0, 0, 0⟩, ⟨1, 2, sty2, 0, 0, [], 0, 0, 0⟩, ⟨3, 1, sty0, 0, 0, [], 0, 1, 1⟩, ⟨3, 1, sty0, 0, 0, [], 0, 2, 2⟩]
theorem rd16 : rdS scr16 = some nds16 := by kernel_rfl
theorem of16 : FnOk Try.prog 57 [.raw (.string { data := #[91, 32, 40, 49, 32, 48, 32, 53, 32, 53, 41, 32, 91, 32, 123, 49, 32, 49, 125, 32, 93, 32, 93, 32, 123, 50, 32, 50, 125] })] [] (.tup [.sl 20 (nds16.map cNo), .raw (.int .i64 0), .raw (.int .i64 0)]) [] := rdS_ok scr16 nds16 rd16
theorem w16 : ∀ x ∈ nds16, x.words.length ≤ 9223372036854775807 := hw_of (by kernel_rfl)
theorem i16 (k : Int) (y : LKin) (hy : y.ends.length ≤ 1000 ∧ y.begins.length ≤ 1000 ∧ y.both.length ≤ 1000) (h1 : kinG nds16 [1, 1, 3, 4] k = true) (h2 : kinA nds16 [1, 1, 3, 4] k = y) : FnOk Try.prog 58 [.sl 20 (nds16.map cNo), .sl 1 ([1, 1, 3, 4].map cInt), .raw (.int .i64 k), sKin y] [] (.raw (.bool true)) [] :=
  is16_ok nds16 [1, 1, 3, 4] k y (Nat.le_of_ble_eq_true rfl) (Nat.le_of_ble_eq_true rfl) w16 hy h1 h2
theorem h16 : FnOk Try.prog 19 [.sl 20 (nds16.map cNo), .sl 1 ([1, 1, 3, 4].map cInt), .raw (.int .i64 0)] [] (.tup [.raw (.int .i64 0), .raw (.int .i64 3)]) [] := by
  have e : heldA nds16 [1, 1, 3, 4] 0 = (0, 3) := by kernel_rfl
  have h := held16_ok nds16 [1, 1, 3, 4] 0 (Nat.le_of_ble_eq_true rfl) (Nat.le_of_ble_eq_true rfl) w16
  rw [e] at h
  exact h
theorem c16 (of : List Int) (r : Int) (h : errB (chkB nds16 of) = r) (ho : of.length ≤ 1000) : FnOk Try.prog 21 [.sl 20 (nds16.map cNo), .sl 1 (of.map cInt)] [] (.raw (.int .i64 r)) [] := h ▸ check16_ok nds16 of (Nat.le_of_ble_eq_true rfl) ho w16
theorem y3 {a b c : List Int} (h : (Nat.ble a.length 1000 && Nat.ble b.length 1000 && Nat.ble c.length 1000) = true) : a.length ≤ 1000 ∧ b.length ≤ 1000 ∧ c.length ≤ 1000 := by
  simp only [Bool.and_eq_true] at h
  exact ⟨Nat.le_of_ble_eq_true h.1.1, Nat.le_of_ble_eq_true h.1.2, Nat.le_of_ble_eq_true h.2⟩
set_option maxRecDepth 100000 in
set_option maxHeartbeats 8000000 in
theorem awake16_ok : FnOk Try.prog 16 [] [] (.raw (.bool true)) [] := by
  refine fn_of_awp Try.func16 rfl (by kernel_rfl) (by kernel_rfl) (Nat.le_of_ble_eq_true rfl) Try.results16 ?_
  simp only [go_sem, Bool.not_eq_true', Bool.not_eq_false']
  (refine acall2 [] (of16) (by simp only [go_sem, Bool.not_eq_true', Bool.not_eq_false']; rfl) (fit_of (by simp only [go_sem, Bool.not_eq_true', Bool.not_eq_false']) (by simp only [go_sem, Bool.not_eq_true', Bool.not_eq_false']) (by simp only [go_sem, Bool.not_eq_true', Bool.not_eq_false']) (by simp only [go_sem, Bool.not_eq_true', Bool.not_eq_false']) (by simp only [go_sem, Bool.not_eq_true', Bool.not_eq_false']) (by simp only [go_sem, Bool.not_eq_true', Bool.not_eq_false']) (by simp only [go_sem, Bool.not_eq_true', Bool.not_eq_false'])) ?_; simp only [go_sem, Bool.not_eq_true', Bool.not_eq_false'])
  (refine acallF2 [80 ] [] ( h16) (by simp only [go_sem, Bool.not_eq_true', Bool.not_eq_false']; rfl) (fit_of (by simp only [go_sem, Bool.not_eq_true', Bool.not_eq_false']) (by simp only [go_sem, Bool.not_eq_true', Bool.not_eq_false']) (by simp only [go_sem, Bool.not_eq_true', Bool.not_eq_false']) (by simp only [go_sem, Bool.not_eq_true', Bool.not_eq_false']) (by simp only [go_sem, Bool.not_eq_true', Bool.not_eq_false']) (by simp only [go_sem, Bool.not_eq_true', Bool.not_eq_false']) (by simp only [go_sem, Bool.not_eq_true', Bool.not_eq_false'])) ?_; simp only [go_sem, Bool.not_eq_true', Bool.not_eq_false', Int.reduceToNat, Int.reduceLT, Int.reduceLE, Int.reduceEq, Int.reduceAdd, Int.reduceSub, Int.reduceMul, Int.reduceNeg, Int.reduceNe, decide_false, Int.cast_ofNat_Int, kSet, List.getElem?_cons_succ, List.getElem?_cons_zero, List.set_cons_succ, List.set_cons_zero, exists_eq_left', forall_const, true_implies, List.map])
  (refine acallF2 [176, 184, 185 ] [] ( i16 0 ⟨[], [0], [], -1⟩ (y3 rfl) (by kernel_rfl) (by kernel_rfl)) (by simp only [go_sem, Bool.not_eq_true', Bool.not_eq_false']; rfl) (fit_of (by simp only [go_sem, Bool.not_eq_true', Bool.not_eq_false']) (by simp only [go_sem, Bool.not_eq_true', Bool.not_eq_false']) (by simp only [go_sem, Bool.not_eq_true', Bool.not_eq_false']) (by simp only [go_sem, Bool.not_eq_true', Bool.not_eq_false']) (by simp only [go_sem, Bool.not_eq_true', Bool.not_eq_false']) (by simp only [go_sem, Bool.not_eq_true', Bool.not_eq_false']) (by simp only [go_sem, Bool.not_eq_true', Bool.not_eq_false'])) ?_; simp only [go_sem, Bool.not_eq_true', Bool.not_eq_false', Int.reduceToNat, Int.reduceLT, Int.reduceLE, Int.reduceEq, Int.reduceAdd, Int.reduceSub, Int.reduceMul, Int.reduceNeg, Int.reduceNe, decide_false, Int.cast_ofNat_Int, kSet, List.getElem?_cons_succ, List.getElem?_cons_zero, List.set_cons_succ, List.set_cons_zero, exists_eq_left', forall_const, true_implies, List.map])
  (refine acallF2 [224, 232, 233 ] [] ( i16 1 ⟨[], [], [0], 1⟩ (y3 rfl) (by kernel_rfl) (by kernel_rfl)) (by simp only [go_sem, Bool.not_eq_true', Bool.not_eq_false']; rfl) (fit_of (by simp only [go_sem, Bool.not_eq_true', Bool.not_eq_false']) (by simp only [go_sem, Bool.not_eq_true', Bool.not_eq_false']) (by simp only [go_sem, Bool.not_eq_true', Bool.not_eq_false']) (by simp only [go_sem, Bool.not_eq_true', Bool.not_eq_false']) (by simp only [go_sem, Bool.not_eq_true', Bool.not_eq_false']) (by simp only [go_sem, Bool.not_eq_true', Bool.not_eq_false']) (by simp only [go_sem, Bool.not_eq_true', Bool.not_eq_false'])) ?_; simp only [go_sem, Bool.not_eq_true', Bool.not_eq_false', Int.reduceToNat, Int.reduceLT, Int.reduceLE, Int.reduceEq, Int.reduceAdd, Int.reduceSub, Int.reduceMul, Int.reduceNeg, Int.reduceNe, decide_false, Int.cast_ofNat_Int, kSet, List.getElem?_cons_succ, List.getElem?_cons_zero, List.set_cons_succ, List.set_cons_zero, exists_eq_left', forall_const, true_implies, List.map])
  (refine acallF2 [280, 288, 296 ] [] ( i16 2 ⟨[], [2], [0], -1⟩ (y3 rfl) (by kernel_rfl) (by kernel_rfl)) (by simp only [go_sem, Bool.not_eq_true', Bool.not_eq_false']; rfl) (fit_of (by simp only [go_sem, Bool.not_eq_true', Bool.not_eq_false']) (by simp only [go_sem, Bool.not_eq_true', Bool.not_eq_false']) (by simp only [go_sem, Bool.not_eq_true', Bool.not_eq_false']) (by simp only [go_sem, Bool.not_eq_true', Bool.not_eq_false']) (by simp only [go_sem, Bool.not_eq_true', Bool.not_eq_false']) (by simp only [go_sem, Bool.not_eq_true', Bool.not_eq_false']) (by simp only [go_sem, Bool.not_eq_true', Bool.not_eq_false'])) ?_; simp only [go_sem, Bool.not_eq_true', Bool.not_eq_false', Int.reduceToNat, Int.reduceLT, Int.reduceLE, Int.reduceEq, Int.reduceAdd, Int.reduceSub, Int.reduceMul, Int.reduceNeg, Int.reduceNe, decide_false, Int.cast_ofNat_Int, kSet, List.getElem?_cons_succ, List.getElem?_cons_zero, List.set_cons_succ, List.set_cons_zero, exists_eq_left', forall_const, true_implies, List.map])
  (refine acallF2 [344, 352, 353 ] [] ( i16 3 ⟨[2, 0], [], [], -1⟩ (y3 rfl) (by kernel_rfl) (by kernel_rfl)) (by simp only [go_sem, Bool.not_eq_true', Bool.not_eq_false']; rfl) (fit_of (by simp only [go_sem, Bool.not_eq_true', Bool.not_eq_false']) (by simp only [go_sem, Bool.not_eq_true', Bool.not_eq_false']) (by simp only [go_sem, Bool.not_eq_true', Bool.not_eq_false']) (by simp only [go_sem, Bool.not_eq_true', Bool.not_eq_false']) (by simp only [go_sem, Bool.not_eq_true', Bool.not_eq_false']) (by simp only [go_sem, Bool.not_eq_true', Bool.not_eq_false']) (by simp only [go_sem, Bool.not_eq_true', Bool.not_eq_false'])) ?_; simp only [go_sem, Bool.not_eq_true', Bool.not_eq_false', Int.reduceToNat, Int.reduceLT, Int.reduceLE, Int.reduceEq, Int.reduceAdd, Int.reduceSub, Int.reduceMul, Int.reduceNeg, Int.reduceNe, decide_false, Int.cast_ofNat_Int, kSet, List.getElem?_cons_succ, List.getElem?_cons_zero, List.set_cons_succ, List.set_cons_zero, exists_eq_left', forall_const, true_implies, List.map])
  (refine acallF2 [400, 401, 402 ] [] ( i16 4 ⟨[], [], [], -1⟩ (y3 rfl) (by kernel_rfl) (by kernel_rfl)) (by simp only [go_sem, Bool.not_eq_true', Bool.not_eq_false']; rfl) (fit_of (by simp only [go_sem, Bool.not_eq_true', Bool.not_eq_false']) (by simp only [go_sem, Bool.not_eq_true', Bool.not_eq_false']) (by simp only [go_sem, Bool.not_eq_true', Bool.not_eq_false']) (by simp only [go_sem, Bool.not_eq_true', Bool.not_eq_false']) (by simp only [go_sem, Bool.not_eq_true', Bool.not_eq_false']) (by simp only [go_sem, Bool.not_eq_true', Bool.not_eq_false']) (by simp only [go_sem, Bool.not_eq_true', Bool.not_eq_false'])) ?_; simp only [go_sem, Bool.not_eq_true', Bool.not_eq_false', Int.reduceToNat, Int.reduceLT, Int.reduceLE, Int.reduceEq, Int.reduceAdd, Int.reduceSub, Int.reduceMul, Int.reduceNeg, Int.reduceNe, decide_false, Int.cast_ofNat_Int, kSet, List.getElem?_cons_succ, List.getElem?_cons_zero, List.set_cons_succ, List.set_cons_zero, exists_eq_left', forall_const, true_implies, List.map])
  (refine acall2 [] (c16 [1, 1, 3, 4] 0 (by kernel_rfl) (Nat.le_of_ble_eq_true rfl)) (by simp only [go_sem, Bool.not_eq_true', Bool.not_eq_false']; rfl) (fit_of (by simp only [go_sem, Bool.not_eq_true', Bool.not_eq_false']) (by simp only [go_sem, Bool.not_eq_true', Bool.not_eq_false']) (by simp only [go_sem, Bool.not_eq_true', Bool.not_eq_false']) (by simp only [go_sem, Bool.not_eq_true', Bool.not_eq_false']) (by simp only [go_sem, Bool.not_eq_true', Bool.not_eq_false']) (by simp only [go_sem, Bool.not_eq_true', Bool.not_eq_false']) (by simp only [go_sem, Bool.not_eq_true', Bool.not_eq_false'])) ?_; simp only [go_sem, Bool.not_eq_true', Bool.not_eq_false', Int.reduceToNat, Int.reduceLT, Int.reduceLE, Int.reduceEq, Int.reduceAdd, Int.reduceSub, Int.reduceMul, Int.reduceNeg, Int.reduceNe, decide_false, Int.cast_ofNat_Int, kSet, List.getElem?_cons_succ, List.getElem?_cons_zero, List.set_cons_succ, List.set_cons_zero, exists_eq_left', forall_const, true_implies, List.map])
  (refine acall2 [] (c16 [1, 1, 3] 4 (by kernel_rfl) (Nat.le_of_ble_eq_true rfl)) (by simp only [go_sem, Bool.not_eq_true', Bool.not_eq_false']; rfl) (fit_of (by simp only [go_sem, Bool.not_eq_true', Bool.not_eq_false']) (by simp only [go_sem, Bool.not_eq_true', Bool.not_eq_false']) (by simp only [go_sem, Bool.not_eq_true', Bool.not_eq_false']) (by simp only [go_sem, Bool.not_eq_true', Bool.not_eq_false']) (by simp only [go_sem, Bool.not_eq_true', Bool.not_eq_false']) (by simp only [go_sem, Bool.not_eq_true', Bool.not_eq_false']) (by simp only [go_sem, Bool.not_eq_true', Bool.not_eq_false'])) ?_; simp only [go_sem, Bool.not_eq_true', Bool.not_eq_false', Int.reduceToNat, Int.reduceLT, Int.reduceLE, Int.reduceEq, Int.reduceAdd, Int.reduceSub, Int.reduceMul, Int.reduceNeg, Int.reduceNe, decide_false, Int.cast_ofNat_Int, kSet, List.getElem?_cons_succ, List.getElem?_cons_zero, List.set_cons_succ, List.set_cons_zero, exists_eq_left', forall_const, true_implies, List.map])
end Go.Proofs.Ytbgcmnccjfdooaa
/- CHAPTER 17: forced: what is asked. -/
/- G -/
/- BOOLS -/
set_option linter.unusedSimpArgs false
set_option linter.unusedVariables false
namespace Go.Proofs.Ytbgcmnccjfdooaa
open Go.RowKit

def styN (l : List LNo) (b : Int) : LSty := match l[b.toNat]? with | some x => x.st | none => sty0
theorem styN_get {l : List LNo} {k : Nat} (hk : k < l.length) : styN l k = l[k].st := by unfold styN; rw [Int.toNat_natCast, List.getElem?_eq_getElem hk]
def begA (l : List LNo) (b : Int) : List Int := if 0 < (styN l b).head then [2, (styN l b).before] else [(styN l b).before]
def askL (l : List LNo) (x : LKin) : List Int := x.ends.map (fun b => (styN l b).after) ++ x.begins.flatMap (begA l)
theorem begA_len (l : List LNo) (b : Int) : (begA l b).length ≤ 2 := by unfold begA; split <;> simp
theorem flatA_len (l : List LNo) : ∀ r : List Int, (r.flatMap (begA l)).length ≤ 2 * r.length
  | [] => by simp
  | b :: r => by
    have h1 := begA_len l b
    have h2 := flatA_len l r
    rw [List.flatMap_cons, List.length_append, List.length_cons]
    omega
set_option maxRecDepth 100000 in
theorem asked_ok (l : List LNo) (x : LKin) : FnOk Try.prog 78 [.sl 20 (l.map cNo), sKin x] [] (.clo (.func 102) [.hdr 8, .hdr 9]) [(8, .cells 28 [.sl 1 (x.ends.map cInt), .sl 1 (x.begins.map cInt), .sl 1 (x.both.map cInt), .raw (.int .i64 x.text)]), (9, .cells 22 [.sl 20 (l.map cNo)])] := by
  refine fn_of_awp Try.func78 rfl (by kernel_rfl) (by kernel_rfl) (Nat.le_of_ble_eq_true rfl) Try.results78 ?_
  simp only [go_sem, Bool.not_eq_true', Bool.not_eq_false']
  (refine ret2 [] (by simp only [go_sem, Bool.not_eq_true', Bool.not_eq_false']; rfl) ?_; simp only [go_sem, Bool.not_eq_true', Bool.not_eq_false'])
set_option maxRecDepth 100000 in
set_option maxHeartbeats 8000000 in
theorem appSeqF_ok (l : List LNo) (x : LKin) (hl : l.length ≤ 1000) (h1 : x.ends.length ≤ 1000) (h2 : x.begins.length ≤ 1000) (he : ∀ b ∈ x.ends, hasN l b = true) (hb : ∀ b ∈ x.begins, hasN l b = true) : FnOk Try.prog 101 [.raw (.slice none 0 0), .clo (.func 102) [.hdr 1, .hdr 2]] [(1, .cells 28 [.sl 1 (x.ends.map cInt), .sl 1 (x.begins.map cInt), .sl 1 (x.both.map cInt), .raw (.int .i64 x.text)]), (2, .cells 22 [.sl 20 (l.map cNo)])] (.hdr 8) [(8, .row 3 1 ((askL l x).map cInt))] := by
  refine fn_of_awp Try.func101 rfl (by kernel_rfl) (by kernel_rfl) (Nat.le_of_ble_eq_true rfl) Try.results101 ?_
  simp only [go_sem, Bool.not_eq_true', Bool.not_eq_false']
  (refine arange (by simp only [go_sem, Bool.not_eq_true', Bool.not_eq_false']; rfl) Try.func102 rfl (by kernel_rfl) (by kernel_rfl) (Nat.le_of_ble_eq_true rfl) Try.results102 ?_; intro tm1 lc1 hfit1 hps1 hasg1 hbody1; simp only [List.toList_toArray] at hps1; simp only [go_sem, Bool.not_eq_true', Bool.not_eq_false', List.length_map])
  refine aloop2 [] (fun z : KY (List Int) => ⟨[(0, .hdr 32), (1, .hdr 1), (2, .hdr 2), (10, .sl 1 (x.ends.map cInt)), (11, .raw (.int .i64 x.ends.length)), (12, .raw (.int .i64 z.k))], [(32, some (.loop tm1 lc1 .ready)), (33, some (.frm tm1 [(2, .hdr 8)])), (1, some (.cells 28 [.sl 1 (x.ends.map cInt), .sl 1 (x.begins.map cInt), .sl 1 (x.both.map cInt), .raw (.int .i64 x.text)])), (2, some (.cells 22 [.sl 20 (l.map cNo)])), (8, some (.cells 23 [.hdr 9])), (9, some (.row 3 1 (z.o.map cInt)))], none⟩) (fun z => z.k ≤ x.ends.length ∧ z.o = (x.ends.take z.k).map (fun b => (styN l b).after)) (fun z => x.ends.length - z.k) 100 ⟨0, []⟩ (by simp only [go_sem, Bool.not_eq_true', Bool.not_eq_false']; rfl) (by simp only [go_sem, Bool.not_eq_true', Bool.not_eq_false']) ?_ ?_
  · exact ⟨Nat.zero_le _, by simp⟩
  · rintro ⟨k, o⟩ ⟨k1, k2⟩
    simp only at k1 k2
    have hol : o.length = k := by rw [k2]; simp; omega
    simp only [go_sem, Bool.not_eq_true', Bool.not_eq_false', List.length_map]
    refine ⟨fun h5 => ?_, fun h5 => ?_⟩
    · have hk : k < x.ends.length := by omega
      have hh := hasN_iff.1 (he _ (List.getElem_mem hk))
      have e1 : (x.ends.take (k + 1)).map (fun b => (styN l b).after) = o ++ [(styN l x.ends[k]).after] := by
        rw [List.take_succ_eq_append_getElem hk, List.map_append, ← k2]; rfl
      refine ⟨by omega, ex_get hk ?_⟩
      generalize x.ends[k] = b at hh e1 ⊢
      obtain ⟨n, rfl⟩ : ∃ n : Nat, b = n := ⟨b.toNat, by omega⟩
      have hn : n < l.length := by omega
      rw [styN_get hn] at e1
      refine ⟨by omega, ?_⟩
      simp only [Int.toNat_natCast]
      refine ex_get hn ?_
      (refine ayield rfl ?_; simp only [go_sem, Bool.not_eq_true', Bool.not_eq_false', hfit1, hps1, hasg1, hbody1]; intro tmI1)
      refine ⟨⟨by omega, by omega⟩, by omega, ?_⟩
      (refine loop_end [] (⟨k + 1, o ++ [l[n].st.after]⟩) (by simp only [go_sem, Bool.not_eq_true', Bool.not_eq_false']; rfl) ?_ ?_ ?_; (focus first | omega | (simp only; omega)); (focus (simp only [go_sem, Bool.not_eq_true', Bool.not_eq_false', List.map_append]; done)))
      exact ⟨hk, e1.symm⟩
    · rw [List.take_of_length_le (by omega)] at k2
      have hok : o.length ≤ 1000 := by omega
      clear hol k1 h5
      refine aloop2 [] (fun z : KY (List Int) => ⟨[(0, .hdr 32), (1, .hdr 1), (2, .hdr 2), (27, .sl 1 (x.begins.map cInt)), (28, .raw (.int .i64 x.begins.length)), (29, .raw (.int .i64 z.k))], [(32, some (.loop tm1 lc1 .ready)), (33, some (.frm tm1 [(2, .hdr 8)])), (1, some (.cells 28 [.sl 1 (x.ends.map cInt), .sl 1 (x.begins.map cInt), .sl 1 (x.both.map cInt), .raw (.int .i64 x.text)])), (2, some (.cells 22 [.sl 20 (l.map cNo)])), (8, some (.cells 23 [.hdr 9])), (9, some (.row 3 1 (z.o.map cInt)))], none⟩) (fun z => z.k ≤ x.begins.length ∧ z.o = o ++ (x.begins.take z.k).flatMap (begA l)) (fun z => x.begins.length - z.k) 300 ⟨0, o⟩ (by simp only [go_sem, Bool.not_eq_true', Bool.not_eq_false']; rfl) (by simp only [go_sem, Bool.not_eq_true', Bool.not_eq_false']) ?_ ?_
      · exact ⟨Nat.zero_le _, by simp⟩
      · rintro ⟨j, p⟩ ⟨j1, j2⟩
        simp only at j1 j2
        have hpl : p.length ≤ 3000 := by
          rw [j2, List.length_append]
          have := flatA_len l (x.begins.take j)
          rw [List.length_take] at this
          omega
        simp only [go_sem, Bool.not_eq_true', Bool.not_eq_false', List.length_map]
        refine ⟨fun h5 => ?_, fun h5 => ?_⟩
        · have hj : j < x.begins.length := by omega
          have hh := hasN_iff.1 (hb _ (List.getElem_mem hj))
          have e1 : (x.begins.take (j + 1)).flatMap (begA l) = (x.begins.take j).flatMap (begA l) ++ begA l x.begins[j] := by
            rw [List.take_succ_eq_append_getElem hj, List.flatMap_append]; simp
          refine ⟨by omega, ex_get hj ?_⟩
          generalize x.begins[j] = b at hh e1 ⊢
          obtain ⟨n, rfl⟩ : ∃ n : Nat, b = n := ⟨b.toNat, by omega⟩
          have hn : n < l.length := by omega
          rw [begA, styN_get hn] at e1
          refine ⟨by omega, ?_⟩
          simp only [Int.toNat_natCast]
          refine ex_get hn ?_
          refine ⟨fun h6 => ?_, fun h6 => ?_⟩
          · rw [if_pos h6] at e1
            (refine ayield rfl ?_; simp only [go_sem, Bool.not_eq_true', Bool.not_eq_false', hfit1, hps1, hasg1, hbody1]; intro tmI1)
            refine ⟨by omega, ?_⟩
            (refine ayield rfl ?_; simp only [go_sem, Bool.not_eq_true', Bool.not_eq_false', hfit1, hps1, hasg1, hbody1]; intro tmI1)
            refine ⟨by simp only [List.length_append, List.length_cons, List.length_nil, List.length_map]; omega, by omega, ?_⟩
            (refine loop_end [] (⟨j + 1, p ++ [2, l[n].st.before]⟩) (by simp only [go_sem, Bool.not_eq_true', Bool.not_eq_false']; rfl) ?_ ?_ ?_; (focus first | omega | (simp only; omega)); (focus (simp only [go_sem, Bool.not_eq_true', Bool.not_eq_false', List.map_append, List.append_assoc]; done)))
            exact ⟨hj, by rw [e1, j2, List.append_assoc]⟩
          · rw [if_neg h6] at e1
            (refine ayield rfl ?_; simp only [go_sem, Bool.not_eq_true', Bool.not_eq_false', hfit1, hps1, hasg1, hbody1]; intro tmI1)
            refine ⟨⟨by omega, by omega⟩, by omega, ?_⟩
            (refine loop_end [] (⟨j + 1, p ++ [l[n].st.before]⟩) (by simp only [go_sem, Bool.not_eq_true', Bool.not_eq_false']; rfl) ?_ ?_ ?_; (focus first | omega | (simp only; omega)); (focus (simp only [go_sem, Bool.not_eq_true', Bool.not_eq_false', List.map_append]; done)))
            exact ⟨hj, by rw [e1, j2, List.append_assoc]⟩
        · rw [List.take_of_length_le (by omega)] at j2
          have e2 : p = askL l x := by rw [j2, k2]; rfl
          rw [e2]
          (refine ret2 [] (by simp only [go_sem, Bool.not_eq_true', Bool.not_eq_false']; rfl) ?_; simp only [go_sem, Bool.not_eq_true', Bool.not_eq_false'])
end Go.Proofs.Ytbgcmnccjfdooaa
/- CHAPTER 17: forced: Asked, forced. -/
/- G -/
/- BOOLS -/
set_option linter.unusedSimpArgs false
set_option linter.unusedVariables false
namespace Go.Proofs.Ytbgcmnccjfdooaa
open Go.RowKit

set_option maxRecDepth 100000 in
theorem collectF_ok (l : List LNo) (x : LKin) (hl : l.length ≤ 1000) (h1 : x.ends.length ≤ 1000) (h2 : x.begins.length ≤ 1000) (he : ∀ b ∈ x.ends, hasN l b = true) (hb : ∀ b ∈ x.begins, hasN l b = true) : FnOk Try.prog 77 [.clo (.func 102) [.hdr 1, .hdr 2]] [(1, .cells 28 [.sl 1 (x.ends.map cInt), .sl 1 (x.begins.map cInt), .sl 1 (x.both.map cInt), .raw (.int .i64 x.text)]), (2, .cells 22 [.sl 20 (l.map cNo)])] (.hdr 8) [(8, .row 3 1 ((askL l x).map cInt))] := by
  refine fn_of_awp Try.func77 rfl (by kernel_rfl) (by kernel_rfl) (Nat.le_of_ble_eq_true rfl) Try.results77 ?_
  simp only [go_sem, Bool.not_eq_true', Bool.not_eq_false']
  (refine acall2 [] (appSeqF_ok l x hl h1 h2 he hb) (by simp only [go_sem, Bool.not_eq_true', Bool.not_eq_false']; rfl) (fit_of (by simp only [go_sem, Bool.not_eq_true', Bool.not_eq_false']) (by simp only [go_sem, Bool.not_eq_true', Bool.not_eq_false']) (by simp only [go_sem, Bool.not_eq_true', Bool.not_eq_false']) (by simp only [go_sem, Bool.not_eq_true', Bool.not_eq_false']) (by simp only [go_sem, Bool.not_eq_true', Bool.not_eq_false']) (by simp only [go_sem, Bool.not_eq_true', Bool.not_eq_false']) (by simp only [go_sem, Bool.not_eq_true', Bool.not_eq_false'])) ?_; simp only [go_sem, Bool.not_eq_true', Bool.not_eq_false'])
  (refine ret2 [] (by simp only [go_sem, Bool.not_eq_true', Bool.not_eq_false']; rfl) ?_; simp only [go_sem, Bool.not_eq_true', Bool.not_eq_false'])
theorem choS_has {l : List LNo} (hv : isS l = true) {of : List Int} {a : Int} {q : Int → Bool} {b : Int} (h : b ∈ choS l of a q) : hasN l b = true := by
  unfold choS at h
  split at h
  · exact abv_has hv (List.mem_filter.1 h).1
  · cases h
theorem kinA_has (l : List LNo) (of : List Int) (k : Int) : (∀ b ∈ (kinA l of k).ends, hasN l b = true) ∧ (∀ b ∈ (kinA l of k).begins, hasN l b = true) := by
  unfold kinA
  split
  · next h =>
    rw [kinG, Bool.and_eq_true] at h
    have hv := (chk_has h.1).1
    exact ⟨fun b hb => choS_has hv hb, fun b hb => choS_has hv (List.mem_reverse.1 hb)⟩
  · exact ⟨fun b hb => (List.not_mem_nil hb).elim, fun b hb => (List.not_mem_nil hb).elim⟩
/-- what is asked at a place. -/
def askA (l : List LNo) (of : List Int) (k : Int) : List Int := if kinG l of k = true ∧ k ≠ of.length then askL l (kinA l of k) else []
theorem askL_len (l : List LNo) (x : LKin) : (askL l x).length ≤ x.ends.length + 2 * x.begins.length := by
  have := flatA_len l x.begins
  simp only [askL, List.length_append, List.length_map]
  omega
theorem askA_len (l : List LNo) (of : List Int) (k : Int) : (askA l of k).length ≤ 3 * l.length := by
  have h := kinA_len l of k
  have h2 := askL_len l (kinA l of k)
  unfold askA
  split
  · omega
  · simp
set_option maxRecDepth 100000 in
set_option maxHeartbeats 4000000 in
theorem askA_ok (l : List LNo) (of : List Int) (k : Int) (hl : l.length ≤ 1000) (ho : of.length ≤ 1000) (hw : ∀ x ∈ l, x.words.length ≤ 9223372036854775807) : FnOk Try.prog 33 [.sl 20 (l.map cNo), .sl 1 (of.map cInt), .raw (.int .i64 k)] [] (.tup [.hdr 8, .raw (.int .i64 (errB (kinG l of k)))]) [(8, .row 3 1 ((askA l of k).map cInt))] := by
  have hh := kinA_has l of k
  have hn := kinA_len l of k
  refine fn_of_swp Try.func33 rfl (by kernel_rfl) (by kernel_rfl) (Nat.le_of_ble_eq_true rfl) Try.results33 ?_
  (refine swp_seqW ?_; simp only [go_sem, Bool.not_eq_true', Bool.not_eq_false'])
  (refine swp_seqW ?_; simp only [go_sem, Bool.not_eq_true', Bool.not_eq_false'])
  (refine acall2 [] (kinAt_ok l of k hl ho hw) (by simp only [go_sem, Bool.not_eq_true', Bool.not_eq_false']; rfl) (fit_of (by simp only [go_sem, Bool.not_eq_true', Bool.not_eq_false']) (by simp only [go_sem, Bool.not_eq_true', Bool.not_eq_false']) (by simp only [go_sem, Bool.not_eq_true', Bool.not_eq_false']) (by simp only [go_sem, Bool.not_eq_true', Bool.not_eq_false']) (by simp only [go_sem, Bool.not_eq_true', Bool.not_eq_false']) (by simp only [go_sem, Bool.not_eq_true', Bool.not_eq_false']) (by simp only [go_sem, Bool.not_eq_true', Bool.not_eq_false'])) ?_; simp only [go_sem, Bool.not_eq_true', Bool.not_eq_false'])
  have ea : askA l of k = if kinG l of k = true ∧ k ≠ of.length then askL l (kinA l of k) else [] := rfl
  cases hg : kinG l of k with
  | false =>
    rw [hg] at ea
    rw [if_neg (by simp)] at ea
    have e4 : errB false = 4 := rfl
    rw [e4, ea]
    (refine swp_lastW ?_; simp only [go_sem, Bool.not_eq_true', Bool.not_eq_false', List.length_map])
    refine ⟨fun q => by omega, fun _ => ?_⟩
    (refine ret2 [] (by simp only [go_sem, Bool.not_eq_true', Bool.not_eq_false']; rfl) ?_; simp only [go_sem, Bool.not_eq_true', Bool.not_eq_false'])
  | true =>
    rw [hg] at ea
    have e4 : errB true = 0 := rfl
    rw [e4]
    (refine swp_seqW ?_; simp only [go_sem, Bool.not_eq_true', Bool.not_eq_false', List.length_map])
    refine ⟨fun h => ?_, fun h => ?_⟩
    · rw [if_neg (by omega)] at ea
      rw [ea]
      (refine ret2 [] (by simp only [go_sem, Bool.not_eq_true', Bool.not_eq_false']; rfl) ?_; simp only [go_sem, Bool.not_eq_true', Bool.not_eq_false'])
    · rw [if_pos ⟨rfl, by omega⟩] at ea
      rw [ea]
      (refine swp_lastW ?_; simp only [go_sem, Bool.not_eq_true', Bool.not_eq_false'])
      (refine acallF2 [48, 49, 50 ] [] ( asked_ok l (kinA l of k)) (by simp only [go_sem, Bool.not_eq_true', Bool.not_eq_false']; rfl) (fit_of (by simp only [go_sem, Bool.not_eq_true', Bool.not_eq_false']) (by simp only [go_sem, Bool.not_eq_true', Bool.not_eq_false']) (by simp only [go_sem, Bool.not_eq_true', Bool.not_eq_false']) (by simp only [go_sem, Bool.not_eq_true', Bool.not_eq_false']) (by simp only [go_sem, Bool.not_eq_true', Bool.not_eq_false']) (by simp only [go_sem, Bool.not_eq_true', Bool.not_eq_false']) (by simp only [go_sem, Bool.not_eq_true', Bool.not_eq_false'])) ?_; simp only [go_sem, Bool.not_eq_true', Bool.not_eq_false'])
      (refine acall2 [] (collectF_ok l (kinA l of k) hl (by omega) (by omega) hh.1 hh.2) (by simp only [go_sem, Bool.not_eq_true', Bool.not_eq_false']; rfl) (fit_of (by simp only [go_sem, Bool.not_eq_true', Bool.not_eq_false']) (by simp only [go_sem, Bool.not_eq_true', Bool.not_eq_false']) (by simp only [go_sem, Bool.not_eq_true', Bool.not_eq_false']) (by simp only [go_sem, Bool.not_eq_true', Bool.not_eq_false']) (by simp only [go_sem, Bool.not_eq_true', Bool.not_eq_false']) (by simp only [go_sem, Bool.not_eq_true', Bool.not_eq_false']) (by simp only [go_sem, Bool.not_eq_true', Bool.not_eq_false'])) ?_; simp only [go_sem, Bool.not_eq_true', Bool.not_eq_false'])
      (refine ret2 [] (by simp only [go_sem, Bool.not_eq_true', Bool.not_eq_false']; rfl) ?_; simp only [go_sem, Bool.not_eq_true', Bool.not_eq_false'])
/-- the break of what has been so far, and of one more. -/
def frcT (o n : Int) : Int := if n = 3 ∨ n = 4 then n else if n = 2 ∧ o = 0 then 2 else o
def frcS (all : List Int) : Int := all.foldl frcT 0
set_option maxRecDepth 100000 in
theorem take_ok (o n : Int) (v : Bool) : FnOk Try.prog 100 [.raw (.int .i64 n), .raw (.bool v), .hdr 0] [(0, .cells 3 [.raw (.int .i64 o)])] (.tup []) [(0, .cells 3 [.raw (.int .i64 (if v = true ∨ o = 0 then n else o))])] := by
  refine fn_of_awp Try.func100 rfl (by kernel_rfl) (by kernel_rfl) (Nat.le_of_ble_eq_true rfl) Try.results100 ?_
  simp only [go_sem, Bool.not_eq_true', Bool.not_eq_false']
  refine ⟨fun h => ⟨fun h2 => ?_, fun h2 => ?_⟩, fun h => ?_⟩
  · rw [if_pos (.inr h2)]
    (refine ret2 [] (by simp only [go_sem, Bool.not_eq_true', Bool.not_eq_false']; rfl) ?_; simp only [go_sem, Bool.not_eq_true', Bool.not_eq_false'])
  · rw [if_neg (by simp [h, h2])]
    (refine ret2 [] (by simp only [go_sem, Bool.not_eq_true', Bool.not_eq_false']; rfl) ?_; simp only [go_sem, Bool.not_eq_true', Bool.not_eq_false'])
  · rw [if_pos (.inl h)]
    (refine ret2 [] (by simp only [go_sem, Bool.not_eq_true', Bool.not_eq_false']; rfl) ?_; simp only [go_sem, Bool.not_eq_true', Bool.not_eq_false'])
theorem frc_step (o n : Int) : frcT o n = if n = 3 then n else if n = 4 then n else if n = 2 then (if o = 0 then 2 else o) else o := by
  unfold frcT
  split <;> split <;> (try split) <;> (try split) <;> (try split) <;> omega
set_option maxRecDepth 100000 in
set_option maxHeartbeats 4000000 in
theorem frcS_ok (all : List Int) (hl : all.length ≤ 100000) : FnOk Try.prog 76 [.sl 1 (all.map cInt)] [] (.raw (.int .i64 (frcS all))) [] := by
  refine fn_of_awp Try.func76 rfl (by kernel_rfl) (by kernel_rfl) (Nat.le_of_ble_eq_true rfl) Try.results76 ?_
  simp only [go_sem, Bool.not_eq_true', Bool.not_eq_false', List.length_map]
  refine aloop2 [] (fun z : KY Int => ⟨[(9, .sl 1 (all.map cInt)), (10, .raw (.int .i64 all.length)), (11, .raw (.int .i64 z.k)), (3, .hdr 16), (4, .clo (.func 100) [.hdr 16])], [(16, some (.cells 3 [.raw (.int .i64 z.o)]))], none⟩) (fun z => z.k ≤ all.length ∧ z.o = frcS (all.take z.k)) (fun z => all.length - z.k) 40 ⟨0, 0⟩ (by simp only [go_sem, Bool.not_eq_true', Bool.not_eq_false']; rfl) (by simp only [go_sem, Bool.not_eq_true', Bool.not_eq_false']) ?_ ?_
  · exact ⟨Nat.zero_le _, rfl⟩
  · rintro ⟨k, o⟩ ⟨k1, k2⟩
    simp only at k1 k2
    simp only [go_sem, Bool.not_eq_true', Bool.not_eq_false', List.length_map]
    refine ⟨fun h5 => ?_, fun h5 => ?_⟩
    · have hk : k < all.length := by omega
      have e1 : frcS (all.take (k + 1)) = frcT o all[k] := by
        rw [List.take_succ_eq_append_getElem hk, frcS, List.foldl_append, k2]; rfl
      refine ⟨by omega, ex_get hk ?_⟩
      generalize all[k] = n at e1 ⊢
      rw [frc_step] at e1
      repeat' first | contradiction | intro _ | refine And.intro ?_ ?_ | refine ex_get (by omega) ?_ | (show drawB _ _ = true; kernel_rfl) | (refine ret2 [] (by simp only [go_sem, Bool.not_eq_true', Bool.not_eq_false']; rfl) ?_; simp only [go_sem, Bool.not_eq_true', Bool.not_eq_false'])
      all_goals first
        | omega
        | skip
      · (refine acall2 [] (take_ok o n true) (by simp only [go_sem, Bool.not_eq_true', Bool.not_eq_false']; rfl) (fit_of (by simp only [go_sem, Bool.not_eq_true', Bool.not_eq_false']) (by simp only [go_sem, Bool.not_eq_true', Bool.not_eq_false']) (by simp only [go_sem, Bool.not_eq_true', Bool.not_eq_false']) (by simp only [go_sem, Bool.not_eq_true', Bool.not_eq_false']) (by simp only [go_sem, Bool.not_eq_true', Bool.not_eq_false']) (by simp only [go_sem, Bool.not_eq_true', Bool.not_eq_false']) (by simp only [go_sem, Bool.not_eq_true', Bool.not_eq_false'])) ?_; simp only [go_sem, Bool.not_eq_true', Bool.not_eq_false'])
        refine ⟨by omega, ?_⟩
        (refine loop_end [] (⟨k + 1, if true = true ∨ o = 0 then n else o⟩) (by simp only [go_sem, Bool.not_eq_true', Bool.not_eq_false']; rfl) ?_ ?_ ?_; (focus first | omega | (simp only; omega)); (focus (simp only [go_sem, Bool.not_eq_true', Bool.not_eq_false']; done)))
        exact ⟨hk, by rw [e1]; simp [*]⟩
      · (refine acall2 [] (take_ok o n true) (by simp only [go_sem, Bool.not_eq_true', Bool.not_eq_false']; rfl) (fit_of (by simp only [go_sem, Bool.not_eq_true', Bool.not_eq_false']) (by simp only [go_sem, Bool.not_eq_true', Bool.not_eq_false']) (by simp only [go_sem, Bool.not_eq_true', Bool.not_eq_false']) (by simp only [go_sem, Bool.not_eq_true', Bool.not_eq_false']) (by simp only [go_sem, Bool.not_eq_true', Bool.not_eq_false']) (by simp only [go_sem, Bool.not_eq_true', Bool.not_eq_false']) (by simp only [go_sem, Bool.not_eq_true', Bool.not_eq_false'])) ?_; simp only [go_sem, Bool.not_eq_true', Bool.not_eq_false'])
        refine ⟨by omega, ?_⟩
        (refine loop_end [] (⟨k + 1, if true = true ∨ o = 0 then n else o⟩) (by simp only [go_sem, Bool.not_eq_true', Bool.not_eq_false']; rfl) ?_ ?_ ?_; (focus first | omega | (simp only; omega)); (focus (simp only [go_sem, Bool.not_eq_true', Bool.not_eq_false']; done)))
        exact ⟨hk, by rw [e1]; simp [*]⟩
      · (refine acall2 [] (take_ok o n false) (by simp only [go_sem, Bool.not_eq_true', Bool.not_eq_false']; rfl) (fit_of (by simp only [go_sem, Bool.not_eq_true', Bool.not_eq_false']) (by simp only [go_sem, Bool.not_eq_true', Bool.not_eq_false']) (by simp only [go_sem, Bool.not_eq_true', Bool.not_eq_false']) (by simp only [go_sem, Bool.not_eq_true', Bool.not_eq_false']) (by simp only [go_sem, Bool.not_eq_true', Bool.not_eq_false']) (by simp only [go_sem, Bool.not_eq_true', Bool.not_eq_false']) (by simp only [go_sem, Bool.not_eq_true', Bool.not_eq_false'])) ?_; simp only [go_sem, Bool.not_eq_true', Bool.not_eq_false'])
        refine ⟨by omega, ?_⟩
        (refine loop_end [] (⟨k + 1, if false = true ∨ o = 0 then n else o⟩) (by simp only [go_sem, Bool.not_eq_true', Bool.not_eq_false']; rfl) ?_ ?_ ?_; (focus first | omega | (simp only; omega)); (focus (simp only [go_sem, Bool.not_eq_true', Bool.not_eq_false']; done)))
        exact ⟨hk, by rw [e1]; simp [*]⟩
      · (refine loop_end [] (⟨k + 1, o⟩) (by simp only [go_sem, Bool.not_eq_true', Bool.not_eq_false']; rfl) ?_ ?_ ?_; (focus first | omega | (simp only; omega)); (focus (simp only [go_sem, Bool.not_eq_true', Bool.not_eq_false']; done)))
        exact ⟨hk, by rw [e1]; simp [*]⟩
    · rw [List.take_of_length_le (by omega)] at k2
      rw [← k2]
/-- the break at a place. -/
def forA (l : List LNo) (of : List Int) (k : Int) : Int := frcS (askA l of k)
set_option maxRecDepth 100000 in
set_option maxHeartbeats 4000000 in
theorem forA_ok (l : List LNo) (of : List Int) (k : Int) (hl : l.length ≤ 1000) (ho : of.length ≤ 1000) (hw : ∀ x ∈ l, x.words.length ≤ 9223372036854775807) : FnOk Try.prog 32 [.sl 20 (l.map cNo), .sl 1 (of.map cInt), .raw (.int .i64 k)] [] (.tup [.raw (.int .i64 (forA l of k)), .raw (.int .i64 (errB (kinG l of k)))]) [] := by
  have hn := askA_len l of k
  refine fn_of_awp Try.func32 rfl (by kernel_rfl) (by kernel_rfl) (Nat.le_of_ble_eq_true rfl) Try.results32 ?_
  simp only [go_sem, Bool.not_eq_true', Bool.not_eq_false']
  (refine acall2 [] (askA_ok l of k hl ho hw) (by simp only [go_sem, Bool.not_eq_true', Bool.not_eq_false']; rfl) (fit_of (by simp only [go_sem, Bool.not_eq_true', Bool.not_eq_false']) (by simp only [go_sem, Bool.not_eq_true', Bool.not_eq_false']) (by simp only [go_sem, Bool.not_eq_true', Bool.not_eq_false']) (by simp only [go_sem, Bool.not_eq_true', Bool.not_eq_false']) (by simp only [go_sem, Bool.not_eq_true', Bool.not_eq_false']) (by simp only [go_sem, Bool.not_eq_true', Bool.not_eq_false']) (by simp only [go_sem, Bool.not_eq_true', Bool.not_eq_false'])) ?_; simp only [go_sem, Bool.not_eq_true', Bool.not_eq_false'])
  (refine acallF2 [48 ] [] ( frcS_ok (askA l of k) (by omega)) (by simp only [go_sem, Bool.not_eq_true', Bool.not_eq_false']; rfl) (fit_of (by simp only [go_sem, Bool.not_eq_true', Bool.not_eq_false']) (by simp only [go_sem, Bool.not_eq_true', Bool.not_eq_false']) (by simp only [go_sem, Bool.not_eq_true', Bool.not_eq_false']) (by simp only [go_sem, Bool.not_eq_true', Bool.not_eq_false']) (by simp only [go_sem, Bool.not_eq_true', Bool.not_eq_false']) (by simp only [go_sem, Bool.not_eq_true', Bool.not_eq_false']) (by simp only [go_sem, Bool.not_eq_true', Bool.not_eq_false'])) ?_; simp only [go_sem, Bool.not_eq_true', Bool.not_eq_false'])
  rfl
/-- the breaks at all places. -/
def allF (l : List LNo) (of : List Int) : List Int := if chkB l of = true then (List.range (of.length + 1)).map (fun k : Nat => forA l of k) else []
set_option maxRecDepth 100000 in
set_option maxHeartbeats 4000000 in
theorem allF_ok (l : List LNo) (of : List Int) (hl : l.length ≤ 1000) (ho : of.length ≤ 1000) (hw : ∀ x ∈ l, x.words.length ≤ 9223372036854775807) : FnOk Try.prog 34 [.sl 20 (l.map cNo), .sl 1 (of.map cInt)] [] (.tup [.hdr 8, .raw (.int .i64 (errB (chkB l of)))]) [(8, .row 3 1 ((allF l of).map cInt))] := by
  refine fn_of_awp Try.func34 rfl (by kernel_rfl) (by kernel_rfl) (Nat.le_of_ble_eq_true rfl) Try.results34 ?_
  simp only [go_sem, Bool.not_eq_true', Bool.not_eq_false']
  (refine acall2 [] (check16_ok l of hl ho hw) (by simp only [go_sem, Bool.not_eq_true', Bool.not_eq_false']; rfl) (fit_of (by simp only [go_sem, Bool.not_eq_true', Bool.not_eq_false']) (by simp only [go_sem, Bool.not_eq_true', Bool.not_eq_false']) (by simp only [go_sem, Bool.not_eq_true', Bool.not_eq_false']) (by simp only [go_sem, Bool.not_eq_true', Bool.not_eq_false']) (by simp only [go_sem, Bool.not_eq_true', Bool.not_eq_false']) (by simp only [go_sem, Bool.not_eq_true', Bool.not_eq_false']) (by simp only [go_sem, Bool.not_eq_true', Bool.not_eq_false'])) ?_; simp only [go_sem, Bool.not_eq_true', Bool.not_eq_false'])
  have ea : allF l of = if chkB l of = true then (List.range (of.length + 1)).map (fun k : Nat => forA l of k) else [] := rfl
  cases hc : chkB l of with
  | false =>
    rw [hc, if_neg (by simp)] at ea
    have e4 : errB false = 4 := rfl
    rw [e4, ea]
    refine ⟨fun _ => ?_, fun q => by omega⟩
    (refine ret2 [] (by simp only [go_sem, Bool.not_eq_true', Bool.not_eq_false']; rfl) ?_; simp only [go_sem, Bool.not_eq_true', Bool.not_eq_false'])
  | true =>
    rw [hc, if_pos rfl] at ea
    have e4 : errB true = 0 := rfl
    rw [e4, ea]
    refine ⟨fun q => absurd rfl q, fun _ => ?_⟩
    simp only [go_sem, Bool.not_eq_true', Bool.not_eq_false', List.length_map]
    refine ⟨by omega, ?_⟩
    refine aloop2 [] (fun z : KY (List Int) => ⟨[(0, .sl 20 (l.map cNo)), (1, .sl 1 (of.map cInt)), (7, .hdr 72), (19, .raw (.int .i64 (of.length + 1))), (20, .raw (.int .i64 z.k))], [(72, some (.row 3 1 (z.o.map cInt)))], none⟩) (fun z => z.k ≤ of.length + 1 ∧ z.o = (List.range z.k).map (fun k : Nat => forA l of k)) (fun z => of.length + 1 - z.k) 40 ⟨0, []⟩ (by simp only [go_sem, Bool.not_eq_true', Bool.not_eq_false']; rfl) (by simp only [go_sem, Bool.not_eq_true', Bool.not_eq_false']) ?_ ?_
    · exact ⟨Nat.zero_le _, rfl⟩
    · rintro ⟨k, o⟩ ⟨k1, k2⟩
      simp only at k1 k2
      have hol : o.length = k := by rw [k2]; simp
      simp only [go_sem, Bool.not_eq_true', Bool.not_eq_false', List.length_map]
      refine ⟨fun h5 => ?_, fun h5 => ?_⟩
      · (refine acall2 [] (forA_ok l of k hl ho hw) (by simp only [go_sem, Bool.not_eq_true', Bool.not_eq_false']; rfl) (fit_of (by simp only [go_sem, Bool.not_eq_true', Bool.not_eq_false']) (by simp only [go_sem, Bool.not_eq_true', Bool.not_eq_false']) (by simp only [go_sem, Bool.not_eq_true', Bool.not_eq_false']) (by simp only [go_sem, Bool.not_eq_true', Bool.not_eq_false']) (by simp only [go_sem, Bool.not_eq_true', Bool.not_eq_false']) (by simp only [go_sem, Bool.not_eq_true', Bool.not_eq_false']) (by simp only [go_sem, Bool.not_eq_true', Bool.not_eq_false'])) ?_; simp only [go_sem, Bool.not_eq_true', Bool.not_eq_false'])
        repeat' first | contradiction | intro _ | refine And.intro ?_ ?_ | refine ex_get (by omega) ?_ | (show drawB _ _ = true; kernel_rfl) | (refine ret2 [] (by simp only [go_sem, Bool.not_eq_true', Bool.not_eq_false']; rfl) ?_; simp only [go_sem, Bool.not_eq_true', Bool.not_eq_false'])
        all_goals first
          | omega
          | skip
        (refine loop_end [] (⟨k + 1, o ++ [forA l of k]⟩) (by simp only [go_sem, Bool.not_eq_true', Bool.not_eq_false']; rfl) ?_ ?_ ?_; (focus first | omega | (simp only; omega)); (focus (simp only [go_sem, Bool.not_eq_true', Bool.not_eq_false', List.map_append]; done)))
        simp only
        exact ⟨by omega, by rw [k2, List.range_succ, List.map_append]; rfl⟩
      · have e5 : k = of.length + 1 := by omega
        rw [e5, List.range_succ] at k2
        rw [← k2]
        (refine ret2 [] (by simp only [go_sem, Bool.not_eq_true', Bool.not_eq_false']; rfl) ?_; simp only [go_sem, Bool.not_eq_true', Bool.not_eq_false'])
end Go.Proofs.Ytbgcmnccjfdooaa
/- CHAPTER 17: the chapter's examples. -/
/- G -/
/- BOOLS -/
set_option linter.unusedSimpArgs false
set_option linter.unusedVariables false
namespace Go.Proofs.Ytbgcmnccjfdooaa
open Go.RowKit

def scr17 : ByteArray := { data := #[91, 65, 50, 32, 123, 49, 32, 49, 125, 93, 32, 91, 66, 49, 32, 91, 66, 51, 32, 123, 50, 32, 50, 125, 93, 93, 32, 91, 104, 53, 32, 123, 51, 32, 51, 125, 93] }
def nds17 : List LNo := [⟨1, 2, ⟨0, 0, 0, 0, 0, 2, 2, 0, 0, 2, 0, 0⟩, 0, 0, [], 0, 0, 0⟩, ⟨3, 1, sty0, 0, 0, [], 0, 1, 1⟩, ⟨1, 3, ⟨0, 0, 0, 0, 0, 2, 2, 0, 1, 0, 0, 0⟩, 0, 0, [], 0, 0, 0⟩, ⟨1, 2, ⟨0, 0, 0, 0, 0, 2, 2, 0, 3, 0, 0, 0⟩, 0, 0, [], 0, 0, 0⟩, ⟨3, 1, sty0, 0, 0, [], 0, 2, 2⟩, ⟨1, 2, ⟨0, 0, 0, 0, 0, 2, 2, 5, 0, 0, 0, 0⟩, 0, 0, [], 0, 0, 0⟩, ⟨3, 1, sty0, 0, 0, [], 0, 3, 3⟩]
theorem rd17 : rdS scr17 = some nds17 := by kernel_rfl
theorem of17 : FnOk Try.prog 57 [.raw (.string { data := #[91, 65, 50, 32, 123, 49, 32, 49, 125, 93, 32, 91, 66, 49, 32, 91, 66, 51, 32, 123, 50, 32, 50, 125, 93, 93, 32, 91, 104, 53, 32, 123, 51, 32, 51, 125, 93] })] [] (.tup [.sl 20 (nds17.map cNo), .raw (.int .i64 0), .raw (.int .i64 0)]) [] := rdS_ok scr17 nds17 rd17
theorem w17 : ∀ x ∈ nds17, x.words.length ≤ 9223372036854775807 := hw_of (by kernel_rfl)
set_option maxRecDepth 100000 in
set_option maxHeartbeats 4000000 in
theorem is17_ok (l : List LNo) (of : List Int) (k w : Int) (y : List Int) (hl : l.length ≤ 300) (ho : of.length ≤ 1000) (hw : ∀ x ∈ l, x.words.length ≤ 9223372036854775807) (h1 : kinG l of k = true) (h2 : forA l of k = w) (h3 : askA l of k = y) : FnOk Try.prog 75 [.sl 20 (l.map cNo), .sl 1 (of.map cInt), .raw (.int .i64 k), .raw (.int .i64 w), .sl 1 (y.map cInt)] [] (.raw (.bool true)) [] := by
  have hn := askA_len l of k
  have e3 : errB true = 0 := rfl
  refine fn_of_awp Try.func75 rfl (by kernel_rfl) (by kernel_rfl) (Nat.le_of_ble_eq_true rfl) Try.results75 ?_
  simp only [go_sem, Bool.not_eq_true', Bool.not_eq_false']
  (refine acall2 [] (askA_ok l of k (by omega) ho hw) (by simp only [go_sem, Bool.not_eq_true', Bool.not_eq_false']; rfl) (fit_of (by simp only [go_sem, Bool.not_eq_true', Bool.not_eq_false']) (by simp only [go_sem, Bool.not_eq_true', Bool.not_eq_false']) (by simp only [go_sem, Bool.not_eq_true', Bool.not_eq_false']) (by simp only [go_sem, Bool.not_eq_true', Bool.not_eq_false']) (by simp only [go_sem, Bool.not_eq_true', Bool.not_eq_false']) (by simp only [go_sem, Bool.not_eq_true', Bool.not_eq_false']) (by simp only [go_sem, Bool.not_eq_true', Bool.not_eq_false'])) ?_; simp only [go_sem, Bool.not_eq_true', Bool.not_eq_false'])
  (refine acall2 [] (forA_ok l of k (by omega) ho hw) (by simp only [go_sem, Bool.not_eq_true', Bool.not_eq_false']; rfl) (fit_of (by simp only [go_sem, Bool.not_eq_true', Bool.not_eq_false']) (by simp only [go_sem, Bool.not_eq_true', Bool.not_eq_false']) (by simp only [go_sem, Bool.not_eq_true', Bool.not_eq_false']) (by simp only [go_sem, Bool.not_eq_true', Bool.not_eq_false']) (by simp only [go_sem, Bool.not_eq_true', Bool.not_eq_false']) (by simp only [go_sem, Bool.not_eq_true', Bool.not_eq_false']) (by simp only [go_sem, Bool.not_eq_true', Bool.not_eq_false'])) ?_; simp only [go_sem, Bool.not_eq_true', Bool.not_eq_false'])
  rw [h1, h2, h3, e3]
  rw [h3] at hn
  simp only [go_sem, Bool.not_eq_true', Bool.not_eq_false']
  (refine acallF2 [40 ] [] ( ints8_ok y y (by omega) (by omega)) (by simp only [go_sem, Bool.not_eq_true', Bool.not_eq_false']; rfl) (fit_of (by simp only [go_sem, Bool.not_eq_true', Bool.not_eq_false']) (by simp only [go_sem, Bool.not_eq_true', Bool.not_eq_false']) (by simp only [go_sem, Bool.not_eq_true', Bool.not_eq_false']) (by simp only [go_sem, Bool.not_eq_true', Bool.not_eq_false']) (by simp only [go_sem, Bool.not_eq_true', Bool.not_eq_false']) (by simp only [go_sem, Bool.not_eq_true', Bool.not_eq_false']) (by simp only [go_sem, Bool.not_eq_true', Bool.not_eq_false'])) ?_; simp only [go_sem, Bool.not_eq_true', Bool.not_eq_false'])
theorem i17 (k w : Int) (y : List Int) (h : (kinG nds17 [1, 4, 6] k && decide (forA nds17 [1, 4, 6] k = w) && decide (askA nds17 [1, 4, 6] k = y)) = true) : FnOk Try.prog 75 [.sl 20 (nds17.map cNo), .sl 1 ([1, 4, 6].map cInt), .raw (.int .i64 k), .raw (.int .i64 w), .sl 1 (y.map cInt)] [] (.raw (.bool true)) [] := by
  simp only [Bool.and_eq_true, decide_eq_true_eq] at h
  exact is17_ok nds17 [1, 4, 6] k w y (Nat.le_of_ble_eq_true rfl) (Nat.le_of_ble_eq_true rfl) w17 h.1.1 h.1.2 h.2
set_option maxRecDepth 100000 in
set_option maxHeartbeats 8000000 in
theorem awake17_ok : FnOk Try.prog 31 [] [] (.raw (.bool true)) [] := by
  refine fn_of_awp Try.func31 rfl (by kernel_rfl) (by kernel_rfl) (Nat.le_of_ble_eq_true rfl) Try.results31 ?_
  simp only [go_sem, Bool.not_eq_true', Bool.not_eq_false']
  (refine acall2 [] (of17) (by simp only [go_sem, Bool.not_eq_true', Bool.not_eq_false']; rfl) (fit_of (by simp only [go_sem, Bool.not_eq_true', Bool.not_eq_false']) (by simp only [go_sem, Bool.not_eq_true', Bool.not_eq_false']) (by simp only [go_sem, Bool.not_eq_true', Bool.not_eq_false']) (by simp only [go_sem, Bool.not_eq_true', Bool.not_eq_false']) (by simp only [go_sem, Bool.not_eq_true', Bool.not_eq_false']) (by simp only [go_sem, Bool.not_eq_true', Bool.not_eq_false']) (by simp only [go_sem, Bool.not_eq_true', Bool.not_eq_false'])) ?_; simp only [go_sem, Bool.not_eq_true', Bool.not_eq_false'])
  (refine acallF2 [80, 112 ] [] ( i17 0 0 [0] (by kernel_rfl)) (by simp only [go_sem, Bool.not_eq_true', Bool.not_eq_false']; rfl) (fit_of (by simp only [go_sem, Bool.not_eq_true', Bool.not_eq_false']) (by simp only [go_sem, Bool.not_eq_true', Bool.not_eq_false']) (by simp only [go_sem, Bool.not_eq_true', Bool.not_eq_false']) (by simp only [go_sem, Bool.not_eq_true', Bool.not_eq_false']) (by simp only [go_sem, Bool.not_eq_true', Bool.not_eq_false']) (by simp only [go_sem, Bool.not_eq_true', Bool.not_eq_false']) (by simp only [go_sem, Bool.not_eq_true', Bool.not_eq_false'])) ?_; simp only [go_sem, Bool.not_eq_true', Bool.not_eq_false', Int.reduceToNat, Int.reduceLT, Int.reduceLE, Int.reduceEq, Int.reduceAdd, Int.reduceSub, Int.reduceMul, Int.reduceNeg, Int.reduceNe, decide_false, Int.cast_ofNat_Int, kSet, List.getElem?_cons_succ, List.getElem?_cons_zero, List.set_cons_succ, List.set_cons_zero, exists_eq_left', forall_const, true_implies, List.map])
  (refine acallF2 [152 ] [] ( i17 1 3 [2, 1, 3] (by kernel_rfl)) (by simp only [go_sem, Bool.not_eq_true', Bool.not_eq_false']; rfl) (fit_of (by simp only [go_sem, Bool.not_eq_true', Bool.not_eq_false']) (by simp only [go_sem, Bool.not_eq_true', Bool.not_eq_false']) (by simp only [go_sem, Bool.not_eq_true', Bool.not_eq_false']) (by simp only [go_sem, Bool.not_eq_true', Bool.not_eq_false']) (by simp only [go_sem, Bool.not_eq_true', Bool.not_eq_false']) (by simp only [go_sem, Bool.not_eq_true', Bool.not_eq_false']) (by simp only [go_sem, Bool.not_eq_true', Bool.not_eq_false'])) ?_; simp only [go_sem, Bool.not_eq_true', Bool.not_eq_false', Int.reduceToNat, Int.reduceLT, Int.reduceLE, Int.reduceEq, Int.reduceAdd, Int.reduceSub, Int.reduceMul, Int.reduceNeg, Int.reduceNe, decide_false, Int.cast_ofNat_Int, kSet, List.getElem?_cons_succ, List.getElem?_cons_zero, List.set_cons_succ, List.set_cons_zero, exists_eq_left', forall_const, true_implies, List.map])
  (refine acallF2 [200 ] [] ( i17 2 2 [0, 0, 2, 0] (by kernel_rfl)) (by simp only [go_sem, Bool.not_eq_true', Bool.not_eq_false']; rfl) (fit_of (by simp only [go_sem, Bool.not_eq_true', Bool.not_eq_false']) (by simp only [go_sem, Bool.not_eq_true', Bool.not_eq_false']) (by simp only [go_sem, Bool.not_eq_true', Bool.not_eq_false']) (by simp only [go_sem, Bool.not_eq_true', Bool.not_eq_false']) (by simp only [go_sem, Bool.not_eq_true', Bool.not_eq_false']) (by simp only [go_sem, Bool.not_eq_true', Bool.not_eq_false']) (by simp only [go_sem, Bool.not_eq_true', Bool.not_eq_false'])) ?_; simp only [go_sem, Bool.not_eq_true', Bool.not_eq_false', Int.reduceToNat, Int.reduceLT, Int.reduceLE, Int.reduceEq, Int.reduceAdd, Int.reduceSub, Int.reduceMul, Int.reduceNeg, Int.reduceNe, decide_false, Int.cast_ofNat_Int, kSet, List.getElem?_cons_succ, List.getElem?_cons_zero, List.set_cons_succ, List.set_cons_zero, exists_eq_left', forall_const, true_implies, List.map])
  (refine acall2 [] (i17 3 0 [] (by kernel_rfl)) (by simp only [go_sem, Bool.not_eq_true', Bool.not_eq_false']; rfl) (fit_of (by simp only [go_sem, Bool.not_eq_true', Bool.not_eq_false']) (by simp only [go_sem, Bool.not_eq_true', Bool.not_eq_false']) (by simp only [go_sem, Bool.not_eq_true', Bool.not_eq_false']) (by simp only [go_sem, Bool.not_eq_true', Bool.not_eq_false']) (by simp only [go_sem, Bool.not_eq_true', Bool.not_eq_false']) (by simp only [go_sem, Bool.not_eq_true', Bool.not_eq_false']) (by simp only [go_sem, Bool.not_eq_true', Bool.not_eq_false'])) ?_; simp only [go_sem, Bool.not_eq_true', Bool.not_eq_false', Int.reduceToNat, Int.reduceLT, Int.reduceLE, Int.reduceEq, Int.reduceAdd, Int.reduceSub, Int.reduceMul, Int.reduceNeg, Int.reduceNe, decide_false, Int.cast_ofNat_Int, kSet, List.getElem?_cons_succ, List.getElem?_cons_zero, List.set_cons_succ, List.set_cons_zero, exists_eq_left', forall_const, true_implies, List.map])
end Go.Proofs.Ytbgcmnccjfdooaa
/- CHAPTER 17: the document's answer. -/
/- G -/
/- BOOLS -/
set_option linter.unusedSimpArgs false
set_option linter.unusedVariables false
namespace Go.Proofs.Ytbgcmnccjfdooaa
open Go.RowKit

def stA (l : List LNo) (x : LKin) (o : List Int) (t : List (Nat × AV)) : AS := ⟨t ++ [(0, .sl 20 (l.map cNo)), (7, .hdr 16), (8, .hdr 88)], [(16, some (.row 3 1 (o.map cInt))), (88, some (.cells 28 [.hdr 80, .hdr 81, .hdr 82, .raw (.int .i64 x.text)])), (80, some (.row 3 1 (x.ends.map cInt))), (81, some (.row 3 1 (x.begins.map cInt))), (82, some (.row 3 1 (x.both.map cInt)))], none⟩
attribute [go_sem] stA
theorem frc_keep : ∀ (r : List Int) (o : Int), (∀ x ∈ r, x ≠ 3 ∧ x ≠ 4) → o ≠ 0 → r.foldl frcT o = o
  | [], _, _, _ => rfl
  | x :: r, o, h, ho => by
    have h1 := h x List.mem_cons_self
    have e : frcT o x = o := by unfold frcT; rw [if_neg (by omega), if_neg (by omega)]
    rw [List.foldl_cons, e]
    exact frc_keep r o (fun y hy => h y (List.mem_cons_of_mem _ hy)) ho
theorem frc_no : ∀ (r : List Int) (o : Int), (∀ x ∈ r, x ≠ 3 ∧ x ≠ 4 ∧ x ≠ 2) → r.foldl frcT o = o
  | [], _, _ => rfl
  | x :: r, o, h => by
    have h1 := h x List.mem_cons_self
    have e : frcT o x = o := by unfold frcT; rw [if_neg (by omega), if_neg (by omega)]
    rw [List.foldl_cons, e]
    exact frc_no r o (fun y hy => h y (List.mem_cons_of_mem _ hy))
theorem frc_two : ∀ (r : List Int), (∀ x ∈ r, x ≠ 3 ∧ x ≠ 4) → 2 ∈ r → r.foldl frcT 0 = 2
  | [], _, h => by cases h
  | x :: r, h, h2 => by
    have h1 := h x List.mem_cons_self
    have hr : ∀ y ∈ r, y ≠ 3 ∧ y ≠ 4 := fun y hy => h y (List.mem_cons_of_mem _ hy)
    rw [List.foldl_cons]
    by_cases q : x = 2
    · have e : frcT 0 x = 2 := by unfold frcT; rw [if_neg (by omega), if_pos ⟨q, rfl⟩]
      rw [e]
      exact frc_keep r 2 hr (by omega)
    · have e : frcT 0 x = 0 := by unfold frcT; rw [if_neg (by omega), if_neg (by omega)]
      rw [e]
      exact frc_two r hr ((List.mem_cons.1 h2).resolve_left (fun q2 => q q2.symm))
theorem frc_last (p r : List Int) (x : Int) (hx : x = 3 ∨ x = 4) (h : ∀ y ∈ r, y ≠ 3 ∧ y ≠ 4) : frcS (p ++ x :: r) = x := by
  rw [frcS, List.foldl_append, List.foldl_cons]
  have e : frcT (p.foldl frcT 0) x = x := by unfold frcT; rw [if_pos hx]
  rw [e]
  exact frc_keep r x h (by omega)
theorem frcS_at {all : List Int} {i : Nat} (hi : i < all.length) (hx : all[i] = 3 ∨ all[i] = 4) (h : ∀ j (hj : j < all.length), i < j → all[j] ≠ 3 ∧ all[j] ≠ 4) : frcS all = all[i] := by
  have e : all = all.take i ++ all[i] :: all.drop (i + 1) := by
    rw [List.getElem_cons_drop, List.take_append_drop]
  have h2 := frc_last (all.take i) (all.drop (i + 1)) all[i] hx (fun y hy => by
    obtain ⟨j, hj, rfl⟩ := List.getElem_of_mem hy
    rw [List.getElem_drop]
    exact h _ _ (by omega))
  rw [← e] at h2
  exact h2
set_option maxRecDepth 100000 in
set_option maxHeartbeats 4000000 in
theorem rasked_ok (l : List LNo) (of : List Int) (k : Int) (hl : l.length ≤ 1000) (ho : of.length ≤ 1000) (hk : 0 ≤ k ∧ k ≤ of.length) (hc : chkB l of = true) : FnOk Try.prog 36 [.sl 20 (l.map cNo), .sl 1 (of.map cInt), .raw (.int .i64 k)] [] (.hdr 8) [(8, .row 3 1 ((askA l of k).map cInt))] := by
  have hh := kinA_has l of k
  have hn := kinA_len l of k
  have hg : kinG l of k = true := by
    simp only [kinG, hc, Bool.true_and, Bool.and_eq_true, decide_eq_true_eq]
    exact hk
  obtain ⟨hv, hf⟩ := chk_has hc
  have hr := chk_row hc
  have e2 : kinA l of k = kinR l of k l.length := by rw [← kin_eq hv hr]; simp [kinA, hg]
  have ea : askA l of k = if k = of.length then [] else askL l (kinA l of k) := by
    unfold askA
    by_cases q : k = of.length <;> simp [hg, q]
  rw [ea]
  refine fn_of_swp Try.func36 rfl (by kernel_rfl) (by kernel_rfl) (Nat.le_of_ble_eq_true rfl) Try.results36 ?_
  (refine swp_seqW ?_; simp only [go_sem, Bool.not_eq_true', Bool.not_eq_false'])
  (refine swp_seqW ?_; simp only [go_sem, Bool.not_eq_true', Bool.not_eq_false'])
  (refine swp_seqW ?_; simp only [go_sem, Bool.not_eq_true', Bool.not_eq_false', List.length_map])
  refine ⟨fun q => ?_, fun q => ?_⟩
  · rw [if_pos q]
    (refine ret2 [] (by simp only [go_sem, Bool.not_eq_true', Bool.not_eq_false']; rfl) ?_; simp only [go_sem, Bool.not_eq_true', Bool.not_eq_false'])
  rw [if_neg q]
  (refine swp_seqW ?_; simp only [go_sem, Bool.not_eq_true', Bool.not_eq_false'])
  (refine acall2 [] (rat_ok l of k hl ho hk) (by simp only [go_sem, Bool.not_eq_true', Bool.not_eq_false']; rfl) (fit_of (by simp only [go_sem, Bool.not_eq_true', Bool.not_eq_false']) (by simp only [go_sem, Bool.not_eq_true', Bool.not_eq_false']) (by simp only [go_sem, Bool.not_eq_true', Bool.not_eq_false']) (by simp only [go_sem, Bool.not_eq_true', Bool.not_eq_false']) (by simp only [go_sem, Bool.not_eq_true', Bool.not_eq_false']) (by simp only [go_sem, Bool.not_eq_true', Bool.not_eq_false']) (by simp only [go_sem, Bool.not_eq_true', Bool.not_eq_false'])) ?_; simp only [go_sem, Bool.not_eq_true', Bool.not_eq_false'])
  rw [← e2]
  generalize kinA l of k = x at hh hn ⊢
  refine swp_cutS (fun o : List Int => stA l x o []) (fun o => o = x.ends.map (fun b => (styN l b).after)) 14 ?_ ?_
  · (refine swp_seqW ?_; simp only [go_sem, Bool.not_eq_true', Bool.not_eq_false'])
    refine swp_block ?_
    refine swp_loop2 [] (fun z : KY (List Int) => stA l x z.o [(9, .raw (.int .i64 z.k))]) (fun z => z.k ≤ x.ends.length ∧ z.o = (x.ends.take z.k).map (fun b => (styN l b).after)) (fun z => x.ends.length - z.k) 14 ⟨0, []⟩ (by simp only [go_sem, Bool.not_eq_true', Bool.not_eq_false']; rfl) (by simp only [go_sem, Bool.not_eq_true', Bool.not_eq_false']) ?_ ?_
    · exact ⟨Nat.zero_le _, by simp⟩
    · rintro ⟨k, o⟩ ⟨k1, k2⟩
      simp only at k1 k2
      have hol : o.length = k := by rw [k2]; simp; omega
      (refine swp_lastW ?_; simp only [go_sem, Bool.not_eq_true', Bool.not_eq_false', List.length_map])
      refine ⟨fun h5 => ?_, fun h5 => ?_⟩
      · have hk : k < x.ends.length := by omega
        have hi := hasN_iff.1 (hh.1 _ (List.getElem_mem hk))
        have e1 : (x.ends.take (k + 1)).map (fun b => (styN l b).after) = o ++ [(styN l x.ends[k]).after] := by
          rw [List.take_succ_eq_append_getElem hk, List.map_append, ← k2]; rfl
        refine ⟨by omega, ex_get hk ?_⟩
        generalize x.ends[k] = b at hi e1 ⊢
        obtain ⟨n, rfl⟩ : ∃ n : Nat, b = n := ⟨b.toNat, by omega⟩
        have hn : n < l.length := by omega
        rw [styN_get hn] at e1
        refine ⟨by omega, ?_⟩
        simp only [Int.toNat_natCast]
        refine ex_get hn ⟨by omega, by omega, ?_⟩
        (refine loop_end [] (⟨k + 1, o ++ [l[n].st.after]⟩) (by simp only [go_sem, Bool.not_eq_true', Bool.not_eq_false']; rfl) ?_ ?_ ?_; (focus first | omega | (simp only; omega)); (focus (simp only [go_sem, Bool.not_eq_true', Bool.not_eq_false', List.map_append]; done)))
        exact ⟨hk, e1.symm⟩
      · rw [List.take_of_length_le (by omega)] at k2
        (refine cut_end [] (o) (by simp only [go_sem, Bool.not_eq_true', Bool.not_eq_false']; rfl) ?_ ?_; (focus (simp only [go_sem, Bool.not_eq_true', Bool.not_eq_false']; done)))
        exact k2
  rintro o k2
  have hok : o.length ≤ 1000 := by rw [k2, List.length_map]; omega
  (refine swp_seqW ?_; simp only [go_sem, Bool.not_eq_true', Bool.not_eq_false'])
  refine aloop2 [] (fun z : KY (List Int) => stA l x z.o [(10, .raw (.int .i64 z.k))]) (fun z => z.k ≤ x.begins.length ∧ z.o = o ++ (x.begins.take z.k).flatMap (begA l)) (fun z => x.begins.length - z.k) 100 ⟨0, o⟩ (by simp only [go_sem, Bool.not_eq_true', Bool.not_eq_false']; rfl) (by simp only [go_sem, Bool.not_eq_true', Bool.not_eq_false']) ?_ ?_
  · exact ⟨Nat.zero_le _, by simp⟩
  · rintro ⟨j, p⟩ ⟨j1, j2⟩
    simp only at j1 j2
    have hpl : p.length ≤ 3000 := by
      rw [j2, List.length_append]
      have := flatA_len l (x.begins.take j)
      rw [List.length_take] at this
      omega
    simp only [go_sem, Bool.not_eq_true', Bool.not_eq_false', List.length_map]
    refine ⟨fun h5 => ?_, fun h5 => ?_⟩
    · have hj : j < x.begins.length := by omega
      have hi := hasN_iff.1 (hh.2 _ (List.getElem_mem hj))
      have e1 : (x.begins.take (j + 1)).flatMap (begA l) = (x.begins.take j).flatMap (begA l) ++ begA l x.begins[j] := by
        rw [List.take_succ_eq_append_getElem hj, List.flatMap_append]; simp
      refine ⟨by omega, ex_get hj ?_⟩
      generalize x.begins[j] = b at hi e1 ⊢
      obtain ⟨n, rfl⟩ : ∃ n : Nat, b = n := ⟨b.toNat, by omega⟩
      have hn2 : n < l.length := by omega
      rw [begA, styN_get hn2] at e1
      refine ⟨by omega, ?_⟩
      simp only [Int.toNat_natCast]
      refine ex_get hn2 ?_
      refine ⟨fun h6 => ?_, fun h6 => ?_⟩
      · rw [if_pos h6] at e1
        simp only [List.length_append, List.length_cons, List.length_nil, List.length_map]
        refine ⟨by omega, by omega, by omega, ?_⟩
        (refine loop_end [] (⟨j + 1, p ++ [2, l[n].st.before]⟩) (by simp only [go_sem, Bool.not_eq_true', Bool.not_eq_false']; rfl) ?_ ?_ ?_; (focus first | omega | (simp only; omega)); (focus (simp only [go_sem, Bool.not_eq_true', Bool.not_eq_false', List.map_append, List.append_assoc]; done)))
        exact ⟨hj, by rw [e1, j2, List.append_assoc]⟩
      · rw [if_neg h6] at e1
        refine ⟨by omega, by omega, ?_⟩
        (refine loop_end [] (⟨j + 1, p ++ [l[n].st.before]⟩) (by simp only [go_sem, Bool.not_eq_true', Bool.not_eq_false']; rfl) ?_ ?_ ?_; (focus first | omega | (simp only; omega)); (focus (simp only [go_sem, Bool.not_eq_true', Bool.not_eq_false', List.map_append]; done)))
        exact ⟨hj, by rw [e1, j2, List.append_assoc]⟩
    · rw [List.take_of_length_le (by omega)] at j2
      have e3 : p = askL l x := by rw [j2, k2]; rfl
      rw [e3]
      (refine swp_lastW ?_; simp only [go_sem, Bool.not_eq_true', Bool.not_eq_false'])
      (refine ret2 [] (by simp only [go_sem, Bool.not_eq_true', Bool.not_eq_false']; rfl) ?_; simp only [go_sem, Bool.not_eq_true', Bool.not_eq_false'])
set_option maxRecDepth 100000 in
set_option maxHeartbeats 4000000 in
theorem rforA_ok (l : List LNo) (of : List Int) (k : Int) (hl : l.length ≤ 1000) (ho : of.length ≤ 1000) (hk : 0 ≤ k ∧ k ≤ of.length) (hc : chkB l of = true) : FnOk Try.prog 37 [.sl 20 (l.map cNo), .sl 1 (of.map cInt), .raw (.int .i64 k)] [] (.raw (.int .i64 (forA l of k))) [] := by
  have hn := askA_len l of k
  have e0 : forA l of k = frcS (askA l of k) := rfl
  rw [e0]
  refine fn_of_swp Try.func37 rfl (by kernel_rfl) (by kernel_rfl) (Nat.le_of_ble_eq_true rfl) Try.results37 ?_
  (refine swp_seqW ?_; simp only [go_sem, Bool.not_eq_true', Bool.not_eq_false'])
  (refine swp_seqW ?_; simp only [go_sem, Bool.not_eq_true', Bool.not_eq_false'])
  (refine acall2 [] (rasked_ok l of k hl ho hk hc) (by simp only [go_sem, Bool.not_eq_true', Bool.not_eq_false']; rfl) (fit_of (by simp only [go_sem, Bool.not_eq_true', Bool.not_eq_false']) (by simp only [go_sem, Bool.not_eq_true', Bool.not_eq_false']) (by simp only [go_sem, Bool.not_eq_true', Bool.not_eq_false']) (by simp only [go_sem, Bool.not_eq_true', Bool.not_eq_false']) (by simp only [go_sem, Bool.not_eq_true', Bool.not_eq_false']) (by simp only [go_sem, Bool.not_eq_true', Bool.not_eq_false']) (by simp only [go_sem, Bool.not_eq_true', Bool.not_eq_false'])) ?_; simp only [go_sem, Bool.not_eq_true', Bool.not_eq_false'])
  generalize askA l of k = all at hn ⊢
  refine swp_cutS (fun _ : Unit => ⟨[(7, .hdr 48)], [(48, some (.row 3 1 (all.map cInt)))], none⟩) (fun _ => ∀ j (hj : j < all.length), all[j] ≠ 3 ∧ all[j] ≠ 4) 10 ?_ ?_
  · (refine swp_seqW ?_; simp only [go_sem, Bool.not_eq_true', Bool.not_eq_false', List.length_map])
    refine ⟨by omega, ?_⟩
    refine swp_block ?_
    refine swp_loop2 [] (fun i : Int => ⟨[(7, .hdr 48), (8, .raw (.int .i64 i))], [(48, some (.row 3 1 (all.map cInt)))], none⟩) (fun i => -1 ≤ i ∧ i < all.length ∧ ∀ j (hj : j < all.length), i < j → all[j] ≠ 3 ∧ all[j] ≠ 4) (fun i => (i + 1).toNat) 14 (all.length - 1) (by simp only [go_sem, Bool.not_eq_true', Bool.not_eq_false']; rfl) (by simp only [go_sem, Bool.not_eq_true', Bool.not_eq_false']) ?_ ?_
    · exact ⟨by omega, by omega, fun j hj h => by omega⟩
    · rintro i ⟨h1, h2, h3⟩
      (refine swp_lastW ?_; simp only [go_sem, Bool.not_eq_true', Bool.not_eq_false', List.length_map])
      refine ⟨fun h5 => ?_, fun h5 => ?_⟩
      · obtain ⟨m, rfl⟩ : ∃ m : Nat, i = m := ⟨i.toNat, by omega⟩
        have hm : m < all.length := by omega
        have hx := fun q => frcS_at (i := m) hm q (fun j hj h => h3 j hj (by omega))
        simp only [Int.toNat_natCast]
        repeat' first | contradiction | intro _ | refine And.intro ?_ ?_ | refine ex_get (by omega) ?_ | (show drawB _ _ = true; kernel_rfl) | (refine ret2 [] (by simp only [go_sem, Bool.not_eq_true', Bool.not_eq_false']; rfl) ?_; simp only [go_sem, Bool.not_eq_true', Bool.not_eq_false'])
        all_goals first
          | omega
          | exact hx (by omega)
          | skip
        (refine loop_end [] ((m : Int) - 1) (by simp only [go_sem, Bool.not_eq_true', Bool.not_eq_false']; rfl) ?_ ?_ ?_; (focus first | omega | (simp only; omega)); (focus (simp only [go_sem, Bool.not_eq_true', Bool.not_eq_false']; done)))
        refine ⟨by omega, by omega, fun j hj h => ?_⟩
        rcases Nat.lt_or_eq_of_le (by omega : m ≤ j) with q | q
        · exact h3 j hj (by omega)
        · subst q; exact ⟨by assumption, by assumption⟩
      · (refine cut_end [] (()) (by simp only [go_sem, Bool.not_eq_true', Bool.not_eq_false']; rfl) ?_ ?_; (focus (simp only [go_sem, Bool.not_eq_true', Bool.not_eq_false']; done)))
        exact fun j hj => h3 j hj (by omega)
  rintro - hz
  have hz2 : ∀ x ∈ all, x ≠ 3 ∧ x ≠ 4 := fun x hx => by
    obtain ⟨j, hj, rfl⟩ := List.getElem_of_mem hx
    exact hz j hj
  (refine swp_seqW ?_; simp only [go_sem, Bool.not_eq_true', Bool.not_eq_false'])
  refine aloop2 [] (fun i : Nat => ⟨[(7, .hdr 48), (9, .raw (.int .i64 i))], [(48, some (.row 3 1 (all.map cInt)))], none⟩) (fun i => i ≤ all.length ∧ ∀ j (hj : j < all.length), j < i → all[j] ≠ 2) (fun i => all.length - i) 100 0 (by simp only [go_sem, Bool.not_eq_true', Bool.not_eq_false']; rfl) (by simp only [go_sem, Bool.not_eq_true', Bool.not_eq_false']) ?_ ?_
  · exact ⟨Nat.zero_le _, fun j hj h => absurd h (Nat.not_lt_zero _)⟩
  · rintro i ⟨h1, h2⟩
    simp only [go_sem, Bool.not_eq_true', Bool.not_eq_false', List.length_map]
    refine ⟨fun h5 => ?_, fun h5 => ?_⟩
    · have hi : i < all.length := by omega
      refine ⟨by omega, ex_get hi ?_⟩
      refine ⟨fun q => ?_, fun q => ⟨by omega, ?_⟩⟩
      · have e : frcS all = 2 := frc_two all hz2 (q ▸ List.getElem_mem hi)
        rw [e]
      · (refine loop_end [] (i + 1) (by simp only [go_sem, Bool.not_eq_true', Bool.not_eq_false']; rfl) ?_ ?_ ?_; (focus first | omega | (simp only; omega)); (focus (simp only [go_sem, Bool.not_eq_true', Bool.not_eq_false']; done)))
        refine ⟨hi, fun j hj h => ?_⟩
        rcases Nat.lt_succ_iff_lt_or_eq.1 h with h8 | h8
        · exact h2 j hj h8
        · subst h8; exact q
    · have e : frcS all = 0 := frc_no all 0 (fun x hx => by
        obtain ⟨j, hj, rfl⟩ := List.getElem_of_mem hx
        exact ⟨(hz j hj).1, (hz j hj).2, h2 j hj (by omega)⟩)
      rw [e]
      (refine swp_lastW ?_; simp only [go_sem, Bool.not_eq_true', Bool.not_eq_false'])
set_option maxRecDepth 100000 in
set_option maxHeartbeats 4000000 in
theorem rallF_ok (l : List LNo) (of : List Int) (hl : l.length ≤ 1000) (ho : of.length ≤ 1000) (hc : chkB l of = true) : FnOk Try.prog 35 [.sl 20 (l.map cNo), .sl 1 (of.map cInt)] [] (.hdr 8) [(8, .row 3 1 ((allF l of).map cInt))] := by
  have ea : allF l of = (List.range (of.length + 1)).map (fun k : Nat => forA l of k) := by unfold allF; rw [if_pos hc]
  rw [ea]
  refine fn_of_awp Try.func35 rfl (by kernel_rfl) (by kernel_rfl) (Nat.le_of_ble_eq_true rfl) Try.results35 ?_
  simp only [go_sem, Bool.not_eq_true', Bool.not_eq_false', List.length_map]
  refine aloop2 [] (fun z : KY (List Int) => ⟨[(0, .sl 20 (l.map cNo)), (1, .sl 1 (of.map cInt)), (5, .hdr 16), (6, .raw (.int .i64 z.k))], [(16, some (.row 3 1 (z.o.map cInt)))], none⟩) (fun z => z.k ≤ of.length + 1 ∧ z.o = (List.range z.k).map (fun k : Nat => forA l of k)) (fun z => of.length + 1 - z.k) 40 ⟨0, []⟩ (by simp only [go_sem, Bool.not_eq_true', Bool.not_eq_false']; rfl) (by simp only [go_sem, Bool.not_eq_true', Bool.not_eq_false']) ?_ ?_
  · exact ⟨Nat.zero_le _, rfl⟩
  · rintro ⟨k, o⟩ ⟨k1, k2⟩
    simp only at k1 k2
    have hol : o.length = k := by rw [k2]; simp
    simp only [go_sem, Bool.not_eq_true', Bool.not_eq_false', List.length_map]
    refine ⟨fun h5 => ?_, fun h5 => ?_⟩
    · (refine acall2 [] (rforA_ok l of k hl ho (by omega) hc) (by simp only [go_sem, Bool.not_eq_true', Bool.not_eq_false']; rfl) (fit_of (by simp only [go_sem, Bool.not_eq_true', Bool.not_eq_false']) (by simp only [go_sem, Bool.not_eq_true', Bool.not_eq_false']) (by simp only [go_sem, Bool.not_eq_true', Bool.not_eq_false']) (by simp only [go_sem, Bool.not_eq_true', Bool.not_eq_false']) (by simp only [go_sem, Bool.not_eq_true', Bool.not_eq_false']) (by simp only [go_sem, Bool.not_eq_true', Bool.not_eq_false']) (by simp only [go_sem, Bool.not_eq_true', Bool.not_eq_false'])) ?_; simp only [go_sem, Bool.not_eq_true', Bool.not_eq_false'])
      repeat' first | contradiction | intro _ | refine And.intro ?_ ?_ | refine ex_get (by omega) ?_ | (show drawB _ _ = true; kernel_rfl) | (refine ret2 [] (by simp only [go_sem, Bool.not_eq_true', Bool.not_eq_false']; rfl) ?_; simp only [go_sem, Bool.not_eq_true', Bool.not_eq_false'])
      all_goals first
        | omega
        | skip
      (refine loop_end [] (⟨k + 1, o ++ [forA l of k]⟩) (by simp only [go_sem, Bool.not_eq_true', Bool.not_eq_false']; rfl) ?_ ?_ ?_; (focus first | omega | (simp only; omega)); (focus (simp only [go_sem, Bool.not_eq_true', Bool.not_eq_false', List.map_append]; done)))
      simp only
      exact ⟨by omega, by rw [k2, List.range_succ, List.map_append]; rfl⟩
    · have e5 : k = of.length + 1 := by omega
      rw [e5, List.range_succ] at k2
      rw [← k2]
      (refine ret2 [] (by simp only [go_sem, Bool.not_eq_true', Bool.not_eq_false']; rfl) ?_; simp only [go_sem, Bool.not_eq_true', Bool.not_eq_false'])
end Go.Proofs.Ytbgcmnccjfdooaa
/- ENGINE (second) 15: an array's element, a shift to the left, each shown apart; over any program. -/
/- G -/
set_option linter.unusedSimpArgs false
set_option linter.unusedVariables false
namespace Go.Proofs.Ytbgcmnccjfdooaa
open Go.RowKit

theorem does_shl {P : Program} {o : Oper} {S : AS} {n : Nat} {x y : Operand} {t u : TypeId} {a b : Int} {kb : IntKind} (ho : o.op = .binOp .shl t x y u) (hx : S.val x = .raw (.int .i64 a)) (hy : S.val y = .raw (.int kb b)) (hb : 0 ≤ b) (hb2 : b ≤ 64) : DoesAt P o S n ⟨.raw (.int .i64 (IntKind.i64.wrap (a * 2 ^ b.toNat))), [], []⟩ :=
  does_pure rfl fun c p ρ aa w hm => ⟨_, by
    unfold execOp; rw [ho]
    refine run_v (v := .int .i64 (IntKind.i64.wrap (a * 2 ^ b.toNat))) ?_
    have h1 : ¬ b < 0 := by omega
    have h2 : min b.toNat 64 = b.toNat := by omega
    simp [hm.raw hx, hm.raw hy, eqGuard, binOp, Op.shift, if_neg h1, IntKind.bits, h2], by simp [Rep]⟩
end Go.Proofs.Ytbgcmnccjfdooaa
/- CHAPTER 18: rank: a place and its parts. -/
/- G -/
/- BOOLS -/
set_option linter.unusedSimpArgs false
set_option linter.unusedVariables false
namespace Go.Proofs.Ytbgcmnccjfdooaa
open Go.RowKit

/-- a place: what is around it, the nodes, the row, its number. -/
def lPl (l : List LNo) (of : List Int) (k : Int) (x : LKin) : List AV := [.sl 1 (x.ends.map cInt), .sl 1 (x.begins.map cInt), .sl 1 (x.both.map cInt), .raw (.int .i64 x.text), .sl 20 (l.map cNo), .sl 1 (of.map cInt), .raw (.int .i64 k)]
def sPl (l : List LNo) (of : List Int) (k : Int) (x : LKin) : AV := .agg (lPl l of k x)
attribute [go_sem] lPl sPl
def aPl (l : List LNo) (of : List Int) (k t : Int) : AV := .agg [.hdr 8, .hdr 9, .hdr 10, .raw (.int .i64 t), .sl 20 (l.map cNo), .sl 1 (of.map cInt), .raw (.int .i64 k)]
attribute [go_sem] aPl
set_option maxRecDepth 100000 in
set_option maxHeartbeats 4000000 in
theorem at18_ok (l : List LNo) (of : List Int) (k : Int) (hl : l.length ≤ 1000) (ho : of.length ≤ 1000) (hw : ∀ x ∈ l, x.words.length ≤ 9223372036854775807) : FnOk Try.prog 79 [.sl 20 (l.map cNo), .sl 1 (of.map cInt), .raw (.int .i64 k)] [] (.tup [aPl l of k (kinA l of k).text, .raw (.int .i64 (errB (kinG l of k)))]) (oKin (kinA l of k)) := by
  refine fn_of_swp Try.func79 rfl (by kernel_rfl) (by kernel_rfl) (Nat.le_of_ble_eq_true rfl) Try.results79 ?_
  (refine swp_seqW ?_; simp only [go_sem, Bool.not_eq_true', Bool.not_eq_false'])
  (refine swp_seqW ?_; simp only [go_sem, Bool.not_eq_true', Bool.not_eq_false'])
  (refine acall2 [] (kinAt_ok l of k hl ho hw) (by simp only [go_sem, Bool.not_eq_true', Bool.not_eq_false']; rfl) (fit_of (by simp only [go_sem, Bool.not_eq_true', Bool.not_eq_false']) (by simp only [go_sem, Bool.not_eq_true', Bool.not_eq_false']) (by simp only [go_sem, Bool.not_eq_true', Bool.not_eq_false']) (by simp only [go_sem, Bool.not_eq_true', Bool.not_eq_false']) (by simp only [go_sem, Bool.not_eq_true', Bool.not_eq_false']) (by simp only [go_sem, Bool.not_eq_true', Bool.not_eq_false']) (by simp only [go_sem, Bool.not_eq_true', Bool.not_eq_false'])) ?_; simp only [go_sem, Bool.not_eq_true', Bool.not_eq_false'])
  (refine swp_lastW ?_; simp only [go_sem, Bool.not_eq_true', Bool.not_eq_false'])
  (refine ret2 [] (by simp only [go_sem, Bool.not_eq_true', Bool.not_eq_false']; rfl) ?_; simp only [go_sem, Bool.not_eq_true', Bool.not_eq_false'])
def cntA (of : List Int) (t k : Int) : Nat → Nat
  | 0 => 0
  | j + 1 => cntA of t k j + if of.getD j 0 = t ∧ (j : Int) < k then 1 else 0
def cntB (of : List Int) (t k : Int) : Nat → Nat
  | 0 => 0
  | j + 1 => cntB of t k j + if of.getD j 0 = t ∧ ¬(j : Int) < k then 1 else 0
theorem cntA_le (of : List Int) (t k : Int) : ∀ j, cntA of t k j ≤ j
  | 0 => Nat.le_refl _
  | j + 1 => by have := cntA_le of t k j; rw [cntA]; split <;> omega
theorem cntB_le (of : List Int) (t k : Int) : ∀ j, cntB of t k j ≤ j
  | 0 => Nat.le_refl _
  | j + 1 => by have := cntB_le of t k j; rw [cntB]; split <;> omega
/-- how many lines of a text stand ahead, and behind. -/
def linA (of : List Int) (k t : Int) : Int := if t < 0 then 0 else cntA of t k of.length
def linB (of : List Int) (k t : Int) : Int := if t < 0 then 0 else cntB of t k of.length
structure LLn where
  k : Nat
  a : Nat
  b : Nat
set_option maxRecDepth 100000 in
set_option maxHeartbeats 4000000 in
theorem lines_ok (l : List LNo) (of : List Int) (k : Int) (x : LKin) (ho : of.length ≤ 1000) : FnOk Try.prog 80 [sPl l of k x] [] (.tup [.raw (.int .i64 (linA of k x.text)), .raw (.int .i64 (linB of k x.text))]) [] := by
  refine fn_of_awp Try.func80 rfl (by kernel_rfl) (by kernel_rfl) (Nat.le_of_ble_eq_true rfl) Try.results80 ?_
  simp only [go_sem, Bool.not_eq_true', Bool.not_eq_false', List.length_map]
  refine ⟨fun h => ?_, fun h => ?_⟩
  · rw [linA, linB, if_pos h, if_pos h]
    exact ⟨rfl, rfl⟩
  rw [linA, linB, if_neg h, if_neg h]
  refine aloop2 [] (fun z : LLn => ⟨[(1, .hdr 8), (2, .raw (.int .i64 z.a)), (3, .raw (.int .i64 z.b)), (11, .sl 1 (of.map cInt)), (12, .raw (.int .i64 of.length)), (13, .raw (.int .i64 z.k))], [(8, some (.cells 95 (lPl l of k x)))], none⟩) (fun z => z.k ≤ of.length ∧ z.a = cntA of x.text k z.k ∧ z.b = cntB of x.text k z.k) (fun z => of.length - z.k) 40 ⟨0, 0, 0⟩ (by simp only [go_sem, Bool.not_eq_true', Bool.not_eq_false']; rfl) (by simp only [go_sem, Bool.not_eq_true', Bool.not_eq_false']) ?_ ?_
  · exact ⟨Nat.zero_le _, rfl, rfl⟩
  · rintro ⟨j, a, b⟩ ⟨k1, k2, k3⟩
    simp only at k1 k2 k3
    have ha := cntA_le of x.text k j
    have hb := cntB_le of x.text k j
    simp only [go_sem, Bool.not_eq_true', Bool.not_eq_false', List.length_map]
    refine ⟨fun h5 => ?_, fun h5 => ?_⟩
    · have hj : j < of.length := by omega
      have e0 : of.getD j 0 = of[j] := by simp [List.getD_eq_getElem?_getD, hj]
      have e1 : cntA of x.text k (j + 1) = a + if of[j] = x.text ∧ (j : Int) < k then 1 else 0 := by rw [cntA, e0, k2]
      have e2 : cntB of x.text k (j + 1) = b + if of[j] = x.text ∧ ¬(j : Int) < k then 1 else 0 := by rw [cntB, e0, k3]
      refine ⟨by omega, ex_get hj ?_⟩
      generalize of[j] = y at e1 e2 ⊢
      clear e0
      repeat' first | contradiction | intro _ | refine And.intro ?_ ?_ | refine ex_get (by omega) ?_ | (show drawB _ _ = true; kernel_rfl) | (refine ret2 [] (by simp only [go_sem, Bool.not_eq_true', Bool.not_eq_false']; rfl) ?_; simp only [go_sem, Bool.not_eq_true', Bool.not_eq_false'])
      all_goals first
        | omega
        | ((refine loop_end [] (⟨j + 1, a, b⟩) (by simp only [go_sem, Bool.not_eq_true', Bool.not_eq_false']; rfl) ?_ ?_ ?_; (focus first | omega | (simp only; omega)); (focus (simp only [go_sem, Bool.not_eq_true', Bool.not_eq_false']; done)))
           exact ⟨hj, by rw [e1]; simp [*], by rw [e2]; simp [*]⟩)
        | ((refine loop_end [] (⟨j + 1, a + 1, b⟩) (by simp only [go_sem, Bool.not_eq_true', Bool.not_eq_false']; rfl) ?_ ?_ ?_; (focus first | omega | (simp only; omega)); (focus (simp only [go_sem, Bool.not_eq_true', Bool.not_eq_false']; done)))
           exact ⟨hj, by rw [e1]; simp [*], by rw [e2]; simp [*]⟩)
        | ((refine loop_end [] (⟨j + 1, a, b + 1⟩) (by simp only [go_sem, Bool.not_eq_true', Bool.not_eq_false']; rfl) ?_ ?_ ?_; (focus first | omega | (simp only; omega)); (focus (simp only [go_sem, Bool.not_eq_true', Bool.not_eq_false']; done)))
           exact ⟨hj, by rw [e1]; simp [*], by rw [e2]; simp [*]⟩)
        | skip
    · have e : j = of.length := by omega
      rw [← e, ← k2, ← k3]
      exact ⟨rfl, rfl⟩
end Go.Proofs.Ytbgcmnccjfdooaa
/- CHAPTER 18: rank: what minds. -/
/- G -/
/- BOOLS -/
set_option linter.unusedSimpArgs false
set_option linter.unusedVariables false
namespace Go.Proofs.Ytbgcmnccjfdooaa
open Go.RowKit

/-- the first place of a number. -/
def idxE (x : Int) (l : List Int) : Int := idxI (fun y => decide (x = y)) l
set_option maxRecDepth 100000 in
theorem index_ok (l : List Int) (x : Int) (hl : l.length ≤ 9223372036854775807) : FnOk Try.prog 123 [.sl 1 (l.map cInt), .raw (.int .i64 x)] [] (.raw (.int .i64 (idxE x l))) [] := by
  refine fn_of_awp Try.func123 rfl (by kernel_rfl) (by kernel_rfl) (Nat.le_of_ble_eq_true rfl) Try.results123 ?_
  simp only [go_sem, Bool.not_eq_true', Bool.not_eq_false', List.length_map]
  refine aloop2 [] (fun k : Nat => ⟨[(0, .sl 1 (l.map cInt)), (1, .raw (.int .i64 x)), (7, .raw (.int .i64 l.length)), (8, .raw (.int .i64 k))], [], none⟩) (fun k => k ≤ l.length ∧ ∀ j (hj : j < l.length), j < k → decide (x = l[j]) = false) (fun k => l.length - k) 4 0 (by simp only [go_sem, Bool.not_eq_true', Bool.not_eq_false']; rfl) (by simp only [go_sem, Bool.not_eq_true', Bool.not_eq_false']) ?_ ?_
  · exact ⟨Nat.zero_le _, fun j _ h => absurd h (Nat.not_lt_zero j)⟩
  · rintro k ⟨h1, h2⟩
    simp only [go_sem, Bool.not_eq_true', Bool.not_eq_false', List.length_map]
    refine ⟨fun h5 => ?_, fun h5 => ?_⟩
    · have hk : k < l.length := by omega
      refine ⟨by omega, ex_get hk ?_⟩
      refine ⟨fun h6 => ?_, fun h6 => ⟨by omega, ?_⟩⟩
      · rw [idxE, idxI_at hk h2 (decide_eq_true h6)]
      · (refine loop_end [] (k + 1) (by simp only [go_sem, Bool.not_eq_true', Bool.not_eq_false']; rfl) ?_ ?_ ?_; (focus first | omega | (simp only; omega)); (focus (simp only [go_sem, Bool.not_eq_true', Bool.not_eq_false']; done)))
        refine ⟨by omega, fun j hj h7 => ?_⟩
        rcases Nat.lt_succ_iff_lt_or_eq.1 h7 with h8 | h8
        · exact of_decide_eq_false (h2 j hj h8)
        · subst h8; exact h6
    · rw [idxE, idxI_no (fun j hj => h2 j hj (by omega))]
set_option maxRecDepth 100000 in
theorem contains_ok (l : List Int) (x : Int) (hl : l.length ≤ 9223372036854775807) : FnOk Try.prog 106 [.sl 1 (l.map cInt), .raw (.int .i64 x)] [] (.raw (.bool (l.any (fun y => decide (x = y))))) [] := by
  refine fn_of_awp Try.func106 rfl (by kernel_rfl) (by kernel_rfl) (Nat.le_of_ble_eq_true rfl) Try.results106 ?_
  simp only [go_sem, Bool.not_eq_true', Bool.not_eq_false']
  (refine acall2 [] (index_ok l x hl) (by simp only [go_sem, Bool.not_eq_true', Bool.not_eq_false']; rfl) (fit_of (by simp only [go_sem, Bool.not_eq_true', Bool.not_eq_false']) (by simp only [go_sem, Bool.not_eq_true', Bool.not_eq_false']) (by simp only [go_sem, Bool.not_eq_true', Bool.not_eq_false']) (by simp only [go_sem, Bool.not_eq_true', Bool.not_eq_false']) (by simp only [go_sem, Bool.not_eq_true', Bool.not_eq_false']) (by simp only [go_sem, Bool.not_eq_true', Bool.not_eq_false']) (by simp only [go_sem, Bool.not_eq_true', Bool.not_eq_false'])) ?_; simp only [go_sem, Bool.not_eq_true', Bool.not_eq_false'])
  exact (idxI_any _ _).symm
def insI (l : List LNo) (b : Int) : Bool := decide ((styN l b).inside = 1)
set_option maxRecDepth 100000 in
set_option maxHeartbeats 4000000 in
theorem with1_ok (l : List LNo) (of : List Int) (k b : Int) (x : LKin) (hb : hasN l b = true) : FnOk Try.prog 105 [.raw (.int .i64 b), .hdr 0] [(0, .cells 95 (lPl l of k x))] (.raw (.bool (insI l b))) [(0, .cells 95 (lPl l of k x))] := by
  have hh := hasN_iff.1 hb
  obtain ⟨n, rfl⟩ : ∃ n : Nat, b = n := ⟨b.toNat, by omega⟩
  have hn : n < l.length := by omega
  rw [insI, styN_get hn]
  refine fn_of_awp Try.func105 rfl (by kernel_rfl) (by kernel_rfl) (Nat.le_of_ble_eq_true rfl) Try.results105 ?_
  simp only [go_sem, Bool.not_eq_true', Bool.not_eq_false', List.length_map]
  refine ⟨by omega, ex_get hn ?_⟩
  (refine ret2 [] (by simp only [go_sem, Bool.not_eq_true', Bool.not_eq_false']; rfl) ?_; simp only [go_sem, Bool.not_eq_true', Bool.not_eq_false'])
set_option maxRecDepth 100000 in
theorem idxW_ok (l : List LNo) (of : List Int) (k : Int) (x : LKin) (r : List Int) (hr : r.length ≤ 1000) (hb : ∀ b ∈ r, hasN l b = true) : FnOk Try.prog 67 [.sl 1 (r.map cInt), .clo (.func 105) [.hdr 0]] [(0, .cells 95 (lPl l of k x))] (.raw (.int .i64 (idxI (insI l) r))) [(0, .cells 95 (lPl l of k x))] := by
  refine fn_of_awp Try.func67 rfl (by kernel_rfl) (by kernel_rfl) (Nat.le_of_ble_eq_true rfl) Try.results67 ?_
  simp only [go_sem, Bool.not_eq_true', Bool.not_eq_false', List.length_map]
  refine aloop2 [] (fun m : Nat => ⟨[(0, .sl 1 (r.map cInt)), (1, .clo (.func 105) [.hdr 0]), (7, .raw (.int .i64 r.length)), (8, .raw (.int .i64 m))], [(0, some (.cells 95 (lPl l of k x)))], none⟩) (fun m => m ≤ r.length ∧ ∀ j (hj : j < r.length), j < m → insI l r[j] = false) (fun m => r.length - m) 4 0 (by simp only [go_sem, Bool.not_eq_true', Bool.not_eq_false']; rfl) (by simp only [go_sem, Bool.not_eq_true', Bool.not_eq_false']) ?_ ?_
  · exact ⟨Nat.zero_le _, fun j _ h => absurd h (Nat.not_lt_zero j)⟩
  · rintro m ⟨h1, h2⟩
    simp only [go_sem, Bool.not_eq_true', Bool.not_eq_false', List.length_map]
    refine ⟨fun h5 => ?_, fun h5 => ?_⟩
    · have hk : m < r.length := by omega
      refine ⟨by omega, ex_get hk ?_⟩
      (refine acall2 [] (with1_ok l of k r[m] x (hb _ (List.getElem_mem hk))) (by simp only [go_sem, Bool.not_eq_true', Bool.not_eq_false']; rfl) (fit_of (by simp only [go_sem, Bool.not_eq_true', Bool.not_eq_false']) (by simp only [go_sem, Bool.not_eq_true', Bool.not_eq_false']) (by simp only [go_sem, Bool.not_eq_true', Bool.not_eq_false']) (by simp only [go_sem, Bool.not_eq_true', Bool.not_eq_false']) (by simp only [go_sem, Bool.not_eq_true', Bool.not_eq_false']) (by simp only [go_sem, Bool.not_eq_true', Bool.not_eq_false']) (by simp only [go_sem, Bool.not_eq_true', Bool.not_eq_false'])) ?_; simp only [go_sem, Bool.not_eq_true', Bool.not_eq_false'])
      refine ⟨fun h6 => ?_, fun h6 => ⟨by omega, ?_⟩⟩
      · rw [idxI_at hk h2 h6]
        (refine ret2 [] (by simp only [go_sem, Bool.not_eq_true', Bool.not_eq_false']; rfl) ?_; simp only [go_sem, Bool.not_eq_true', Bool.not_eq_false'])
      · (refine loop_end [] (m + 1) (by simp only [go_sem, Bool.not_eq_true', Bool.not_eq_false']; rfl) ?_ ?_ ?_; (focus first | omega | (simp only; omega)); (focus (simp only [go_sem, Bool.not_eq_true', Bool.not_eq_false']; done)))
        refine ⟨by omega, fun j hj h7 => ?_⟩
        rcases Nat.lt_succ_iff_lt_or_eq.1 h7 with h8 | h8
        · exact h2 j hj h8
        · subst h8; exact h6
    · rw [idxI_no (fun j hj => h2 j hj (by omega))]
      (refine ret2 [] (by simp only [go_sem, Bool.not_eq_true', Bool.not_eq_false']; rfl) ?_; simp only [go_sem, Bool.not_eq_true', Bool.not_eq_false'])
set_option maxRecDepth 100000 in
theorem anyW_ok (l : List LNo) (of : List Int) (k : Int) (x : LKin) (r : List Int) (hr : r.length ≤ 1000) (hb : ∀ b ∈ r, hasN l b = true) : FnOk Try.prog 104 [.sl 1 (r.map cInt), .clo (.func 105) [.hdr 0]] [(0, .cells 95 (lPl l of k x))] (.raw (.bool (r.any (insI l)))) [(0, .cells 95 (lPl l of k x))] := by
  refine fn_of_awp Try.func104 rfl (by kernel_rfl) (by kernel_rfl) (Nat.le_of_ble_eq_true rfl) Try.results104 ?_
  simp only [go_sem, Bool.not_eq_true', Bool.not_eq_false']
  (refine acall2 [] (idxW_ok l of k x r hr hb) (by simp only [go_sem, Bool.not_eq_true', Bool.not_eq_false']; rfl) (fit_of (by simp only [go_sem, Bool.not_eq_true', Bool.not_eq_false']) (by simp only [go_sem, Bool.not_eq_true', Bool.not_eq_false']) (by simp only [go_sem, Bool.not_eq_true', Bool.not_eq_false']) (by simp only [go_sem, Bool.not_eq_true', Bool.not_eq_false']) (by simp only [go_sem, Bool.not_eq_true', Bool.not_eq_false']) (by simp only [go_sem, Bool.not_eq_true', Bool.not_eq_false']) (by simp only [go_sem, Bool.not_eq_true', Bool.not_eq_false'])) ?_; simp only [go_sem, Bool.not_eq_true', Bool.not_eq_false'])
  rw [← idxI_any]
  (refine ret2 [] (by simp only [go_sem, Bool.not_eq_true', Bool.not_eq_false']; rfl) ?_; simp only [go_sem, Bool.not_eq_true', Bool.not_eq_false'])
set_option maxRecDepth 100000 in
theorem within_ok (l : List LNo) (of : List Int) (k : Int) (x : LKin) (hr : x.both.length ≤ 1000) (hb : ∀ b ∈ x.both, hasN l b = true) : FnOk Try.prog 82 [sPl l of k x] [] (.raw (.bool (x.both.any (insI l)))) [] := by
  refine fn_of_awp Try.func82 rfl (by kernel_rfl) (by kernel_rfl) (Nat.le_of_ble_eq_true rfl) Try.results82 ?_
  simp only [go_sem, Bool.not_eq_true', Bool.not_eq_false']
  (refine acall2 [] (anyW_ok l of k x x.both hr hb) (by simp only [go_sem, Bool.not_eq_true', Bool.not_eq_false']; rfl) (fit_of (by simp only [go_sem, Bool.not_eq_true', Bool.not_eq_false']) (by simp only [go_sem, Bool.not_eq_true', Bool.not_eq_false']) (by simp only [go_sem, Bool.not_eq_true', Bool.not_eq_false']) (by simp only [go_sem, Bool.not_eq_true', Bool.not_eq_false']) (by simp only [go_sem, Bool.not_eq_true', Bool.not_eq_false']) (by simp only [go_sem, Bool.not_eq_true', Bool.not_eq_false']) (by simp only [go_sem, Bool.not_eq_true', Bool.not_eq_false'])) ?_; simp only [go_sem, Bool.not_eq_true', Bool.not_eq_false'])
/-- does what is asked avoid a break? -/
def betB (l : List LNo) (of : List Int) (k : Int) : Bool := (askA l of k).any (fun y => decide (1 = y))
set_option maxRecDepth 100000 in
theorem betw18_ok (l : List LNo) (of : List Int) (k : Int) (x : LKin) (hl : l.length ≤ 1000) (ho : of.length ≤ 1000) (hw : ∀ x ∈ l, x.words.length ≤ 9223372036854775807) : FnOk Try.prog 83 [sPl l of k x] [] (.raw (.bool (betB l of k))) [] := by
  have hn := askA_len l of k
  refine fn_of_awp Try.func83 rfl (by kernel_rfl) (by kernel_rfl) (Nat.le_of_ble_eq_true rfl) Try.results83 ?_
  simp only [go_sem, Bool.not_eq_true', Bool.not_eq_false']
  (refine acall2 [] (askA_ok l of k hl ho hw) (by simp only [go_sem, Bool.not_eq_true', Bool.not_eq_false']; rfl) (fit_of (by simp only [go_sem, Bool.not_eq_true', Bool.not_eq_false']) (by simp only [go_sem, Bool.not_eq_true', Bool.not_eq_false']) (by simp only [go_sem, Bool.not_eq_true', Bool.not_eq_false']) (by simp only [go_sem, Bool.not_eq_true', Bool.not_eq_false']) (by simp only [go_sem, Bool.not_eq_true', Bool.not_eq_false']) (by simp only [go_sem, Bool.not_eq_true', Bool.not_eq_false']) (by simp only [go_sem, Bool.not_eq_true', Bool.not_eq_false'])) ?_; simp only [go_sem, Bool.not_eq_true', Bool.not_eq_false'])
  (refine acallF2 [72 ] [] ( contains_ok (askA l of k) 1 (by omega)) (by simp only [go_sem, Bool.not_eq_true', Bool.not_eq_false']; rfl) (fit_of (by simp only [go_sem, Bool.not_eq_true', Bool.not_eq_false']) (by simp only [go_sem, Bool.not_eq_true', Bool.not_eq_false']) (by simp only [go_sem, Bool.not_eq_true', Bool.not_eq_false']) (by simp only [go_sem, Bool.not_eq_true', Bool.not_eq_false']) (by simp only [go_sem, Bool.not_eq_true', Bool.not_eq_false']) (by simp only [go_sem, Bool.not_eq_true', Bool.not_eq_false']) (by simp only [go_sem, Bool.not_eq_true', Bool.not_eq_false'])) ?_; simp only [go_sem, Bool.not_eq_true', Bool.not_eq_false'])
  rfl
theorem docN_is {l : List LNo} (h : isS l = true) : docN l = l := by unfold docN; rw [if_pos h]
/-- the style that minds about lines. -/
def stP (l : List LNo) (t : Int) : LSty := if 0 ≤ parN l t then styN l (parN l t) else sty2
def fewB (l : List LNo) (of : List Int) (k : Int) (x : LKin) : Bool := decide (0 ≤ x.text) && (decide (linA of k x.text < (stP l x.text).orphans) || decide (linB of k x.text < (stP l x.text).widows))
theorem plain_ok : FnOk Try.prog 103 [] [] (aSty sty2) [] := by
  refine fn_of_awp Try.func103 rfl (by kernel_rfl) (by kernel_rfl) (Nat.le_of_ble_eq_true rfl) Try.results103 ?_
  simp only [go_sem, Bool.not_eq_true', Bool.not_eq_false']
theorem parN_ran (l : List LNo) (t : Int) : parN l t < l.length := by
  unfold parN
  split
  · next h =>
    have h1 := hasN_iff.1 h
    have := parI_lt l t t.toNat
    omega
  · omega
set_option maxRecDepth 100000 in
set_option maxHeartbeats 4000000 in
theorem few_ok (l : List LNo) (of : List Int) (k : Int) (x : LKin) (hl : l.length ≤ 1000) (ho : of.length ≤ 1000) (hw : ∀ x ∈ l, x.words.length ≤ 9223372036854775807) (hv : isS l = true) : FnOk Try.prog 81 [sPl l of k x] [] (.raw (.bool (fewB l of k x))) [] := by
  have hp := parN_ran l x.text
  have hpar := parent8_ok l x.text hl hw
  rw [docN_is hv] at hpar
  refine fn_of_swp Try.func81 rfl (by kernel_rfl) (by kernel_rfl) (Nat.le_of_ble_eq_true rfl) Try.results81 ?_
  (refine swp_seqW ?_; simp only [go_sem, Bool.not_eq_true', Bool.not_eq_false'])
  (refine swp_seqW ?_; simp only [go_sem, Bool.not_eq_true', Bool.not_eq_false'])
  refine ⟨fun h => ?_, fun h => ?_⟩
  · have e : fewB l of k x = false := by simp only [fewB, Bool.and_eq_false_iff, decide_eq_false_iff_not]; omega
    rw [e]
  have e0 : fewB l of k x = (decide (linA of k x.text < (stP l x.text).orphans) || decide (linB of k x.text < (stP l x.text).widows)) := by
    have : decide (0 ≤ x.text) = true := decide_eq_true (by omega)
    rw [fewB, this, Bool.true_and]
  rw [e0]
  (refine swp_seqW ?_; simp only [go_sem, Bool.not_eq_true', Bool.not_eq_false'])
  (refine acall2 [] (plain_ok) (by simp only [go_sem, Bool.not_eq_true', Bool.not_eq_false']; rfl) (fit_of (by simp only [go_sem, Bool.not_eq_true', Bool.not_eq_false']) (by simp only [go_sem, Bool.not_eq_true', Bool.not_eq_false']) (by simp only [go_sem, Bool.not_eq_true', Bool.not_eq_false']) (by simp only [go_sem, Bool.not_eq_true', Bool.not_eq_false']) (by simp only [go_sem, Bool.not_eq_true', Bool.not_eq_false']) (by simp only [go_sem, Bool.not_eq_true', Bool.not_eq_false']) (by simp only [go_sem, Bool.not_eq_true', Bool.not_eq_false'])) ?_; simp only [go_sem, Bool.not_eq_true', Bool.not_eq_false'])
  refine swp_cutS (fun _ : Unit => ⟨[(1, .hdr 8), (3, .hdr 64)], [(8, some (.cells 95 (lPl l of k x))), (64, some (.cells 43 (lSty (stP l x.text))))], none⟩) (fun _ => True) 20 ?_ ?_
  · (refine swp_lastW ?_; simp only [go_sem, Bool.not_eq_true', Bool.not_eq_false'])
    (refine acall2 [] (hpar) (by simp only [go_sem, Bool.not_eq_true', Bool.not_eq_false']; rfl) (fit_of (by simp only [go_sem, Bool.not_eq_true', Bool.not_eq_false']) (by simp only [go_sem, Bool.not_eq_true', Bool.not_eq_false']) (by simp only [go_sem, Bool.not_eq_true', Bool.not_eq_false']) (by simp only [go_sem, Bool.not_eq_true', Bool.not_eq_false']) (by simp only [go_sem, Bool.not_eq_true', Bool.not_eq_false']) (by simp only [go_sem, Bool.not_eq_true', Bool.not_eq_false']) (by simp only [go_sem, Bool.not_eq_true', Bool.not_eq_false'])) ?_; simp only [go_sem, Bool.not_eq_true', Bool.not_eq_false'])
    refine ⟨fun q => ?_, fun q => ?_⟩
    · have e : stP l x.text = styN l (parN l x.text) := if_pos (by omega)
      rw [e]
      generalize parN l x.text = b at hp q ⊢
      obtain ⟨n, rfl⟩ : ∃ n : Nat, b = n := ⟨b.toNat, by omega⟩
      have hn : n < l.length := by omega
      rw [styN_get hn]
      refine ⟨by omega, ?_⟩
      simp only [Int.toNat_natCast]
      refine ex_get hn ?_
      (refine cut_end [] (()) (by simp only [go_sem, Bool.not_eq_true', Bool.not_eq_false']; rfl) ?_ ?_; (focus (simp only [go_sem, Bool.not_eq_true', Bool.not_eq_false']; done)))
      trivial
    · have e : stP l x.text = sty2 := if_neg (by omega)
      rw [e]
      (refine cut_end [] (()) (by simp only [go_sem, Bool.not_eq_true', Bool.not_eq_false']; rfl) ?_ ?_; (focus (simp only [go_sem, Bool.not_eq_true', Bool.not_eq_false']; done)))
      trivial
  rintro - -
  generalize stP l x.text = s
  (refine swp_seqW ?_; simp only [go_sem, Bool.not_eq_true', Bool.not_eq_false'])
  (refine acall2 [] (lines_ok l of k x ho) (by simp only [go_sem, Bool.not_eq_true', Bool.not_eq_false']; rfl) (fit_of (by simp only [go_sem, Bool.not_eq_true', Bool.not_eq_false']) (by simp only [go_sem, Bool.not_eq_true', Bool.not_eq_false']) (by simp only [go_sem, Bool.not_eq_true', Bool.not_eq_false']) (by simp only [go_sem, Bool.not_eq_true', Bool.not_eq_false']) (by simp only [go_sem, Bool.not_eq_true', Bool.not_eq_false']) (by simp only [go_sem, Bool.not_eq_true', Bool.not_eq_false']) (by simp only [go_sem, Bool.not_eq_true', Bool.not_eq_false'])) ?_; simp only [go_sem, Bool.not_eq_true', Bool.not_eq_false'])
  (refine swp_lastW ?_; simp only [go_sem, Bool.not_eq_true', Bool.not_eq_false'])
  repeat' first | contradiction | intro _ | refine And.intro ?_ ?_ | refine ex_get (by omega) ?_ | (show drawB _ _ = true; kernel_rfl) | (refine ret2 [] (by simp only [go_sem, Bool.not_eq_true', Bool.not_eq_false']; rfl) ?_; simp only [go_sem, Bool.not_eq_true', Bool.not_eq_false'])
  all_goals simp only [*, decide_true, decide_false, Bool.true_or, Bool.false_or]
end Go.Proofs.Ytbgcmnccjfdooaa
/- CHAPTER 18: rank.At. -/
/- G -/
/- BOOLS -/
set_option linter.unusedSimpArgs false
set_option linter.unusedVariables false
namespace Go.Proofs.Ytbgcmnccjfdooaa
open Go.RowKit

def rnkP (f w b : Bool) : Nat → Int
  | 0 => 0
  | 1 => if f = true then 1 else 0
  | 2 => (if f = true then 1 else 0) + (if w = true then 2 else 0)
  | _ => (if f = true then 1 else 0) + (if w = true then 2 else 0) + (if b = true then 4 else 0)
def rnkK (l : List LNo) (of : List Int) (k : Int) (x : LKin) : Int := rnkP (fewB l of k x) (x.both.any (insI l)) (betB l of k) 3
def rnkA (l : List LNo) (of : List Int) (k : Int) : Int := if kinG l of k = true ∧ k ≠ 0 ∧ k ≠ of.length then rnkK l of k (kinA l of k) else 0
theorem both_has (l : List LNo) (of : List Int) (k : Int) : ∀ b ∈ (kinA l of k).both, hasN l b = true := by
  unfold kinA
  split
  · next h =>
    rw [kinG, Bool.and_eq_true] at h
    have hv := (chk_has h.1).1
    exact fun b hb => choS_has hv hb
  · exact fun b hb => (List.not_mem_nil hb).elim
def bPl (l : List LNo) (of : List Int) (k : Int) (x : LKin) : List AV := [.bnd (.func 81) [sPl l of k x], .bnd (.func 82) [sPl l of k x], .bnd (.func 83) [sPl l of k x]]
attribute [go_sem] bPl
set_option maxRecDepth 100000 in
set_option maxHeartbeats 8000000 in
theorem rnkA_ok (l : List LNo) (of : List Int) (k : Int) (hl : l.length ≤ 1000) (ho : of.length ≤ 1000) (hw : ∀ x ∈ l, x.words.length ≤ 9223372036854775807) : FnOk Try.prog 41 [.sl 20 (l.map cNo), .sl 1 (of.map cInt), .raw (.int .i64 k)] [] (.tup [.raw (.int .i64 (rnkA l of k)), .raw (.int .i64 (errB (kinG l of k)))]) [] := by
  have hn := kinA_len l of k
  have hbo := both_has l of k
  refine fn_of_swp Try.func41 rfl (by kernel_rfl) (by kernel_rfl) (Nat.le_of_ble_eq_true rfl) Try.results41 ?_
  (refine swp_seqW ?_; simp only [go_sem, Bool.not_eq_true', Bool.not_eq_false'])
  refine swp_cutS (fun _ : Unit => ⟨[(1, .sl 1 (of.map cInt)), (2, .raw (.int .i64 k)), (8, .hdr 800), (9, .raw (.int .i64 (errB (kinG l of k))))], [(800, some (.cells 95 (lPl l of k (kinA l of k))))], none⟩) (fun _ => True) 120 ?_ ?_
  · (refine swp_lastW ?_; simp only [go_sem, Bool.not_eq_true', Bool.not_eq_false'])
    (refine acall2 [] (at18_ok l of k hl ho hw) (by simp only [go_sem, Bool.not_eq_true', Bool.not_eq_false']; rfl) (fit_of (by simp only [go_sem, Bool.not_eq_true', Bool.not_eq_false']) (by simp only [go_sem, Bool.not_eq_true', Bool.not_eq_false']) (by simp only [go_sem, Bool.not_eq_true', Bool.not_eq_false']) (by simp only [go_sem, Bool.not_eq_true', Bool.not_eq_false']) (by simp only [go_sem, Bool.not_eq_true', Bool.not_eq_false']) (by simp only [go_sem, Bool.not_eq_true', Bool.not_eq_false']) (by simp only [go_sem, Bool.not_eq_true', Bool.not_eq_false'])) ?_; simp only [go_sem, Bool.not_eq_true', Bool.not_eq_false'])
    (refine cut_end [48, 49, 50 ] ( ()) (by simp only [go_sem, Bool.not_eq_true', Bool.not_eq_false']; rfl) ?_ ?_; (focus (simp only [go_sem, Bool.not_eq_true', Bool.not_eq_false']; done)))
    trivial
  rintro - -
  have e4 : errB false = 4 := rfl
  have e3 : errB true = 0 := rfl
  by_cases hq : kinG l of k = true ∧ k ≠ 0 ∧ k ≠ of.length
  rotate_left
  · have e : rnkA l of k = 0 := if_neg hq
    rw [e]
    rcases hg : kinG l of k with _ | _
    · rw [e4]
      (refine swp_seqW ?_; simp only [go_sem, Bool.not_eq_true', Bool.not_eq_false', List.length_map])
      repeat' first | contradiction | intro _ | refine And.intro ?_ ?_ | refine ex_get (by omega) ?_ | (show drawB _ _ = true; kernel_rfl) | (refine ret2 [] (by simp only [go_sem, Bool.not_eq_true', Bool.not_eq_false']; rfl) ?_; simp only [go_sem, Bool.not_eq_true', Bool.not_eq_false'])
      all_goals first
        | omega
        | rfl
        | skip
    · rw [e3]
      (refine swp_seqW ?_; simp only [go_sem, Bool.not_eq_true', Bool.not_eq_false', List.length_map])
      repeat' first | contradiction | intro _ | refine And.intro ?_ ?_ | refine ex_get (by omega) ?_ | (show drawB _ _ = true; kernel_rfl) | (refine ret2 [] (by simp only [go_sem, Bool.not_eq_true', Bool.not_eq_false']; rfl) ?_; simp only [go_sem, Bool.not_eq_true', Bool.not_eq_false'])
      all_goals first
        | omega
        | rfl
        | exact absurd ⟨hg, by assumption, by assumption⟩ hq
        | skip
  have e : rnkA l of k = rnkK l of k (kinA l of k) := if_pos hq
  obtain ⟨hg, hk, hb⟩ := hq
  rw [e, hg, e3]
  have hc : chkB l of = true := by
    rw [kinG, Bool.and_eq_true] at hg
    exact hg.1
  have hv := (chk_has hc).1
  generalize kinA l of k = x at *
  (refine swp_seqW ?_; simp only [go_sem, Bool.not_eq_true', Bool.not_eq_false', List.length_map])
  refine ⟨fun _ => ⟨fun q => absurd q hb, fun _ => ?_⟩, fun q => absurd q hk⟩
  (refine swp_seqW ?_; simp only [go_sem, Bool.not_eq_true', Bool.not_eq_false'])
  (refine swp_seqW ?_; simp only [go_sem, Bool.not_eq_true', Bool.not_eq_false'])
  have cF := few_ok l of k x hl ho hw hv
  have cW := within_ok l of k x (by omega) hbo
  have cB := betw18_ok l of k x hl ho hw
  rw [rnkK]
  generalize fewB l of k x = f at cF ⊢
  generalize x.both.any (insI l) = w at cW ⊢
  generalize betB l of k = b at cB ⊢
  refine swp_cutS (fun _ : Unit => ⟨[(11, .raw (.int .i64 (rnkP f w b 3)))], [], none⟩) (fun _ => True) 160 ?_ ?_
  · (refine swp_seqW ?_; simp only [go_sem, Bool.not_eq_true', Bool.not_eq_false'])
    refine swp_block ?_
    refine swp_loop2 [] (fun i : Nat => ⟨[(11, .raw (.int .i64 (rnkP f w b i))), (41, .agg (bPl l of k x)), (42, .raw (.int .i64 i))], [], none⟩) (fun i => i ≤ 3) (fun i => 3 - i) 200 0 (by simp only [go_sem, Bool.not_eq_true', Bool.not_eq_false']; rfl) (by simp only [go_sem, Bool.not_eq_true', Bool.not_eq_false', rnkP]) ?_ ?_
    · exact Nat.zero_le _
    · rintro i hi
      (refine swp_seqW ?_; simp only [go_sem, Bool.not_eq_true', Bool.not_eq_false'])
      (refine swp_seqW ?_; simp only [go_sem, Bool.not_eq_true', Bool.not_eq_false'])
      refine ⟨fun h5 => ?_, fun h5 => ?_⟩
      rotate_left
      · have e5 : i = 3 := by omega
        rw [e5]
        (refine cut_end [] (()) (by simp only [go_sem, Bool.not_eq_true', Bool.not_eq_false']; rfl) ?_ ?_; (focus (simp only [go_sem, Bool.not_eq_true', Bool.not_eq_false']; done)))
        trivial
      refine swp_seqS ?_
      refine swp_block ?_
      rcases (by omega : i = 0 ∨ i = 1 ∨ i = 2) with rfl | rfl | rfl
      · refine swp_seqS ?_
        refine swp_region (sli_cons rfl (does_move _ (.inl rfl)) (sli_cons rfl (does_arrIdx (l := bPl l of k x) (kd := .i64) (q := 0) rfl Try.underlying99 (by kernel_rfl) Try.underlying25 rfl (by simp only [go_sem, Bool.not_eq_true', Bool.not_eq_false']) (by simp only [go_sem, Bool.not_eq_true', Bool.not_eq_false']) (by omega) (by omega) rfl) (sli_cons rfl (does_move _ (.inr rfl)) (sli_cons rfl (does_move _ (.inr rfl)) (sli_nil ?_)))))
        simp only [go_sem, Bool.not_eq_true', Bool.not_eq_false']
        (refine swp_seqW ?_; simp only [go_sem, Bool.not_eq_true', Bool.not_eq_false'])
        (refine acallM2 [] (cF) (by simp only [go_sem, Bool.not_eq_true', Bool.not_eq_false']; rfl) (fit_of (by simp only [go_sem, Bool.not_eq_true', Bool.not_eq_false']) (by simp only [go_sem, Bool.not_eq_true', Bool.not_eq_false']) (by simp only [go_sem, Bool.not_eq_true', Bool.not_eq_false']) (by simp only [go_sem, Bool.not_eq_true', Bool.not_eq_false']) (by simp only [go_sem, Bool.not_eq_true', Bool.not_eq_false']) (by simp only [go_sem, Bool.not_eq_true', Bool.not_eq_false']) (by simp only [go_sem, Bool.not_eq_true', Bool.not_eq_false'])) ?_; simp only [go_sem, Bool.not_eq_true', Bool.not_eq_false'])
        rcases f with _ | _
        · (refine swp_condW ?_; simp only [go_sem, Bool.not_eq_true', Bool.not_eq_false'])
          (refine swp_lastW ?_; simp only [go_sem, Bool.not_eq_true', Bool.not_eq_false'])
          (refine swp_lastW ?_; simp only [go_sem, Bool.not_eq_true', Bool.not_eq_false'])
          refine ⟨by omega, ?_⟩
          have eo : rnkP false w b 0 = rnkP false w b 1 := by simp [rnkP]
          rw [eo]
          refine loop_end [] (0 + 1) (by simp only [go_sem, Bool.not_eq_true', Bool.not_eq_false']; rfl) ?_ ?_ ?_
          · omega
          · simp only [go_sem, Bool.not_eq_true', Bool.not_eq_false']
            omega
          · omega
        · (refine swp_condW ?_; simp only [go_sem, Bool.not_eq_true', Bool.not_eq_false'])
          refine swp_region (sli_cons rfl (does_move _ (.inl rfl)) (sli_cons rfl (does_move _ (.inl rfl)) (sli_cons rfl (does_shl (kb := .i64) (a := 1) (b := 0) rfl (by simp only [go_sem, Bool.not_eq_true', Bool.not_eq_false']) (by simp only [go_sem, Bool.not_eq_true', Bool.not_eq_false']) (by omega) (by omega)) (sli_cons rfl (does_int (k := rnkP true w b 0) (l := IntKind.i64.wrap (1 * 2 ^ (0 : Int).toNat)) rfl (by simp only [go_sem, Bool.not_eq_true', Bool.not_eq_false']) (by simp only [go_sem, Bool.not_eq_true', Bool.not_eq_false']) rfl trivial) (sli_cons rfl (does_move _ (.inr rfl)) (sli_nil ?_))))))
          have eo : orI (rnkP true w b 0) (IntKind.i64.wrap (1 * 2 ^ (0 : Int).toNat)) = rnkP true w b 1 := by
            cases w <;> cases b <;> rfl
          rw [eo]
          simp only [go_sem, Bool.not_eq_true', Bool.not_eq_false']
          (refine swp_lastW ?_; simp only [go_sem, Bool.not_eq_true', Bool.not_eq_false'])
          refine ⟨by omega, ?_⟩
          refine loop_end [] (0 + 1) (by simp only [go_sem, Bool.not_eq_true', Bool.not_eq_false']; rfl) ?_ ?_ ?_
          · omega
          · simp only [go_sem, Bool.not_eq_true', Bool.not_eq_false']
            omega
          · omega
      · refine swp_seqS ?_
        refine swp_region (sli_cons rfl (does_move _ (.inl rfl)) (sli_cons rfl (does_arrIdx (l := bPl l of k x) (kd := .i64) (q := 1) rfl Try.underlying99 (by kernel_rfl) Try.underlying25 rfl (by simp only [go_sem, Bool.not_eq_true', Bool.not_eq_false']) (by simp only [go_sem, Bool.not_eq_true', Bool.not_eq_false']) (by omega) (by omega) rfl) (sli_cons rfl (does_move _ (.inr rfl)) (sli_cons rfl (does_move _ (.inr rfl)) (sli_nil ?_)))))
        simp only [go_sem, Bool.not_eq_true', Bool.not_eq_false']
        (refine swp_seqW ?_; simp only [go_sem, Bool.not_eq_true', Bool.not_eq_false'])
        (refine acallM2 [] (cW) (by simp only [go_sem, Bool.not_eq_true', Bool.not_eq_false']; rfl) (fit_of (by simp only [go_sem, Bool.not_eq_true', Bool.not_eq_false']) (by simp only [go_sem, Bool.not_eq_true', Bool.not_eq_false']) (by simp only [go_sem, Bool.not_eq_true', Bool.not_eq_false']) (by simp only [go_sem, Bool.not_eq_true', Bool.not_eq_false']) (by simp only [go_sem, Bool.not_eq_true', Bool.not_eq_false']) (by simp only [go_sem, Bool.not_eq_true', Bool.not_eq_false']) (by simp only [go_sem, Bool.not_eq_true', Bool.not_eq_false'])) ?_; simp only [go_sem, Bool.not_eq_true', Bool.not_eq_false'])
        rcases w with _ | _
        · (refine swp_condW ?_; simp only [go_sem, Bool.not_eq_true', Bool.not_eq_false'])
          (refine swp_lastW ?_; simp only [go_sem, Bool.not_eq_true', Bool.not_eq_false'])
          (refine swp_lastW ?_; simp only [go_sem, Bool.not_eq_true', Bool.not_eq_false'])
          refine ⟨by omega, ?_⟩
          have eo : rnkP f false b 1 = rnkP f false b 2 := by simp [rnkP]
          rw [eo]
          refine loop_end [] (1 + 1) (by simp only [go_sem, Bool.not_eq_true', Bool.not_eq_false']; rfl) ?_ ?_ ?_
          · omega
          · simp only [go_sem, Bool.not_eq_true', Bool.not_eq_false']
            omega
          · omega
        · (refine swp_condW ?_; simp only [go_sem, Bool.not_eq_true', Bool.not_eq_false'])
          refine swp_region (sli_cons rfl (does_move _ (.inl rfl)) (sli_cons rfl (does_move _ (.inl rfl)) (sli_cons rfl (does_shl (kb := .i64) (a := 1) (b := 1) rfl (by simp only [go_sem, Bool.not_eq_true', Bool.not_eq_false']) (by simp only [go_sem, Bool.not_eq_true', Bool.not_eq_false']) (by omega) (by omega)) (sli_cons rfl (does_int (k := rnkP f true b 1) (l := IntKind.i64.wrap (1 * 2 ^ (1 : Int).toNat)) rfl (by simp only [go_sem, Bool.not_eq_true', Bool.not_eq_false']) (by simp only [go_sem, Bool.not_eq_true', Bool.not_eq_false']) rfl trivial) (sli_cons rfl (does_move _ (.inr rfl)) (sli_nil ?_))))))
          have eo : orI (rnkP f true b 1) (IntKind.i64.wrap (1 * 2 ^ (1 : Int).toNat)) = rnkP f true b 2 := by
            cases f <;> cases b <;> rfl
          rw [eo]
          simp only [go_sem, Bool.not_eq_true', Bool.not_eq_false']
          (refine swp_lastW ?_; simp only [go_sem, Bool.not_eq_true', Bool.not_eq_false'])
          refine ⟨by omega, ?_⟩
          refine loop_end [] (1 + 1) (by simp only [go_sem, Bool.not_eq_true', Bool.not_eq_false']; rfl) ?_ ?_ ?_
          · omega
          · simp only [go_sem, Bool.not_eq_true', Bool.not_eq_false']
            omega
          · omega
      · refine swp_seqS ?_
        refine swp_region (sli_cons rfl (does_move _ (.inl rfl)) (sli_cons rfl (does_arrIdx (l := bPl l of k x) (kd := .i64) (q := 2) rfl Try.underlying99 (by kernel_rfl) Try.underlying25 rfl (by simp only [go_sem, Bool.not_eq_true', Bool.not_eq_false']) (by simp only [go_sem, Bool.not_eq_true', Bool.not_eq_false']) (by omega) (by omega) rfl) (sli_cons rfl (does_move _ (.inr rfl)) (sli_cons rfl (does_move _ (.inr rfl)) (sli_nil ?_)))))
        simp only [go_sem, Bool.not_eq_true', Bool.not_eq_false']
        (refine swp_seqW ?_; simp only [go_sem, Bool.not_eq_true', Bool.not_eq_false'])
        (refine acallM2 [] (cB) (by simp only [go_sem, Bool.not_eq_true', Bool.not_eq_false']; rfl) (fit_of (by simp only [go_sem, Bool.not_eq_true', Bool.not_eq_false']) (by simp only [go_sem, Bool.not_eq_true', Bool.not_eq_false']) (by simp only [go_sem, Bool.not_eq_true', Bool.not_eq_false']) (by simp only [go_sem, Bool.not_eq_true', Bool.not_eq_false']) (by simp only [go_sem, Bool.not_eq_true', Bool.not_eq_false']) (by simp only [go_sem, Bool.not_eq_true', Bool.not_eq_false']) (by simp only [go_sem, Bool.not_eq_true', Bool.not_eq_false'])) ?_; simp only [go_sem, Bool.not_eq_true', Bool.not_eq_false'])
        rcases b with _ | _
        · (refine swp_condW ?_; simp only [go_sem, Bool.not_eq_true', Bool.not_eq_false'])
          (refine swp_lastW ?_; simp only [go_sem, Bool.not_eq_true', Bool.not_eq_false'])
          (refine swp_lastW ?_; simp only [go_sem, Bool.not_eq_true', Bool.not_eq_false'])
          refine ⟨by omega, ?_⟩
          have eo : rnkP f w false 2 = rnkP f w false 3 := by simp [rnkP]
          rw [eo]
          refine loop_end [] (2 + 1) (by simp only [go_sem, Bool.not_eq_true', Bool.not_eq_false']; rfl) ?_ ?_ ?_
          · omega
          · simp only [go_sem, Bool.not_eq_true', Bool.not_eq_false']
            omega
          · omega
        · (refine swp_condW ?_; simp only [go_sem, Bool.not_eq_true', Bool.not_eq_false'])
          refine swp_region (sli_cons rfl (does_move _ (.inl rfl)) (sli_cons rfl (does_move _ (.inl rfl)) (sli_cons rfl (does_shl (kb := .i64) (a := 1) (b := 2) rfl (by simp only [go_sem, Bool.not_eq_true', Bool.not_eq_false']) (by simp only [go_sem, Bool.not_eq_true', Bool.not_eq_false']) (by omega) (by omega)) (sli_cons rfl (does_int (k := rnkP f w true 2) (l := IntKind.i64.wrap (1 * 2 ^ (2 : Int).toNat)) rfl (by simp only [go_sem, Bool.not_eq_true', Bool.not_eq_false']) (by simp only [go_sem, Bool.not_eq_true', Bool.not_eq_false']) rfl trivial) (sli_cons rfl (does_move _ (.inr rfl)) (sli_nil ?_))))))
          have eo : orI (rnkP f w true 2) (IntKind.i64.wrap (1 * 2 ^ (2 : Int).toNat)) = rnkP f w true 3 := by
            cases f <;> cases w <;> rfl
          rw [eo]
          simp only [go_sem, Bool.not_eq_true', Bool.not_eq_false']
          (refine swp_lastW ?_; simp only [go_sem, Bool.not_eq_true', Bool.not_eq_false'])
          refine ⟨by omega, ?_⟩
          refine loop_end [] (2 + 1) (by simp only [go_sem, Bool.not_eq_true', Bool.not_eq_false']; rfl) ?_ ?_ ?_
          · omega
          · simp only [go_sem, Bool.not_eq_true', Bool.not_eq_false']
            omega
          · omega
  rintro - -
  (refine swp_lastW ?_; simp only [go_sem, Bool.not_eq_true', Bool.not_eq_false'])
end Go.Proofs.Ytbgcmnccjfdooaa
/- CHAPTER 18: rank.Lines, All; the examples. -/
/- G -/
/- BOOLS -/
set_option linter.unusedSimpArgs false
set_option linter.unusedVariables false
namespace Go.Proofs.Ytbgcmnccjfdooaa
open Go.RowKit

def linK (l : List LNo) (of : List Int) (k : Int) (f : Int → Int → Int) : Int := if kinG l of k = true then f k (kinA l of k).text else 0
set_option maxRecDepth 100000 in
set_option maxHeartbeats 4000000 in
theorem linK_ok (l : List LNo) (of : List Int) (k : Int) (hl : l.length ≤ 1000) (ho : of.length ≤ 1000) (hw : ∀ x ∈ l, x.words.length ≤ 9223372036854775807) : FnOk Try.prog 40 [.sl 20 (l.map cNo), .sl 1 (of.map cInt), .raw (.int .i64 k)] [] (.tup [.raw (.int .i64 (linK l of k (linA of))), .raw (.int .i64 (linK l of k (linB of))), .raw (.int .i64 (errB (kinG l of k)))]) [] := by
  refine fn_of_swp Try.func40 rfl (by kernel_rfl) (by kernel_rfl) (Nat.le_of_ble_eq_true rfl) Try.results40 ?_
  (refine swp_seqW ?_; simp only [go_sem, Bool.not_eq_true', Bool.not_eq_false'])
  refine swp_cutS (fun _ : Unit => ⟨[(8, .raw (.int .i64 (errB (kinG l of k)))), (9, .hdr 800)], [(800, some (.cells 95 (lPl l of k (kinA l of k))))], none⟩) (fun _ => True) 120 ?_ ?_
  · (refine swp_lastW ?_; simp only [go_sem, Bool.not_eq_true', Bool.not_eq_false'])
    (refine acall2 [] (at18_ok l of k hl ho hw) (by simp only [go_sem, Bool.not_eq_true', Bool.not_eq_false']; rfl) (fit_of (by simp only [go_sem, Bool.not_eq_true', Bool.not_eq_false']) (by simp only [go_sem, Bool.not_eq_true', Bool.not_eq_false']) (by simp only [go_sem, Bool.not_eq_true', Bool.not_eq_false']) (by simp only [go_sem, Bool.not_eq_true', Bool.not_eq_false']) (by simp only [go_sem, Bool.not_eq_true', Bool.not_eq_false']) (by simp only [go_sem, Bool.not_eq_true', Bool.not_eq_false']) (by simp only [go_sem, Bool.not_eq_true', Bool.not_eq_false'])) ?_; simp only [go_sem, Bool.not_eq_true', Bool.not_eq_false'])
    (refine cut_end [56, 57, 58 ] ( ()) (by simp only [go_sem, Bool.not_eq_true', Bool.not_eq_false']; rfl) ?_ ?_; (focus (simp only [go_sem, Bool.not_eq_true', Bool.not_eq_false']; done)))
    trivial
  rintro - -
  have e1 : ∀ f, linK l of k f = if kinG l of k = true then f k (kinA l of k).text else 0 := fun f => rfl
  rw [e1, e1]
  rcases hg : kinG l of k with _ | _
  · have e4 : errB false = 4 := rfl
    rw [e4]
    (refine swp_seqW ?_; simp only [go_sem, Bool.not_eq_true', Bool.not_eq_false'])
    exact fun q => by omega
  · have e3 : errB true = 0 := rfl
    rw [e3]
    (refine swp_seqW ?_; simp only [go_sem, Bool.not_eq_true', Bool.not_eq_false'])
    (refine swp_lastW ?_; simp only [go_sem, Bool.not_eq_true', Bool.not_eq_false'])
    (refine acall2 [] (lines_ok l of k (kinA l of k) ho) (by simp only [go_sem, Bool.not_eq_true', Bool.not_eq_false']; rfl) (fit_of (by simp only [go_sem, Bool.not_eq_true', Bool.not_eq_false']) (by simp only [go_sem, Bool.not_eq_true', Bool.not_eq_false']) (by simp only [go_sem, Bool.not_eq_true', Bool.not_eq_false']) (by simp only [go_sem, Bool.not_eq_true', Bool.not_eq_false']) (by simp only [go_sem, Bool.not_eq_true', Bool.not_eq_false']) (by simp only [go_sem, Bool.not_eq_true', Bool.not_eq_false']) (by simp only [go_sem, Bool.not_eq_true', Bool.not_eq_false'])) ?_; simp only [go_sem, Bool.not_eq_true', Bool.not_eq_false'])
    skip
def allR (l : List LNo) (of : List Int) : List Int := if chkB l of = true then (List.range (of.length + 1)).map (fun k : Nat => rnkA l of k) else []
set_option maxRecDepth 100000 in
set_option maxHeartbeats 4000000 in
theorem allR_ok (l : List LNo) (of : List Int) (hl : l.length ≤ 1000) (ho : of.length ≤ 1000) (hw : ∀ x ∈ l, x.words.length ≤ 9223372036854775807) : FnOk Try.prog 42 [.sl 20 (l.map cNo), .sl 1 (of.map cInt)] [] (.tup [.hdr 8, .raw (.int .i64 (errB (chkB l of)))]) [(8, .row 3 1 ((allR l of).map cInt))] := by
  refine fn_of_awp Try.func42 rfl (by kernel_rfl) (by kernel_rfl) (Nat.le_of_ble_eq_true rfl) Try.results42 ?_
  simp only [go_sem, Bool.not_eq_true', Bool.not_eq_false']
  (refine acall2 [] (check16_ok l of hl ho hw) (by simp only [go_sem, Bool.not_eq_true', Bool.not_eq_false']; rfl) (fit_of (by simp only [go_sem, Bool.not_eq_true', Bool.not_eq_false']) (by simp only [go_sem, Bool.not_eq_true', Bool.not_eq_false']) (by simp only [go_sem, Bool.not_eq_true', Bool.not_eq_false']) (by simp only [go_sem, Bool.not_eq_true', Bool.not_eq_false']) (by simp only [go_sem, Bool.not_eq_true', Bool.not_eq_false']) (by simp only [go_sem, Bool.not_eq_true', Bool.not_eq_false']) (by simp only [go_sem, Bool.not_eq_true', Bool.not_eq_false'])) ?_; simp only [go_sem, Bool.not_eq_true', Bool.not_eq_false'])
  have ea : allR l of = if chkB l of = true then (List.range (of.length + 1)).map (fun k : Nat => rnkA l of k) else [] := rfl
  cases hc : chkB l of with
  | false =>
    rw [hc, if_neg (by simp)] at ea
    have e4 : errB false = 4 := rfl
    rw [e4, ea]
    refine ⟨fun _ => ?_, fun q => by omega⟩
    (refine ret2 [] (by simp only [go_sem, Bool.not_eq_true', Bool.not_eq_false']; rfl) ?_; simp only [go_sem, Bool.not_eq_true', Bool.not_eq_false'])
  | true =>
    rw [hc, if_pos rfl] at ea
    have e4 : errB true = 0 := rfl
    rw [e4, ea]
    refine ⟨fun q => absurd rfl q, fun _ => ?_⟩
    simp only [go_sem, Bool.not_eq_true', Bool.not_eq_false', List.length_map]
    refine ⟨by omega, ?_⟩
    refine aloop2 [] (fun z : KY (List Int) => ⟨[(0, .sl 20 (l.map cNo)), (1, .sl 1 (of.map cInt)), (7, .hdr 72), (19, .raw (.int .i64 (of.length + 1))), (20, .raw (.int .i64 z.k))], [(72, some (.row 3 1 (z.o.map cInt)))], none⟩) (fun z => z.k ≤ of.length + 1 ∧ z.o = (List.range z.k).map (fun k : Nat => rnkA l of k)) (fun z => of.length + 1 - z.k) 40 ⟨0, []⟩ (by simp only [go_sem, Bool.not_eq_true', Bool.not_eq_false']; rfl) (by simp only [go_sem, Bool.not_eq_true', Bool.not_eq_false']) ?_ ?_
    · exact ⟨Nat.zero_le _, rfl⟩
    · rintro ⟨k, o⟩ ⟨k1, k2⟩
      simp only at k1 k2
      have hol : o.length = k := by rw [k2]; simp
      simp only [go_sem, Bool.not_eq_true', Bool.not_eq_false', List.length_map]
      refine ⟨fun h5 => ?_, fun h5 => ?_⟩
      · (refine acall2 [] (rnkA_ok l of k hl ho hw) (by simp only [go_sem, Bool.not_eq_true', Bool.not_eq_false']; rfl) (fit_of (by simp only [go_sem, Bool.not_eq_true', Bool.not_eq_false']) (by simp only [go_sem, Bool.not_eq_true', Bool.not_eq_false']) (by simp only [go_sem, Bool.not_eq_true', Bool.not_eq_false']) (by simp only [go_sem, Bool.not_eq_true', Bool.not_eq_false']) (by simp only [go_sem, Bool.not_eq_true', Bool.not_eq_false']) (by simp only [go_sem, Bool.not_eq_true', Bool.not_eq_false']) (by simp only [go_sem, Bool.not_eq_true', Bool.not_eq_false'])) ?_; simp only [go_sem, Bool.not_eq_true', Bool.not_eq_false'])
        repeat' first | contradiction | intro _ | refine And.intro ?_ ?_ | refine ex_get (by omega) ?_ | (show drawB _ _ = true; kernel_rfl) | (refine ret2 [] (by simp only [go_sem, Bool.not_eq_true', Bool.not_eq_false']; rfl) ?_; simp only [go_sem, Bool.not_eq_true', Bool.not_eq_false'])
        all_goals first
          | omega
          | skip
        (refine loop_end [] (⟨k + 1, o ++ [rnkA l of k]⟩) (by simp only [go_sem, Bool.not_eq_true', Bool.not_eq_false']; rfl) ?_ ?_ ?_; (focus first | omega | (simp only; omega)); (focus (simp only [go_sem, Bool.not_eq_true', Bool.not_eq_false', List.map_append]; done)))
        simp only
        exact ⟨by omega, by rw [k2, List.range_succ, List.map_append]; rfl⟩
      · have e5 : k = of.length + 1 := by omega
        rw [e5, List.range_succ] at k2
        rw [← k2]
        (refine ret2 [] (by simp only [go_sem, Bool.not_eq_true', Bool.not_eq_false']; rfl) ?_; simp only [go_sem, Bool.not_eq_true', Bool.not_eq_false'])
end Go.Proofs.Ytbgcmnccjfdooaa
/- CHAPTER 18: the examples. -/
/- G -/
/- BOOLS -/
set_option linter.unusedSimpArgs false
set_option linter.unusedVariables false
namespace Go.Proofs.Ytbgcmnccjfdooaa
open Go.RowKit

def scr18 : ByteArray := { data := #[91, 73, 49, 32, 40, 49, 32, 48, 32, 53, 32, 53, 32, 53, 32, 53, 41, 32, 91, 66, 49, 32, 123, 49, 32, 49, 125, 93, 93, 32, 40, 49, 32, 48, 32, 53, 32, 53, 41] }
def nds18 : List LNo := [⟨1, 4, ⟨0, 0, 0, 0, 0, 2, 2, 0, 0, 0, 1, 0⟩, 0, 0, [], 0, 0, 0⟩, ⟨2, 1, sty0, 1, 0, [5, 5, 5, 5], 0, 0, 0⟩, ⟨1, 2, ⟨0, 0, 0, 0, 0, 2, 2, 0, 1, 0, 0, 0⟩, 0, 0, [], 0, 0, 0⟩, ⟨3, 1, sty0, 0, 0, [], 0, 1, 1⟩, ⟨2, 1, sty0, 1, 0, [5, 5], 0, 0, 0⟩]
theorem rd18 : rdS scr18 = some nds18 := by kernel_rfl
theorem of18 : FnOk Try.prog 57 [.raw (.string { data := #[91, 73, 49, 32, 40, 49, 32, 48, 32, 53, 32, 53, 32, 53, 32, 53, 41, 32, 91, 66, 49, 32, 123, 49, 32, 49, 125, 93, 93, 32, 40, 49, 32, 48, 32, 53, 32, 53, 41] })] [] (.tup [.sl 20 (nds18.map cNo), .raw (.int .i64 0), .raw (.int .i64 0)]) [] := rdS_ok scr18 nds18 rd18
theorem w18 : ∀ x ∈ nds18, x.words.length ≤ 9223372036854775807 := hw_of (by kernel_rfl)
def row18 : List Int := [1, 1, 1, 1, 3, 4, 4]
theorem all18 : FnOk Try.prog 42 [.sl 20 (nds18.map cNo), .sl 1 ([1, 1, 1, 1, 3, 4, 4].map cInt)] [] (.tup [.hdr 8, .raw (.int .i64 0)]) [(8, .row 3 1 (([0, 3, 2, 3, 6, 0, 1, 0] : List Int).map cInt))] := by
  have h := allR_ok nds18 row18 (Nat.le_of_ble_eq_true rfl) (Nat.le_of_ble_eq_true rfl) w18
  have e1 : allR nds18 row18 = [0, 3, 2, 3, 6, 0, 1, 0] := by kernel_rfl
  have e2 : errB (chkB nds18 row18) = 0 := by kernel_rfl
  rw [e1, e2] at h
  exact h
theorem int18 : FnOk Try.prog 23 [.sl 1 (([0, 3, 2, 3, 6, 0, 1, 0] : List Int).map cInt), .sl 1 (([0, 3, 2, 3, 6, 0, 1, 0] : List Int).map cInt)] [] (.raw (.bool true)) [] := ints8_ok [0, 3, 2, 3, 6, 0, 1, 0] [0, 3, 2, 3, 6, 0, 1, 0] (Nat.le_of_ble_eq_true rfl) (Nat.le_of_ble_eq_true rfl)
theorem lin18 : FnOk Try.prog 40 [.sl 20 (nds18.map cNo), .sl 1 ([1, 1, 1, 1, 3, 4, 4].map cInt), .raw (.int .i64 3)] [] (.tup [.raw (.int .i64 3), .raw (.int .i64 1), .raw (.int .i64 0)]) [] := by
  have h := linK_ok nds18 row18 3 (Nat.le_of_ble_eq_true rfl) (Nat.le_of_ble_eq_true rfl) w18
  have e1 : linK nds18 row18 3 (linA row18) = 3 := by kernel_rfl
  have e2 : linK nds18 row18 3 (linB row18) = 1 := by kernel_rfl
  have e3 : errB (kinG nds18 row18 3) = 0 := by kernel_rfl
  rw [e1, e2, e3] at h
  exact h
set_option maxRecDepth 100000 in
set_option maxHeartbeats 8000000 in
theorem awake18_ok : FnOk Try.prog 39 [] [] (.raw (.bool true)) [] := by
  refine fn_of_awp Try.func39 rfl (by kernel_rfl) (by kernel_rfl) (Nat.le_of_ble_eq_true rfl) Try.results39 ?_
  simp only [go_sem, Bool.not_eq_true', Bool.not_eq_false']
  (refine acall2 [] (of18) (by simp only [go_sem, Bool.not_eq_true', Bool.not_eq_false']; rfl) (fit_of (by simp only [go_sem, Bool.not_eq_true', Bool.not_eq_false']) (by simp only [go_sem, Bool.not_eq_true', Bool.not_eq_false']) (by simp only [go_sem, Bool.not_eq_true', Bool.not_eq_false']) (by simp only [go_sem, Bool.not_eq_true', Bool.not_eq_false']) (by simp only [go_sem, Bool.not_eq_true', Bool.not_eq_false']) (by simp only [go_sem, Bool.not_eq_true', Bool.not_eq_false']) (by simp only [go_sem, Bool.not_eq_true', Bool.not_eq_false'])) ?_; simp only [go_sem, Bool.not_eq_true', Bool.not_eq_false'])
  (refine acallF2 [80 ] [] ( all18) (by simp only [go_sem, Bool.not_eq_true', Bool.not_eq_false']; rfl) (fit_of (by simp only [go_sem, Bool.not_eq_true', Bool.not_eq_false']) (by simp only [go_sem, Bool.not_eq_true', Bool.not_eq_false']) (by simp only [go_sem, Bool.not_eq_true', Bool.not_eq_false']) (by simp only [go_sem, Bool.not_eq_true', Bool.not_eq_false']) (by simp only [go_sem, Bool.not_eq_true', Bool.not_eq_false']) (by simp only [go_sem, Bool.not_eq_true', Bool.not_eq_false']) (by simp only [go_sem, Bool.not_eq_true', Bool.not_eq_false'])) ?_; simp only [go_sem, Bool.not_eq_true', Bool.not_eq_false', Int.reduceToNat, Int.reduceLT, Int.reduceLE, Int.reduceEq, Int.reduceAdd, Int.reduceSub, Int.reduceMul, Int.reduceNeg, Int.reduceNe, decide_false, Int.cast_ofNat_Int, kSet, List.getElem?_cons_succ, List.getElem?_cons_zero, List.set_cons_succ, List.set_cons_zero, exists_eq_left', forall_const, true_implies, List.map])
  (refine acall2 [] (lin18) (by simp only [go_sem, Bool.not_eq_true', Bool.not_eq_false']; rfl) (fit_of (by simp only [go_sem, Bool.not_eq_true', Bool.not_eq_false']) (by simp only [go_sem, Bool.not_eq_true', Bool.not_eq_false']) (by simp only [go_sem, Bool.not_eq_true', Bool.not_eq_false']) (by simp only [go_sem, Bool.not_eq_true', Bool.not_eq_false']) (by simp only [go_sem, Bool.not_eq_true', Bool.not_eq_false']) (by simp only [go_sem, Bool.not_eq_true', Bool.not_eq_false']) (by simp only [go_sem, Bool.not_eq_true', Bool.not_eq_false'])) ?_; simp only [go_sem, Bool.not_eq_true', Bool.not_eq_false', Int.reduceToNat, Int.reduceLT, Int.reduceLE, Int.reduceEq, Int.reduceAdd, Int.reduceSub, Int.reduceMul, Int.reduceNeg, Int.reduceNe, decide_false, Int.cast_ofNat_Int, kSet, List.getElem?_cons_succ, List.getElem?_cons_zero, List.set_cons_succ, List.set_cons_zero, exists_eq_left', forall_const, true_implies, List.map])
  (refine acallF2 [112, 272 ] [] ( int18) (by simp only [go_sem, Bool.not_eq_true', Bool.not_eq_false']; rfl) (fit_of (by simp only [go_sem, Bool.not_eq_true', Bool.not_eq_false']) (by simp only [go_sem, Bool.not_eq_true', Bool.not_eq_false']) (by simp only [go_sem, Bool.not_eq_true', Bool.not_eq_false']) (by simp only [go_sem, Bool.not_eq_true', Bool.not_eq_false']) (by simp only [go_sem, Bool.not_eq_true', Bool.not_eq_false']) (by simp only [go_sem, Bool.not_eq_true', Bool.not_eq_false']) (by simp only [go_sem, Bool.not_eq_true', Bool.not_eq_false'])) ?_; simp only [go_sem, Bool.not_eq_true', Bool.not_eq_false', Int.reduceToNat, Int.reduceLT, Int.reduceLE, Int.reduceEq, Int.reduceAdd, Int.reduceSub, Int.reduceMul, Int.reduceNeg, Int.reduceNe, decide_false, Int.cast_ofNat_Int, kSet, List.getElem?_cons_succ, List.getElem?_cons_zero, List.set_cons_succ, List.set_cons_zero, exists_eq_left', forall_const, true_implies, List.map])
end Go.Proofs.Ytbgcmnccjfdooaa
/- CHAPTER 18: the document's answer. -/
/- G -/
/- BOOLS -/
set_option linter.unusedSimpArgs false
set_option linter.unusedVariables false
namespace Go.Proofs.Ytbgcmnccjfdooaa
open Go.RowKit

theorem kin_R {l : List LNo} {of : List Int} {k : Int} (hc : chkB l of = true) (hk : 0 ≤ k ∧ k ≤ of.length) : kinR l of k l.length = kinA l of k := by
  have hg : kinG l of k = true := by
    simp only [kinG, hc, Bool.true_and, Bool.and_eq_true, decide_eq_true_eq]
    exact hk
  rw [← kin_eq (chk_has hc).1 (chk_row hc)]
  simp [kinA, hg]
theorem cntA_end (of : List Int) (t : Int) (k : Nat) : ∀ j, k ≤ j → cntA of t k j = cntA of t k k
  | 0, h => by rw [Nat.le_zero.1 h]
  | j + 1, h => by
    rcases Nat.lt_or_eq_of_le h with q | q
    · rw [cntA, if_neg (by omega), cntA_end of t k j (by omega)]; rfl
    · rw [← q]
theorem cntB_beg (of : List Int) (t : Int) (k : Nat) : ∀ j, j ≤ k → cntB of t k j = 0
  | 0, _ => rfl
  | j + 1, h => by rw [cntB, if_neg (by omega), cntB_beg of t k j (by omega)]
set_option maxRecDepth 100000 in
set_option maxHeartbeats 4000000 in
theorem rlin_ok (l : List LNo) (of : List Int) (k : Int) (hl : l.length ≤ 1000) (ho : of.length ≤ 1000) (hk : 0 ≤ k ∧ k ≤ of.length) (hc : chkB l of = true) : FnOk Try.prog 44 [.sl 20 (l.map cNo), .sl 1 (of.map cInt), .raw (.int .i64 k)] [] (.tup [.raw (.int .i64 (linA of k (kinA l of k).text)), .raw (.int .i64 (linB of k (kinA l of k).text))]) [] := by
  refine fn_of_swp Try.func44 rfl (by kernel_rfl) (by kernel_rfl) (Nat.le_of_ble_eq_true rfl) Try.results44 ?_
  (refine swp_seqW ?_; simp only [go_sem, Bool.not_eq_true', Bool.not_eq_false'])
  (refine swp_seqW ?_; simp only [go_sem, Bool.not_eq_true', Bool.not_eq_false'])
  (refine acall2 [] (rat_ok l of k hl ho hk) (by simp only [go_sem, Bool.not_eq_true', Bool.not_eq_false']; rfl) (fit_of (by simp only [go_sem, Bool.not_eq_true', Bool.not_eq_false']) (by simp only [go_sem, Bool.not_eq_true', Bool.not_eq_false']) (by simp only [go_sem, Bool.not_eq_true', Bool.not_eq_false']) (by simp only [go_sem, Bool.not_eq_true', Bool.not_eq_false']) (by simp only [go_sem, Bool.not_eq_true', Bool.not_eq_false']) (by simp only [go_sem, Bool.not_eq_true', Bool.not_eq_false']) (by simp only [go_sem, Bool.not_eq_true', Bool.not_eq_false'])) ?_; simp only [go_sem, Bool.not_eq_true', Bool.not_eq_false'])
  rw [kin_R hc hk]
  generalize (kinA l of k).text = t
  (refine swp_seqW ?_; simp only [go_sem, Bool.not_eq_true', Bool.not_eq_false'])
  (refine swp_seqW ?_; simp only [go_sem, Bool.not_eq_true', Bool.not_eq_false'])
  refine ⟨fun h => ?_, fun h => ?_⟩
  · rw [linA, linB, if_pos h, if_pos h]
    exact ⟨rfl, rfl⟩
  obtain ⟨m, rfl⟩ : ∃ m : Nat, k = m := ⟨k.toNat, by omega⟩
  have hm : m ≤ of.length := by omega
  rw [linA, linB, if_neg h, if_neg h, cntA_end of t m of.length hm]
  refine swp_cutS (fun _ : Unit => ⟨[(1, .sl 1 (of.map cInt)), (2, .raw (.int .i64 m)), (8, .raw (.int .i64 t)), (9, .raw (.int .i64 (cntA of t m m))), (10, .raw (.int .i64 0))], [], none⟩) (fun _ => True) 60 ?_ ?_
  · (refine swp_seqW ?_; simp only [go_sem, Bool.not_eq_true', Bool.not_eq_false'])
    refine swp_block ?_
    refine swp_loop2 [] (fun z : KY Nat => ⟨[(1, .sl 1 (of.map cInt)), (2, .raw (.int .i64 m)), (8, .raw (.int .i64 t)), (9, .raw (.int .i64 z.o)), (10, .raw (.int .i64 0)), (11, .raw (.int .i64 z.k))], [], none⟩) (fun z => z.k ≤ m ∧ z.o = cntA of t m z.k) (fun z => m - z.k) 60 ⟨0, 0⟩ (by simp only [go_sem, Bool.not_eq_true', Bool.not_eq_false']; rfl) (by simp only [go_sem, Bool.not_eq_true', Bool.not_eq_false']) ?_ ?_
    · exact ⟨Nat.zero_le _, rfl⟩
    · rintro ⟨j, a⟩ ⟨j1, j2⟩
      simp only at j1 j2
      have ha := cntA_le of t m j
      (refine swp_lastW ?_; simp only [go_sem, Bool.not_eq_true', Bool.not_eq_false', List.length_map])
      refine ⟨fun h5 => ?_, fun h5 => ?_⟩
      · have hj : j < of.length := by omega
        have e0 : of.getD j 0 = of[j] := by simp [List.getD_eq_getElem?_getD, hj]
        have e1 : cntA of t m (j + 1) = a + if of[j] = t then 1 else 0 := by
          rw [cntA, e0, j2]
          congr 1
          have : (j : Int) < m := by omega
          simp [this]
        refine ⟨by omega, ex_get hj ?_⟩
        generalize of[j] = y at e1 ⊢
        clear e0
        have hjm : j + 1 ≤ m := by omega
        have hab : a ≤ 1000 := by omega
        clear j2
        repeat' first | contradiction | intro _ | refine And.intro ?_ ?_ | refine ex_get (by omega) ?_ | (show drawB _ _ = true; kernel_rfl) | (refine ret2 [] (by simp only [go_sem, Bool.not_eq_true', Bool.not_eq_false']; rfl) ?_; simp only [go_sem, Bool.not_eq_true', Bool.not_eq_false'])
        all_goals first
          | omega
          | ((refine loop_end [] (⟨j + 1, a⟩) (by simp only [go_sem, Bool.not_eq_true', Bool.not_eq_false']; rfl) ?_ ?_ ?_; (focus first | omega | (simp only; omega)); (focus (simp only [go_sem, Bool.not_eq_true', Bool.not_eq_false']; done)))
             exact ⟨hjm, by rw [e1]; simp [*]⟩)
          | ((refine loop_end [] (⟨j + 1, a + 1⟩) (by simp only [go_sem, Bool.not_eq_true', Bool.not_eq_false']; rfl) ?_ ?_ ?_; (focus first | omega | (simp only; omega)); (focus (simp only [go_sem, Bool.not_eq_true', Bool.not_eq_false']; done)))
             exact ⟨hjm, by rw [e1]; simp [*]⟩)
          | skip
      · have e : j = m := by omega
        rw [e] at j2
        rw [j2]
        (refine cut_end [] (()) (by simp only [go_sem, Bool.not_eq_true', Bool.not_eq_false']; rfl) ?_ ?_; (focus (simp only [go_sem, Bool.not_eq_true', Bool.not_eq_false']; done)))
        trivial
  rintro - -
  have hca := cntA_le of t m m
  generalize cntA of t m m = ca at hca ⊢
  (refine swp_seqW ?_; simp only [go_sem, Bool.not_eq_true', Bool.not_eq_false'])
  refine aloop2 [] (fun z : KY Nat => ⟨[(1, .sl 1 (of.map cInt)), (8, .raw (.int .i64 t)), (9, .raw (.int .i64 ca)), (10, .raw (.int .i64 z.o)), (12, .raw (.int .i64 z.k))], [], none⟩) (fun z => z.k ≤ of.length ∧ m ≤ z.k ∧ z.o = cntB of t m z.k) (fun z => of.length - z.k) 100 ⟨m, 0⟩ (by simp only [go_sem, Bool.not_eq_true', Bool.not_eq_false']; rfl) (by simp only [go_sem, Bool.not_eq_true', Bool.not_eq_false']) ?_ ?_
  · exact ⟨hm, Nat.le_refl _, (cntB_beg of t m m (Nat.le_refl _)).symm⟩
  · rintro ⟨j, b⟩ ⟨j1, jm, j2⟩
    simp only at j1 jm j2
    have hb := cntB_le of t m j
    simp only [go_sem, Bool.not_eq_true', Bool.not_eq_false', List.length_map]
    refine ⟨fun h5 => ?_, fun h5 => ?_⟩
    · have hj : j < of.length := by omega
      have e0 : of.getD j 0 = of[j] := by simp [List.getD_eq_getElem?_getD, hj]
      have e1 : cntB of t m (j + 1) = b + if of[j] = t then 1 else 0 := by
        rw [cntB, e0, j2]
        congr 1
        have : ¬ (j : Int) < m := by omega
        simp only [this, not_false_eq_true, and_true]
      refine ⟨by omega, ex_get hj ?_⟩
      generalize of[j] = y at e1 ⊢
      have hab : b ≤ 1000 := by omega
      clear e0 j2
      have hjm : m ≤ j + 1 := by omega
      repeat' first | contradiction | intro _ | refine And.intro ?_ ?_ | refine ex_get (by omega) ?_ | (show drawB _ _ = true; kernel_rfl) | (refine ret2 [] (by simp only [go_sem, Bool.not_eq_true', Bool.not_eq_false']; rfl) ?_; simp only [go_sem, Bool.not_eq_true', Bool.not_eq_false'])
      all_goals first
        | omega
        | ((refine loop_end [] (⟨j + 1, b⟩) (by simp only [go_sem, Bool.not_eq_true', Bool.not_eq_false']; rfl) ?_ ?_ ?_; (focus first | omega | (simp only; omega)); (focus (simp only [go_sem, Bool.not_eq_true', Bool.not_eq_false']; done)))
           exact ⟨hj, hjm, by rw [e1]; simp [*]⟩)
        | ((refine loop_end [] (⟨j + 1, b + 1⟩) (by simp only [go_sem, Bool.not_eq_true', Bool.not_eq_false']; rfl) ?_ ?_ ?_; (focus first | omega | (simp only; omega)); (focus (simp only [go_sem, Bool.not_eq_true', Bool.not_eq_false']; done)))
           exact ⟨hj, hjm, by rw [e1]; simp [*]⟩)
        | skip
    · have e : j = of.length := by omega
      rw [← e, ← j2]
      (refine swp_lastW ?_; simp only [go_sem, Bool.not_eq_true', Bool.not_eq_false'])
end Go.Proofs.Ytbgcmnccjfdooaa
/- CHAPTER 17: the law ForcedTells. -/
/- G -/
/- BOOLS -/
set_option linter.unusedSimpArgs false
set_option linter.unusedVariables false
namespace Go.Proofs.Ytbgcmnccjfdooaa
open Go.RowKit

def stF (l : List LNo) (of : List Int) (k : Int) (t : List (Nat × AV)) : AS := ⟨t ++ [(0, .sl 20 (l.map cNo)), (1, .sl 1 (of.map cInt)), (2, .raw (.int .i64 k))], [], none⟩
attribute [go_sem] stF
theorem kinG_chk {l : List LNo} {of : List Int} {k : Int} (h : chkB l of = true) (hk : 0 ≤ k ∧ k ≤ of.length) : kinG l of k = true := by
  simp only [kinG, h, Bool.true_and, Bool.and_eq_true, decide_eq_true_eq]; exact hk
theorem kinG_no {l : List LNo} {of : List Int} {k : Int} (h : chkB l of = false ∨ ¬(0 ≤ k ∧ k ≤ of.length)) : kinG l of k = false := by
  rcases h with h | h
  · simp [kinG, h]
  · simp only [kinG, Bool.and_eq_false_iff, decide_eq_false_iff_not]; omega
theorem askA_no {l : List LNo} {of : List Int} {k : Int} (h : kinG l of k = false) : askA l of k = [] := by unfold askA; rw [if_neg (by simp [h])]
theorem forA_no {l : List LNo} {of : List Int} {k : Int} (h : kinG l of k = false) : forA l of k = 0 := by unfold forA; rw [askA_no h]; rfl
theorem allF_len (l : List LNo) (of : List Int) : (allF l of).length ≤ of.length + 1 := by unfold allF; split <;> simp
set_option maxRecDepth 100000 in
set_option maxHeartbeats 8000000 in
theorem forcedTells_ok (l : List LNo) (of : List Int) (k : Int) : FnOk Try.prog 7 [.sl 20 (l.map cNo), .sl 1 (of.map cInt), .raw (.int .i64 k)] [] (.raw (.bool true)) [] := by
  refine fn_of_swp Try.func7 rfl (by kernel_rfl) (by kernel_rfl) (Nat.le_of_ble_eq_true rfl) Try.results7 ?_
  (refine swp_seqW ?_; simp only [go_sem, Bool.not_eq_true', Bool.not_eq_false'])
  (refine swp_seqW ?_; simp only [go_sem, Bool.not_eq_true', Bool.not_eq_false'])
  (refine acall2 [] (vast17_ok l of) (by simp only [go_sem, Bool.not_eq_true', Bool.not_eq_false']; rfl) (fit_of (by simp only [go_sem, Bool.not_eq_true', Bool.not_eq_false']) (by simp only [go_sem, Bool.not_eq_true', Bool.not_eq_false']) (by simp only [go_sem, Bool.not_eq_true', Bool.not_eq_false']) (by simp only [go_sem, Bool.not_eq_true', Bool.not_eq_false']) (by simp only [go_sem, Bool.not_eq_true', Bool.not_eq_false']) (by simp only [go_sem, Bool.not_eq_true', Bool.not_eq_false']) (by simp only [go_sem, Bool.not_eq_true', Bool.not_eq_false'])) ?_; simp only [go_sem, Bool.not_eq_true', Bool.not_eq_false'])
  refine ⟨fun h1 => ?_, fun h1 => ?_⟩
  · (refine acall2 [] (awake17_ok) (by simp only [go_sem, Bool.not_eq_true', Bool.not_eq_false']; rfl) (fit_of (by simp only [go_sem, Bool.not_eq_true', Bool.not_eq_false']) (by simp only [go_sem, Bool.not_eq_true', Bool.not_eq_false']) (by simp only [go_sem, Bool.not_eq_true', Bool.not_eq_false']) (by simp only [go_sem, Bool.not_eq_true', Bool.not_eq_false']) (by simp only [go_sem, Bool.not_eq_true', Bool.not_eq_false']) (by simp only [go_sem, Bool.not_eq_true', Bool.not_eq_false']) (by simp only [go_sem, Bool.not_eq_true', Bool.not_eq_false'])) ?_; simp only [go_sem, Bool.not_eq_true', Bool.not_eq_false'])
  obtain ⟨hl6, ho6, hw6⟩ := vst2_no h1
  have hl : l.length ≤ 1000 := by omega
  have ho : of.length ≤ 1000 := by omega
  have hw : ∀ x ∈ l, x.words.length ≤ 9223372036854775807 := fun x hx => by have := hw6 x hx; omega
  have hw2 : ∀ x ∈ l, x.words.length ≤ 1000 := fun x hx => by have := hw6 x hx; omega
  have hal := askA_len l of k
  have hll := allF_len l of
  refine swp_cutS (fun _ : Unit => stF l of k [(7, .sl 20 (l.map cNo)), (8, .sl 1 (of.map cInt))]) (fun _ => True) 3 ?_ ?_
  · (refine swp_lastW ?_; simp only [go_sem, Bool.not_eq_true', Bool.not_eq_false'])
    (refine acall2 [] (own5_ok l hl hw2) (by simp only [go_sem, Bool.not_eq_true', Bool.not_eq_false']; rfl) (fit_of (by simp only [go_sem, Bool.not_eq_true', Bool.not_eq_false']) (by simp only [go_sem, Bool.not_eq_true', Bool.not_eq_false']) (by simp only [go_sem, Bool.not_eq_true', Bool.not_eq_false']) (by simp only [go_sem, Bool.not_eq_true', Bool.not_eq_false']) (by simp only [go_sem, Bool.not_eq_true', Bool.not_eq_false']) (by simp only [go_sem, Bool.not_eq_true', Bool.not_eq_false']) (by simp only [go_sem, Bool.not_eq_true', Bool.not_eq_false'])) ?_; simp only [go_sem, Bool.not_eq_true', Bool.not_eq_false'])
    refine ⟨⟨by omega, by omega⟩, ?_⟩
    (refine cut_end [48, 72 ] ( ()) (by simp only [go_sem, Bool.not_eq_true', Bool.not_eq_false']; rfl) ?_ ?_; (focus (simp only [go_sem, Bool.not_eq_true', Bool.not_eq_false']; done)))
    trivial
  rintro - -
  refine swp_cutS (fun _ : Unit => stF l of k [(7, .sl 20 (l.map cNo)), (8, .sl 1 (of.map cInt)), (9, .sl 1 ((askA l of k).map cInt)), (10, .raw (.int .i64 (errB (kinG l of k))))]) (fun _ => True) 6 ?_ ?_
  · (refine swp_lastW ?_; simp only [go_sem, Bool.not_eq_true', Bool.not_eq_false'])
    (refine acall2 [] (askA_ok l of k hl ho hw) (by simp only [go_sem, Bool.not_eq_true', Bool.not_eq_false']; rfl) (fit_of (by simp only [go_sem, Bool.not_eq_true', Bool.not_eq_false']) (by simp only [go_sem, Bool.not_eq_true', Bool.not_eq_false']) (by simp only [go_sem, Bool.not_eq_true', Bool.not_eq_false']) (by simp only [go_sem, Bool.not_eq_true', Bool.not_eq_false']) (by simp only [go_sem, Bool.not_eq_true', Bool.not_eq_false']) (by simp only [go_sem, Bool.not_eq_true', Bool.not_eq_false']) (by simp only [go_sem, Bool.not_eq_true', Bool.not_eq_false'])) ?_; simp only [go_sem, Bool.not_eq_true', Bool.not_eq_false'])
    (refine cut_end [48 ] ( ()) (by simp only [go_sem, Bool.not_eq_true', Bool.not_eq_false']; rfl) ?_ ?_; (focus (simp only [go_sem, Bool.not_eq_true', Bool.not_eq_false']; done)))
    trivial
  rintro - -
  (refine swp_seqW ?_; simp only [go_sem, Bool.not_eq_true', Bool.not_eq_false'])
  (refine acall2 [] (forA_ok l of k hl ho hw) (by simp only [go_sem, Bool.not_eq_true', Bool.not_eq_false']; rfl) (fit_of (by simp only [go_sem, Bool.not_eq_true', Bool.not_eq_false']) (by simp only [go_sem, Bool.not_eq_true', Bool.not_eq_false']) (by simp only [go_sem, Bool.not_eq_true', Bool.not_eq_false']) (by simp only [go_sem, Bool.not_eq_true', Bool.not_eq_false']) (by simp only [go_sem, Bool.not_eq_true', Bool.not_eq_false']) (by simp only [go_sem, Bool.not_eq_true', Bool.not_eq_false']) (by simp only [go_sem, Bool.not_eq_true', Bool.not_eq_false'])) ?_; simp only [go_sem, Bool.not_eq_true', Bool.not_eq_false'])
  refine swp_cutS (fun _ : Unit => stF l of k [(7, .sl 20 (l.map cNo)), (8, .sl 1 (of.map cInt)), (9, .sl 1 ((askA l of k).map cInt)), (10, .raw (.int .i64 (errB (kinG l of k)))), (11, .raw (.int .i64 (forA l of k))), (12, .raw (.int .i64 (errB (kinG l of k)))), (13, .sl 1 ((allF l of).map cInt)), (14, .raw (.int .i64 (errB (chkB l of))))]) (fun _ => True) 6 ?_ ?_
  · (refine swp_lastW ?_; simp only [go_sem, Bool.not_eq_true', Bool.not_eq_false'])
    (refine acall2 [] (allF_ok l of hl ho hw) (by simp only [go_sem, Bool.not_eq_true', Bool.not_eq_false']; rfl) (fit_of (by simp only [go_sem, Bool.not_eq_true', Bool.not_eq_false']) (by simp only [go_sem, Bool.not_eq_true', Bool.not_eq_false']) (by simp only [go_sem, Bool.not_eq_true', Bool.not_eq_false']) (by simp only [go_sem, Bool.not_eq_true', Bool.not_eq_false']) (by simp only [go_sem, Bool.not_eq_true', Bool.not_eq_false']) (by simp only [go_sem, Bool.not_eq_true', Bool.not_eq_false']) (by simp only [go_sem, Bool.not_eq_true', Bool.not_eq_false'])) ?_; simp only [go_sem, Bool.not_eq_true', Bool.not_eq_false'])
    (refine cut_end [136 ] ( ()) (by simp only [go_sem, Bool.not_eq_true', Bool.not_eq_false']; rfl) ?_ ?_; (focus (simp only [go_sem, Bool.not_eq_true', Bool.not_eq_false']; done)))
    trivial
  rintro - -
  (refine swp_seqW ?_; simp only [go_sem, Bool.not_eq_true', Bool.not_eq_false'])
  (refine acall2 [] (same5_ok l hl hw) (by simp only [go_sem, Bool.not_eq_true', Bool.not_eq_false']; rfl) (fit_of (by simp only [go_sem, Bool.not_eq_true', Bool.not_eq_false']) (by simp only [go_sem, Bool.not_eq_true', Bool.not_eq_false']) (by simp only [go_sem, Bool.not_eq_true', Bool.not_eq_false']) (by simp only [go_sem, Bool.not_eq_true', Bool.not_eq_false']) (by simp only [go_sem, Bool.not_eq_true', Bool.not_eq_false']) (by simp only [go_sem, Bool.not_eq_true', Bool.not_eq_false']) (by simp only [go_sem, Bool.not_eq_true', Bool.not_eq_false'])) ?_; simp only [go_sem, Bool.not_eq_true', Bool.not_eq_false'])
  (refine acall2 [] (ints8_ok of of ho ho) (by simp only [go_sem, Bool.not_eq_true', Bool.not_eq_false']; rfl) (fit_of (by simp only [go_sem, Bool.not_eq_true', Bool.not_eq_false']) (by simp only [go_sem, Bool.not_eq_true', Bool.not_eq_false']) (by simp only [go_sem, Bool.not_eq_true', Bool.not_eq_false']) (by simp only [go_sem, Bool.not_eq_true', Bool.not_eq_false']) (by simp only [go_sem, Bool.not_eq_true', Bool.not_eq_false']) (by simp only [go_sem, Bool.not_eq_true', Bool.not_eq_false']) (by simp only [go_sem, Bool.not_eq_true', Bool.not_eq_false'])) ?_; simp only [go_sem, Bool.not_eq_true', Bool.not_eq_false'])
  (refine swp_seqW ?_; simp only [go_sem, Bool.not_eq_true', Bool.not_eq_false'])
  (refine acall2 [] (rcheck_ok l of hl ho hw) (by simp only [go_sem, Bool.not_eq_true', Bool.not_eq_false']; rfl) (fit_of (by simp only [go_sem, Bool.not_eq_true', Bool.not_eq_false']) (by simp only [go_sem, Bool.not_eq_true', Bool.not_eq_false']) (by simp only [go_sem, Bool.not_eq_true', Bool.not_eq_false']) (by simp only [go_sem, Bool.not_eq_true', Bool.not_eq_false']) (by simp only [go_sem, Bool.not_eq_true', Bool.not_eq_false']) (by simp only [go_sem, Bool.not_eq_true', Bool.not_eq_false']) (by simp only [go_sem, Bool.not_eq_true', Bool.not_eq_false'])) ?_; simp only [go_sem, Bool.not_eq_true', Bool.not_eq_false'])
  cases hc : chkB l of with
  | false =>
    have e1 : kinG l of k = false := kinG_no (.inl hc)
    have e2 : allF l of = [] := by unfold allF; rw [hc]; rfl
    have e3 : errB false = 4 := rfl
    rw [e1, e2, askA_no e1, forA_no e1, e3]
    refine ⟨fun _ => ?_, fun q => by omega⟩
    repeat' first | contradiction | intro _ | refine And.intro ?_ ?_ | refine ex_get (by omega) ?_ | (show drawB _ _ = true; kernel_rfl) | (refine ret2 [] (by simp only [go_sem, Bool.not_eq_true', Bool.not_eq_false']; rfl) ?_; simp only [go_sem, Bool.not_eq_true', Bool.not_eq_false']) | (refine acall2 [] (awake17_ok) (by simp only [go_sem, Bool.not_eq_true', Bool.not_eq_false']; rfl) (fit_of (by simp only [go_sem, Bool.not_eq_true', Bool.not_eq_false']) (by simp only [go_sem, Bool.not_eq_true', Bool.not_eq_false']) (by simp only [go_sem, Bool.not_eq_true', Bool.not_eq_false']) (by simp only [go_sem, Bool.not_eq_true', Bool.not_eq_false']) (by simp only [go_sem, Bool.not_eq_true', Bool.not_eq_false']) (by simp only [go_sem, Bool.not_eq_true', Bool.not_eq_false']) (by simp only [go_sem, Bool.not_eq_true', Bool.not_eq_false'])) ?_; simp only [go_sem, Bool.not_eq_true', Bool.not_eq_false'])
    all_goals first
      | omega
      | (simp; done)
      | (exfalso; simp at *; done)
      | skip
  | true =>
    have e3 : errB true = 0 := rfl
    rw [e3]
    refine ⟨fun q => absurd rfl q, fun _ => ?_⟩
    (refine swp_seqW ?_; simp only [go_sem, Bool.not_eq_true', Bool.not_eq_false'])
    (refine acall2 [] (rallF_ok l of hl ho hc) (by simp only [go_sem, Bool.not_eq_true', Bool.not_eq_false']; rfl) (fit_of (by simp only [go_sem, Bool.not_eq_true', Bool.not_eq_false']) (by simp only [go_sem, Bool.not_eq_true', Bool.not_eq_false']) (by simp only [go_sem, Bool.not_eq_true', Bool.not_eq_false']) (by simp only [go_sem, Bool.not_eq_true', Bool.not_eq_false']) (by simp only [go_sem, Bool.not_eq_true', Bool.not_eq_false']) (by simp only [go_sem, Bool.not_eq_true', Bool.not_eq_false']) (by simp only [go_sem, Bool.not_eq_true', Bool.not_eq_false'])) ?_; simp only [go_sem, Bool.not_eq_true', Bool.not_eq_false'])
    (refine acallF2 [208 ] [] ( ints8_ok (allF l of) (allF l of) (by omega) (by omega)) (by simp only [go_sem, Bool.not_eq_true', Bool.not_eq_false']; rfl) (fit_of (by simp only [go_sem, Bool.not_eq_true', Bool.not_eq_false']) (by simp only [go_sem, Bool.not_eq_true', Bool.not_eq_false']) (by simp only [go_sem, Bool.not_eq_true', Bool.not_eq_false']) (by simp only [go_sem, Bool.not_eq_true', Bool.not_eq_false']) (by simp only [go_sem, Bool.not_eq_true', Bool.not_eq_false']) (by simp only [go_sem, Bool.not_eq_true', Bool.not_eq_false']) (by simp only [go_sem, Bool.not_eq_true', Bool.not_eq_false'])) ?_; simp only [go_sem, Bool.not_eq_true', Bool.not_eq_false'])
    by_cases hk : 0 ≤ k ∧ k ≤ of.length
    rotate_left
    · have e1 : kinG l of k = false := kinG_no (.inr hk)
      have e4 : errB false = 4 := rfl
      rw [e1, askA_no e1, forA_no e1, e4]
      (refine swp_seqW ?_; simp only [go_sem, Bool.not_eq_true', Bool.not_eq_false', List.length_map])
      repeat' first | contradiction | intro _ | refine And.intro ?_ ?_ | refine ex_get (by omega) ?_ | (show drawB _ _ = true; kernel_rfl) | (refine ret2 [] (by simp only [go_sem, Bool.not_eq_true', Bool.not_eq_false', List.map]; rfl) ?_; simp only [go_sem, Bool.not_eq_true', Bool.not_eq_false', List.map]) | (refine acall2 [] (awake17_ok) (by simp only [go_sem, Bool.not_eq_true', Bool.not_eq_false']; rfl) (fit_of (by simp only [go_sem, Bool.not_eq_true', Bool.not_eq_false']) (by simp only [go_sem, Bool.not_eq_true', Bool.not_eq_false']) (by simp only [go_sem, Bool.not_eq_true', Bool.not_eq_false']) (by simp only [go_sem, Bool.not_eq_true', Bool.not_eq_false']) (by simp only [go_sem, Bool.not_eq_true', Bool.not_eq_false']) (by simp only [go_sem, Bool.not_eq_true', Bool.not_eq_false']) (by simp only [go_sem, Bool.not_eq_true', Bool.not_eq_false'])) ?_; simp only [go_sem, Bool.not_eq_true', Bool.not_eq_false', List.map])
      all_goals first
        | omega
        | (simp; done)
        | (exfalso; simp at *; done)
        | skip
    have e1 : kinG l of k = true := kinG_chk hc hk
    rw [e1, e3]
    (refine swp_seqW ?_; simp only [go_sem, Bool.not_eq_true', Bool.not_eq_false', List.length_map])
    refine ⟨fun _ => ⟨fun q => by omega, fun _ => ?_⟩, fun q => by omega⟩
    (refine swp_lastW ?_; simp only [go_sem, Bool.not_eq_true', Bool.not_eq_false'])
    (refine acall2 [] (rasked_ok l of k hl ho hk hc) (by simp only [go_sem, Bool.not_eq_true', Bool.not_eq_false']; rfl) (fit_of (by simp only [go_sem, Bool.not_eq_true', Bool.not_eq_false']) (by simp only [go_sem, Bool.not_eq_true', Bool.not_eq_false']) (by simp only [go_sem, Bool.not_eq_true', Bool.not_eq_false']) (by simp only [go_sem, Bool.not_eq_true', Bool.not_eq_false']) (by simp only [go_sem, Bool.not_eq_true', Bool.not_eq_false']) (by simp only [go_sem, Bool.not_eq_true', Bool.not_eq_false']) (by simp only [go_sem, Bool.not_eq_true', Bool.not_eq_false'])) ?_; simp only [go_sem, Bool.not_eq_true', Bool.not_eq_false'])
    (refine acallF2 [392 ] [] ( ints8_ok (askA l of k) (askA l of k) (by omega) (by omega)) (by simp only [go_sem, Bool.not_eq_true', Bool.not_eq_false']; rfl) (fit_of (by simp only [go_sem, Bool.not_eq_true', Bool.not_eq_false']) (by simp only [go_sem, Bool.not_eq_true', Bool.not_eq_false']) (by simp only [go_sem, Bool.not_eq_true', Bool.not_eq_false']) (by simp only [go_sem, Bool.not_eq_true', Bool.not_eq_false']) (by simp only [go_sem, Bool.not_eq_true', Bool.not_eq_false']) (by simp only [go_sem, Bool.not_eq_true', Bool.not_eq_false']) (by simp only [go_sem, Bool.not_eq_true', Bool.not_eq_false'])) ?_; simp only [go_sem, Bool.not_eq_true', Bool.not_eq_false'])
    (refine acall2 [] (rforA_ok l of k hl ho hk hc) (by simp only [go_sem, Bool.not_eq_true', Bool.not_eq_false']; rfl) (fit_of (by simp only [go_sem, Bool.not_eq_true', Bool.not_eq_false']) (by simp only [go_sem, Bool.not_eq_true', Bool.not_eq_false']) (by simp only [go_sem, Bool.not_eq_true', Bool.not_eq_false']) (by simp only [go_sem, Bool.not_eq_true', Bool.not_eq_false']) (by simp only [go_sem, Bool.not_eq_true', Bool.not_eq_false']) (by simp only [go_sem, Bool.not_eq_true', Bool.not_eq_false']) (by simp only [go_sem, Bool.not_eq_true', Bool.not_eq_false'])) ?_; simp only [go_sem, Bool.not_eq_true', Bool.not_eq_false'])
    (refine acall2 [] (awake17_ok) (by simp only [go_sem, Bool.not_eq_true', Bool.not_eq_false']; rfl) (fit_of (by simp only [go_sem, Bool.not_eq_true', Bool.not_eq_false']) (by simp only [go_sem, Bool.not_eq_true', Bool.not_eq_false']) (by simp only [go_sem, Bool.not_eq_true', Bool.not_eq_false']) (by simp only [go_sem, Bool.not_eq_true', Bool.not_eq_false']) (by simp only [go_sem, Bool.not_eq_true', Bool.not_eq_false']) (by simp only [go_sem, Bool.not_eq_true', Bool.not_eq_false']) (by simp only [go_sem, Bool.not_eq_true', Bool.not_eq_false'])) ?_; simp only [go_sem, Bool.not_eq_true', Bool.not_eq_false'])
end Go.Proofs.Ytbgcmnccjfdooaa
/- CHAPTER 17: the plain law of ForcedHeads. -/
/- G -/
/- BOOLS -/
set_option linter.unusedSimpArgs false
set_option linter.unusedVariables false
namespace Go.Proofs.Ytbgcmnccjfdooaa
open Go.RowKit

theorem frc_ran : ∀ (r : List Int) (o : Int), (o = 0 ∨ o = 2 ∨ o = 3 ∨ o = 4) → (r.foldl frcT o = 0 ∨ r.foldl frcT o = 2 ∨ r.foldl frcT o = 3 ∨ r.foldl frcT o = 4)
  | [], _, h => h
  | x :: r, o, h => by
    rw [List.foldl_cons]
    apply frc_ran r
    unfold frcT
    split
    · omega
    · split <;> omega
theorem frc_mem : ∀ (r : List Int) (o : Int), r.foldl frcT o = o ∨ r.foldl frcT o ∈ r
  | [], _ => .inl rfl
  | x :: r, o => by
    rw [List.foldl_cons]
    rcases frc_mem r (frcT o x) with h | h
    · rw [h]
      unfold frcT
      split
      · exact .inr List.mem_cons_self
      · split
        · next q => exact .inr (List.mem_cons.2 (.inl q.1.symm))
        · exact .inl rfl
    · exact .inr (List.mem_cons_of_mem _ h)
theorem frc_ne : ∀ (r : List Int) (o : Int), o ≠ 0 → r.foldl frcT o ≠ 0
  | [], _, h => h
  | x :: r, o, h => by
    rw [List.foldl_cons]
    apply frc_ne r
    unfold frcT
    split
    · omega
    · split <;> omega
theorem frcS_two : ∀ (r : List Int), 2 ∈ r → ∀ o, r.foldl frcT o ≠ 0
  | [], h, _ => by cases h
  | x :: r, h, o => by
    rw [List.foldl_cons]
    rcases List.mem_cons.1 h with q | q
    · apply frc_ne
      unfold frcT
      split
      · omega
      · split <;> omega
    · exact frcS_two r q _
theorem abv_hol {l : List LNo} (h : isS l = true) {a x : Int} (hx : x ∈ abvN l a) : holN l x a = true := by
  rw [abv_eq h, abvR] at hx
  split at hx
  · next q =>
    obtain ⟨m, rfl, h1, h2⟩ := (abvD_mem l a _ x).1 hx
    have q2 := hasN_iff.1 q
    have e1 : hasN l m = true := hasN_iff.2 (by omega)
    simp only [holN, q, e1, Bool.true_and, Bool.and_eq_true, decide_eq_true_eq, Int.toNat_natCast]
    omega
  · cases hx
theorem kin_text {l : List LNo} {of : List Int} {k : Int} (hc : chkB l of = true) (hk : 0 ≤ k ∧ k ≤ of.length) (ht : 0 ≤ (kinA l of k).text) : (kinA l of k).ends = [] ∧ (kinA l of k).begins = [] := by
  have hv := (chk_has hc).1
  have e : kinA l of k = kinS l of k := by unfold kinA; rw [if_pos (kinG_chk hc hk)]
  rw [e] at ht ⊢
  simp only [kinS] at ht ⊢
  unfold txtK at ht
  split at ht
  · next q =>
    obtain ⟨q1, q2, q3⟩ := q
    constructor
    · unfold choS
      split
      · rw [List.filter_eq_nil_iff]
        intro b hb
        have := abv_hol hv hb
        rw [← q3] at this
        have e2 : hldK l of b k = true := by simp only [hldK, this, Bool.and_true, Bool.and_eq_true, decide_eq_true_eq]; omega
        simp [e2]
      · rfl
    · unfold choS
      split
      · rw [List.reverse_eq_nil_iff, List.filter_eq_nil_iff]
        intro b hb
        have := abv_hol hv hb
        rw [q3] at this
        have e2 : hldK l of b (k - 1) = true := by simp only [hldK, this, Bool.and_true, Bool.and_eq_true, decide_eq_true_eq]; omega
        simp [e2]
      · rfl
  · omega
theorem ask_mem {l : List LNo} {x : LKin} {y : Int} : y ∈ askL l x ↔ (∃ b ∈ x.ends, (styN l b).after = y) ∨ (∃ b ∈ x.begins, (0 < (styN l b).head ∧ y = 2) ∨ (styN l b).before = y) := by
  simp only [askL, List.mem_append, List.mem_map, List.mem_flatMap]
  constructor
  · rintro (h | ⟨b, hb, h⟩)
    · exact .inl h
    · refine .inr ⟨b, hb, ?_⟩
      unfold begA at h
      split at h
      · next q =>
        rcases List.mem_cons.1 h with h | h
        · exact .inl ⟨q, h⟩
        · exact .inr (List.mem_singleton.1 h).symm
      · exact .inr (List.mem_singleton.1 h).symm
  · rintro (h | ⟨b, hb, h⟩)
    · exact .inl h
    · refine .inr ⟨b, hb, ?_⟩
      unfold begA
      rcases h with ⟨h1, h2⟩ | h
      · rw [if_pos h1, h2]; simp
      · split <;> simp [h]
/-- does no block ask for any break, nor has a header? -/
def calmB (l : List LNo) : Bool := l.all (fun x => decide (x.st.head = 0) && decide (x.st.before < 2) && decide (x.st.after < 2))
def hdsB (l : List LNo) (b : List Int) : Bool := b.any (fun b => decide (0 < (styN l b).head))
def askB (l : List LNo) (f : Int) (b : List Int) : Bool := b.any (fun b => decide ((styN l b).before = f) || (decide (0 < (styN l b).head) && decide (f = 2)))
def aftB (l : List LNo) (f : Int) (b : List Int) : Bool := b.any (fun b => decide ((styN l b).after = f))
structure HdsP (l : List LNo) (x : LKin) (f : Int) : Prop where
  calm : f ≠ 0 → calmB l = false
  text : f ≠ 0 → x.text < 0
  heads : hdsB l x.begins = true → f ≠ 0
  asks : f ≠ 0 → askB l f x.begins = true ∨ aftB l f x.ends = true
  ran : f ≠ 0 → 2 ≤ f ∧ f ≤ 4
theorem hds_law {l : List LNo} {of : List Int} {k : Int} (hc : chkB l of = true) (hk : 0 ≤ k ∧ k < of.length) : HdsP l (kinA l of k) (forA l of k) := by
  have hh := kinA_has l of k
  have hg := kinG_chk hc (k := k) (by omega)
  have ea : askA l of k = askL l (kinA l of k) := by unfold askA; rw [if_pos ⟨hg, by omega⟩]
  have ef : forA l of k = frcS (askL l (kinA l of k)) := by unfold forA; rw [ea]
  have hm : forA l of k ≠ 0 → forA l of k ∈ askL l (kinA l of k) := fun h => by
    rw [ef] at h ⊢
    exact (frc_mem _ 0).resolve_left h
  have ht := kin_text hc (k := k) (by omega)
  generalize kinA l of k = x at *
  generalize forA l of k = f at *
  refine ⟨fun h => ?_, fun h => ?_, fun h => ?_, fun h => ?_, fun h => ?_⟩
  · have hr := frc_ran (askL l x) 0 (.inl rfl)
    have e : (askL l x).foldl frcT 0 = f := ef.symm
    rw [e] at hr
    rcases hcal : calmB l with _ | _
    · rfl
    · exfalso
      have hs : ∀ b, hasN l b = true → (styN l b).head = 0 ∧ (styN l b).before < 2 ∧ (styN l b).after < 2 := fun b hb => by
        have q := hasN_iff.1 hb
        obtain ⟨n, rfl⟩ : ∃ n : Nat, b = n := ⟨b.toNat, by omega⟩
        have hn : n < l.length := by omega
        have := List.all_eq_true.1 hcal l[n] (List.getElem_mem hn)
        simp only [Bool.and_eq_true, decide_eq_true_eq] at this
        rw [styN_get hn]
        exact ⟨this.1.1, this.1.2, this.2⟩
      rcases ask_mem.1 (hm h) with ⟨b, hb, q⟩ | ⟨b, hb, q⟩
      · have := hs b (hh.1 b hb); omega
      · have := hs b (hh.2 b hb); omega
  · refine Int.lt_of_not_ge fun q => ?_
    obtain ⟨t1, t2⟩ := ht q
    have := hm h
    rw [askL, t1, t2] at this
    cases this
  · rw [ef]
    refine frcS_two _ (ask_mem.2 (.inr ?_)) 0
    obtain ⟨b, hb, q⟩ := List.any_eq_true.1 h
    exact ⟨b, hb, .inl ⟨of_decide_eq_true q, rfl⟩⟩
  · rcases ask_mem.1 (hm h) with ⟨b, hb, q⟩ | ⟨b, hb, q⟩
    · exact .inr (List.any_eq_true.2 ⟨b, hb, decide_eq_true q⟩)
    · refine .inl (List.any_eq_true.2 ⟨b, hb, ?_⟩)
      simp only [Bool.or_eq_true, Bool.and_eq_true, decide_eq_true_eq]
      exact q.symm
  · have hr := frc_ran (askL l x) 0 (.inl rfl)
    have e : (askL l x).foldl frcT 0 = f := ef.symm
    rw [e] at hr
    omega
end Go.Proofs.Ytbgcmnccjfdooaa
