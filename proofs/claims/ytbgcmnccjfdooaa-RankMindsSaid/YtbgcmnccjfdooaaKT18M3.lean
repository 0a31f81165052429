/- CONTRACTS of the functions, and plain laws, joined out of: GRanG GForJ GRanK GRanI GRanL GKinN GKinM GKinP GRanM GRanH GRanJ GRanN. -/
import Derived.Test.YtbgcmnccjfdooaaKT18M2
/- CHAPTER 18: the document's rank. -/
/- G -/
/- BOOLS -/
set_option linter.unusedSimpArgs false
set_option linter.unusedVariables false
namespace Go.Proofs.Ytbgcmnccjfdooaa
open Go.RowKit

theorem ins_ran {l : List LNo} (hv : isS l = true) {b : Int} (hb : hasN l b = true) : (styN l b).inside = 0 ∨ (styN l b).inside = 1 := by
  have hh := hasN_iff.1 hb
  obtain ⟨n, rfl⟩ : ∃ n : Nat, b = n := ⟨b.toNat, by omega⟩
  have hn : n < l.length := by omega
  rw [styN_get hn]
  have h := isG_nod l _ _ hv l[n] (List.getElem_mem hn)
  unfold nodB at h
  split at h
  · simp only [Bool.and_eq_true] at h
    have h5 := h.2
    simp only [styB, hasL, offN, List.any_cons, List.any_nil, Bool.or_false, Bool.and_eq_true, Bool.not_eq_true', Bool.or_eq_false_iff, decide_eq_false_iff_not] at h5
    omega
  · left
    have hbare : bareB l[n] = true := by
      split at h
      · simp only [Bool.and_eq_true] at h; exact h.1.1.1.1.1.1.1
      · split at h
        · simp only [Bool.and_eq_true] at h; exact h.1.1.1
        · split at h
          · simp only [Bool.and_eq_true] at h; exact h.1.1.1
          · cases h
    simp only [bareB, Bool.and_eq_true, decide_eq_true_eq] at hbare
    omega
theorem kin_txt {l : List LNo} {of : List Int} {k : Int} (hc : chkB l of = true) (hk : 0 ≤ k ∧ k ≤ of.length) : -1 ≤ (kinA l of k).text ∧ (kinA l of k).text < (l.length : Int) + 1 := by
  have hf := (chk_has hc).2
  have e : kinA l of k = kinS l of k := by unfold kinA; rw [if_pos (kinG_chk hc hk)]
  rw [e]
  show -1 ≤ txtK of k ∧ txtK of k < (l.length : Int) + 1
  unfold txtK
  split
  · next q =>
    have hj : k.toNat < of.length := by omega
    have e2 : of.getD k.toNat 0 = of[k.toNat] := by simp [List.getD_eq_getElem?_getD, hj]
    rw [e2]
    have := hasN_iff.1 (hf _ (List.getElem_mem hj))
    omega
  · omega
def b01 (b : Bool) (n : Int) : Int := if b = true then n else 0
theorem rnk_sum (f w b : Bool) : rnkP f w b 3 = b01 f 1 + 2 * b01 w 1 + 4 * b01 b 1 := by cases f <;> cases w <;> cases b <;> rfl
def stQ (l : List LNo) (of : List Int) (k : Int) (x : LKin) (t : List (Nat × AV)) : AS := ⟨t ++ [(0, .sl 20 (l.map cNo)), (1, .sl 1 (of.map cInt)), (2, .raw (.int .i64 k)), (7, .hdr 800)], [(800, some (.cells 28 [.sl 1 (x.ends.map cInt), .sl 1 (x.begins.map cInt), .sl 1 (x.both.map cInt), .raw (.int .i64 x.text)]))], none⟩
attribute [go_sem] stQ
set_option maxRecDepth 100000 in
set_option maxHeartbeats 8000000 in
theorem rrnk_ok (l : List LNo) (of : List Int) (k : Int) (hl : l.length ≤ 1000) (ho : of.length ≤ 1000) (hk : 0 ≤ k ∧ k ≤ of.length) (hc : chkB l of = true) : FnOk Try.prog 45 [.sl 20 (l.map cNo), .sl 1 (of.map cInt), .raw (.int .i64 k)] [] (.raw (.int .i64 (rnkA l of k))) [] := by
  have hn := kinA_len l of k
  have hbo := both_has l of k
  have hg := kinG_chk hc hk
  have hv := (chk_has hc).1
  have htx := kin_txt hc hk
  have hlin := rlin_ok l of k hl ho hk hc
  refine fn_of_swp Try.func45 rfl (by kernel_rfl) (by kernel_rfl) (Nat.le_of_ble_eq_true rfl) Try.results45 ?_
  (refine swp_seqW ?_; simp only [go_sem, Bool.not_eq_true', Bool.not_eq_false'])
  (refine swp_seqW ?_; simp only [go_sem, Bool.not_eq_true', Bool.not_eq_false', List.length_map])
  by_cases hq : k ≠ 0 ∧ k ≠ of.length
  rotate_left
  · have e : rnkA l of k = 0 := if_neg (fun q => hq q.2)
    rw [e]
    repeat' first | contradiction | intro _ | refine And.intro ?_ ?_ | refine ex_get (by omega) ?_ | (show drawB _ _ = true; kernel_rfl) | (refine ret2 [] (by simp only [go_sem, Bool.not_eq_true', Bool.not_eq_false']; rfl) ?_; simp only [go_sem, Bool.not_eq_true', Bool.not_eq_false'])
    all_goals first
      | rfl
      | omega
      | exact absurd ⟨by assumption, by assumption⟩ hq
      | skip
  have e : rnkA l of k = rnkK l of k (kinA l of k) := if_pos ⟨hg, hq⟩
  rw [e, rnkK, rnk_sum]
  refine ⟨fun _ => ⟨fun q => absurd q hq.2, fun _ => ?_⟩, fun q => absurd q hq.1⟩
  refine swp_cutS (fun _ : Unit => stQ l of k (kinA l of k) []) (fun _ => True) 120 ?_ ?_
  · (refine swp_lastW ?_; simp only [go_sem, Bool.not_eq_true', Bool.not_eq_false'])
    (refine acall2 [] (rat_ok l of k hl ho hk) (by simp only [go_sem, Bool.not_eq_true', Bool.not_eq_false']; rfl) (fit_of (by simp only [go_sem, Bool.not_eq_true', Bool.not_eq_false']) (by simp only [go_sem, Bool.not_eq_true', Bool.not_eq_false']) (by simp only [go_sem, Bool.not_eq_true', Bool.not_eq_false']) (by simp only [go_sem, Bool.not_eq_true', Bool.not_eq_false']) (by simp only [go_sem, Bool.not_eq_true', Bool.not_eq_false']) (by simp only [go_sem, Bool.not_eq_true', Bool.not_eq_false']) (by simp only [go_sem, Bool.not_eq_true', Bool.not_eq_false'])) ?_; simp only [go_sem, Bool.not_eq_true', Bool.not_eq_false'])
    rw [kin_R hc hk]
    (refine cut_end [104, 105, 106 ] ( ()) (by simp only [go_sem, Bool.not_eq_true', Bool.not_eq_false']; rfl) ?_ ?_; (focus (simp only [go_sem, Bool.not_eq_true', Bool.not_eq_false']; done)))
    trivial
  rintro - -
  generalize kinA l of k = x at *
  (refine swp_seqW ?_; simp only [go_sem, Bool.not_eq_true', Bool.not_eq_false'])
  refine swp_cutS (fun _ : Unit => stQ l of k x [(8, .raw (.int .i64 (b01 (fewB l of k x) 1)))]) (fun _ => True) 160 ?_ ?_
  · have hp := parN_ran l x.text
    (refine swp_lastW ?_; simp only [go_sem, Bool.not_eq_true', Bool.not_eq_false'])
    refine ⟨fun ht => ?_, fun ht => ?_⟩
    rotate_left
    · have ef : fewB l of k x = false := by simp only [fewB, Bool.and_eq_false_iff, decide_eq_false_iff_not]; omega
      have eb : b01 (fewB l of k x) 1 = 0 := by rw [ef]; rfl
      rw [eb]
      (refine cut_end [] (()) (by simp only [go_sem, Bool.not_eq_true', Bool.not_eq_false']; rfl) ?_ ?_; (focus (simp only [go_sem, Bool.not_eq_true', Bool.not_eq_false']; done)))
      trivial
    have ef : fewB l of k x = (decide (linA of k x.text < (stP l x.text).orphans) || decide (linB of k x.text < (stP l x.text).widows)) := by
      have : decide (0 ≤ x.text) = true := decide_eq_true ht
      rw [fewB, this, Bool.true_and]
    have e1 : (linA of k x.text < (stP l x.text).orphans ∨ linB of k x.text < (stP l x.text).widows) → b01 (fewB l of k x) 1 = 1 := fun q => by rw [ef]; rcases q with q | q <;> simp [b01, q]
    have e0 : ¬ linA of k x.text < (stP l x.text).orphans → ¬ linB of k x.text < (stP l x.text).widows → b01 (fewB l of k x) 1 = 0 := fun q q2 => by rw [ef]; simp [b01, q, q2]
    generalize b01 (fewB l of k x) 1 = V at e1 e0 ⊢
    (refine acall2 [] (parent8r_ok l x.text (by omega) hl) (by simp only [go_sem, Bool.not_eq_true', Bool.not_eq_false']; rfl) (fit_of (by simp only [go_sem, Bool.not_eq_true', Bool.not_eq_false']) (by simp only [go_sem, Bool.not_eq_true', Bool.not_eq_false']) (by simp only [go_sem, Bool.not_eq_true', Bool.not_eq_false']) (by simp only [go_sem, Bool.not_eq_true', Bool.not_eq_false']) (by simp only [go_sem, Bool.not_eq_true', Bool.not_eq_false']) (by simp only [go_sem, Bool.not_eq_true', Bool.not_eq_false']) (by simp only [go_sem, Bool.not_eq_true', Bool.not_eq_false'])) ?_; simp only [go_sem, Bool.not_eq_true', Bool.not_eq_false'])
    refine ⟨fun q => ?_, fun q => ?_⟩
    · have e : stP l x.text = styN l (parN l x.text) := if_pos q
      rw [e] at e0 e1
      generalize parN l x.text = b at hp q e0 e1 ⊢
      obtain ⟨n, rfl⟩ : ∃ n : Nat, b = n := ⟨b.toNat, by omega⟩
      have hn : n < l.length := by omega
      rw [styN_get hn] at e0 e1
      refine ⟨by omega, ?_⟩
      simp only [Int.toNat_natCast]
      refine ex_get hn ⟨by omega, ex_get hn ?_⟩
      (refine acall2 [] (hlin) (by simp only [go_sem, Bool.not_eq_true', Bool.not_eq_false']; rfl) (fit_of (by simp only [go_sem, Bool.not_eq_true', Bool.not_eq_false']) (by simp only [go_sem, Bool.not_eq_true', Bool.not_eq_false']) (by simp only [go_sem, Bool.not_eq_true', Bool.not_eq_false']) (by simp only [go_sem, Bool.not_eq_true', Bool.not_eq_false']) (by simp only [go_sem, Bool.not_eq_true', Bool.not_eq_false']) (by simp only [go_sem, Bool.not_eq_true', Bool.not_eq_false']) (by simp only [go_sem, Bool.not_eq_true', Bool.not_eq_false'])) ?_; simp only [go_sem, Bool.not_eq_true', Bool.not_eq_false'])
      repeat' first | contradiction | intro _ | refine And.intro ?_ ?_ | refine ex_get (by omega) ?_ | (show drawB _ _ = true; kernel_rfl) | (refine ret2 [] (by simp only [go_sem, Bool.not_eq_true', Bool.not_eq_false']; rfl) ?_; simp only [go_sem, Bool.not_eq_true', Bool.not_eq_false'])
      all_goals first
        | (have ev := e1 (by omega)
           rw [ev]
           (refine cut_end [] (()) (by simp only [go_sem, Bool.not_eq_true', Bool.not_eq_false']; rfl) ?_ ?_; (focus (simp only [go_sem, Bool.not_eq_true', Bool.not_eq_false']; done)))
           trivial)
        | (have ev := e0 (by omega) (by omega)
           rw [ev]
           (refine cut_end [] (()) (by simp only [go_sem, Bool.not_eq_true', Bool.not_eq_false']; rfl) ?_ ?_; (focus (simp only [go_sem, Bool.not_eq_true', Bool.not_eq_false']; done)))
           trivial)
        | skip
    · have e : stP l x.text = sty2 := if_neg q
      rw [e] at e0 e1
      simp only [sty2] at e0 e1
      (refine acall2 [] (hlin) (by simp only [go_sem, Bool.not_eq_true', Bool.not_eq_false']; rfl) (fit_of (by simp only [go_sem, Bool.not_eq_true', Bool.not_eq_false']) (by simp only [go_sem, Bool.not_eq_true', Bool.not_eq_false']) (by simp only [go_sem, Bool.not_eq_true', Bool.not_eq_false']) (by simp only [go_sem, Bool.not_eq_true', Bool.not_eq_false']) (by simp only [go_sem, Bool.not_eq_true', Bool.not_eq_false']) (by simp only [go_sem, Bool.not_eq_true', Bool.not_eq_false']) (by simp only [go_sem, Bool.not_eq_true', Bool.not_eq_false'])) ?_; simp only [go_sem, Bool.not_eq_true', Bool.not_eq_false'])
      repeat' first | contradiction | intro _ | refine And.intro ?_ ?_ | refine ex_get (by omega) ?_ | (show drawB _ _ = true; kernel_rfl) | (refine ret2 [] (by simp only [go_sem, Bool.not_eq_true', Bool.not_eq_false']; rfl) ?_; simp only [go_sem, Bool.not_eq_true', Bool.not_eq_false'])
      all_goals first
        | (have ev := e1 (by omega)
           rw [ev]
           (refine cut_end [] (()) (by simp only [go_sem, Bool.not_eq_true', Bool.not_eq_false']; rfl) ?_ ?_; (focus (simp only [go_sem, Bool.not_eq_true', Bool.not_eq_false']; done)))
           trivial)
        | (have ev := e0 (by omega) (by omega)
           rw [ev]
           (refine cut_end [] (()) (by simp only [go_sem, Bool.not_eq_true', Bool.not_eq_false']; rfl) ?_ ?_; (focus (simp only [go_sem, Bool.not_eq_true', Bool.not_eq_false']; done)))
           trivial)
        | skip
  rintro - -
  have hV : ∀ c : Bool, 0 ≤ b01 c 1 ∧ b01 c 1 ≤ 1 := fun c => by cases c <;> simp [b01]
  have hV1 := hV (fewB l of k x)
  generalize b01 (fewB l of k x) 1 = V at hV1 ⊢
  (refine swp_seqW ?_; simp only [go_sem, Bool.not_eq_true', Bool.not_eq_false'])
  refine swp_cutS (fun _ : Unit => stQ l of k x [(8, .raw (.int .i64 V)), (14, .raw (.int .i64 (b01 (x.both.any (insI l)) 1)))]) (fun _ => True) 200 ?_ ?_
  · (refine swp_seqW ?_; simp only [go_sem, Bool.not_eq_true', Bool.not_eq_false'])
    refine swp_block ?_
    refine swp_loop2 [] (fun z : KY Int => stQ l of k x [(8, .raw (.int .i64 V)), (14, .raw (.int .i64 z.o)), (15, .raw (.int .i64 z.k))]) (fun z => z.k ≤ x.both.length ∧ z.o = b01 ((x.both.take z.k).any (insI l)) 1) (fun z => x.both.length - z.k) 200 ⟨0, 0⟩ (by simp only [go_sem, Bool.not_eq_true', Bool.not_eq_false']; rfl) (by simp only [go_sem, Bool.not_eq_true', Bool.not_eq_false']) ?_ ?_
    · exact ⟨Nat.zero_le _, rfl⟩
    · rintro ⟨j, o⟩ ⟨j1, j2⟩
      simp only at j1 j2
      (refine swp_lastW ?_; simp only [go_sem, Bool.not_eq_true', Bool.not_eq_false', List.length_map])
      refine ⟨fun h5 => ?_, fun h5 => ?_⟩
      · have hj : j < x.both.length := by omega
        have hb := hbo _ (List.getElem_mem hj)
        have hi := ins_ran hv hb
        have hh := hasN_iff.1 hb
        have e1 : b01 ((x.both.take (j + 1)).any (insI l)) 1 = max o (styN l x.both[j]).inside := by
          rw [List.take_succ_eq_append_getElem hj, List.any_append, j2]
          have e2 : [x.both[j]].any (insI l) = decide ((styN l x.both[j]).inside = 1) := by simp [insI]
          rw [e2]
          cases (x.both.take j).any (insI l) <;> rcases hi with q | q <;> rw [q] <;> rfl
        refine ⟨by omega, ex_get hj ?_⟩
        generalize x.both[j] = b at hh e1 ⊢
        obtain ⟨n, rfl⟩ : ∃ n : Nat, b = n := ⟨b.toNat, by omega⟩
        have hn2 : n < l.length := by omega
        rw [styN_get hn2] at e1
        refine ⟨by omega, ?_⟩
        simp only [Int.toNat_natCast]
        refine ex_get hn2 ⟨by omega, ?_⟩
        (refine loop_end [] (⟨j + 1, max o l[n].st.inside⟩) (by simp only [go_sem, Bool.not_eq_true', Bool.not_eq_false']; rfl) ?_ ?_ ?_; (focus first | omega | (simp only; omega)); (focus (simp only [go_sem, Bool.not_eq_true', Bool.not_eq_false']; done)))
        exact ⟨hj, e1.symm⟩
      · rw [List.take_of_length_le (by omega)] at j2
        rw [j2]
        (refine cut_end [] (()) (by simp only [go_sem, Bool.not_eq_true', Bool.not_eq_false']; rfl) ?_ ?_; (focus (simp only [go_sem, Bool.not_eq_true', Bool.not_eq_false']; done)))
        trivial
  rintro - -
  have hW1 := hV (x.both.any (insI l))
  generalize b01 (x.both.any (insI l)) 1 = W at hW1 ⊢
  have hal := askA_len l of k
  (refine swp_seqW ?_; simp only [go_sem, Bool.not_eq_true', Bool.not_eq_false'])
  refine swp_cutS (fun _ : Unit => ⟨[(8, .raw (.int .i64 V)), (14, .raw (.int .i64 W)), (16, .raw (.int .i64 0)), (17, .sl 1 ((askA l of k).map cInt))], [], none⟩) (fun _ => True) 300 ?_ ?_
  · (refine swp_lastW ?_; simp only [go_sem, Bool.not_eq_true', Bool.not_eq_false'])
    (refine acall2 [] (rasked_ok l of k hl ho hk hc) (by simp only [go_sem, Bool.not_eq_true', Bool.not_eq_false']; rfl) (fit_of (by simp only [go_sem, Bool.not_eq_true', Bool.not_eq_false']) (by simp only [go_sem, Bool.not_eq_true', Bool.not_eq_false']) (by simp only [go_sem, Bool.not_eq_true', Bool.not_eq_false']) (by simp only [go_sem, Bool.not_eq_true', Bool.not_eq_false']) (by simp only [go_sem, Bool.not_eq_true', Bool.not_eq_false']) (by simp only [go_sem, Bool.not_eq_true', Bool.not_eq_false']) (by simp only [go_sem, Bool.not_eq_true', Bool.not_eq_false'])) ?_; simp only [go_sem, Bool.not_eq_true', Bool.not_eq_false'])
    (refine cut_end [1632 ] ( ()) (by simp only [go_sem, Bool.not_eq_true', Bool.not_eq_false']; rfl) ?_ ?_; (focus (simp only [go_sem, Bool.not_eq_true', Bool.not_eq_false']; done)))
    trivial
  rintro - -
  rw [betB]
  have hW2 := hV ((askA l of k).any (fun y => decide (1 = y)))
  generalize askA l of k = all at hal hW2 ⊢
  refine swp_cutS (fun _ : Unit => ⟨[(8, .raw (.int .i64 V)), (14, .raw (.int .i64 W)), (16, .raw (.int .i64 (b01 (all.any (fun y => decide (1 = y))) 1)))], [], none⟩) (fun _ => True) 300 ?_ ?_
  · (refine swp_seqW ?_; simp only [go_sem, Bool.not_eq_true', Bool.not_eq_false'])
    refine swp_block ?_
    refine swp_loop2 [] (fun z : KY Int => ⟨[(8, .raw (.int .i64 V)), (14, .raw (.int .i64 W)), (16, .raw (.int .i64 z.o)), (17, .sl 1 (all.map cInt)), (18, .raw (.int .i64 z.k))], [], none⟩) (fun z => z.k ≤ all.length ∧ z.o = b01 ((all.take z.k).any (fun y => decide (1 = y))) 1) (fun z => all.length - z.k) 300 ⟨0, 0⟩ (by simp only [go_sem, Bool.not_eq_true', Bool.not_eq_false']; rfl) (by simp only [go_sem, Bool.not_eq_true', Bool.not_eq_false']) ?_ ?_
    · exact ⟨Nat.zero_le _, rfl⟩
    · rintro ⟨j, o⟩ ⟨j1, j2⟩
      simp only at j1 j2
      (refine swp_lastW ?_; simp only [go_sem, Bool.not_eq_true', Bool.not_eq_false', List.length_map])
      refine ⟨fun h5 => ?_, fun h5 => ?_⟩
      · have hj : j < all.length := by omega
        have e1 : b01 ((all.take (j + 1)).any (fun y => decide (1 = y))) 1 = if all[j] = 1 then 1 else o := by
          rw [List.take_succ_eq_append_getElem hj, List.any_append, j2]
          by_cases q : all[j] = 1
          · rw [if_pos q]
            simp [q, b01]
          · have q2 : ¬ 1 = all[j] := fun h => q h.symm
            rw [if_neg q]
            simp [q2]
        refine ⟨by omega, ex_get hj ⟨fun q => ?_, fun q => ?_⟩⟩
        · rw [if_pos q] at e1
          refine ⟨by omega, ?_⟩
          (refine loop_end [] (⟨j + 1, 1⟩) (by simp only [go_sem, Bool.not_eq_true', Bool.not_eq_false']; rfl) ?_ ?_ ?_; (focus first | omega | (simp only; omega)); (focus (simp only [go_sem, Bool.not_eq_true', Bool.not_eq_false']; done)))
          exact ⟨hj, e1.symm⟩
        · rw [if_neg q] at e1
          refine ⟨by omega, ?_⟩
          (refine loop_end [] (⟨j + 1, o⟩) (by simp only [go_sem, Bool.not_eq_true', Bool.not_eq_false']; rfl) ?_ ?_ ?_; (focus first | omega | (simp only; omega)); (focus (simp only [go_sem, Bool.not_eq_true', Bool.not_eq_false']; done)))
          exact ⟨hj, e1.symm⟩
      · rw [List.take_of_length_le (by omega)] at j2
        rw [j2]
        (refine cut_end [] (()) (by simp only [go_sem, Bool.not_eq_true', Bool.not_eq_false']; rfl) ?_ ?_; (focus (simp only [go_sem, Bool.not_eq_true', Bool.not_eq_false']; done)))
        trivial
  rintro - -
  generalize b01 (all.any (fun y => decide (1 = y))) 1 = Z at hW2 ⊢
  (refine swp_lastW ?_; simp only [go_sem, Bool.not_eq_true', Bool.not_eq_false'])
  repeat' first | contradiction | intro _ | refine And.intro ?_ ?_ | refine ex_get (by omega) ?_ | (show drawB _ _ = true; kernel_rfl) | (refine ret2 [] (by simp only [go_sem, Bool.not_eq_true', Bool.not_eq_false']; rfl) ?_; simp only [go_sem, Bool.not_eq_true', Bool.not_eq_false'])
  all_goals first
    | omega
    | skip
set_option maxRecDepth 100000 in
set_option maxHeartbeats 4000000 in
theorem rallR_ok (l : List LNo) (of : List Int) (hl : l.length ≤ 1000) (ho : of.length ≤ 1000) (hc : chkB l of = true) : FnOk Try.prog 43 [.sl 20 (l.map cNo), .sl 1 (of.map cInt)] [] (.hdr 8) [(8, .row 3 1 ((allR l of).map cInt))] := by
  have ea : allR l of = (List.range (of.length + 1)).map (fun k : Nat => rnkA l of k) := by unfold allR; rw [if_pos hc]
  rw [ea]
  refine fn_of_awp Try.func43 rfl (by kernel_rfl) (by kernel_rfl) (Nat.le_of_ble_eq_true rfl) Try.results43 ?_
  simp only [go_sem, Bool.not_eq_true', Bool.not_eq_false', List.length_map]
  refine aloop2 [] (fun z : KY (List Int) => ⟨[(0, .sl 20 (l.map cNo)), (1, .sl 1 (of.map cInt)), (5, .hdr 16), (6, .raw (.int .i64 z.k))], [(16, some (.row 3 1 (z.o.map cInt)))], none⟩) (fun z => z.k ≤ of.length + 1 ∧ z.o = (List.range z.k).map (fun k : Nat => rnkA l of k)) (fun z => of.length + 1 - z.k) 40 ⟨0, []⟩ (by simp only [go_sem, Bool.not_eq_true', Bool.not_eq_false']; rfl) (by simp only [go_sem, Bool.not_eq_true', Bool.not_eq_false']) ?_ ?_
  · exact ⟨Nat.zero_le _, rfl⟩
  · rintro ⟨k, o⟩ ⟨k1, k2⟩
    simp only at k1 k2
    have hol : o.length = k := by rw [k2]; simp
    simp only [go_sem, Bool.not_eq_true', Bool.not_eq_false', List.length_map]
    refine ⟨fun h5 => ?_, fun h5 => ?_⟩
    · (refine acall2 [] (rrnk_ok l of k hl ho (by omega) hc) (by simp only [go_sem, Bool.not_eq_true', Bool.not_eq_false']; rfl) (fit_of (by simp only [go_sem, Bool.not_eq_true', Bool.not_eq_false']) (by simp only [go_sem, Bool.not_eq_true', Bool.not_eq_false']) (by simp only [go_sem, Bool.not_eq_true', Bool.not_eq_false']) (by simp only [go_sem, Bool.not_eq_true', Bool.not_eq_false']) (by simp only [go_sem, Bool.not_eq_true', Bool.not_eq_false']) (by simp only [go_sem, Bool.not_eq_true', Bool.not_eq_false']) (by simp only [go_sem, Bool.not_eq_true', Bool.not_eq_false'])) ?_; simp only [go_sem, Bool.not_eq_true', Bool.not_eq_false'])
      repeat' first | contradiction | intro _ | refine And.intro ?_ ?_ | refine ex_get (by omega) ?_ | (show drawB _ _ = true; kernel_rfl) | (refine ret2 [] (by simp only [go_sem, Bool.not_eq_true', Bool.not_eq_false']; rfl) ?_; simp only [go_sem, Bool.not_eq_true', Bool.not_eq_false'])
      all_goals first
        | omega
        | skip
      (refine loop_end [] (⟨k + 1, o ++ [rnkA l of k]⟩) (by simp only [go_sem, Bool.not_eq_true', Bool.not_eq_false']; rfl) ?_ ?_ ?_; (focus first | omega | (simp only; omega)); (focus (simp only [go_sem, Bool.not_eq_true', Bool.not_eq_false', List.map_append]; done)))
      simp only
      exact ⟨by omega, by rw [k2, List.range_succ, List.map_append]; rfl⟩
    · have e5 : k = of.length + 1 := by omega
      rw [e5, List.range_succ] at k2
      rw [← k2]
      (refine ret2 [] (by simp only [go_sem, Bool.not_eq_true', Bool.not_eq_false']; rfl) ?_; simp only [go_sem, Bool.not_eq_true', Bool.not_eq_false'])
end Go.Proofs.Ytbgcmnccjfdooaa
/- CHAPTER 17: the plain law of ForcedLast. -/
/- G -/
/- BOOLS -/
set_option linter.unusedSimpArgs false
set_option linter.unusedVariables false
namespace Go.Proofs.Ytbgcmnccjfdooaa
open Go.RowKit

/-- one node's break before is another. -/
def bef (x : LNo) (s : Int) : LNo := { x with st := { x.st with before := s } }
def turnN (l : List LNo) (j : Nat) (s : Int) : List LNo := match l[j]? with | some x => l.set j (bef x s) | none => l
theorem turnN_eq {l : List LNo} {j : Nat} (hj : j < l.length) (s : Int) : turnN l j s = l.set j (bef l[j] s) := by unfold turnN; rw [List.getElem?_eq_getElem hj]
theorem isG_nodk : ∀ (l : List LNo) (i : Nat) (st : List Int), isG l i st = true → ∀ x ∈ l, nodB x = true ∧ ¬(x.kind ≠ 1 ∧ 1 < x.size)
  | [], _, _, _, _, h => by cases h
  | y :: l, i, st, h, x, hx => by
    rw [isG] at h
    simp only [Bool.and_eq_true, Bool.not_eq_true', Bool.and_eq_false_iff, decide_eq_true_eq, decide_eq_false_iff_not] at h
    rcases List.mem_cons.1 hx with q | q
    · subst q
      exact ⟨h.1.1.1.1, by omega⟩
    · exact isG_nodk l _ _ h.2 x q
theorem isG_set : ∀ (l : List LNo) (i : Nat) (st : List Int) (j : Nat) (y : LNo) (hj : j < l.length), nodB y = nodB l[j] → y.size = l[j].size → y.kind = l[j].kind → isG (l.set j y) i st = isG l i st
  | [], _, _, _, _, hj, _, _, _ => absurd hj (Nat.not_lt_zero _)
  | x :: l, i, st, 0, y, hj, h1, h2, h3 => by
    simp only [List.getElem_cons_zero] at h1 h2 h3
    simp only [List.set_cons_zero, isG, h1, h2, h3]
  | x :: l, i, st, j + 1, y, hj, h1, h2, h3 => by
    simp only [List.getElem_cons_succ] at h1 h2 h3
    simp only [List.set_cons_succ, isG]
    rw [isG_set l _ _ j y (by simpa using hj) h1 h2 h3]
theorem mayG_set : ∀ (l : List LNo) (i : Nat) (r : List Int) (j : Nat) (y : LNo) (hj : j < l.length), y.words = l[j].words → y.kind = l[j].kind → mayG (l.set j y) i r = mayG l i r
  | [], _, _, _, _, hj, _, _ => absurd hj (Nat.not_lt_zero _)
  | x :: l, i, r, 0, y, hj, h1, h2 => by
    simp only [List.getElem_cons_zero] at h1 h2
    simp only [List.set_cons_zero, mayG, okT, h1, h2]
  | x :: l, i, r, j + 1, y, hj, h1, h2 => by
    simp only [List.getElem_cons_succ] at h1 h2
    simp only [List.set_cons_succ, mayG]
    rw [mayG_set l _ _ j y (by simpa using hj) h1 h2]
theorem turn_len (l : List LNo) (j : Nat) (s : Int) : (turnN l j s).length = l.length := by
  unfold turnN; split <;> simp
theorem turn_siz (l : List LNo) (j : Nat) (s : Int) (k : Nat) : sizN (turnN l j s) k = sizN l k := by
  unfold turnN
  split
  · next x q =>
    obtain ⟨hj, rfl⟩ := List.getElem?_eq_some_iff.1 q
    unfold sizN
    by_cases e : j = k
    · subst e
      rw [List.getElem?_set_self hj, q]
      rfl
    · rw [List.getElem?_set_ne e]
  · rfl
theorem turn_nod {x : LNo} {s : Int} (h : nodB x = true) (hk : x.kind = 1) (hs : s = 3 ∨ s = 4) : nodB (bef x s) = true := by
  unfold nodB at h ⊢
  have e : (bef x s).kind = x.kind := rfl
  rw [e]
  rw [if_pos hk] at h ⊢
  simp only [Bool.and_eq_true] at h ⊢
  refine ⟨h.1, ?_⟩
  have h5 := h.2
  simp only [styB, hasL, bef, offN, List.any_cons, List.any_nil, Bool.or_false, Bool.and_eq_true, Bool.not_eq_true', Bool.or_eq_false_iff, decide_eq_false_iff_not] at h5 ⊢
  omega
theorem turn_isS {l : List LNo} {j : Nat} {s : Int} (h : isS l = true) (hj : j < l.length) (hk : l[j].kind = 1) (hs : s = 3 ∨ s = 4) : isS (turnN l j s) = true := by
  have hn := (isG_nodk l _ _ h l[j] (List.getElem_mem hj)).1
  unfold isS
  rw [turn_len, turnN_eq hj, isG_set l _ _ j (bef l[j] s) hj (by rw [hn]; exact turn_nod hn hk hs) rfl rfl]
  exact h
theorem turn_chk {l : List LNo} {of : List Int} {j : Nat} {s : Int} (h : chkB l of = true) (hj : j < l.length) (hk : l[j].kind = 1) (hs : s = 3 ∨ s = 4) : chkB (turnN l j s) of = true := by
  rw [chkB, Bool.and_eq_true] at h ⊢
  refine ⟨turn_isS h.1 hj hk hs, ?_⟩
  rw [turnN_eq hj, mayG_set l _ _ j (bef l[j] s) hj rfl rfl]
  exact h.2
theorem abvD_siz {l m : List LNo} (h : ∀ k, sizN m k = sizN l k) (a : Int) : ∀ k, abvD m a k = abvD l a k
  | 0 => rfl
  | k + 1 => by simp only [abvD, h, abvD_siz h a k]
theorem turn_kin {l : List LNo} {of : List Int} {j : Nat} {s : Int} (hc : chkB l of = true) (hj : j < l.length) (hk : l[j].kind = 1) (hs : s = 3 ∨ s = 4) (k : Int) : kinA (turnN l j s) of k = kinA l of k ∧ kinG (turnN l j s) of k = kinG l of k := by
  have hc2 := turn_chk hc hj hk hs
  have hv := (chk_has hc).1
  have hv2 := (chk_has hc2).1
  have hz := turn_siz l j s
  have hln := turn_len l j s
  have hh : ∀ a, hasN (turnN l j s) a = hasN l a := fun a => by unfold hasN; rw [hln]
  have hol : ∀ a b, holN (turnN l j s) a b = holN l a b := fun a b => by unfold holN; rw [hh, hh, hz]
  have hab : ∀ a, abvN (turnN l j s) a = abvN l a := fun a => by
    rw [abv_eq hv2, abv_eq hv, abvR, abvR, hh, abvD_siz hz]
  have hhl : ∀ b a, hldK (turnN l j s) of b a = hldK l of b a := fun b a => by unfold hldK; rw [hol]
  have hcs : ∀ a q, choS (turnN l j s) of a q = choS l of a q := fun a q => by unfold choS; rw [hab]
  have hg : kinG (turnN l j s) of k = kinG l of k := by unfold kinG; rw [hc, hc2]
  refine ⟨?_, hg⟩
  unfold kinA
  rw [hg]
  simp only [kinS, hcs, hhl]
/-- blocks alone begin or end. -/
theorem beg_kind {l : List LNo} {of : List Int} {k b : Int} (hc : chkB l of = true) (hb : b ∈ (kinA l of k).begins) : ∃ j : Nat, b = j ∧ ∃ hj : j < l.length, l[j].kind = 1 := by
  have hv := (chk_has hc).1
  have hh := hasN_iff.1 ((kinA_has l of k).2 b hb)
  unfold kinA at hb
  split at hb
  · simp only [kinS] at hb
    have hb2 := List.mem_reverse.1 hb
    unfold choS at hb2
    split at hb2
    · have hx := (List.mem_filter.1 hb2).1
      rw [abv_eq hv, abvR] at hx
      split at hx
      · next q =>
        obtain ⟨m, rfl, h1, h2⟩ := (abvD_mem l _ _ b).1 hx
        have hm : m < l.length := by omega
        refine ⟨m, rfl, hm, ?_⟩
        have hn := (isG_nodk l _ _ hv l[m] (List.getElem_mem hm)).2
        have q2 := hasN_iff.1 q
        rw [sizN_get hm] at h2
        omega
      · cases hx
    · cases hb2
  · cases hb
theorem turn_for {l : List LNo} {of : List Int} {k : Int} {j : Nat} {s : Int} (hc : chkB l of = true) (hk : 0 ≤ k ∧ k < of.length) (hj : j < l.length) (hk1 : l[j].kind = 1) (hs : s = 3 ∨ s = 4) {p : List Int} (hb : (kinA l of k).begins = p ++ [(j : Int)]) : forA (turnN l j s) of k = s := by
  obtain ⟨e1, e2⟩ := turn_kin hc hj hk1 hs k
  have hg : kinG l of k = true := kinG_chk hc (by omega)
  have hs2 : styN (turnN l j s) j = (bef l[j] s).st := by
    rw [turnN_eq hj, styN_get (by rw [List.length_set]; exact hj), List.getElem_set_self]
  have e3 : ∃ q, begA (turnN l j s) j = q ++ [s] := by
    unfold begA
    rw [hs2]
    split
    · exact ⟨[2], rfl⟩
    · exact ⟨[], rfl⟩
  obtain ⟨q, e3⟩ := e3
  unfold forA askA
  rw [e2, if_pos ⟨hg, by omega⟩, e1, askL, hb, List.flatMap_append, List.flatMap_cons, List.flatMap_nil, List.append_nil, e3, ← List.append_assoc, ← List.append_assoc]
  exact frc_last _ [] s hs (fun y hy => (List.not_mem_nil hy).elim)
end Go.Proofs.Ytbgcmnccjfdooaa
/- CHAPTER 18: nodes whose styles alone differ. -/
/- G -/
/- BOOLS -/
set_option linter.unusedSimpArgs false
set_option linter.unusedVariables false
namespace Go.Proofs.Ytbgcmnccjfdooaa
open Go.RowKit

/-- the second are the first, but for styles that are valid. -/
def Skel : List LNo → List LNo → Prop
  | [], [] => True
  | x :: l, y :: m => (y.kind = x.kind ∧ y.size = x.size ∧ y.words = x.words ∧ nodB y = true) ∧ Skel l m
  | _, _ => False
theorem Skel.len : ∀ {l m : List LNo}, Skel l m → m.length = l.length
  | [], [], _ => rfl
  | [], _ :: _, h => h.elim
  | _ :: _, [], h => h.elim
  | _ :: _, _ :: _, h => by simp only [List.length_cons, Skel.len h.2]
theorem Skel.isG : ∀ {l m : List LNo} {i : Nat} {st : List Int}, Skel l m → isG l i st = true → isG m i st = true
  | [], [], _, _, _, h => h
  | [], _ :: _, _, _, h, _ => h.elim
  | _ :: _, [], _, _, h, _ => h.elim
  | x :: l, y :: m, i, st, h, hg => by
    obtain ⟨⟨h1, h2, h3, h4⟩, h5⟩ := h
    simp only [Go.Proofs.Ytbgcmnccjfdooaa.isG, Bool.and_eq_true] at hg ⊢
    rw [h1, h2, h4]
    exact ⟨⟨⟨⟨rfl, hg.1.1.1.2⟩, hg.1.1.2⟩, hg.1.2⟩, Skel.isG h5 hg.2⟩
theorem Skel.mayG : ∀ {l m : List LNo} {i : Nat} {r : List Int}, Skel l m → mayG m i r = mayG l i r
  | [], [], _, _, _ => rfl
  | [], _ :: _, _, _, h => h.elim
  | _ :: _, [], _, _, h => h.elim
  | x :: l, y :: m, i, r, h => by
    obtain ⟨⟨h1, h2, h3, h4⟩, h5⟩ := h
    simp only [Go.Proofs.Ytbgcmnccjfdooaa.mayG, okT, h1, h3, Skel.mayG h5]
theorem Skel.siz : ∀ {l m : List LNo}, Skel l m → ∀ k, sizN m k = sizN l k
  | [], [], _, _ => rfl
  | [], _ :: _, h, _ => h.elim
  | _ :: _, [], h, _ => h.elim
  | x :: l, y :: m, h, 0 => by simp only [sizN, List.getElem?_cons_zero, h.1.2.1]
  | x :: l, y :: m, h, k + 1 => by
    have := Skel.siz h.2 k
    simp only [sizN, List.getElem?_cons_succ] at this ⊢
    exact this
theorem Skel.isS {l m : List LNo} (h : Skel l m) (hs : isS l = true) : isS m = true := by
  have := Skel.isG h hs
  unfold Go.Proofs.Ytbgcmnccjfdooaa.isS
  rw [h.len]
  exact this
theorem Skel.chk {l m : List LNo} {of : List Int} (h : Skel l m) (hc : chkB l of = true) : chkB m of = true := by
  rw [chkB, Bool.and_eq_true] at hc ⊢
  exact ⟨h.isS hc.1, by rw [h.mayG]; exact hc.2⟩
theorem Skel.kin {l m : List LNo} {of : List Int} (h : Skel l m) (hc : chkB l of = true) (k : Int) : kinA m of k = kinA l of k ∧ kinG m of k = kinG l of k := by
  have hc2 := h.chk hc
  have hv := (chk_has hc).1
  have hv2 := (chk_has hc2).1
  have hz := h.siz
  have hln := h.len
  have hh : ∀ a, hasN m a = hasN l a := fun a => by unfold hasN; rw [hln]
  have hol : ∀ a b, holN m a b = holN l a b := fun a b => by unfold holN; rw [hh, hh, hz]
  have hab : ∀ a, abvN m a = abvN l a := fun a => by
    rw [abv_eq hv2, abv_eq hv, abvR, abvR, hh, abvD_siz hz]
  have hhl : ∀ b a, hldK m of b a = hldK l of b a := fun b a => by unfold hldK; rw [hol]
  have hcs : ∀ a q, choS m of a q = choS l of a q := fun a q => by unfold choS; rw [hab]
  have hg : kinG m of k = kinG l of k := by unfold kinG; rw [hc, hc2]
  refine ⟨?_, hg⟩
  unfold kinA
  rw [hg]
  simp only [kinS, hcs, hhl]
end Go.Proofs.Ytbgcmnccjfdooaa
/- CHAPTER 18: the plain law of RankParts. -/
/- G -/
/- BOOLS -/
set_option linter.unusedSimpArgs false
set_option linter.unusedVariables false
namespace Go.Proofs.Ytbgcmnccjfdooaa
open Go.RowKit

/-- how many atoms are a text's, among the first. -/
def cntT (of : List Int) (t : Int) : Nat → Nat
  | 0 => 0
  | j + 1 => cntT of t j + if of.getD j 0 = t then 1 else 0
theorem cnt_sum (of : List Int) (t k : Int) : ∀ j, cntA of t k j + cntB of t k j = cntT of t j
  | 0 => rfl
  | j + 1 => by
    have := cnt_sum of t k j
    rw [cntA, cntB, cntT]
    by_cases q : of.getD j 0 = t <;> by_cases h : (j : Int) < k <;> simp [q, h] <;> omega
theorem cntA_pos (of : List Int) (t k : Int) (i : Nat) (h : of.getD i 0 = t) (hk : (i : Int) < k) : ∀ j, i < j → 1 ≤ cntA of t k j
  | 0, h => absurd h (Nat.not_lt_zero _)
  | j + 1, h2 => by
    rcases Nat.lt_succ_iff_lt_or_eq.1 h2 with q | q
    · have := cntA_pos of t k i h hk j q
      rw [cntA]; omega
    · subst q
      rw [cntA, if_pos ⟨h, hk⟩]; omega
theorem cntB_pos (of : List Int) (t k : Int) (i : Nat) (h : of.getD i 0 = t) (hk : ¬ (i : Int) < k) : ∀ j, i < j → 1 ≤ cntB of t k j
  | 0, h => absurd h (Nat.not_lt_zero _)
  | j + 1, h2 => by
    rcases Nat.lt_succ_iff_lt_or_eq.1 h2 with q | q
    · have := cntB_pos of t k i h hk j q
      rw [cntB]; omega
    · subst q
      rw [cntB, if_pos ⟨h, hk⟩]; omega
structure PrtP (l : List LNo) (of : List Int) (k n a b t : Int) : Prop where
  ran : 0 ≤ n ∧ n ≤ 7
  text : 0 ≤ t → andI n 4 = 0
  none : t < 0 → andI n 1 = 0 ∧ a + b = 0
  sum : 0 ≤ t → a + b = cntT of t of.length
  some : 0 ≤ t → 1 ≤ a ∧ 1 ≤ b
theorem txt_in {of : List Int} {k : Int} (h : 0 ≤ txtK of k) : 0 < k ∧ k < of.length ∧ of.getD k.toNat 0 = txtK of k ∧ of.getD (k - 1).toNat 0 = txtK of k := by
  unfold txtK at h ⊢
  split at h
  · next q => rw [if_pos q]; exact ⟨q.1, q.2.1, rfl, q.2.2.symm⟩
  · omega
theorem prt_law {l : List LNo} {of : List Int} {k : Int} (hc : chkB l of = true) (hk : 0 ≤ k ∧ k ≤ of.length) : PrtP l of k (rnkA l of k) (linA of k (kinA l of k).text) (linB of k (kinA l of k).text) (kinA l of k).text := by
  have hg := kinG_chk hc hk
  have et : (kinA l of k).text = txtK of k := by unfold kinA; rw [if_pos hg]; rfl
  have hbg := kin_text hc hk
  refine ⟨?_, fun h => ?_, fun h => ⟨?_, ?_⟩, fun h => ?_, fun h => ?_⟩
  · unfold rnkA
    split
    · rw [rnkK]
      generalize fewB l of k (kinA l of k) = f
      generalize (kinA l of k).both.any (insI l) = w
      generalize betB l of k = b
      cases f <;> cases w <;> cases b <;> simp [rnkP]
    · omega
  · unfold rnkA
    split
    · rw [rnkK]
      have hb : betB l of k = false := by
        obtain ⟨h1, h2⟩ := hbg h
        unfold betB askA askL
        split
        · rw [h1, h2]; rfl
        · rfl
      rw [hb]
      generalize fewB l of k (kinA l of k) = f
      generalize (kinA l of k).both.any (insI l) = w
      cases f <;> cases w <;> rfl
    · rfl
  · unfold rnkA
    split
    · rw [rnkK]
      have hf : fewB l of k (kinA l of k) = false := by simp only [fewB, Bool.and_eq_false_iff, decide_eq_false_iff_not]; omega
      rw [hf]
      generalize (kinA l of k).both.any (insI l) = w
      generalize betB l of k = b
      cases w <;> cases b <;> rfl
    · rfl
  · rw [linA, linB, if_pos h, if_pos h]; rfl
  · rw [linA, linB, if_neg (by omega), if_neg (by omega)]
    have := cnt_sum of (kinA l of k).text k of.length
    omega
  · rw [et] at h ⊢
    obtain ⟨h1, h2, h3, h4⟩ := txt_in h
    rw [linA, linB, if_neg (by omega), if_neg (by omega)]
    have p1 := cntA_pos of (txtK of k) k (k - 1).toNat h4 (by omega) of.length (by omega)
    have p2 := cntB_pos of (txtK of k) k k.toNat h3 (by omega) of.length (by omega)
    omega
end Go.Proofs.Ytbgcmnccjfdooaa
/- CHAPTER 18: the plain law of RankMinds, of calm nodes. -/
/- G -/
/- BOOLS -/
set_option linter.unusedSimpArgs false
set_option linter.unusedVariables false
namespace Go.Proofs.Ytbgcmnccjfdooaa
open Go.RowKit

def calS (s : LSty) : LSty := { s with inside := 0, orphans := 1, widows := 1, before := if s.before = 1 then 0 else s.before, after := if s.after = 1 then 0 else s.after }
def calN (x : LNo) : LNo := if x.kind = 1 then { x with st := calS x.st } else x
theorem calN_nod {x : LNo} (h : nodB x = true) : nodB (calN x) = true := by
  unfold calN
  split
  · next q =>
    unfold nodB at h ⊢
    rw [if_pos q] at h
    simp only [q, if_true]
    simp only [Bool.and_eq_true] at h ⊢
    refine ⟨h.1, ?_⟩
    have h5 := h.2
    simp only [styB, hasL, calS, offN, List.any_cons, List.any_nil, Bool.or_false, Bool.and_eq_true, Bool.not_eq_true', Bool.or_eq_false_iff, decide_eq_false_iff_not] at h5 ⊢
    split <;> split <;> omega
  · exact h
theorem skel_cal : ∀ {l : List LNo}, (∀ x ∈ l, nodB x = true) → Skel l (l.map calN)
  | [], _ => trivial
  | x :: l, h => by
    refine ⟨⟨?_, ?_, ?_, calN_nod (h x List.mem_cons_self)⟩, skel_cal fun y hy => h y (List.mem_cons_of_mem _ hy)⟩
    all_goals (unfold calN; split <;> rfl)
theorem nod_bare {x : LNo} (h : nodB x = true) (hk : x.kind ≠ 1) : bareB x = true := by
  unfold nodB at h
  rw [if_neg hk] at h
  split at h
  · simp only [Bool.and_eq_true] at h; exact h.1.1.1.1.1.1.1
  · split at h
    · simp only [Bool.and_eq_true] at h; exact h.1.1.1
    · split at h
      · simp only [Bool.and_eq_true] at h; exact h.1.1.1
      · cases h
theorem cal_sty {l : List LNo} (hv : isS l = true) {b : Int} (hb : hasN l b = true) : (styN (l.map calN) b).inside = 0 ∧ (styN (l.map calN) b).before ≠ 1 ∧ (styN (l.map calN) b).after ≠ 1 := by
  have hh := hasN_iff.1 hb
  obtain ⟨n, rfl⟩ : ∃ n : Nat, b = n := ⟨b.toNat, by omega⟩
  have hn : n < l.length := by omega
  rw [styN_get (by rw [List.length_map]; exact hn), List.getElem_map]
  have h := isG_nod l _ _ hv l[n] (List.getElem_mem hn)
  unfold calN
  split
  · simp only [calS]
    refine ⟨trivial, ?_, ?_⟩ <;> split <;> omega
  · next q =>
    have := nod_bare h q
    simp only [bareB, Bool.and_eq_true, decide_eq_true_eq] at this
    omega
theorem cal_orph {l : List LNo} {b : Int} (hb : hasN l b = true) (hk : ∀ n : Nat, b = n → kinN l n = 1) : (styN (l.map calN) b).orphans = 1 ∧ (styN (l.map calN) b).widows = 1 := by
  have hh := hasN_iff.1 hb
  obtain ⟨n, rfl⟩ : ∃ n : Nat, b = n := ⟨b.toNat, by omega⟩
  have hn : n < l.length := by omega
  have := hk n rfl
  rw [kinN_get hn] at this
  rw [styN_get (by rw [List.length_map]; exact hn), List.getElem_map]
  unfold calN
  rw [if_pos this]
  exact ⟨rfl, rfl⟩
theorem Skel.par {l m : List LNo} (h : Skel l m) (t : Int) : parN m t = parN l t := by
  have hh : ∀ a, hasN m a = hasN l a := fun a => by unfold hasN; rw [h.len]
  have hp : ∀ a k, parI m a k = parI l a k := fun a k => by
    induction k with
    | zero => rfl
    | succ k ih => simp only [parI, h.siz, ih]
  unfold parN
  rw [hh, hp]
theorem par_kind {l : List LNo} (hv : isS l = true) {t : Int} (h : 0 ≤ parN l t) : ∀ n : Nat, parN l t = n → kinN l n = 1 := by
  intro n e
  have hr := parN_ran l t
  have hn : n < l.length := by omega
  rw [kinN_get hn]
  have hk := (isG_nodk l _ _ hv l[n] (List.getElem_mem hn)).2
  unfold parN at e h
  split at e
  · next q =>
    have q2 := hasN_iff.1 q
    have : ∀ k : Nat, parI l t k = n → (n : Int) < k ∧ t < n + sizN l n := by
      intro k
      induction k with
      | zero => intro h; simp only [parI] at h; omega
      | succ k ih =>
        intro h
        rw [parI] at h
        split at h
        · next w =>
          have : k = n := by omega
          subst this
          exact ⟨by omega, w⟩
        · have := ih h; omega
    have h3 := this _ e
    rw [sizN_get hn] at h3
    omega
  · omega
theorem cal_law {l : List LNo} {of : List Int} {k : Int} (hc : chkB l of = true) (hk : 0 ≤ k ∧ k ≤ of.length) : rnkA (l.map calN) of k ≤ rnkA l of k ∧ (rnkA (l.map calN) of k ≠ 0 → 0 < k ∧ k < of.length ∧ of.getD k.toNat 0 = of.getD (k - 1).toNat 0 ∧ parN l (of.getD k.toNat 0) < 0) := by
  have hv := (chk_has hc).1
  have hs : Skel l (l.map calN) := skel_cal fun x hx => isG_nod l _ _ hv x hx
  obtain ⟨e1, e2⟩ := hs.kin hc k
  have hg := kinG_chk hc hk
  have hh := kinA_has l of k
  have hbo := both_has l of k
  have HL := prt_law hc hk
  have et : (kinA l of k).text = txtK of k := by unfold kinA; rw [if_pos hg]; rfl
  unfold rnkA
  rw [e1, e2, hg]
  by_cases hq : k ≠ 0 ∧ k ≠ of.length
  rotate_left
  · rw [if_neg (fun q => hq q.2), if_neg (fun q => hq q.2)]
    exact ⟨Int.le_refl _, fun q => absurd rfl q⟩
  rw [if_pos ⟨rfl, hq⟩, if_pos ⟨rfl, hq⟩, rnkK, rnkK]
  have hw : (kinA l of k).both.any (insI (l.map calN)) = false := by
    rw [List.any_eq_false]
    intro b hb
    have := (cal_sty hv (hbo b hb)).1
    simp [insI, this]
  have hb : betB (l.map calN) of k = false := by
    unfold betB
    rw [List.any_eq_false]
    intro y hy
    unfold askA at hy
    rw [e1] at hy
    split at hy
    · rcases ask_mem.1 hy with ⟨b, hb, q⟩ | ⟨b, hb, q⟩
      · have := cal_sty hv (hh.1 b hb)
        simp only [decide_eq_true_eq]
        omega
      · have := cal_sty hv (hh.2 b hb)
        simp only [decide_eq_true_eq]
        omega
    · cases hy
  rw [hw, hb]
  have hf : fewB (l.map calN) of k (kinA l of k) = true → 0 ≤ (kinA l of k).text ∧ parN l (kinA l of k).text < 0 ∧ fewB l of k (kinA l of k) = true := by
    intro h
    have h0 : 0 ≤ (kinA l of k).text := by
      unfold fewB at h
      rw [Bool.and_eq_true] at h
      exact of_decide_eq_true h.1
    have hp : parN l (kinA l of k).text < 0 := by
      refine Int.lt_of_not_ge fun q => ?_
      have hpk := par_kind hv q
      have hpr := parN_ran l (kinA l of k).text
      have ho := cal_orph (l := l) (b := parN l (kinA l of k).text) (hasN_iff.2 (by omega)) hpk
      have hs1 := HL.some h0
      unfold fewB stP at h
      rw [hs.par, if_pos q] at h
      simp only [Bool.and_eq_true, Bool.or_eq_true, decide_eq_true_eq] at h
      omega
    refine ⟨h0, hp, ?_⟩
    unfold fewB stP at h ⊢
    rw [hs.par, if_neg (by omega)] at h
    rw [if_neg (by omega)]
    exact h
  generalize (kinA l of k).both.any (insI l) = w
  generalize betB l of k = b
  rcases hF : fewB (l.map calN) of k (kinA l of k) with _ | _
  · generalize fewB l of k (kinA l of k) = f
    exact ⟨by cases f <;> cases w <;> cases b <;> decide, fun q => absurd rfl q⟩
  · obtain ⟨h0, hp, hF2⟩ := hf hF
    rw [hF2]
    rw [et] at h0 hp
    obtain ⟨t1, t2, t3, t4⟩ := txt_in h0
    exact ⟨by cases w <;> cases b <;> decide, fun _ => ⟨t1, t2, by rw [t3, t4], by rw [t3]; exact hp⟩⟩
end Go.Proofs.Ytbgcmnccjfdooaa
/- CHAPTER 16: what KinNested and KinOnce ask: plainly; among, chain. -/
/- G -/
/- BOOLS -/
set_option linter.unusedSimpArgs false
set_option linter.unusedVariables false
namespace Go.Proofs.Ytbgcmnccjfdooaa
open Go.RowKit

set_option maxRecDepth 100000 in
set_option maxHeartbeats 4000000 in
theorem among_ok (l : List Int) (x : Int) (hl : l.length ≤ 1000) : FnOk Try.prog 27 [.sl 1 (l.map cInt), .raw (.int .i64 x)] [] (.raw (.int .i64 (l.count x))) [] := by
  refine fn_of_swp Try.func27 rfl (by kernel_rfl) (by kernel_rfl) (Nat.le_of_ble_eq_true rfl) Try.results27 ?_
  (refine swp_seqW ?_; simp only [go_sem, Bool.not_eq_true', Bool.not_eq_false'])
  (refine swp_seqW ?_; simp only [go_sem, Bool.not_eq_true', Bool.not_eq_false'])
  refine swp_cutS (fun _ : Unit => ⟨[(5, .raw (.int .i64 (l.count x)))], [], none⟩) (fun _ => True) 3 ?_ ?_
  · (refine swp_seqW ?_; simp only [go_sem, Bool.not_eq_true', Bool.not_eq_false'])
    refine swp_block ?_
    refine swp_loop2 [] (fun z : LMy => ⟨[(0, .sl 1 (l.map cInt)), (1, .raw (.int .i64 x)), (5, .raw (.int .i64 z.i)), (6, .raw (.int .i64 z.k))], [], none⟩) (fun z => z.k ≤ l.length ∧ z.i = (l.take z.k).count x) (fun z => l.length - z.k) 4 ⟨0, 0⟩ (by simp only [go_sem, Bool.not_eq_true', Bool.not_eq_false']; rfl) (by simp only [go_sem, Bool.not_eq_true', Bool.not_eq_false']) ?_ ?_
    · exact ⟨Nat.zero_le _, by simp⟩
    · rintro ⟨c, k⟩ ⟨k1, k2⟩
      simp only at k1 k2
      (refine swp_seqW ?_; simp only [go_sem, Bool.not_eq_true', Bool.not_eq_false', List.length_map])
      refine ⟨fun h7 => ?_, fun h7 => ?_⟩
      rotate_left
      · rw [List.take_of_length_le (by omega)] at k2
        rw [← k2]
        (refine cut_end [] (()) (by simp only [go_sem, Bool.not_eq_true', Bool.not_eq_false']; rfl) ?_ ?_; (focus (simp only [go_sem, Bool.not_eq_true', Bool.not_eq_false']; done)))
        trivial
      have hk : k < l.length := by omega
      have hcl : c ≤ k := by
        rw [k2]
        have := List.count_le_length (a := x) (l := l.take k)
        rw [List.length_take] at this
        omega
      have e1 : (l.take (k + 1)).count x = c + (if l[k] = x then 1 else 0) := by
        rw [List.take_succ_eq_append_getElem hk, List.count_append, ← k2, List.count_singleton]
        simp
      (refine swp_lastW ?_; simp only [go_sem, Bool.not_eq_true', Bool.not_eq_false', List.length_map])
      refine ⟨by omega, ex_get hk ⟨fun q => ⟨by omega, by omega, ?_⟩, fun q => ⟨by omega, ?_⟩⟩⟩
      · rw [if_pos q] at e1
        (refine loop_end [] (⟨c + 1, k + 1⟩) (by simp only [go_sem, Bool.not_eq_true', Bool.not_eq_false']; rfl) ?_ ?_ ?_; (focus first | omega | (simp only; omega)); (focus (simp only [go_sem, Bool.not_eq_true', Bool.not_eq_false']; done)))
        exact ⟨hk, e1.symm⟩
      · rw [if_neg q] at e1
        (refine loop_end [] (⟨c, k + 1⟩) (by simp only [go_sem, Bool.not_eq_true', Bool.not_eq_false']; rfl) ?_ ?_ ?_; (focus first | omega | (simp only; omega)); (focus (simp only [go_sem, Bool.not_eq_true', Bool.not_eq_false']; done)))
        exact ⟨hk, e1.symm⟩
  rintro - -
  (refine swp_lastW ?_; simp only [go_sem, Bool.not_eq_true', Bool.not_eq_false'])
/-- each within the next one. -/
def ChnP (l : List LNo) (r : List Int) : Prop := ∀ i (h : i + 1 < r.length), r[i]'(by omega) ≠ r[i + 1] ∧ holN l r[i + 1] (r[i]'(by omega)) = true
set_option maxRecDepth 100000 in
set_option maxHeartbeats 4000000 in
theorem chain_ok (l : List LNo) (r : List Int) (hv : isS l = true) (hl : l.length ≤ 1000) (hrl : r.length ≤ 1000) (hw : ∀ x ∈ l, x.words.length ≤ 9223372036854775807) (hc : ChnP l r) : FnOk Try.prog 29 [.sl 20 (l.map cNo), .sl 1 (r.map cInt)] [] (.raw (.bool true)) [] := by
  refine fn_of_swp Try.func29 rfl (by kernel_rfl) (by kernel_rfl) (Nat.le_of_ble_eq_true rfl) Try.results29 ?_
  (refine swp_seqW ?_; simp only [go_sem, Bool.not_eq_true', Bool.not_eq_false'])
  refine swp_cutS (fun _ : Unit => ⟨[], [], none⟩) (fun _ => True) 3 ?_ ?_
  · (refine swp_seqW ?_; simp only [go_sem, Bool.not_eq_true', Bool.not_eq_false'])
    refine swp_block ?_
    refine swp_loop2 [] (fun k : Nat => ⟨[(0, .sl 20 (l.map cNo)), (1, .sl 1 (r.map cInt)), (5, .raw (.int .i64 ((k : Int) + 1)))], [], none⟩) (fun k => k ≤ r.length) (fun k => r.length - k) 4 0 (by simp only [go_sem, Bool.not_eq_true', Bool.not_eq_false']; rfl) (by simp only [go_sem, Bool.not_eq_true', Bool.not_eq_false', Int.reduceToNat, Int.reduceLT, Int.reduceLE, Int.reduceEq, Int.reduceAdd, Int.reduceSub, Int.reduceMul, Int.reduceNeg, Int.reduceNe, decide_false, Int.cast_ofNat_Int, kSet, List.getElem?_cons_succ, List.getElem?_cons_zero, List.set_cons_succ, List.set_cons_zero, exists_eq_left', forall_const, true_implies]) ?_ ?_
    · exact Nat.zero_le _
    · intro k hk
      (refine swp_lastW ?_; simp only [go_sem, Bool.not_eq_true', Bool.not_eq_false', List.length_map])
      refine ⟨fun h5 => ?_, fun h5 => ?_⟩
      · have hk1 : k + 1 < r.length := by omega
        obtain ⟨c1, c2⟩ := hc k hk1
        have e1 : ((k : Int) + 1 - 1).toNat = k := by omega
        have e2 : ((k : Int) + 1).toNat = k + 1 := by omega
        simp only [go_sem, Bool.not_eq_true', Bool.not_eq_false', e1, e2]
        refine ⟨by omega, by omega, ex_get (by omega) ⟨by omega, ex_get (by omega) ?_⟩⟩
        have e3 : (k : Int) + 1 + 1 = ((k + 1 : Nat) : Int) + 1 := by omega
        refine ⟨fun _ => ⟨by omega, ex_get (by omega) ⟨by omega, by omega, ex_get (by omega) ?_⟩⟩, fun q => absurd q c1⟩
        (refine acall2 [] (holdsV l r[k + 1] r[k] hv hl hw) (by simp only [go_sem, Bool.not_eq_true', Bool.not_eq_false']; rfl) (fit_of (by simp only [go_sem, Bool.not_eq_true', Bool.not_eq_false']) (by simp only [go_sem, Bool.not_eq_true', Bool.not_eq_false']) (by simp only [go_sem, Bool.not_eq_true', Bool.not_eq_false']) (by simp only [go_sem, Bool.not_eq_true', Bool.not_eq_false']) (by simp only [go_sem, Bool.not_eq_true', Bool.not_eq_false']) (by simp only [go_sem, Bool.not_eq_true', Bool.not_eq_false']) (by simp only [go_sem, Bool.not_eq_true', Bool.not_eq_false'])) ?_; simp only [go_sem, Bool.not_eq_true', Bool.not_eq_false', c2])
        repeat' first | contradiction | intro _ | refine And.intro ?_ ?_ | refine ex_get (by omega) ?_ | (show drawB _ _ = true; kernel_rfl) | (refine ret2 [] (by simp only [go_sem, Bool.not_eq_true', Bool.not_eq_false']; rfl) ?_; simp only [go_sem, Bool.not_eq_true', Bool.not_eq_false'])
        all_goals first
          | omega
          | ((refine loop_end [] (k + 1) (by simp only [go_sem, Bool.not_eq_true', Bool.not_eq_false']; rfl) ?_ ?_ ?_; (focus first | omega | (simp only; omega)); (focus (simp only [go_sem, Bool.not_eq_true', Bool.not_eq_false']; done)))
             omega)
      · (refine cut_end [] (()) (by simp only [go_sem, Bool.not_eq_true', Bool.not_eq_false']; rfl) ?_ ?_; (focus (simp only [go_sem, Bool.not_eq_true', Bool.not_eq_false']; done)))
        trivial
  rintro - -
  (refine swp_lastW ?_; simp only [go_sem, Bool.not_eq_true', Bool.not_eq_false'])
/-- nodes that all hold one, from the innermost outwards. -/
structure DesP (l : List LNo) (x : Int) (r : List Int) : Prop where
  gt : r.Pairwise (fun a b => b < a)
  all : ∀ a ∈ r, holN l a x = true
theorem holN_iff {l : List LNo} {a b : Int} : holN l a b = true ↔ (0 ≤ a ∧ a < l.length) ∧ (0 ≤ b ∧ b < l.length) ∧ a ≤ b ∧ b < a + sizN l a.toNat := by
  simp only [holN, Bool.and_eq_true, decide_eq_true_eq, hasN]
  constructor
  · rintro ⟨⟨⟨h1, h2⟩, h3⟩, h4⟩; exact ⟨h1, h2, h3, h4⟩
  · rintro ⟨h1, h2, h3, h4⟩; exact ⟨⟨⟨h1, h2⟩, h3⟩, h4⟩
theorem des_chn {l : List LNo} {x : Int} {r : List Int} (h : DesP l x r) : ChnP l r := by
  intro i hi
  have h1 := List.pairwise_iff_getElem.1 h.gt i (i + 1) (by omega) hi (by omega)
  have a1 := holN_iff.1 (h.all _ (List.getElem_mem (by omega : i < r.length)))
  have a2 := holN_iff.1 (h.all _ (List.getElem_mem hi))
  exact ⟨by omega, holN_iff.2 ⟨a2.1, a1.1, by omega, by omega⟩⟩
theorem des_app {l : List LNo} {x : Int} {a b : List Int} (ha : DesP l x a) (hb : DesP l x b) (h : ∀ p ∈ a, ∀ q ∈ b, q < p) : DesP l x (a ++ b) :=
  ⟨List.pairwise_append.2 ⟨ha.gt, hb.gt, h⟩, fun p hp => (List.mem_append.1 hp).elim (ha.all p) (hb.all p)⟩
theorem fltR_lt (p : Nat → Bool) (n : Nat) : (fltR p n).Pairwise (fun a b => a < b) := by
  unfold fltR
  rw [List.pairwise_map]
  exact List.Pairwise.imp (fun h => by omega) ((List.pairwise_lt_range (n := n)).filter _)
theorem fltR_mem {p : Nat → Bool} {n : Nat} {x : Int} : x ∈ fltR p n ↔ ∃ i : Nat, x = i ∧ i < n ∧ p i = true := by
  unfold fltR
  rw [List.mem_map]
  constructor
  · rintro ⟨i, hi, rfl⟩
    rw [List.mem_filter, List.mem_range] at hi
    exact ⟨i, rfl, hi.1, hi.2⟩
  · rintro ⟨i, rfl, h1, h2⟩
    exact ⟨i, by rw [List.mem_filter, List.mem_range]; exact ⟨h1, h2⟩, rfl⟩
theorem des_flt {l : List LNo} {x : Int} {p : Nat → Bool} {n : Nat} (h : ∀ i, i < n → p i = true → holN l i x = true) : DesP l x (fltR p n).reverse := by
  refine ⟨?_, fun a ha => ?_⟩
  · rw [List.pairwise_reverse]; exact fltR_lt p n
  · rw [List.mem_reverse, fltR_mem] at ha
    obtain ⟨i, rfl, h1, h2⟩ := ha
    exact h i h1 h2
theorem hldK_in {l : List LNo} {of : List Int} {b a : Int} (h : hldK l of b a = true) : ∃ h : a.toNat < of.length, 0 ≤ a ∧ a < of.length ∧ holN l b of[a.toNat] = true := by
  simp only [hldK, Bool.and_eq_true, decide_eq_true_eq] at h
  have hk : a.toNat < of.length := by omega
  refine ⟨hk, h.1.1, h.1.2, ?_⟩
  have e : of.getD a.toNat 0 = of[a.toNat] := by simp [List.getD_eq_getElem?_getD, hk]
  rw [← e]; exact h.2
theorem hldK_at {l : List LNo} {of : List Int} {b a : Int} (h1 : 0 ≤ a) (h2 : a.toNat < of.length) : hldK l of b a = holN l b of[a.toNat] := by
  have e : of.getD a.toNat 0 = of[a.toNat] := by simp [List.getD_eq_getElem?_getD, h2]
  have a2 : a < of.length := by omega
  simp [hldK, h1, a2, h2]
/-- of two that hold a node the one within the other. -/
theorem lam_in {l : List LNo} (hl : Lam l) {d e x y : Int} (h1 : holN l d x = true) (h2 : holN l e x = true) (h3 : holN l d y = true) (h : e < d) : holN l e y = true := by
  rw [holN_iff] at *
  obtain ⟨i, rfl⟩ : ∃ i : Nat, d = i := ⟨d.toNat, by omega⟩
  obtain ⟨j, rfl⟩ : ∃ j : Nat, e = j := ⟨e.toNat, by omega⟩
  rw [Int.toNat_natCast] at *
  have := hl.nest j i (by omega) (by omega) (by omega)
  omega
theorem kin_nest {l : List LNo} {of : List Int} (hv : isS l = true) (hr : RowP l of) (k : Int) : ChnP l ((kinR l of k l.length).ends ++ (kinR l of k l.length).both) ∧ ChnP l ((kinR l of k l.length).begins.reverse ++ (kinR l of k l.length).both) := by
  have hl := isS_lam hv
  constructor
  · by_cases hk : 0 ≤ k - 1 ∧ (k - 1).toNat < of.length
    · refine des_chn (x := of[(k - 1).toNat]'hk.2) (des_app (des_flt fun i _ h => ?_) (des_flt fun i _ h => ?_) fun p hp q hq => ?_)
      · simp only [Bool.and_eq_true] at h
        rw [← hldK_at hk.1 hk.2]; exact h.2.1
      · simp only [Bool.and_eq_true] at h
        rw [← hldK_at hk.1 hk.2]; exact h.2.1
      · simp only [kinR, List.mem_reverse, fltR_mem, Bool.and_eq_true, Bool.not_eq_true'] at hp hq
        obtain ⟨i, rfl, i1, i2, i3, i4⟩ := hp
        obtain ⟨j, rfl, j1, j2, j3, j4⟩ := hq
        obtain ⟨hy, y1, y2, y3⟩ := hldK_in j4
        rw [hldK_at hk.1 hk.2] at i3 j3
        rw [hldK_at y1 hy] at i4
        by_cases z : (j : Int) < i
        · exact z
        · by_cases z2 : i = j
          · subst z2; rw [y3] at i4; cases i4
          · have := lam_in hl j3 i3 y3 (by omega)
            rw [this] at i4; cases i4
    · have hn : ∀ i : Nat, hldK l of i (k - 1) = false := fun i => by
        simp only [hldK, Bool.and_eq_false_iff, decide_eq_false_iff_not]; omega
      have e1 : (kinR l of k l.length).ends = [] := by
        simp only [kinR]; rw [fltR_tail (x := 0) (Nat.zero_le _) fun i _ _ => by rw [hn]; simp, fltR_zero]; rfl
      have e2 : (kinR l of k l.length).both = [] := by
        simp only [kinR]; rw [fltR_tail (x := 0) (Nat.zero_le _) fun i _ _ => by rw [hn]; simp, fltR_zero]; rfl
      rw [e1, e2]
      intro i hi; simp at hi
  · by_cases hk : 0 ≤ k ∧ k.toNat < of.length
    · refine des_chn (x := of[k.toNat]'hk.2) (des_app (des_flt fun i _ h => ?_) (des_flt fun i _ h => ?_) fun p hp q hq => ?_)
      · simp only [Bool.and_eq_true] at h
        rw [← hldK_at hk.1 hk.2]; exact h.2.1
      · simp only [Bool.and_eq_true] at h
        rw [← hldK_at hk.1 hk.2]; exact h.2.2
      · simp only [kinR, List.mem_reverse, fltR_mem, Bool.and_eq_true, Bool.not_eq_true'] at hp hq
        obtain ⟨i, rfl, i1, i2, i3, i4⟩ := hp
        obtain ⟨j, rfl, j1, j2, j3, j4⟩ := hq
        obtain ⟨hy, y1, y2, y3⟩ := hldK_in j3
        rw [hldK_at hk.1 hk.2] at i3 j4
        rw [hldK_at y1 hy] at i4
        by_cases z : (j : Int) < i
        · exact z
        · by_cases z2 : i = j
          · subst z2; rw [y3] at i4; cases i4
          · have := lam_in hl j4 i3 y3 (by omega)
            rw [this] at i4; cases i4
    · have hn : ∀ i : Nat, hldK l of i k = false := fun i => by
        simp only [hldK, Bool.and_eq_false_iff, decide_eq_false_iff_not]; omega
      have e1 : (kinR l of k l.length).begins = [] := by
        simp only [kinR]; rw [fltR_tail (x := 0) (Nat.zero_le _) fun i _ _ => by rw [hn]; simp, fltR_zero]
      have e2 : (kinR l of k l.length).both = [] := by
        simp only [kinR]; rw [fltR_tail (x := 0) (Nat.zero_le _) fun i _ _ => by rw [hn]; simp, fltR_zero]; rfl
      rw [e1, e2]
      intro i hi; simp at hi
end Go.Proofs.Ytbgcmnccjfdooaa
/- CHAPTER 16: the law KinTells. -/
/- G -/
/- BOOLS -/
set_option linter.unusedSimpArgs false
set_option linter.unusedVariables false
namespace Go.Proofs.Ytbgcmnccjfdooaa
open Go.RowKit

def lKin (x : LKin) : List AV := [.sl 1 (x.ends.map cInt), .sl 1 (x.begins.map cInt), .sl 1 (x.both.map cInt), .raw (.int .i64 x.text)]
theorem rsame0_ok : FnOk Try.prog 24 [.agg [.sl 1 [], .sl 1 [], .sl 1 [], .raw (.int .i64 0)], .agg [.sl 1 [], .sl 1 [], .sl 1 [], .raw (.int .i64 0)]] [] (.raw (.bool true)) [] := rsame_ok kin0 kin0 (y3 rfl) (y3 rfl)
def stK (l : List LNo) (of : List Int) (k b : Int) (x : LKin) (t : List (Nat × AV)) : AS := ⟨t ++ [(0, .sl 20 (l.map cNo)), (1, .sl 1 (of.map cInt)), (2, .raw (.int .i64 k)), (3, .raw (.int .i64 b)), (11, .hdr 40)], [(40, some (.cells 28 (lKin x)))], none⟩
attribute [go_sem] lKin stK
set_option maxRecDepth 100000 in
set_option maxHeartbeats 8000000 in
theorem kinTells_ok (l : List LNo) (of : List Int) (k b : Int) : FnOk Try.prog 3 [.sl 20 (l.map cNo), .sl 1 (of.map cInt), .raw (.int .i64 k), .raw (.int .i64 b)] [] (.raw (.bool true)) [] := by
  refine fn_of_swp Try.func3 rfl (by kernel_rfl) (by kernel_rfl) (Nat.le_of_ble_eq_true rfl) Try.results3 ?_
  (refine swp_seqW ?_; simp only [go_sem, Bool.not_eq_true', Bool.not_eq_false'])
  (refine swp_seqW ?_; simp only [go_sem, Bool.not_eq_true', Bool.not_eq_false'])
  (refine acall2 [] (vast16_ok l of) (by simp only [go_sem, Bool.not_eq_true', Bool.not_eq_false']; rfl) (fit_of (by simp only [go_sem, Bool.not_eq_true', Bool.not_eq_false']) (by simp only [go_sem, Bool.not_eq_true', Bool.not_eq_false']) (by simp only [go_sem, Bool.not_eq_true', Bool.not_eq_false']) (by simp only [go_sem, Bool.not_eq_true', Bool.not_eq_false']) (by simp only [go_sem, Bool.not_eq_true', Bool.not_eq_false']) (by simp only [go_sem, Bool.not_eq_true', Bool.not_eq_false']) (by simp only [go_sem, Bool.not_eq_true', Bool.not_eq_false'])) ?_; simp only [go_sem, Bool.not_eq_true', Bool.not_eq_false'])
  refine ⟨fun h1 => ?_, fun h1 => ?_⟩
  · (refine acall2 [] (awake16_ok) (by simp only [go_sem, Bool.not_eq_true', Bool.not_eq_false']; rfl) (fit_of (by simp only [go_sem, Bool.not_eq_true', Bool.not_eq_false']) (by simp only [go_sem, Bool.not_eq_true', Bool.not_eq_false']) (by simp only [go_sem, Bool.not_eq_true', Bool.not_eq_false']) (by simp only [go_sem, Bool.not_eq_true', Bool.not_eq_false']) (by simp only [go_sem, Bool.not_eq_true', Bool.not_eq_false']) (by simp only [go_sem, Bool.not_eq_true', Bool.not_eq_false']) (by simp only [go_sem, Bool.not_eq_true', Bool.not_eq_false'])) ?_; simp only [go_sem, Bool.not_eq_true', Bool.not_eq_false'])
  obtain ⟨hl6, ho6, hw6⟩ := vst2_no h1
  have hl : l.length ≤ 1000 := by omega
  have ho : of.length ≤ 1000 := by omega
  have hw : ∀ x ∈ l, x.words.length ≤ 9223372036854775807 := fun x hx => by have := hw6 x hx; omega
  have hw2 : ∀ x ∈ l, x.words.length ≤ 1000 := fun x hx => by have := hw6 x hx; omega
  have hkl := kinA_len l of k
  have h3 : (kinA l of k).ends.length ≤ 1000 ∧ (kinA l of k).begins.length ≤ 1000 ∧ (kinA l of k).both.length ≤ 1000 := ⟨by omega, by omega, by omega⟩
  refine swp_cutS (fun _ : Unit => ⟨[(0, .sl 20 (l.map cNo)), (1, .sl 1 (of.map cInt)), (2, .raw (.int .i64 k)), (3, .raw (.int .i64 b)), (9, .sl 20 (l.map cNo)), (10, .sl 1 (of.map cInt))], [], none⟩) (fun _ => True) 3 ?_ ?_
  · (refine swp_lastW ?_; simp only [go_sem, Bool.not_eq_true', Bool.not_eq_false'])
    (refine acall2 [] (own5_ok l hl hw2) (by simp only [go_sem, Bool.not_eq_true', Bool.not_eq_false']; rfl) (fit_of (by simp only [go_sem, Bool.not_eq_true', Bool.not_eq_false']) (by simp only [go_sem, Bool.not_eq_true', Bool.not_eq_false']) (by simp only [go_sem, Bool.not_eq_true', Bool.not_eq_false']) (by simp only [go_sem, Bool.not_eq_true', Bool.not_eq_false']) (by simp only [go_sem, Bool.not_eq_true', Bool.not_eq_false']) (by simp only [go_sem, Bool.not_eq_true', Bool.not_eq_false']) (by simp only [go_sem, Bool.not_eq_true', Bool.not_eq_false'])) ?_; simp only [go_sem, Bool.not_eq_true', Bool.not_eq_false'])
    refine ⟨⟨by omega, by omega⟩, ?_⟩
    (refine cut_end [48, 72 ] ( ()) (by simp only [go_sem, Bool.not_eq_true', Bool.not_eq_false']; rfl) ?_ ?_; (focus (simp only [go_sem, Bool.not_eq_true', Bool.not_eq_false']; done)))
    trivial
  rintro - -
  refine swp_cutS (fun _ : Unit => stK l of k b (kinA l of k) [(9, .sl 20 (l.map cNo)), (10, .sl 1 (of.map cInt)), (12, .raw (.int .i64 (errB (kinG l of k))))]) (fun _ => True) 6 ?_ ?_
  · (refine swp_lastW ?_; simp only [go_sem, Bool.not_eq_true', Bool.not_eq_false'])
    (refine acall2 [] (kinAt_ok l of k hl ho hw) (by simp only [go_sem, Bool.not_eq_true', Bool.not_eq_false']; rfl) (fit_of (by simp only [go_sem, Bool.not_eq_true', Bool.not_eq_false']) (by simp only [go_sem, Bool.not_eq_true', Bool.not_eq_false']) (by simp only [go_sem, Bool.not_eq_true', Bool.not_eq_false']) (by simp only [go_sem, Bool.not_eq_true', Bool.not_eq_false']) (by simp only [go_sem, Bool.not_eq_true', Bool.not_eq_false']) (by simp only [go_sem, Bool.not_eq_true', Bool.not_eq_false']) (by simp only [go_sem, Bool.not_eq_true', Bool.not_eq_false'])) ?_; simp only [go_sem, Bool.not_eq_true', Bool.not_eq_false'])
    (refine cut_end [48, 49, 50 ] ( ()) (by simp only [go_sem, Bool.not_eq_true', Bool.not_eq_false']; rfl) ?_ ?_; (focus (simp only [go_sem, Bool.not_eq_true', Bool.not_eq_false']; done)))
    trivial
  rintro - -
  (refine swp_seqW ?_; simp only [go_sem, Bool.not_eq_true', Bool.not_eq_false'])
  (refine acall2 [] (held16_ok l of b hl ho hw) (by simp only [go_sem, Bool.not_eq_true', Bool.not_eq_false']; rfl) (fit_of (by simp only [go_sem, Bool.not_eq_true', Bool.not_eq_false']) (by simp only [go_sem, Bool.not_eq_true', Bool.not_eq_false']) (by simp only [go_sem, Bool.not_eq_true', Bool.not_eq_false']) (by simp only [go_sem, Bool.not_eq_true', Bool.not_eq_false']) (by simp only [go_sem, Bool.not_eq_true', Bool.not_eq_false']) (by simp only [go_sem, Bool.not_eq_true', Bool.not_eq_false']) (by simp only [go_sem, Bool.not_eq_true', Bool.not_eq_false'])) ?_; simp only [go_sem, Bool.not_eq_true', Bool.not_eq_false'])
  (refine swp_seqW ?_; simp only [go_sem, Bool.not_eq_true', Bool.not_eq_false'])
  (refine acall2 [] (rcheck_ok l of hl ho hw) (by simp only [go_sem, Bool.not_eq_true', Bool.not_eq_false']; rfl) (fit_of (by simp only [go_sem, Bool.not_eq_true', Bool.not_eq_false']) (by simp only [go_sem, Bool.not_eq_true', Bool.not_eq_false']) (by simp only [go_sem, Bool.not_eq_true', Bool.not_eq_false']) (by simp only [go_sem, Bool.not_eq_true', Bool.not_eq_false']) (by simp only [go_sem, Bool.not_eq_true', Bool.not_eq_false']) (by simp only [go_sem, Bool.not_eq_true', Bool.not_eq_false']) (by simp only [go_sem, Bool.not_eq_true', Bool.not_eq_false'])) ?_; simp only [go_sem, Bool.not_eq_true', Bool.not_eq_false'])
  (refine swp_seqW ?_; simp only [go_sem, Bool.not_eq_true', Bool.not_eq_false'])
  (refine acall2 [] (check16_ok l of hl ho hw) (by simp only [go_sem, Bool.not_eq_true', Bool.not_eq_false']; rfl) (fit_of (by simp only [go_sem, Bool.not_eq_true', Bool.not_eq_false']) (by simp only [go_sem, Bool.not_eq_true', Bool.not_eq_false']) (by simp only [go_sem, Bool.not_eq_true', Bool.not_eq_false']) (by simp only [go_sem, Bool.not_eq_true', Bool.not_eq_false']) (by simp only [go_sem, Bool.not_eq_true', Bool.not_eq_false']) (by simp only [go_sem, Bool.not_eq_true', Bool.not_eq_false']) (by simp only [go_sem, Bool.not_eq_true', Bool.not_eq_false'])) ?_; simp only [go_sem, Bool.not_eq_true', Bool.not_eq_false'])
  (refine acall2 [] (same5_ok l hl hw) (by simp only [go_sem, Bool.not_eq_true', Bool.not_eq_false']; rfl) (fit_of (by simp only [go_sem, Bool.not_eq_true', Bool.not_eq_false']) (by simp only [go_sem, Bool.not_eq_true', Bool.not_eq_false']) (by simp only [go_sem, Bool.not_eq_true', Bool.not_eq_false']) (by simp only [go_sem, Bool.not_eq_true', Bool.not_eq_false']) (by simp only [go_sem, Bool.not_eq_true', Bool.not_eq_false']) (by simp only [go_sem, Bool.not_eq_true', Bool.not_eq_false']) (by simp only [go_sem, Bool.not_eq_true', Bool.not_eq_false'])) ?_; simp only [go_sem, Bool.not_eq_true', Bool.not_eq_false'])
  (refine acall2 [] (ints8_ok of of ho ho) (by simp only [go_sem, Bool.not_eq_true', Bool.not_eq_false']; rfl) (fit_of (by simp only [go_sem, Bool.not_eq_true', Bool.not_eq_false']) (by simp only [go_sem, Bool.not_eq_true', Bool.not_eq_false']) (by simp only [go_sem, Bool.not_eq_true', Bool.not_eq_false']) (by simp only [go_sem, Bool.not_eq_true', Bool.not_eq_false']) (by simp only [go_sem, Bool.not_eq_true', Bool.not_eq_false']) (by simp only [go_sem, Bool.not_eq_true', Bool.not_eq_false']) (by simp only [go_sem, Bool.not_eq_true', Bool.not_eq_false'])) ?_; simp only [go_sem, Bool.not_eq_true', Bool.not_eq_false'])
  cases hc : chkB l of with
  | false =>
    have e1 : kinG l of k = false := by simp [kinG, hc]
    have e2 : kinA l of k = kin0 := by simp [kinA, e1]
    have e3 : heldA l of b = (0, 0) := by simp [heldA, heldG, hc]
    have e4 : errB false = 4 := rfl
    rw [e1, e2, e3, e4]
    (refine swp_seqW ?_; simp only [go_sem, Bool.not_eq_true', Bool.not_eq_false', kin0, List.map])
    refine ⟨fun _ => ?_, fun q => by omega⟩
    (refine acallF2 [344, 345, 346 ] [] ( rsame0_ok) (by simp only [go_sem, Bool.not_eq_true', Bool.not_eq_false']; rfl) (fit_of (by simp only [go_sem, Bool.not_eq_true', Bool.not_eq_false']) (by simp only [go_sem, Bool.not_eq_true', Bool.not_eq_false']) (by simp only [go_sem, Bool.not_eq_true', Bool.not_eq_false']) (by simp only [go_sem, Bool.not_eq_true', Bool.not_eq_false']) (by simp only [go_sem, Bool.not_eq_true', Bool.not_eq_false']) (by simp only [go_sem, Bool.not_eq_true', Bool.not_eq_false']) (by simp only [go_sem, Bool.not_eq_true', Bool.not_eq_false'])) ?_; simp only [go_sem, Bool.not_eq_true', Bool.not_eq_false'])
    (refine acall2 [] (awake16_ok) (by simp only [go_sem, Bool.not_eq_true', Bool.not_eq_false']; rfl) (fit_of (by simp only [go_sem, Bool.not_eq_true', Bool.not_eq_false']) (by simp only [go_sem, Bool.not_eq_true', Bool.not_eq_false']) (by simp only [go_sem, Bool.not_eq_true', Bool.not_eq_false']) (by simp only [go_sem, Bool.not_eq_true', Bool.not_eq_false']) (by simp only [go_sem, Bool.not_eq_true', Bool.not_eq_false']) (by simp only [go_sem, Bool.not_eq_true', Bool.not_eq_false']) (by simp only [go_sem, Bool.not_eq_true', Bool.not_eq_false'])) ?_; simp only [go_sem, Bool.not_eq_true', Bool.not_eq_false'])
  | true =>
    obtain ⟨hv, hf⟩ := chk_has hc
    have hr := chk_row hc
    have e4 : errB true = 0 := rfl
    rw [e4]
    (refine swp_seqW ?_; simp only [go_sem, Bool.not_eq_true', Bool.not_eq_false'])
    (refine swp_seqW ?_; simp only [go_sem, Bool.not_eq_true', Bool.not_eq_false'])
    refine swp_cutS (fun _ : Unit => stK l of k b (kinA l of k) [(12, .raw (.int .i64 (errB (kinG l of k)))), (13, .raw (.int .i64 (heldA l of b).1)), (14, .raw (.int .i64 (heldA l of b).2)), (16, .raw (.int .i64 (heldA l of b).1)), (17, .raw (.int .i64 (heldA l of b).2))]) (fun _ => True) 6 ?_ ?_
    · by_cases hb : 0 ≤ b ∧ b < l.length
      · obtain ⟨n, rfl⟩ : ∃ n : Nat, b = n := ⟨b.toNat, by omega⟩
        have hn : n < l.length := by omega
        have eh : heldA l of n = if kinN l n = 1 then heldS l of n else (0, 0) := by
          have a1 : (0 : Int) ≤ n := by omega
          have a2 : (n : Int) < l.length := by omega
          unfold heldA heldG
          by_cases q : kinN l n = 1 <;> simp [hc, q, hn]
        rw [eh]
        (refine swp_lastW ?_; simp only [go_sem, Bool.not_eq_true', Bool.not_eq_false', List.length_map])
        refine ⟨fun _ => ⟨fun _ => ?_, fun q => by omega⟩, fun q => by omega⟩
        (refine acall2 [] (rheld_ok l of n hl ho hn hr) (by simp only [go_sem, Bool.not_eq_true', Bool.not_eq_false']; rfl) (fit_of (by simp only [go_sem, Bool.not_eq_true', Bool.not_eq_false']) (by simp only [go_sem, Bool.not_eq_true', Bool.not_eq_false']) (by simp only [go_sem, Bool.not_eq_true', Bool.not_eq_false']) (by simp only [go_sem, Bool.not_eq_true', Bool.not_eq_false']) (by simp only [go_sem, Bool.not_eq_true', Bool.not_eq_false']) (by simp only [go_sem, Bool.not_eq_true', Bool.not_eq_false']) (by simp only [go_sem, Bool.not_eq_true', Bool.not_eq_false'])) ?_; simp only [go_sem, Bool.not_eq_true', Bool.not_eq_false'])
        (refine cut_end [] (()) (by simp only [go_sem, Bool.not_eq_true', Bool.not_eq_false']; rfl) ?_ ?_; (focus (simp only [go_sem, Bool.not_eq_true', Bool.not_eq_false']; done)))
        trivial
      · have e : heldA l of b = (0, 0) := by
          have : heldG l of b = false := by
            simp only [heldG, hc, Bool.true_and, Bool.and_eq_false_iff, decide_eq_false_iff_not]
            omega
          simp [heldA, this]
        rw [e]
        (refine swp_lastW ?_; simp only [go_sem, Bool.not_eq_true', Bool.not_eq_false', List.length_map])
        repeat' first | contradiction | intro _ | refine And.intro ?_ ?_ | refine ex_get (by omega) ?_ | (show drawB _ _ = true; kernel_rfl) | (refine ret2 [] (by simp only [go_sem, Bool.not_eq_true', Bool.not_eq_false']; rfl) ?_; simp only [go_sem, Bool.not_eq_true', Bool.not_eq_false'])
        all_goals first
          | omega
          | ((refine cut_end [] (()) (by simp only [go_sem, Bool.not_eq_true', Bool.not_eq_false']; rfl) ?_ ?_; (focus (simp only [go_sem, Bool.not_eq_true', Bool.not_eq_false']; done)))
             trivial)
    rintro - -
    (refine swp_seqW ?_; simp only [go_sem, Bool.not_eq_true', Bool.not_eq_false'])
    by_cases hk : 0 ≤ k ∧ k ≤ of.length
    rotate_left
    · have e1 : kinG l of k = false := by
        simp only [kinG, hc, Bool.true_and, Bool.and_eq_false_iff, decide_eq_false_iff_not]
        omega
      have e2 : kinA l of k = kin0 := by simp [kinA, e1]
      have e5 : errB false = 4 := rfl
      rw [e1, e2, e5]
      (refine swp_seqW ?_; simp only [go_sem, Bool.not_eq_true', Bool.not_eq_false', kin0, List.map, List.length_map])
      refine ⟨fun q => ⟨fun q2 => ?_, fun q2 => by omega⟩, fun q => ?_⟩
      all_goals
        (refine acallF2 [208, 209, 210 ] [] ( rsame0_ok) (by simp only [go_sem, Bool.not_eq_true', Bool.not_eq_false']; rfl) (fit_of (by simp only [go_sem, Bool.not_eq_true', Bool.not_eq_false']) (by simp only [go_sem, Bool.not_eq_true', Bool.not_eq_false']) (by simp only [go_sem, Bool.not_eq_true', Bool.not_eq_false']) (by simp only [go_sem, Bool.not_eq_true', Bool.not_eq_false']) (by simp only [go_sem, Bool.not_eq_true', Bool.not_eq_false']) (by simp only [go_sem, Bool.not_eq_true', Bool.not_eq_false']) (by simp only [go_sem, Bool.not_eq_true', Bool.not_eq_false'])) ?_; simp only [go_sem, Bool.not_eq_true', Bool.not_eq_false'])
        (refine acall2 [] (awake16_ok) (by simp only [go_sem, Bool.not_eq_true', Bool.not_eq_false']; rfl) (fit_of (by simp only [go_sem, Bool.not_eq_true', Bool.not_eq_false']) (by simp only [go_sem, Bool.not_eq_true', Bool.not_eq_false']) (by simp only [go_sem, Bool.not_eq_true', Bool.not_eq_false']) (by simp only [go_sem, Bool.not_eq_true', Bool.not_eq_false']) (by simp only [go_sem, Bool.not_eq_true', Bool.not_eq_false']) (by simp only [go_sem, Bool.not_eq_true', Bool.not_eq_false']) (by simp only [go_sem, Bool.not_eq_true', Bool.not_eq_false'])) ?_; simp only [go_sem, Bool.not_eq_true', Bool.not_eq_false'])
    have e1 : kinG l of k = true := by
      simp only [kinG, hc, Bool.true_and, Bool.and_eq_true, decide_eq_true_eq]
      exact hk
    have e2 : kinA l of k = kinR l of k l.length := by rw [← kin_eq hv hr]; simp [kinA, e1]
    rw [e2] at h3
    rw [e1, e2, e4]
    (refine swp_seqW ?_; simp only [go_sem, Bool.not_eq_true', Bool.not_eq_false', List.length_map])
    refine ⟨fun _ => ⟨fun q => by omega, fun _ => ?_⟩, fun q => by omega⟩
    (refine swp_lastW ?_; simp only [go_sem, Bool.not_eq_true', Bool.not_eq_false'])
    (refine acall2 [] (rat_ok l of k hl ho hk) (by simp only [go_sem, Bool.not_eq_true', Bool.not_eq_false']; rfl) (fit_of (by simp only [go_sem, Bool.not_eq_true', Bool.not_eq_false']) (by simp only [go_sem, Bool.not_eq_true', Bool.not_eq_false']) (by simp only [go_sem, Bool.not_eq_true', Bool.not_eq_false']) (by simp only [go_sem, Bool.not_eq_true', Bool.not_eq_false']) (by simp only [go_sem, Bool.not_eq_true', Bool.not_eq_false']) (by simp only [go_sem, Bool.not_eq_true', Bool.not_eq_false']) (by simp only [go_sem, Bool.not_eq_true', Bool.not_eq_false'])) ?_; simp only [go_sem, Bool.not_eq_true', Bool.not_eq_false'])
    (refine acallF2 [232, 233, 234 ] [] ( rsame_ok (kinR l of k l.length) (kinR l of k l.length) h3 h3) (by simp only [go_sem, Bool.not_eq_true', Bool.not_eq_false']; rfl) (fit_of (by simp only [go_sem, Bool.not_eq_true', Bool.not_eq_false']) (by simp only [go_sem, Bool.not_eq_true', Bool.not_eq_false']) (by simp only [go_sem, Bool.not_eq_true', Bool.not_eq_false']) (by simp only [go_sem, Bool.not_eq_true', Bool.not_eq_false']) (by simp only [go_sem, Bool.not_eq_true', Bool.not_eq_false']) (by simp only [go_sem, Bool.not_eq_true', Bool.not_eq_false']) (by simp only [go_sem, Bool.not_eq_true', Bool.not_eq_false'])) ?_; simp only [go_sem, Bool.not_eq_true', Bool.not_eq_false'])
    (refine acall2 [] (awake16_ok) (by simp only [go_sem, Bool.not_eq_true', Bool.not_eq_false']; rfl) (fit_of (by simp only [go_sem, Bool.not_eq_true', Bool.not_eq_false']) (by simp only [go_sem, Bool.not_eq_true', Bool.not_eq_false']) (by simp only [go_sem, Bool.not_eq_true', Bool.not_eq_false']) (by simp only [go_sem, Bool.not_eq_true', Bool.not_eq_false']) (by simp only [go_sem, Bool.not_eq_true', Bool.not_eq_false']) (by simp only [go_sem, Bool.not_eq_true', Bool.not_eq_false']) (by simp only [go_sem, Bool.not_eq_true', Bool.not_eq_false'])) ?_; simp only [go_sem, Bool.not_eq_true', Bool.not_eq_false'])
    repeat' first | contradiction | intro _ | refine And.intro ?_ ?_ | refine ex_get (by omega) ?_ | (show drawB _ _ = true; kernel_rfl) | (refine ret2 [] (by simp only [go_sem, Bool.not_eq_true', Bool.not_eq_false']; rfl) ?_; simp only [go_sem, Bool.not_eq_true', Bool.not_eq_false'])
end Go.Proofs.Ytbgcmnccjfdooaa
/- CHAPTER 16: the law KinOnce. -/
/- G -/
/- BOOLS -/
set_option linter.unusedSimpArgs false
set_option linter.unusedVariables false
namespace Go.Proofs.Ytbgcmnccjfdooaa
open Go.RowKit

theorem whl_le (q : Int → Bool) : ∀ r : List Int, whl q r ≤ r.length
  | [] => Nat.le_refl _
  | x :: r => by
    rw [whl]
    have := whl_le q r
    split <;> simp only [List.length_cons] <;> omega
theorem whl_all (q : Int → Bool) : ∀ (r : List Int) (j : Nat) (h : j < r.length), j < whl q r → q r[j] = true
  | [], j, h, _ => absurd h (Nat.not_lt_zero _)
  | x :: r, j, h, hj => by
    rw [whl] at hj
    split at hj
    · next e =>
      cases j with
      | zero => exact e
      | succ j => exact whl_all q r j (by simpa using h) (by omega)
    · omega
theorem whl_stop (q : Int → Bool) : ∀ (r : List Int) (h : whl q r < r.length), q r[whl q r] = false
  | [], h => absurd h (Nat.not_lt_zero _)
  | x :: r, h => by
    by_cases e : q x = true
    · have e2 : whl q (x :: r) = whl q r + 1 := by rw [whl, if_pos e]
      simp only [e2, List.getElem_cons_succ]
      exact whl_stop q r (by rw [e2] at h; simpa using h)
    · have e2 : whl q (x :: r) = 0 := by rw [whl, if_neg e]
      simp only [e2, List.getElem_cons_zero]
      simpa using e
theorem idx_spec (q : Int → Bool) (l : List Int) : (idxI q l = -1 ∧ ∀ j (h : j < l.length), q l[j] = false) ∨ ∃ k : Nat, ∃ h : k < l.length, idxI q l = k ∧ q l[k] = true ∧ ∀ j (hj : j < l.length), j < k → q l[j] = false := by
  by_cases h : l.findIdx q < l.length
  · refine .inr ⟨l.findIdx q, h, if_pos h, List.findIdx_getElem (w := h), fun j hj hjk => ?_⟩
    have := List.not_of_lt_findIdx hjk
    simpa using this
  · refine .inl ⟨if_neg h, fun j hj => ?_⟩
    have h2 : l.findIdx q = l.length := by
      have := List.findIdx_le_length (p := q) (xs := l)
      omega
    have := List.findIdx_eq_length.1 h2 _ (List.getElem_mem hj)
    simpa using this
/-- the atoms that a block holds are those from one on up to another one. -/
structure HInP (l : List LNo) (of : List Int) (b : Nat) (f t : Int) : Prop where
  lo : 0 ≤ f
  le : f ≤ t
  hi : t ≤ of.length
  iff_ : ∀ j (h : j < of.length), holN l b of[j] = true ↔ f ≤ j ∧ (j : Int) < t
theorem held_in {l : List LNo} {of : List Int} (hr : RowP l of) {b : Nat} (hb : b < l.length) : HInP l of b (heldS l of b).1 (heldS l of b).2 := by
  have hhas : ∀ j (h : j < of.length), hasN l of[j] = true := fun j h => hasN_iff.2 (hr.has j h)
  unfold heldS
  rcases idx_spec (holN l b) of with ⟨e, h⟩ | ⟨k, hk, e, h1, h2⟩
  · rw [e, if_pos (by omega)]
    exact ⟨by simp, by simp, by simp, fun j hj => by rw [h j hj]; simp⟩
  · rw [e, if_neg (by omega), Int.toNat_natCast]
    have w1 := whl_le (holN l b) (of.drop k)
    have w2 := whl_all (holN l b) (of.drop k)
    have w3 := whl_stop (holN l b) (of.drop k)
    rw [List.length_drop] at w1
    generalize whl (holN l b) (of.drop k) = m at w1 w2 w3
    refine ⟨by simp only; omega, by simp only; omega, by simp only; omega, fun j hj => ?_⟩
    simp only
    constructor
    · intro q
      by_cases c1 : j < k
      · rw [h2 j hj c1] at q; cases q
      · by_cases c2 : j < k + m
        · omega
        · have hm : m < (of.drop k).length := by rw [List.length_drop]; omega
          have s := w3 hm
          rw [List.getElem_drop] at s
          rw [holN_eq hb (hhas _ _)] at q s h1
          simp only [Bool.and_eq_true, Bool.and_eq_false_iff, decide_eq_true_eq, decide_eq_false_iff_not] at q s h1
          have m1 : of[k] ≤ of[k + m]'(by rw [List.length_drop] at hm; omega) := by
            by_cases z : m = 0
            · subst z; exact Int.le_refl _
            · exact hr.le k (k + m) hk (by rw [List.length_drop] at hm; omega) (by omega)
          have m2 : of[k + m]'(by rw [List.length_drop] at hm; omega) ≤ of[j] := by
            by_cases z : k + m = j
            · subst z; exact Int.le_refl _
            · exact hr.le (k + m) j (by rw [List.length_drop] at hm; omega) hj (by omega)
          omega
    · rintro ⟨c1, c2⟩
      have := w2 (j - k) (by rw [List.length_drop]; omega) (by omega)
      rw [List.getElem_drop] at this
      have e9 : k + (j - k) = j := by omega
      simp only [e9] at this
      exact this
theorem hldK_held {l : List LNo} {of : List Int} {b : Nat} {f t : Int} (h : HInP l of b f t) (k : Int) : hldK l of b k = decide (f ≤ k ∧ k < t) := by
  have h1 := h.lo
  have h2 := h.hi
  by_cases hk : 0 ≤ k ∧ k.toNat < of.length
  · rw [hldK_at hk.1 hk.2, Bool.eq_iff_iff, h.iff_, decide_eq_true_eq]
    omega
  · have : hldK l of b k = false := by simp only [hldK, Bool.and_eq_false_iff, decide_eq_false_iff_not]; omega
    rw [this]
    symm
    rw [decide_eq_false_iff_not]
    omega
theorem fltR_count (p : Nat → Bool) (b : Nat) : ∀ n, (fltR p n).count (b : Int) = if b < n ∧ p b = true then 1 else 0
  | 0 => by simp [fltR_zero]
  | n + 1 => by
    rw [fltR_succ]
    have ih := fltR_count p b n
    by_cases q : p n = true
    · rw [if_pos q, List.count_append, ih, List.count_singleton]
      by_cases e : b = n
      · subst e; rw [if_neg (by omega), if_pos (by simp), if_pos ⟨by omega, q⟩]
      · have e2 : ¬ (((n : Int) == (b : Int)) = true) := by simp; omega
        rw [if_neg e2]
        by_cases c : b < n ∧ p b = true
        · rw [if_pos c, if_pos ⟨by omega, c.2⟩]
        · rw [if_neg c, if_neg (fun z => c ⟨by omega, z.2⟩)]
    · rw [if_neg q, ih]
      by_cases c : b < n ∧ p b = true
      · rw [if_pos c, if_pos ⟨by omega, c.2⟩]
      · rw [if_neg c, if_neg (fun z => c ⟨by have : b ≠ n := fun e => by subst e; exact q z.2
                                             omega, z.2⟩)]
structure OncP (l : List LNo) (of : List Int) (b : Nat) (f t : Int) : Prop where
  lo : 0 ≤ f
  le : f ≤ t
  hi : t ≤ of.length
  beg : ∀ k : Nat, k ≤ of.length → ((kinR l of k l.length).begins.count (b : Int) : Int) = if f < t ∧ (k : Int) = f then 1 else 0
  end_ : ∀ k : Nat, k ≤ of.length → ((kinR l of k l.length).ends.count (b : Int) : Int) = if f < t ∧ (k : Int) = t then 1 else 0
  both : ∀ k : Nat, k ≤ of.length → ((kinR l of k l.length).both.count (b : Int) : Int) = if f < t ∧ f < (k : Int) ∧ (k : Int) < t then 1 else 0
  some : f < t → kinN l b = 1 ∧ (∀ h : f.toNat < of.length, holN l b of[f.toNat] = true) ∧ (∀ h : (t - 1).toNat < of.length, holN l b of[(t - 1).toNat] = true)
theorem onc_p {l : List LNo} {of : List Int} (hc : chkB l of = true) {b : Nat} (hb : b < l.length) : OncP l of b (heldA l of b).1 (heldA l of b).2 := by
  have hr := chk_row hc
  by_cases hk : kinN l b = 1
  · have hg : heldG l of b = true := by
      simp only [heldG, hc, Bool.true_and, Bool.and_eq_true, decide_eq_true_eq, Int.toNat_natCast]
      omega
    have e : heldA l of b = heldS l of b := by simp [heldA, hg]
    rw [e]
    have h := held_in hr hb
    generalize (heldS l of b).1 = f at h ⊢
    generalize (heldS l of b).2 = t at h ⊢
    have hbk : blkB l b = true := by simp [blkB, hk]
    have h1 := h.lo
    have h2 := h.le
    have h3 := h.hi
    refine ⟨h1, h2, h3, fun k _ => ?_, fun k _ => ?_, fun k _ => ?_, fun q => ⟨hk, fun z => (h.iff_ _ z).2 (by omega), fun z => (h.iff_ _ z).2 (by omega)⟩⟩
    all_goals
      simp only [kinR, List.count_reverse, fltR_count, hldK_held h, hbk, Bool.true_and, Bool.and_eq_true, Bool.not_eq_true', decide_eq_true_eq, decide_eq_false_iff_not]
      split <;> split <;> omega
  · have hg : heldG l of b = false := by
      simp only [heldG, hc, Bool.true_and, Bool.and_eq_false_iff, decide_eq_false_iff_not, Int.toNat_natCast]
      omega
    have e : heldA l of b = (0, 0) := by simp [heldA, hg]
    rw [e]
    have hbk : blkB l b = false := by simp [blkB, hk]
    refine ⟨by simp, by simp, by simp, fun k _ => ?_, fun k _ => ?_, fun k _ => ?_, fun q => absurd q (by simp)⟩
    all_goals
      simp only [kinR, List.count_reverse, fltR_count, hbk, Bool.false_and, Bool.false_eq_true, and_false, if_false]
      simp
end Go.Proofs.Ytbgcmnccjfdooaa
/- CHAPTER 18: the plain law of RankMinds, of one block more that minds. -/
/- G -/
/- BOOLS -/
set_option linter.unusedSimpArgs false
set_option linter.unusedVariables false
namespace Go.Proofs.Ytbgcmnccjfdooaa
open Go.RowKit

def minN1 (x : LNo) : LNo := { x with st := { x.st with inside := 1 } }
theorem minN1_nod {x : LNo} (h : nodB x = true) (hk : x.kind = 1) : nodB (minN1 x) = true := by
  unfold nodB at h ⊢
  have e : (minN1 x).kind = x.kind := rfl
  rw [e]
  rw [if_pos hk] at h ⊢
  simp only [Bool.and_eq_true] at h ⊢
  refine ⟨h.1, ?_⟩
  have h5 := h.2
  simp only [styB, hasL, minN1, offN, List.any_cons, List.any_nil, Bool.or_false, Bool.and_eq_true, Bool.not_eq_true', Bool.or_eq_false_iff, decide_eq_false_iff_not] at h5 ⊢
  omega
theorem skel_set : ∀ {l : List LNo} {j : Nat} {y : LNo} (hj : j < l.length), (∀ x ∈ l, nodB x = true) → y.kind = l[j].kind → y.size = l[j].size → y.words = l[j].words → nodB y = true → Skel l (l.set j y)
  | [], _, _, hj, _, _, _, _, _ => absurd hj (Nat.not_lt_zero _)
  | x :: l, 0, y, hj, h, h1, h2, h3, h4 => by
    refine ⟨⟨h1, h2, h3, h4⟩, ?_⟩
    clear hj h1 h2 h3
    induction l with
    | nil => trivial
    | cons z l ih => exact ⟨⟨rfl, rfl, rfl, h z (by simp)⟩, ih fun q hq => h q (by rcases List.mem_cons.1 hq with e | e <;> simp [e])⟩
  | x :: l, j + 1, y, hj, h, h1, h2, h3, h4 =>
    ⟨⟨rfl, rfl, rfl, h x List.mem_cons_self⟩, skel_set (by simpa using hj) (fun q hq => h q (List.mem_cons_of_mem _ hq)) h1 h2 h3 h4⟩
/-- the nodes, one block of which minds. -/
def morL (l : List LNo) (j : Nat) : List LNo := match l[j]? with | some x => l.set j (minN1 x) | none => l
theorem morL_at {l : List LNo} {j : Nat} (hj : j < l.length) : morL l j = l.set j (minN1 l[j]) := by unfold morL; rw [List.getElem?_eq_getElem hj]
structure MorP (s t : LSty) : Prop where
  head : t.head = s.head
  before : t.before = s.before
  after : t.after = s.after
  orphans : t.orphans = s.orphans
  widows : t.widows = s.widows
  inside : s.inside = 1 → t.inside = 1
theorem mor_sty {l : List LNo} {j : Nat} (hj : j < l.length) (b : Int) : MorP (styN l b) (styN (morL l j) b) ∧ (b = j → (styN (morL l j) b).inside = 1) := by
  rw [morL_at hj]
  by_cases q : j = b.toNat
  · have e1 : styN l b = l[j].st := by unfold styN; rw [← q, List.getElem?_eq_getElem hj]
    have e2 : styN (l.set j (minN1 l[j])) b = { l[j].st with inside := 1 } := by
      unfold styN
      rw [← q, List.getElem?_set_self hj]
      rfl
    rw [e1, e2]
    exact ⟨⟨rfl, rfl, rfl, rfl, rfl, fun _ => rfl⟩, fun _ => rfl⟩
  · have e2 : styN (l.set j (minN1 l[j])) b = styN l b := by
      unfold styN
      rw [List.getElem?_set_ne q]
    rw [e2]
    exact ⟨⟨rfl, rfl, rfl, rfl, rfl, id⟩, fun e => absurd (by omega) q⟩
theorem mor_law {l : List LNo} {of : List Int} {k : Int} {j : Nat} (hc : chkB l of = true) (hj : j < l.length) (hkd : l[j].kind = 1) (hk : 0 ≤ k ∧ k ≤ of.length) : rnkA l of k ≤ rnkA (morL l j) of k ∧ ((heldA l of j).1 < k → k < (heldA l of j).2 → andI (rnkA (morL l j) of k) 2 ≠ 0) := by
  have hv := (chk_has hc).1
  have hs : Skel l (morL l j) := by
    rw [morL_at hj]
    exact skel_set hj (fun x hx => isG_nod l _ _ hv x hx) rfl rfl rfl (minN1_nod (isG_nod l _ _ hv l[j] (List.getElem_mem hj)) hkd)
  obtain ⟨e1, e2⟩ := hs.kin hc k
  have hg := kinG_chk hc hk
  have ho := onc_p hc hj
  have hR := kin_R hc hk
  unfold rnkA
  rw [e1, e2, hg]
  by_cases hq : k ≠ 0 ∧ k ≠ of.length
  rotate_left
  · rw [if_neg (fun q => hq q.2), if_neg (fun q => hq q.2)]
    refine ⟨Int.le_refl _, fun q1 q2 => ?_⟩
    have := ho.lo
    have := ho.hi
    omega
  rw [if_pos ⟨rfl, hq⟩, if_pos ⟨rfl, hq⟩, rnkK, rnkK]
  have hf : fewB (morL l j) of k (kinA l of k) = fewB l of k (kinA l of k) := by
    unfold fewB stP
    rw [hs.par]
    split
    · rw [(mor_sty hj _).1.orphans, (mor_sty hj _).1.widows]
    · rfl
  have hb : betB (morL l j) of k = betB l of k := by
    have hbe : ∀ b, begA (morL l j) b = begA l b := fun b => by
      unfold begA
      rw [(mor_sty hj b).1.head, (mor_sty hj b).1.before]
    have haf : ∀ b, (styN (morL l j) b).after = (styN l b).after := fun b => (mor_sty hj b).1.after
    have hl : ∀ x, askL (morL l j) x = askL l x := fun x => by
      unfold askL
      rw [funext hbe]
      simp only [haf]
    unfold betB askA
    rw [e1, e2, hl]
  have hw : (kinA l of k).both.any (insI l) = true → (kinA l of k).both.any (insI (morL l j)) = true := by
    rw [List.any_eq_true, List.any_eq_true]
    rintro ⟨b, b1, b2⟩
    exact ⟨b, b1, decide_eq_true ((mor_sty hj b).1.inside (of_decide_eq_true b2))⟩
  have hx : (heldA l of j).1 < k → k < (heldA l of j).2 → (kinA l of k).both.any (insI (morL l j)) = true := by
    intro q1 q2
    obtain ⟨n, rfl⟩ : ∃ n : Nat, k = n := ⟨k.toNat, by omega⟩
    have hcn := ho.both n (by omega)
    rw [if_pos ⟨by omega, q1, q2⟩, hR] at hcn
    rw [List.any_eq_true]
    exact ⟨j, List.count_pos_iff.1 (by omega), decide_eq_true ((mor_sty hj j).2 rfl)⟩
  rw [hf, hb]
  generalize fewB l of k (kinA l of k) = f
  generalize betB l of k = b
  constructor
  · rcases hW : (kinA l of k).both.any (insI l) with _ | _
    · generalize (kinA l of k).both.any (insI (morL l j)) = w
      cases f <;> cases w <;> cases b <;> decide
    · rw [hw hW]
      exact Int.le_refl _
  · intro q1 q2
    rw [hx q1 q2]
    cases f <;> cases b <;> decide
end Go.Proofs.Ytbgcmnccjfdooaa
/- CHAPTER 18: the law RankTells. -/
/- G -/
/- BOOLS -/
set_option linter.unusedSimpArgs false
set_option linter.unusedVariables false
namespace Go.Proofs.Ytbgcmnccjfdooaa
open Go.RowKit

theorem allR_len (l : List LNo) (of : List Int) : (allR l of).length ≤ of.length + 1 := by unfold allR; split <;> simp
theorem linK_no {l : List LNo} {of : List Int} {k : Int} {f : Int → Int → Int} (h : kinG l of k = false) : linK l of k f = 0 := by unfold linK; rw [if_neg (by simp [h])]
theorem rnkA_no {l : List LNo} {of : List Int} {k : Int} (h : kinG l of k = false) : rnkA l of k = 0 := by unfold rnkA; rw [if_neg (by simp [h])]
theorem linK_is {l : List LNo} {of : List Int} {k : Int} {f : Int → Int → Int} (h : kinG l of k = true) : linK l of k f = f k (kinA l of k).text := by unfold linK; rw [if_pos h]
set_option maxRecDepth 100000 in
set_option maxHeartbeats 8000000 in
theorem rankTells_ok (l : List LNo) (of : List Int) (k : Int) : FnOk Try.prog 9 [.sl 20 (l.map cNo), .sl 1 (of.map cInt), .raw (.int .i64 k)] [] (.raw (.bool true)) [] := by
  refine fn_of_swp Try.func9 rfl (by kernel_rfl) (by kernel_rfl) (Nat.le_of_ble_eq_true rfl) Try.results9 ?_
  (refine swp_seqW ?_; simp only [go_sem, Bool.not_eq_true', Bool.not_eq_false'])
  (refine swp_seqW ?_; simp only [go_sem, Bool.not_eq_true', Bool.not_eq_false'])
  (refine acall2 [] (vast18_ok l of) (by simp only [go_sem, Bool.not_eq_true', Bool.not_eq_false']; rfl) (fit_of (by simp only [go_sem, Bool.not_eq_true', Bool.not_eq_false']) (by simp only [go_sem, Bool.not_eq_true', Bool.not_eq_false']) (by simp only [go_sem, Bool.not_eq_true', Bool.not_eq_false']) (by simp only [go_sem, Bool.not_eq_true', Bool.not_eq_false']) (by simp only [go_sem, Bool.not_eq_true', Bool.not_eq_false']) (by simp only [go_sem, Bool.not_eq_true', Bool.not_eq_false']) (by simp only [go_sem, Bool.not_eq_true', Bool.not_eq_false'])) ?_; simp only [go_sem, Bool.not_eq_true', Bool.not_eq_false'])
  refine ⟨fun h1 => ?_, fun h1 => ?_⟩
  · (refine acall2 [] (awake18_ok) (by simp only [go_sem, Bool.not_eq_true', Bool.not_eq_false']; rfl) (fit_of (by simp only [go_sem, Bool.not_eq_true', Bool.not_eq_false']) (by simp only [go_sem, Bool.not_eq_true', Bool.not_eq_false']) (by simp only [go_sem, Bool.not_eq_true', Bool.not_eq_false']) (by simp only [go_sem, Bool.not_eq_true', Bool.not_eq_false']) (by simp only [go_sem, Bool.not_eq_true', Bool.not_eq_false']) (by simp only [go_sem, Bool.not_eq_true', Bool.not_eq_false']) (by simp only [go_sem, Bool.not_eq_true', Bool.not_eq_false'])) ?_; simp only [go_sem, Bool.not_eq_true', Bool.not_eq_false'])
  obtain ⟨hl6, ho6, hw6⟩ := vst2_no h1
  have hl : l.length ≤ 1000 := by omega
  have ho : of.length ≤ 1000 := by omega
  have hw : ∀ x ∈ l, x.words.length ≤ 9223372036854775807 := fun x hx => by have := hw6 x hx; omega
  have hw2 : ∀ x ∈ l, x.words.length ≤ 1000 := fun x hx => by have := hw6 x hx; omega
  have hll := allR_len l of
  refine swp_cutS (fun _ : Unit => stF l of k [(7, .sl 20 (l.map cNo)), (8, .sl 1 (of.map cInt))]) (fun _ => True) 3 ?_ ?_
  · (refine swp_lastW ?_; simp only [go_sem, Bool.not_eq_true', Bool.not_eq_false'])
    (refine acall2 [] (own5_ok l hl hw2) (by simp only [go_sem, Bool.not_eq_true', Bool.not_eq_false']; rfl) (fit_of (by simp only [go_sem, Bool.not_eq_true', Bool.not_eq_false']) (by simp only [go_sem, Bool.not_eq_true', Bool.not_eq_false']) (by simp only [go_sem, Bool.not_eq_true', Bool.not_eq_false']) (by simp only [go_sem, Bool.not_eq_true', Bool.not_eq_false']) (by simp only [go_sem, Bool.not_eq_true', Bool.not_eq_false']) (by simp only [go_sem, Bool.not_eq_true', Bool.not_eq_false']) (by simp only [go_sem, Bool.not_eq_true', Bool.not_eq_false'])) ?_; simp only [go_sem, Bool.not_eq_true', Bool.not_eq_false'])
    refine ⟨⟨by omega, by omega⟩, ?_⟩
    (refine cut_end [48, 72 ] ( ()) (by simp only [go_sem, Bool.not_eq_true', Bool.not_eq_false']; rfl) ?_ ?_; (focus (simp only [go_sem, Bool.not_eq_true', Bool.not_eq_false']; done)))
    trivial
  rintro - -
  (refine swp_seqW ?_; simp only [go_sem, Bool.not_eq_true', Bool.not_eq_false'])
  (refine acall2 [] (linK_ok l of k hl ho hw) (by simp only [go_sem, Bool.not_eq_true', Bool.not_eq_false']; rfl) (fit_of (by simp only [go_sem, Bool.not_eq_true', Bool.not_eq_false']) (by simp only [go_sem, Bool.not_eq_true', Bool.not_eq_false']) (by simp only [go_sem, Bool.not_eq_true', Bool.not_eq_false']) (by simp only [go_sem, Bool.not_eq_true', Bool.not_eq_false']) (by simp only [go_sem, Bool.not_eq_true', Bool.not_eq_false']) (by simp only [go_sem, Bool.not_eq_true', Bool.not_eq_false']) (by simp only [go_sem, Bool.not_eq_true', Bool.not_eq_false'])) ?_; simp only [go_sem, Bool.not_eq_true', Bool.not_eq_false'])
  (refine swp_seqW ?_; simp only [go_sem, Bool.not_eq_true', Bool.not_eq_false'])
  (refine acall2 [] (rnkA_ok l of k hl ho hw) (by simp only [go_sem, Bool.not_eq_true', Bool.not_eq_false']; rfl) (fit_of (by simp only [go_sem, Bool.not_eq_true', Bool.not_eq_false']) (by simp only [go_sem, Bool.not_eq_true', Bool.not_eq_false']) (by simp only [go_sem, Bool.not_eq_true', Bool.not_eq_false']) (by simp only [go_sem, Bool.not_eq_true', Bool.not_eq_false']) (by simp only [go_sem, Bool.not_eq_true', Bool.not_eq_false']) (by simp only [go_sem, Bool.not_eq_true', Bool.not_eq_false']) (by simp only [go_sem, Bool.not_eq_true', Bool.not_eq_false'])) ?_; simp only [go_sem, Bool.not_eq_true', Bool.not_eq_false'])
  refine swp_cutS (fun _ : Unit => stF l of k [(7, .sl 20 (l.map cNo)), (8, .sl 1 (of.map cInt)), (9, .raw (.int .i64 (linK l of k (linA of)))), (10, .raw (.int .i64 (linK l of k (linB of)))), (11, .raw (.int .i64 (errB (kinG l of k)))), (12, .raw (.int .i64 (rnkA l of k))), (13, .raw (.int .i64 (errB (kinG l of k)))), (14, .sl 1 ((allR l of).map cInt)), (15, .raw (.int .i64 (errB (chkB l of))))]) (fun _ => True) 6 ?_ ?_
  · (refine swp_lastW ?_; simp only [go_sem, Bool.not_eq_true', Bool.not_eq_false'])
    (refine acall2 [] (allR_ok l of hl ho hw) (by simp only [go_sem, Bool.not_eq_true', Bool.not_eq_false']; rfl) (fit_of (by simp only [go_sem, Bool.not_eq_true', Bool.not_eq_false']) (by simp only [go_sem, Bool.not_eq_true', Bool.not_eq_false']) (by simp only [go_sem, Bool.not_eq_true', Bool.not_eq_false']) (by simp only [go_sem, Bool.not_eq_true', Bool.not_eq_false']) (by simp only [go_sem, Bool.not_eq_true', Bool.not_eq_false']) (by simp only [go_sem, Bool.not_eq_true', Bool.not_eq_false']) (by simp only [go_sem, Bool.not_eq_true', Bool.not_eq_false'])) ?_; simp only [go_sem, Bool.not_eq_true', Bool.not_eq_false'])
    (refine cut_end [200 ] ( ()) (by simp only [go_sem, Bool.not_eq_true', Bool.not_eq_false']; rfl) ?_ ?_; (focus (simp only [go_sem, Bool.not_eq_true', Bool.not_eq_false']; done)))
    trivial
  rintro - -
  (refine swp_seqW ?_; simp only [go_sem, Bool.not_eq_true', Bool.not_eq_false'])
  (refine acall2 [] (same5_ok l hl hw) (by simp only [go_sem, Bool.not_eq_true', Bool.not_eq_false']; rfl) (fit_of (by simp only [go_sem, Bool.not_eq_true', Bool.not_eq_false']) (by simp only [go_sem, Bool.not_eq_true', Bool.not_eq_false']) (by simp only [go_sem, Bool.not_eq_true', Bool.not_eq_false']) (by simp only [go_sem, Bool.not_eq_true', Bool.not_eq_false']) (by simp only [go_sem, Bool.not_eq_true', Bool.not_eq_false']) (by simp only [go_sem, Bool.not_eq_true', Bool.not_eq_false']) (by simp only [go_sem, Bool.not_eq_true', Bool.not_eq_false'])) ?_; simp only [go_sem, Bool.not_eq_true', Bool.not_eq_false'])
  (refine acall2 [] (ints8_ok of of ho ho) (by simp only [go_sem, Bool.not_eq_true', Bool.not_eq_false']; rfl) (fit_of (by simp only [go_sem, Bool.not_eq_true', Bool.not_eq_false']) (by simp only [go_sem, Bool.not_eq_true', Bool.not_eq_false']) (by simp only [go_sem, Bool.not_eq_true', Bool.not_eq_false']) (by simp only [go_sem, Bool.not_eq_true', Bool.not_eq_false']) (by simp only [go_sem, Bool.not_eq_true', Bool.not_eq_false']) (by simp only [go_sem, Bool.not_eq_true', Bool.not_eq_false']) (by simp only [go_sem, Bool.not_eq_true', Bool.not_eq_false'])) ?_; simp only [go_sem, Bool.not_eq_true', Bool.not_eq_false'])
  (refine swp_seqW ?_; simp only [go_sem, Bool.not_eq_true', Bool.not_eq_false'])
  (refine acall2 [] (rcheck_ok l of hl ho hw) (by simp only [go_sem, Bool.not_eq_true', Bool.not_eq_false']; rfl) (fit_of (by simp only [go_sem, Bool.not_eq_true', Bool.not_eq_false']) (by simp only [go_sem, Bool.not_eq_true', Bool.not_eq_false']) (by simp only [go_sem, Bool.not_eq_true', Bool.not_eq_false']) (by simp only [go_sem, Bool.not_eq_true', Bool.not_eq_false']) (by simp only [go_sem, Bool.not_eq_true', Bool.not_eq_false']) (by simp only [go_sem, Bool.not_eq_true', Bool.not_eq_false']) (by simp only [go_sem, Bool.not_eq_true', Bool.not_eq_false'])) ?_; simp only [go_sem, Bool.not_eq_true', Bool.not_eq_false'])
  cases hc : chkB l of with
  | false =>
    have e1 : kinG l of k = false := kinG_no (.inl hc)
    have e2 : allR l of = [] := by unfold allR; rw [hc]; rfl
    have e3 : errB false = 4 := rfl
    rw [e1, e2, linK_no e1, linK_no e1, rnkA_no e1, e3]
    refine ⟨fun _ => ?_, fun q => by omega⟩
    repeat' first | contradiction | intro _ | refine And.intro ?_ ?_ | refine ex_get (by omega) ?_ | (show drawB _ _ = true; kernel_rfl) | (refine ret2 [] (by simp only [go_sem, Bool.not_eq_true', Bool.not_eq_false']; rfl) ?_; simp only [go_sem, Bool.not_eq_true', Bool.not_eq_false']) | (refine acall2 [] (awake18_ok) (by simp only [go_sem, Bool.not_eq_true', Bool.not_eq_false']; rfl) (fit_of (by simp only [go_sem, Bool.not_eq_true', Bool.not_eq_false']) (by simp only [go_sem, Bool.not_eq_true', Bool.not_eq_false']) (by simp only [go_sem, Bool.not_eq_true', Bool.not_eq_false']) (by simp only [go_sem, Bool.not_eq_true', Bool.not_eq_false']) (by simp only [go_sem, Bool.not_eq_true', Bool.not_eq_false']) (by simp only [go_sem, Bool.not_eq_true', Bool.not_eq_false']) (by simp only [go_sem, Bool.not_eq_true', Bool.not_eq_false'])) ?_; simp only [go_sem, Bool.not_eq_true', Bool.not_eq_false'])
    all_goals first
      | omega
      | (simp; done)
      | (exfalso; simp at *; done)
      | skip
  | true =>
    have e3 : errB true = 0 := rfl
    rw [e3]
    refine ⟨fun q => absurd rfl q, fun _ => ?_⟩
    (refine swp_seqW ?_; simp only [go_sem, Bool.not_eq_true', Bool.not_eq_false'])
    (refine acall2 [] (rallR_ok l of hl ho hc) (by simp only [go_sem, Bool.not_eq_true', Bool.not_eq_false']; rfl) (fit_of (by simp only [go_sem, Bool.not_eq_true', Bool.not_eq_false']) (by simp only [go_sem, Bool.not_eq_true', Bool.not_eq_false']) (by simp only [go_sem, Bool.not_eq_true', Bool.not_eq_false']) (by simp only [go_sem, Bool.not_eq_true', Bool.not_eq_false']) (by simp only [go_sem, Bool.not_eq_true', Bool.not_eq_false']) (by simp only [go_sem, Bool.not_eq_true', Bool.not_eq_false']) (by simp only [go_sem, Bool.not_eq_true', Bool.not_eq_false'])) ?_; simp only [go_sem, Bool.not_eq_true', Bool.not_eq_false'])
    (refine acallF2 [208 ] [] ( ints8_ok (allR l of) (allR l of) (by omega) (by omega)) (by simp only [go_sem, Bool.not_eq_true', Bool.not_eq_false']; rfl) (fit_of (by simp only [go_sem, Bool.not_eq_true', Bool.not_eq_false']) (by simp only [go_sem, Bool.not_eq_true', Bool.not_eq_false']) (by simp only [go_sem, Bool.not_eq_true', Bool.not_eq_false']) (by simp only [go_sem, Bool.not_eq_true', Bool.not_eq_false']) (by simp only [go_sem, Bool.not_eq_true', Bool.not_eq_false']) (by simp only [go_sem, Bool.not_eq_true', Bool.not_eq_false']) (by simp only [go_sem, Bool.not_eq_true', Bool.not_eq_false'])) ?_; simp only [go_sem, Bool.not_eq_true', Bool.not_eq_false'])
    by_cases hk : 0 ≤ k ∧ k ≤ of.length
    rotate_left
    · have e1 : kinG l of k = false := kinG_no (.inr hk)
      have e4 : errB false = 4 := rfl
      rw [e1, linK_no e1, linK_no e1, rnkA_no e1, e4]
      (refine swp_seqW ?_; simp only [go_sem, Bool.not_eq_true', Bool.not_eq_false', List.length_map])
      repeat' first | contradiction | intro _ | refine And.intro ?_ ?_ | refine ex_get (by omega) ?_ | (show drawB _ _ = true; kernel_rfl) | (refine ret2 [] (by simp only [go_sem, Bool.not_eq_true', Bool.not_eq_false', List.map]; rfl) ?_; simp only [go_sem, Bool.not_eq_true', Bool.not_eq_false', List.map]) | (refine acall2 [] (awake18_ok) (by simp only [go_sem, Bool.not_eq_true', Bool.not_eq_false']; rfl) (fit_of (by simp only [go_sem, Bool.not_eq_true', Bool.not_eq_false']) (by simp only [go_sem, Bool.not_eq_true', Bool.not_eq_false']) (by simp only [go_sem, Bool.not_eq_true', Bool.not_eq_false']) (by simp only [go_sem, Bool.not_eq_true', Bool.not_eq_false']) (by simp only [go_sem, Bool.not_eq_true', Bool.not_eq_false']) (by simp only [go_sem, Bool.not_eq_true', Bool.not_eq_false']) (by simp only [go_sem, Bool.not_eq_true', Bool.not_eq_false'])) ?_; simp only [go_sem, Bool.not_eq_true', Bool.not_eq_false', List.map])
      all_goals first
        | omega
        | (simp; done)
        | (exfalso; simp at *; done)
        | skip
    have e1 : kinG l of k = true := kinG_chk hc hk
    rw [e1, e3]
    (refine swp_seqW ?_; simp only [go_sem, Bool.not_eq_true', Bool.not_eq_false', List.length_map])
    refine ⟨fun _ => ⟨fun q => by omega, fun _ => ?_⟩, fun q => by omega⟩
    (refine swp_seqW ?_; simp only [go_sem, Bool.not_eq_true', Bool.not_eq_false'])
    (refine acall2 [] (rlin_ok l of k hl ho hk hc) (by simp only [go_sem, Bool.not_eq_true', Bool.not_eq_false']; rfl) (fit_of (by simp only [go_sem, Bool.not_eq_true', Bool.not_eq_false']) (by simp only [go_sem, Bool.not_eq_true', Bool.not_eq_false']) (by simp only [go_sem, Bool.not_eq_true', Bool.not_eq_false']) (by simp only [go_sem, Bool.not_eq_true', Bool.not_eq_false']) (by simp only [go_sem, Bool.not_eq_true', Bool.not_eq_false']) (by simp only [go_sem, Bool.not_eq_true', Bool.not_eq_false']) (by simp only [go_sem, Bool.not_eq_true', Bool.not_eq_false'])) ?_; simp only [go_sem, Bool.not_eq_true', Bool.not_eq_false'])
    rw [linK_is e1, linK_is e1]
    (refine swp_lastW ?_; simp only [go_sem, Bool.not_eq_true', Bool.not_eq_false'])
    (refine acall2 [] (rrnk_ok l of k hl ho hk hc) (by simp only [go_sem, Bool.not_eq_true', Bool.not_eq_false']; rfl) (fit_of (by simp only [go_sem, Bool.not_eq_true', Bool.not_eq_false']) (by simp only [go_sem, Bool.not_eq_true', Bool.not_eq_false']) (by simp only [go_sem, Bool.not_eq_true', Bool.not_eq_false']) (by simp only [go_sem, Bool.not_eq_true', Bool.not_eq_false']) (by simp only [go_sem, Bool.not_eq_true', Bool.not_eq_false']) (by simp only [go_sem, Bool.not_eq_true', Bool.not_eq_false']) (by simp only [go_sem, Bool.not_eq_true', Bool.not_eq_false'])) ?_; simp only [go_sem, Bool.not_eq_true', Bool.not_eq_false'])
    (refine acall2 [] (awake18_ok) (by simp only [go_sem, Bool.not_eq_true', Bool.not_eq_false']; rfl) (fit_of (by simp only [go_sem, Bool.not_eq_true', Bool.not_eq_false']) (by simp only [go_sem, Bool.not_eq_true', Bool.not_eq_false']) (by simp only [go_sem, Bool.not_eq_true', Bool.not_eq_false']) (by simp only [go_sem, Bool.not_eq_true', Bool.not_eq_false']) (by simp only [go_sem, Bool.not_eq_true', Bool.not_eq_false']) (by simp only [go_sem, Bool.not_eq_true', Bool.not_eq_false']) (by simp only [go_sem, Bool.not_eq_true', Bool.not_eq_false'])) ?_; simp only [go_sem, Bool.not_eq_true', Bool.not_eq_false'])
end Go.Proofs.Ytbgcmnccjfdooaa
/- CHAPTER 18: the law RankParts. -/
/- G -/
/- BOOLS -/
set_option linter.unusedSimpArgs false
set_option linter.unusedVariables false
namespace Go.Proofs.Ytbgcmnccjfdooaa
open Go.RowKit

theorem allR_at {l : List LNo} {of : List Int} (hc : chkB l of = true) {k : Nat} (hk : k < (allR l of).length) : (allR l of)[k] = rnkA l of k := by
  simp only [allR, hc, if_true, List.getElem_map, List.getElem_range]
theorem allR_ln {l : List LNo} {of : List Int} (hc : chkB l of = true) : (allR l of).length = of.length + 1 := by simp [allR, hc]
def stT8 (l : List LNo) (of A : List Int) (t : List (Nat × AV)) : AS := ⟨t ++ [(0, .sl 20 (l.map cNo)), (1, .sl 1 (of.map cInt)), (5, .sl 1 (A.map cInt))], [], none⟩
def stR8 (l : List LNo) (of A : List Int) (x : LKin) (k : Nat) (t : List (Nat × AV)) : AS := ⟨t ++ [(0, .sl 20 (l.map cNo)), (1, .sl 1 (of.map cInt)), (5, .sl 1 (A.map cInt)), (7, .raw (.int .i64 k)), (8, .hdr 800)], [(800, some (.cells 28 [.sl 1 (x.ends.map cInt), .sl 1 (x.begins.map cInt), .sl 1 (x.both.map cInt), .raw (.int .i64 x.text)]))], none⟩
attribute [go_sem] stT8 stR8
set_option maxRecDepth 100000 in
set_option maxHeartbeats 8000000 in
theorem rankParts_ok (l : List LNo) (of : List Int) : FnOk Try.prog 10 [.sl 20 (l.map cNo), .sl 1 (of.map cInt)] [] (.raw (.bool true)) [] := by
  refine fn_of_swp Try.func10 rfl (by kernel_rfl) (by kernel_rfl) (Nat.le_of_ble_eq_true rfl) Try.results10 ?_
  (refine swp_seqW ?_; simp only [go_sem, Bool.not_eq_true', Bool.not_eq_false'])
  (refine swp_seqW ?_; simp only [go_sem, Bool.not_eq_true', Bool.not_eq_false'])
  (refine acall2 [] (vast18_ok l of) (by simp only [go_sem, Bool.not_eq_true', Bool.not_eq_false']; rfl) (fit_of (by simp only [go_sem, Bool.not_eq_true', Bool.not_eq_false']) (by simp only [go_sem, Bool.not_eq_true', Bool.not_eq_false']) (by simp only [go_sem, Bool.not_eq_true', Bool.not_eq_false']) (by simp only [go_sem, Bool.not_eq_true', Bool.not_eq_false']) (by simp only [go_sem, Bool.not_eq_true', Bool.not_eq_false']) (by simp only [go_sem, Bool.not_eq_true', Bool.not_eq_false']) (by simp only [go_sem, Bool.not_eq_true', Bool.not_eq_false'])) ?_; simp only [go_sem, Bool.not_eq_true', Bool.not_eq_false'])
  rcases hvs : vst2 l of with _ | _
  rotate_left
  · simp only [go_sem, Bool.not_eq_true', Bool.not_eq_false']
    (refine acall2 [] (awake18_ok) (by simp only [go_sem, Bool.not_eq_true', Bool.not_eq_false']; rfl) (fit_of (by simp only [go_sem, Bool.not_eq_true', Bool.not_eq_false']) (by simp only [go_sem, Bool.not_eq_true', Bool.not_eq_false']) (by simp only [go_sem, Bool.not_eq_true', Bool.not_eq_false']) (by simp only [go_sem, Bool.not_eq_true', Bool.not_eq_false']) (by simp only [go_sem, Bool.not_eq_true', Bool.not_eq_false']) (by simp only [go_sem, Bool.not_eq_true', Bool.not_eq_false']) (by simp only [go_sem, Bool.not_eq_true', Bool.not_eq_false'])) ?_; simp only [go_sem, Bool.not_eq_true', Bool.not_eq_false'])
  obtain ⟨hl6, ho6, hw6⟩ := vst2_no hvs
  have hl : l.length ≤ 1000 := by omega
  have ho : of.length ≤ 1000 := by omega
  have hw : ∀ x ∈ l, x.words.length ≤ 9223372036854775807 := fun x hx => by have := hw6 x hx; omega
  simp only [go_sem, Bool.not_eq_true', Bool.not_eq_false']
  (refine acall2 [] (check16_ok l of hl ho hw) (by simp only [go_sem, Bool.not_eq_true', Bool.not_eq_false']; rfl) (fit_of (by simp only [go_sem, Bool.not_eq_true', Bool.not_eq_false']) (by simp only [go_sem, Bool.not_eq_true', Bool.not_eq_false']) (by simp only [go_sem, Bool.not_eq_true', Bool.not_eq_false']) (by simp only [go_sem, Bool.not_eq_true', Bool.not_eq_false']) (by simp only [go_sem, Bool.not_eq_true', Bool.not_eq_false']) (by simp only [go_sem, Bool.not_eq_true', Bool.not_eq_false']) (by simp only [go_sem, Bool.not_eq_true', Bool.not_eq_false'])) ?_; simp only [go_sem, Bool.not_eq_true', Bool.not_eq_false'])
  rcases hc : chkB l of with _ | _
  · have e3 : errB false = 4 := rfl
    rw [e3]
    refine ⟨fun _ => ?_, fun q => by omega⟩
    (refine acall2 [] (awake18_ok) (by simp only [go_sem, Bool.not_eq_true', Bool.not_eq_false']; rfl) (fit_of (by simp only [go_sem, Bool.not_eq_true', Bool.not_eq_false']) (by simp only [go_sem, Bool.not_eq_true', Bool.not_eq_false']) (by simp only [go_sem, Bool.not_eq_true', Bool.not_eq_false']) (by simp only [go_sem, Bool.not_eq_true', Bool.not_eq_false']) (by simp only [go_sem, Bool.not_eq_true', Bool.not_eq_false']) (by simp only [go_sem, Bool.not_eq_true', Bool.not_eq_false']) (by simp only [go_sem, Bool.not_eq_true', Bool.not_eq_false'])) ?_; simp only [go_sem, Bool.not_eq_true', Bool.not_eq_false'])
  have e3 : errB true = 0 := rfl
  rw [e3]
  refine ⟨fun q => absurd rfl q, fun _ => ?_⟩
  refine swp_cutS (fun _ : Unit => stT8 l of (allR l of) [(6, .raw (.int .i64 0))]) (fun _ => True) 40 ?_ ?_
  · (refine swp_lastW ?_; simp only [go_sem, Bool.not_eq_true', Bool.not_eq_false'])
    (refine acall2 [] (allR_ok l of hl ho hw) (by simp only [go_sem, Bool.not_eq_true', Bool.not_eq_false']; rfl) (fit_of (by simp only [go_sem, Bool.not_eq_true', Bool.not_eq_false']) (by simp only [go_sem, Bool.not_eq_true', Bool.not_eq_false']) (by simp only [go_sem, Bool.not_eq_true', Bool.not_eq_false']) (by simp only [go_sem, Bool.not_eq_true', Bool.not_eq_false']) (by simp only [go_sem, Bool.not_eq_true', Bool.not_eq_false']) (by simp only [go_sem, Bool.not_eq_true', Bool.not_eq_false']) (by simp only [go_sem, Bool.not_eq_true', Bool.not_eq_false'])) ?_; simp only [go_sem, Bool.not_eq_true', Bool.not_eq_false'])
    rw [hc, e3]
    (refine cut_end [104 ] ( ()) (by simp only [go_sem, Bool.not_eq_true', Bool.not_eq_false']; rfl) ?_ ?_; (focus (simp only [go_sem, Bool.not_eq_true', Bool.not_eq_false']; done)))
    trivial
  rintro - -
  have hal := allR_ln hc
  have hat := fun k (h : k < (allR l of).length) => allR_at hc h
  generalize allR l of = A at hal hat ⊢
  have h0 : A[0] = 0 := by
    rw [hat]
    unfold rnkA
    rw [if_neg (by simp)]
  have h1 : A[of.length] = 0 := by
    rw [hat]
    unfold rnkA
    rw [if_neg (by simp)]
  (refine swp_seqW ?_; simp only [go_sem, Bool.not_eq_true', Bool.not_eq_false', List.length_map])
  refine ⟨by omega, fun _ => ⟨by omega, ex_get (by omega) ⟨fun _ => ⟨by omega, ex_get (by omega) ⟨fun q => (q h1).elim, fun _ => ?_⟩⟩, fun q => (q h0).elim⟩⟩, fun q => by omega⟩
  refine swp_cutS (fun _ : Unit => ⟨[], [], none⟩) (fun _ => True) 80 ?_ ?_
  · (refine swp_seqW ?_; simp only [go_sem, Bool.not_eq_true', Bool.not_eq_false'])
    refine swp_block ?_
    refine swp_loop2 [] (fun k : Nat => stT8 l of A [(7, .raw (.int .i64 k))]) (fun k => k ≤ A.length) (fun k => A.length - k) 80 0 (by simp only [go_sem, Bool.not_eq_true', Bool.not_eq_false']; rfl) (by simp only [go_sem, Bool.not_eq_true', Bool.not_eq_false']) ?_ ?_
    · exact Nat.zero_le _
    · rintro k k1
      (refine swp_seqW ?_; simp only [go_sem, Bool.not_eq_true', Bool.not_eq_false', List.length_map])
      refine ⟨fun h5 => ?_, fun h5 => ?_⟩
      rotate_left
      · (refine cut_end [] (()) (by simp only [go_sem, Bool.not_eq_true', Bool.not_eq_false']; rfl) ?_ ?_; (focus (simp only [go_sem, Bool.not_eq_true', Bool.not_eq_false']; done)))
        trivial
      have hkA : k < A.length := by omega
      have hk2 : 0 ≤ (k : Int) ∧ (k : Int) ≤ of.length := by omega
      have hF := hat k hkA
      have HL := prt_law hc (l := l) (of := of) (k := k) hk2
      rw [← hF] at HL
      have hg := kinG_chk hc (k := k) (l := l) (of := of) hk2
      refine swp_seqS ?_
      refine swp_block ?_
      refine swp_cutS (fun _ : Unit => stR8 l of A (kinA l of k) k [(9, .raw (.int .i64 0))]) (fun _ => True) 120 ?_ ?_
      · (refine swp_lastW ?_; simp only [go_sem, Bool.not_eq_true', Bool.not_eq_false'])
        (refine acall2 [] (kinAt_ok l of k hl ho hw) (by simp only [go_sem, Bool.not_eq_true', Bool.not_eq_false']; rfl) (fit_of (by simp only [go_sem, Bool.not_eq_true', Bool.not_eq_false']) (by simp only [go_sem, Bool.not_eq_true', Bool.not_eq_false']) (by simp only [go_sem, Bool.not_eq_true', Bool.not_eq_false']) (by simp only [go_sem, Bool.not_eq_true', Bool.not_eq_false']) (by simp only [go_sem, Bool.not_eq_true', Bool.not_eq_false']) (by simp only [go_sem, Bool.not_eq_true', Bool.not_eq_false']) (by simp only [go_sem, Bool.not_eq_true', Bool.not_eq_false'])) ?_; simp only [go_sem, Bool.not_eq_true', Bool.not_eq_false'])
        rw [hg, e3]
        (refine cut_end [696, 697, 698 ] ( ()) (by simp only [go_sem, Bool.not_eq_true', Bool.not_eq_false']; rfl) ?_ ?_; (focus (simp only [go_sem, Bool.not_eq_true', Bool.not_eq_false']; done)))
        trivial
      rintro - -
      (refine swp_seqW ?_; simp only [go_sem, Bool.not_eq_true', Bool.not_eq_false'])
      (refine acall2 [] (linK_ok l of k hl ho hw) (by simp only [go_sem, Bool.not_eq_true', Bool.not_eq_false']; rfl) (fit_of (by simp only [go_sem, Bool.not_eq_true', Bool.not_eq_false']) (by simp only [go_sem, Bool.not_eq_true', Bool.not_eq_false']) (by simp only [go_sem, Bool.not_eq_true', Bool.not_eq_false']) (by simp only [go_sem, Bool.not_eq_true', Bool.not_eq_false']) (by simp only [go_sem, Bool.not_eq_true', Bool.not_eq_false']) (by simp only [go_sem, Bool.not_eq_true', Bool.not_eq_false']) (by simp only [go_sem, Bool.not_eq_true', Bool.not_eq_false'])) ?_; simp only [go_sem, Bool.not_eq_true', Bool.not_eq_false'])
      rw [hg, e3, linK_is hg, linK_is hg]
      generalize kinA l of k = x at *
      have ha : 0 ≤ linA of k x.text ∧ linA of k x.text ≤ 1000 := by
        have := cntA_le of x.text k of.length
        unfold linA
        split <;> omega
      have hb : 0 ≤ linB of k x.text ∧ linB of k x.text ≤ 1000 := by
        have := cntB_le of x.text k of.length
        unfold linB
        split <;> omega
      generalize linA of k x.text = a at *
      generalize linB of k x.text = b at *
      (refine swp_seqW ?_; simp only [go_sem, Bool.not_eq_true', Bool.not_eq_false', List.length_map])
      refine ⟨by omega, ex_get hkA ?_⟩
      generalize A[k] = n at *
      refine swp_cutS (fun _ : Unit => stR8 l of A x k [(10, .raw (.int .i64 a)), (11, .raw (.int .i64 b))]) (fun _ => True) 160 ?_ ?_
      · have q1 := HL.ran
        have q2 := HL.text
        have q3 := HL.none
        clear HL hF hat
        (refine swp_lastW ?_; simp only [go_sem, Bool.not_eq_true', Bool.not_eq_false'])
        repeat' first | contradiction | intro _ | refine And.intro ?_ ?_ | refine ex_get (by omega) ?_ | (show drawB _ _ = true; kernel_rfl) | (refine ret2 [] (by simp only [go_sem, Bool.not_eq_true', Bool.not_eq_false']; rfl) ?_; simp only [go_sem, Bool.not_eq_true', Bool.not_eq_false'])
        all_goals first
          | omega
          | ((refine cut_end [] (()) (by simp only [go_sem, Bool.not_eq_true', Bool.not_eq_false']; rfl) ?_ ?_; (focus (simp only [go_sem, Bool.not_eq_true', Bool.not_eq_false']; done)))
             trivial)
          | skip
      rintro - -
      (refine swp_seqW ?_; simp only [go_sem, Bool.not_eq_true', Bool.not_eq_false'])
      refine swp_cutS (fun c : Nat => stR8 l of A x k [(10, .raw (.int .i64 a)), (11, .raw (.int .i64 b)), (14, .raw (.int .i64 c))]) (fun c => c = if 0 ≤ x.text then cntT of x.text of.length else 0) 200 ?_ ?_
      · clear HL hF hat
        (refine swp_seqW ?_; simp only [go_sem, Bool.not_eq_true', Bool.not_eq_false'])
        refine swp_block ?_
        refine swp_loop2 [] (fun z : KY Nat => stR8 l of A x k [(10, .raw (.int .i64 a)), (11, .raw (.int .i64 b)), (14, .raw (.int .i64 z.o)), (15, .raw (.int .i64 z.k))]) (fun z => z.k ≤ of.length ∧ z.o ≤ z.k ∧ z.o = if 0 ≤ x.text then cntT of x.text z.k else 0) (fun z => of.length - z.k) 200 ⟨0, 0⟩ (by simp only [go_sem, Bool.not_eq_true', Bool.not_eq_false']; rfl) (by simp only [go_sem, Bool.not_eq_true', Bool.not_eq_false']) ?_ ?_
        · exact ⟨Nat.zero_le _, Nat.le_refl _, by simp [cntT]⟩
        · rintro ⟨j, o⟩ ⟨j1, jo, j2⟩
          simp only at j1 jo j2
          (refine swp_lastW ?_; simp only [go_sem, Bool.not_eq_true', Bool.not_eq_false', List.length_map])
          refine ⟨fun h5 => ?_, fun h5 => ?_⟩
          · have hj : j < of.length := by omega
            have e0 : of.getD j 0 = of[j] := by simp [List.getD_eq_getElem?_getD, hj]
            have e1 : (if 0 ≤ x.text then cntT of x.text (j + 1) else 0) = o + if 0 ≤ x.text ∧ of[j] = x.text then 1 else 0 := by
              rw [cntT, e0, j2]
              by_cases q : 0 ≤ x.text <;> simp [q]
            have hjo : o + 1 ≤ j + 1 := by omega
            have hjo2 : o ≤ j + 1 := by omega
            have ho2 : o ≤ 1000 := by omega
            clear j2 e0
            repeat' first | contradiction | intro _ | refine And.intro ?_ ?_ | refine ex_get (by omega) ?_ | (show drawB _ _ = true; kernel_rfl) | (refine ret2 [] (by simp only [go_sem, Bool.not_eq_true', Bool.not_eq_false']; rfl) ?_; simp only [go_sem, Bool.not_eq_true', Bool.not_eq_false'])
            all_goals first
              | omega
              | ((refine loop_end [] (⟨j + 1, o⟩) (by simp only [go_sem, Bool.not_eq_true', Bool.not_eq_false']; rfl) ?_ ?_ ?_; (focus first | omega | (simp only; omega)); (focus (simp only [go_sem, Bool.not_eq_true', Bool.not_eq_false']; done)))
                 exact ⟨hj, hjo2, by rw [e1]; simp [*]⟩)
              | ((refine loop_end [] (⟨j + 1, o + 1⟩) (by simp only [go_sem, Bool.not_eq_true', Bool.not_eq_false']; rfl) ?_ ?_ ?_; (focus first | omega | (simp only; omega)); (focus (simp only [go_sem, Bool.not_eq_true', Bool.not_eq_false']; done)))
                 exact ⟨hj, hjo, by rw [e1]; simp [*]⟩)
              | skip
          · have e : j = of.length := by omega
            rw [e] at j2
            (refine cut_end [] (o) (by simp only [go_sem, Bool.not_eq_true', Bool.not_eq_false']; rfl) ?_ ?_; (focus (simp only [go_sem, Bool.not_eq_true', Bool.not_eq_false']; done)))
            exact j2
      rintro c hcn
      have q4 : a + b = c := by
        rw [hcn]
        split
        · next q => exact HL.sum q
        · next q => exact (HL.none (by omega)).2
      have q5 := HL.some
      clear HL hF hat hcn
      (refine swp_lastW ?_; simp only [go_sem, Bool.not_eq_true', Bool.not_eq_false'])
      repeat' first | contradiction | intro _ | refine And.intro ?_ ?_ | refine ex_get (by omega) ?_ | (show drawB _ _ = true; kernel_rfl) | (refine ret2 [] (by simp only [go_sem, Bool.not_eq_true', Bool.not_eq_false']; rfl) ?_; simp only [go_sem, Bool.not_eq_true', Bool.not_eq_false'])
      all_goals first
        | omega
        | ((refine swp_lastW ?_; simp only [go_sem, Bool.not_eq_true', Bool.not_eq_false'])
           refine ⟨by omega, ?_⟩
           (refine loop_end [] (k + 1) (by simp only [go_sem, Bool.not_eq_true', Bool.not_eq_false']; rfl) ?_ ?_ ?_; (focus first | omega | (simp only; omega)); (focus (simp only [go_sem, Bool.not_eq_true', Bool.not_eq_false']; done)))
           exact hkA)
        | skip
  rintro - -
  (refine swp_lastW ?_; simp only [go_sem, Bool.not_eq_true', Bool.not_eq_false'])
  (refine acall2 [] (awake18_ok) (by simp only [go_sem, Bool.not_eq_true', Bool.not_eq_false']; rfl) (fit_of (by simp only [go_sem, Bool.not_eq_true', Bool.not_eq_false']) (by simp only [go_sem, Bool.not_eq_true', Bool.not_eq_false']) (by simp only [go_sem, Bool.not_eq_true', Bool.not_eq_false']) (by simp only [go_sem, Bool.not_eq_true', Bool.not_eq_false']) (by simp only [go_sem, Bool.not_eq_true', Bool.not_eq_false']) (by simp only [go_sem, Bool.not_eq_true', Bool.not_eq_false']) (by simp only [go_sem, Bool.not_eq_true', Bool.not_eq_false'])) ?_; simp only [go_sem, Bool.not_eq_true', Bool.not_eq_false'])
end Go.Proofs.Ytbgcmnccjfdooaa
/- CHAPTER 18: the law RankMinds. -/
/- G -/
/- BOOLS -/
set_option linter.unusedSimpArgs false
set_option linter.unusedVariables false
namespace Go.Proofs.Ytbgcmnccjfdooaa
open Go.RowKit

theorem set_same {α : Type} {R : List α} {k : Nat} {r : α} (h : R[k]? = some r) : R.set k r = R := by
  obtain ⟨hk, rfl⟩ := List.getElem?_eq_some_iff.1 h
  exact List.set_getElem_self hk
theorem set_get {α : Type} {R : List α} {k : Nat} {r : α} (h : R[k]? = some r) (r' : α) : (R.set k r')[k]? = some r' := by
  obtain ⟨hk, rfl⟩ := List.getElem?_eq_some_iff.1 h
  simp [hk]
def stM8 (l : List LNo) (of : List Int) (b : Int) (t : List (Nat × AV)) : AS := ⟨t ++ [(0, .sl 20 (l.map cNo)), (1, .sl 1 (of.map cInt)), (2, .raw (.int .i64 b))], [], none⟩
attribute [go_sem] stM8
set_option maxRecDepth 100000 in
set_option maxHeartbeats 8000000 in
theorem rankMinds_ok (l : List LNo) (of : List Int) (b : Int) : FnOk Try.prog 11 [.sl 20 (l.map cNo), .sl 1 (of.map cInt), .raw (.int .i64 b)] [] (.raw (.bool true)) [] := by
  refine fn_of_swp Try.func11 rfl (by kernel_rfl) (by kernel_rfl) (Nat.le_of_ble_eq_true rfl) Try.results11 ?_
  (refine swp_seqW ?_; simp only [go_sem, Bool.not_eq_true', Bool.not_eq_false'])
  refine swp_cutS (fun _ : Unit => stM8 l of b []) (fun _ => vst2 l of = false ∧ chkB l of = true) 20 ?_ ?_
  · (refine swp_lastW ?_; simp only [go_sem, Bool.not_eq_true', Bool.not_eq_false'])
    (refine acall2 [] (vast18_ok l of) (by simp only [go_sem, Bool.not_eq_true', Bool.not_eq_false']; rfl) (fit_of (by simp only [go_sem, Bool.not_eq_true', Bool.not_eq_false']) (by simp only [go_sem, Bool.not_eq_true', Bool.not_eq_false']) (by simp only [go_sem, Bool.not_eq_true', Bool.not_eq_false']) (by simp only [go_sem, Bool.not_eq_true', Bool.not_eq_false']) (by simp only [go_sem, Bool.not_eq_true', Bool.not_eq_false']) (by simp only [go_sem, Bool.not_eq_true', Bool.not_eq_false']) (by simp only [go_sem, Bool.not_eq_true', Bool.not_eq_false'])) ?_; simp only [go_sem, Bool.not_eq_true', Bool.not_eq_false'])
    rcases hvs : vst2 l of with _ | _
    rotate_left
    · simp only [go_sem, Bool.not_eq_true', Bool.not_eq_false']
      (refine acall2 [] (awake18_ok) (by simp only [go_sem, Bool.not_eq_true', Bool.not_eq_false']; rfl) (fit_of (by simp only [go_sem, Bool.not_eq_true', Bool.not_eq_false']) (by simp only [go_sem, Bool.not_eq_true', Bool.not_eq_false']) (by simp only [go_sem, Bool.not_eq_true', Bool.not_eq_false']) (by simp only [go_sem, Bool.not_eq_true', Bool.not_eq_false']) (by simp only [go_sem, Bool.not_eq_true', Bool.not_eq_false']) (by simp only [go_sem, Bool.not_eq_true', Bool.not_eq_false']) (by simp only [go_sem, Bool.not_eq_true', Bool.not_eq_false'])) ?_; simp only [go_sem, Bool.not_eq_true', Bool.not_eq_false'])
    obtain ⟨hl6, ho6, hw6⟩ := vst2_no hvs
    have hl : l.length ≤ 1000 := by omega
    have ho : of.length ≤ 1000 := by omega
    have hw : ∀ x ∈ l, x.words.length ≤ 9223372036854775807 := fun x hx => by have := hw6 x hx; omega
    simp only [go_sem, Bool.not_eq_true', Bool.not_eq_false']
    (refine acall2 [] (check16_ok l of hl ho hw) (by simp only [go_sem, Bool.not_eq_true', Bool.not_eq_false']; rfl) (fit_of (by simp only [go_sem, Bool.not_eq_true', Bool.not_eq_false']) (by simp only [go_sem, Bool.not_eq_true', Bool.not_eq_false']) (by simp only [go_sem, Bool.not_eq_true', Bool.not_eq_false']) (by simp only [go_sem, Bool.not_eq_true', Bool.not_eq_false']) (by simp only [go_sem, Bool.not_eq_true', Bool.not_eq_false']) (by simp only [go_sem, Bool.not_eq_true', Bool.not_eq_false']) (by simp only [go_sem, Bool.not_eq_true', Bool.not_eq_false'])) ?_; simp only [go_sem, Bool.not_eq_true', Bool.not_eq_false'])
    rcases hc : chkB l of with _ | _
    · have e3 : errB false = 4 := rfl
      rw [e3]
      refine ⟨fun _ => ?_, fun q => by omega⟩
      (refine acall2 [] (awake18_ok) (by simp only [go_sem, Bool.not_eq_true', Bool.not_eq_false']; rfl) (fit_of (by simp only [go_sem, Bool.not_eq_true', Bool.not_eq_false']) (by simp only [go_sem, Bool.not_eq_true', Bool.not_eq_false']) (by simp only [go_sem, Bool.not_eq_true', Bool.not_eq_false']) (by simp only [go_sem, Bool.not_eq_true', Bool.not_eq_false']) (by simp only [go_sem, Bool.not_eq_true', Bool.not_eq_false']) (by simp only [go_sem, Bool.not_eq_true', Bool.not_eq_false']) (by simp only [go_sem, Bool.not_eq_true', Bool.not_eq_false'])) ?_; simp only [go_sem, Bool.not_eq_true', Bool.not_eq_false'])
    have e3 : errB true = 0 := rfl
    rw [e3]
    refine ⟨fun q => absurd rfl q, fun _ => ?_⟩
    (refine cut_end [] (()) (by simp only [go_sem, Bool.not_eq_true', Bool.not_eq_false']; rfl) ?_ ?_; (focus (simp only [go_sem, Bool.not_eq_true', Bool.not_eq_false']; done)))
    rfl
  rintro - ⟨hvs, hc⟩
  obtain ⟨hl6, ho6, hw6⟩ := vst2_no hvs
  have hl : l.length ≤ 1000 := by omega
  have ho : of.length ≤ 1000 := by omega
  have hw : ∀ x ∈ l, x.words.length ≤ 9223372036854775807 := fun x hx => by have := hw6 x hx; omega
  have hcl : ∀ k, k ≤ l.length → ((l.take k).map calN ++ l.drop k).length = l.length := fun k hk => by
    rw [List.length_append, List.length_map, List.length_take, List.length_drop]
    omega
  (refine swp_seqW ?_; simp only [go_sem, Bool.not_eq_true', Bool.not_eq_false', List.length_map, List.length_nil, List.nil_append])
  refine ⟨by omega, ?_⟩
  refine swp_cutS (fun _ : Unit => stM8 l of b [(7, .sl 20 ((l.map calN).map cNo))]) (fun _ => True) 140 ?_ ?_
  · (refine swp_seqW ?_; simp only [go_sem, Bool.not_eq_true', Bool.not_eq_false'])
    refine swp_block ?_
    refine swp_loop2 [] (fun k : Nat => ⟨[(0, .sl 20 (l.map cNo)), (1, .sl 1 (of.map cInt)), (2, .raw (.int .i64 b)), (7, .hdr 800), (8, .raw (.int .i64 k))], [(800, some (.row 45 20 (((l.take k).map calN ++ l.drop k).map cNo)))], none⟩) (fun k => k ≤ l.length) (fun k => l.length - k) 120 0 (by simp only [go_sem, Bool.not_eq_true', Bool.not_eq_false']; rfl) (by simp only [go_sem, Bool.not_eq_true', Bool.not_eq_false', List.take_zero, List.map_nil, List.nil_append, List.drop_zero]) ?_ ?_
    · exact Nat.zero_le _
    intro k hk
    have hck := hcl k hk
    (refine swp_seqW ?_; simp only [go_sem, Bool.not_eq_true', Bool.not_eq_false', List.length_map, hck])
    refine ⟨fun h5 => ?_, fun h5 => ?_⟩
    rotate_left
    · obtain rfl : k = l.length := by omega
      rw [List.take_length, List.drop_length, List.append_nil]
      (refine cut_end [800 ] ( ()) (by simp only [go_sem, Bool.not_eq_true', Bool.not_eq_false']; rfl) ?_ ?_; (focus (simp only [go_sem, Bool.not_eq_true', Bool.not_eq_false']; done)))
      trivial
    have hkl : k < l.length := by omega
    have eR : ∃ R : List (List PV), R = ((l.take k).map calN ++ l.drop k).map cNo := ⟨_, rfl⟩
    obtain ⟨R, eR⟩ := eR
    have hRl : R.length = l.length := by rw [eR, List.length_map, hck]
    have hRk : R[k]? = some (cNo l[k]) := by
      rw [eR, List.getElem?_map, List.getElem?_append_right (by simp; omega), List.length_map, List.length_take, Nat.min_eq_left hk, Nat.sub_self, List.getElem?_drop, Nat.add_zero, List.getElem?_eq_getElem hkl]
      rfl
    have hRs : ∀ x, calN l[k] = x → ((l.take (k + 1)).map calN ++ l.drop (k + 1)).map cNo = R.set k (cNo x) := fun x hx => by
      rw [eR, ← hx, List.map_append, List.map_append, List.set_append_right _ _ (by simp; omega), List.take_succ_eq_append_getElem hkl, List.map_append, List.map_append, List.append_assoc]
      congr 1
      rw [List.length_map, List.length_map, List.length_take, Nat.min_eq_left hk, Nat.sub_self, List.drop_eq_getElem_cons hkl]
      rfl
    rw [← eR]
    clear eR hck
    generalize hx : l[k] = x at hRk hRs
    refine swp_seqS ?_
    refine swp_block ?_
    (refine swp_seqW ?_; simp only [go_sem, Bool.not_eq_true', Bool.not_eq_false', List.length_map])
    refine ⟨by omega, cNo x, hRk, ?_⟩
    simp only [go_sem, Bool.not_eq_true', Bool.not_eq_false']
    (refine swp_condW ?_; simp only [go_sem, Bool.not_eq_true', Bool.not_eq_false'])
    refine ⟨fun q => ?_, fun q => ?_⟩
    rotate_left
    · have e := hRs x (by unfold calN; rw [if_neg q])
      rw [set_same hRk] at e
      (refine swp_lastW ?_; simp only [go_sem, Bool.not_eq_true', Bool.not_eq_false'])
      (refine swp_lastW ?_; simp only [go_sem, Bool.not_eq_true', Bool.not_eq_false'])
      refine ⟨by omega, ?_⟩
      (refine loop_end [] (k + 1) (by simp only [go_sem, Bool.not_eq_true', Bool.not_eq_false']; rfl) ?_ ?_ ?_; (focus first | omega | (simp only; omega)); (focus (simp only [go_sem, Bool.not_eq_true', Bool.not_eq_false', e]; done)))
      exact hkl
    (refine swp_seqW ?_; simp only [go_sem, Bool.not_eq_true', Bool.not_eq_false'])
    refine ⟨by omega, ?_⟩
    (refine swp_seqW ?_; simp only [go_sem, Bool.not_eq_true', Bool.not_eq_false'])
    refine ⟨_, hRk, ?_⟩
    simp only [go_sem, Bool.not_eq_true', Bool.not_eq_false']
    refine ⟨_, set_get hRk _, ?_⟩
    simp only [go_sem, Bool.not_eq_true', Bool.not_eq_false', List.set_set]
    refine ⟨_, set_get hRk _, ?_⟩
    simp only [go_sem, Bool.not_eq_true', Bool.not_eq_false', List.set_set]
    (refine swp_lastW ?_; simp only [go_sem, Bool.not_eq_true', Bool.not_eq_false'])
    refine ⟨_, set_get hRk _, ?_⟩
    simp only [go_sem, Bool.not_eq_true', Bool.not_eq_false']
    refine ⟨fun q1 => ?_, fun q1 => ?_⟩
    · refine ⟨_, set_get hRk _, ?_⟩
      simp only [go_sem, Bool.not_eq_true', Bool.not_eq_false', List.set_set]
      refine ⟨_, set_get hRk _, ?_⟩
      simp only [go_sem, Bool.not_eq_true', Bool.not_eq_false']
      refine ⟨fun q2 => ?_, fun q2 => ?_⟩
      · refine ⟨_, set_get hRk _, ?_⟩
        simp only [go_sem, Bool.not_eq_true', Bool.not_eq_false', List.set_set]
        have e := hRs ⟨x.kind, x.size, ⟨x.st.top, x.st.bottom, x.st.padTop, x.st.padBottom, x.st.inset, 1, 1, x.st.head, 0, 0, 0, x.st.clear⟩, x.line, x.space, x.words, x.side, x.w, x.h⟩ (by unfold calN calS; rw [if_pos q]; simp [q1, q2])
        (refine swp_lastW ?_; simp only [go_sem, Bool.not_eq_true', Bool.not_eq_false'])
        refine ⟨by omega, ?_⟩
        (refine loop_end [] (k + 1) (by simp only [go_sem, Bool.not_eq_true', Bool.not_eq_false']; rfl) ?_ ?_ ?_; (focus first | omega | (simp only; omega)); (focus (simp only [go_sem, Bool.not_eq_true', Bool.not_eq_false', e]; done)))
        exact hkl
      · have e := hRs ⟨x.kind, x.size, ⟨x.st.top, x.st.bottom, x.st.padTop, x.st.padBottom, x.st.inset, 1, 1, x.st.head, 0, x.st.after, 0, x.st.clear⟩, x.line, x.space, x.words, x.side, x.w, x.h⟩ (by unfold calN calS; rw [if_pos q]; simp [q1, q2])
        (refine swp_lastW ?_; simp only [go_sem, Bool.not_eq_true', Bool.not_eq_false'])
        refine ⟨by omega, ?_⟩
        (refine loop_end [] (k + 1) (by simp only [go_sem, Bool.not_eq_true', Bool.not_eq_false']; rfl) ?_ ?_ ?_; (focus first | omega | (simp only; omega)); (focus (simp only [go_sem, Bool.not_eq_true', Bool.not_eq_false', e]; done)))
        exact hkl
    · refine ⟨_, set_get hRk _, ?_⟩
      simp only [go_sem, Bool.not_eq_true', Bool.not_eq_false']
      refine ⟨fun q2 => ?_, fun q2 => ?_⟩
      · refine ⟨_, set_get hRk _, ?_⟩
        simp only [go_sem, Bool.not_eq_true', Bool.not_eq_false', List.set_set]
        have e := hRs ⟨x.kind, x.size, ⟨x.st.top, x.st.bottom, x.st.padTop, x.st.padBottom, x.st.inset, 1, 1, x.st.head, x.st.before, 0, 0, x.st.clear⟩, x.line, x.space, x.words, x.side, x.w, x.h⟩ (by unfold calN calS; rw [if_pos q]; simp [q1, q2])
        (refine swp_lastW ?_; simp only [go_sem, Bool.not_eq_true', Bool.not_eq_false'])
        refine ⟨by omega, ?_⟩
        (refine loop_end [] (k + 1) (by simp only [go_sem, Bool.not_eq_true', Bool.not_eq_false']; rfl) ?_ ?_ ?_; (focus first | omega | (simp only; omega)); (focus (simp only [go_sem, Bool.not_eq_true', Bool.not_eq_false', e]; done)))
        exact hkl
      · have e := hRs ⟨x.kind, x.size, ⟨x.st.top, x.st.bottom, x.st.padTop, x.st.padBottom, x.st.inset, 1, 1, x.st.head, x.st.before, x.st.after, 0, x.st.clear⟩, x.line, x.space, x.words, x.side, x.w, x.h⟩ (by unfold calN calS; rw [if_pos q]; simp [q1, q2])
        (refine swp_lastW ?_; simp only [go_sem, Bool.not_eq_true', Bool.not_eq_false'])
        refine ⟨by omega, ?_⟩
        (refine loop_end [] (k + 1) (by simp only [go_sem, Bool.not_eq_true', Bool.not_eq_false']; rfl) ?_ ?_ ?_; (focus first | omega | (simp only; omega)); (focus (simp only [go_sem, Bool.not_eq_true', Bool.not_eq_false', e]; done)))
        exact hkl
  rintro - -
  have hv := (chk_has hc).1
  have hs : Skel l (l.map calN) := skel_cal fun x hx => isG_nod l _ _ hv x hx
  have hc2 := hs.chk hc
  have hcw : ∀ x ∈ l.map calN, x.words.length ≤ 9223372036854775807 := fun x hx => by
    obtain ⟨y, hy, rfl⟩ := List.mem_map.1 hx
    have := hw y hy
    unfold calN
    split
    · exact this
    · exact this
  have hcal := fun (k : Nat) (hk : k ≤ of.length) => cal_law hc (l := l) (of := of) (k := k) (by omega)
  have e3 : errB true = 0 := rfl
  refine swp_cutS (fun _ : Unit => stM8 l of b [(7, .sl 20 ((l.map calN).map cNo)), (10, .sl 1 ((allR l of).map cInt)), (11, .raw (.int .i64 0))]) (fun _ => True) 20 ?_ ?_
  · (refine swp_lastW ?_; simp only [go_sem, Bool.not_eq_true', Bool.not_eq_false'])
    (refine acall2 [] (allR_ok l of hl ho hw) (by simp only [go_sem, Bool.not_eq_true', Bool.not_eq_false']; rfl) (fit_of (by simp only [go_sem, Bool.not_eq_true', Bool.not_eq_false']) (by simp only [go_sem, Bool.not_eq_true', Bool.not_eq_false']) (by simp only [go_sem, Bool.not_eq_true', Bool.not_eq_false']) (by simp only [go_sem, Bool.not_eq_true', Bool.not_eq_false']) (by simp only [go_sem, Bool.not_eq_true', Bool.not_eq_false']) (by simp only [go_sem, Bool.not_eq_true', Bool.not_eq_false']) (by simp only [go_sem, Bool.not_eq_true', Bool.not_eq_false'])) ?_; simp only [go_sem, Bool.not_eq_true', Bool.not_eq_false'])
    rw [hc, e3]
    (refine cut_end [1136 ] ( ()) (by simp only [go_sem, Bool.not_eq_true', Bool.not_eq_false']; rfl) ?_ ?_; (focus (simp only [go_sem, Bool.not_eq_true', Bool.not_eq_false']; done)))
    trivial
  rintro - -
  refine swp_cutS (fun _ : Unit => stM8 l of b [(10, .sl 1 ((allR l of).map cInt)), (11, .raw (.int .i64 0)), (12, .sl 1 ((allR (l.map calN) of).map cInt)), (13, .raw (.int .i64 0))]) (fun _ => True) 20 ?_ ?_
  · (refine swp_lastW ?_; simp only [go_sem, Bool.not_eq_true', Bool.not_eq_false'])
    (refine acall2 [] (allR_ok (l.map calN) of (by rw [List.length_map]; exact hl) ho hcw) (by simp only [go_sem, Bool.not_eq_true', Bool.not_eq_false']; rfl) (fit_of (by simp only [go_sem, Bool.not_eq_true', Bool.not_eq_false']) (by simp only [go_sem, Bool.not_eq_true', Bool.not_eq_false']) (by simp only [go_sem, Bool.not_eq_true', Bool.not_eq_false']) (by simp only [go_sem, Bool.not_eq_true', Bool.not_eq_false']) (by simp only [go_sem, Bool.not_eq_true', Bool.not_eq_false']) (by simp only [go_sem, Bool.not_eq_true', Bool.not_eq_false']) (by simp only [go_sem, Bool.not_eq_true', Bool.not_eq_false'])) ?_; simp only [go_sem, Bool.not_eq_true', Bool.not_eq_false'])
    rw [hc2, e3]
    (refine cut_end [176 ] ( ()) (by simp only [go_sem, Bool.not_eq_true', Bool.not_eq_false']; rfl) ?_ ?_; (focus (simp only [go_sem, Bool.not_eq_true', Bool.not_eq_false']; done)))
    trivial
  rintro - -
  have hal := allR_ln hc
  have hnl := allR_ln hc2
  have hat := fun k (h : k < (allR l of).length) => allR_at hc h
  have hnt := fun k (h : k < (allR (l.map calN) of).length) => allR_at hc2 h
  generalize allR l of = A at hal hat ⊢
  generalize allR (l.map calN) of = N at hnl hnt ⊢
  (refine swp_seqW ?_; simp only [go_sem, Bool.not_eq_true', Bool.not_eq_false', List.length_map])
  refine ⟨by omega, fun _ => ⟨fun q => by omega, fun _ => ?_⟩, fun q => by omega⟩
  have hdn : docN l = l := by unfold docN; rw [if_pos hv]
  refine swp_cutS (fun _ : Unit => stM8 l of b [(10, .sl 1 (A.map cInt))]) (fun _ => True) 120 ?_ ?_
  · (refine swp_seqW ?_; simp only [go_sem, Bool.not_eq_true', Bool.not_eq_false'])
    refine swp_block ?_
    refine swp_loop2 [] (fun k : Nat => stM8 l of b [(10, .sl 1 (A.map cInt)), (12, .sl 1 (N.map cInt)), (14, .raw (.int .i64 k))]) (fun k => k ≤ N.length) (fun k => N.length - k) 120 0 (by simp only [go_sem, Bool.not_eq_true', Bool.not_eq_false']; rfl) (by simp only [go_sem, Bool.not_eq_true', Bool.not_eq_false']) ?_ ?_
    · exact Nat.zero_le _
    intro k hk
    (refine swp_seqW ?_; simp only [go_sem, Bool.not_eq_true', Bool.not_eq_false', List.length_map])
    refine ⟨fun h5 => ?_, fun h5 => ?_⟩
    rotate_left
    · (refine cut_end [] (()) (by simp only [go_sem, Bool.not_eq_true', Bool.not_eq_false']; rfl) ?_ ?_; (focus (simp only [go_sem, Bool.not_eq_true', Bool.not_eq_false']; done)))
      trivial
    have hkN : k < N.length := by omega
    have hkA : k < A.length := by omega
    obtain ⟨HC1, HC2⟩ := hcal k (by omega)
    rw [← hat k hkA, ← hnt k hkN] at HC1
    rw [← hnt k hkN] at HC2
    have hk0 : N[k] ≠ 0 → (0 < (k : Int) ∧ (k : Int) < of.length) ∧ ∀ (h1 : k < of.length) (h2 : ((k : Int) - 1).toNat < of.length), of[k] = of[((k : Int) - 1).toNat] ∧ parN l of[k] < 0 := fun q => by
      obtain ⟨q1, q2, q3, q4⟩ := HC2 q
      refine ⟨⟨q1, q2⟩, fun h1 h2 => ?_⟩
      have e1 : of.getD (k : Int).toNat 0 = of[k] := by rw [Int.toNat_natCast]; simp [List.getD_eq_getElem?_getD, h1]
      have e2 : of.getD ((k : Int) - 1).toNat 0 = of[((k : Int) - 1).toNat] := by rw [List.getD_eq_getElem?_getD, List.getElem?_eq_getElem h2]; rfl
      rw [e1, e2] at q3
      rw [e1] at q4
      exact ⟨q3, q4⟩
    clear HC2 hat hnt hcal
    refine swp_seqS ?_
    refine swp_block ?_
    refine swp_cutS (fun fr : Bool => stM8 l of b [(10, .sl 1 (A.map cInt)), (12, .sl 1 (N.map cInt)), (14, .raw (.int .i64 k)), (15, .raw (.bool fr))]) (fun fr => N[k] ≠ 0 → fr = true) 160 ?_ ?_
    · have hpar := fun h : k < of.length => parent8_ok l of[k] hl hw
      rw [hdn] at hpar
      (refine swp_lastW ?_; simp only [go_sem, Bool.not_eq_true', Bool.not_eq_false', List.length_map])
      repeat' first | contradiction | intro _ | refine And.intro ?_ ?_ | refine ex_get (by omega) ?_ | (show drawB _ _ = true; kernel_rfl) | (refine ret2 [] (by simp only [go_sem, Bool.not_eq_true', Bool.not_eq_false', List.length_map]; rfl) ?_; simp only [go_sem, Bool.not_eq_true', Bool.not_eq_false', List.length_map]) | (refine acall2 [] (hpar (by omega)) (by simp only [go_sem, Bool.not_eq_true', Bool.not_eq_false']; rfl) (fit_of (by simp only [go_sem, Bool.not_eq_true', Bool.not_eq_false']) (by simp only [go_sem, Bool.not_eq_true', Bool.not_eq_false']) (by simp only [go_sem, Bool.not_eq_true', Bool.not_eq_false']) (by simp only [go_sem, Bool.not_eq_true', Bool.not_eq_false']) (by simp only [go_sem, Bool.not_eq_true', Bool.not_eq_false']) (by simp only [go_sem, Bool.not_eq_true', Bool.not_eq_false']) (by simp only [go_sem, Bool.not_eq_true', Bool.not_eq_false'])) ?_; simp only [go_sem, Bool.not_eq_true', Bool.not_eq_false', List.length_map])
      all_goals first
        | omega
        | ((refine cut_end [] (decide (parN l of[k] < 0)) (by simp only [go_sem, Bool.not_eq_true', Bool.not_eq_false']; rfl) ?_ ?_; (focus (simp only [go_sem, Bool.not_eq_true', Bool.not_eq_false']; done)))
           intro q
           exact decide_eq_true ((hk0 q).2 (by omega) (by omega)).2)
        | ((refine cut_end [] (false) (by simp only [go_sem, Bool.not_eq_true', Bool.not_eq_false']; rfl) ?_ ?_; (focus (simp only [go_sem, Bool.not_eq_true', Bool.not_eq_false']; done)))
           intro q
           exfalso
           have w := hk0 q
           have w2 := w.2 (by omega) (by omega)
           omega)
        | ((refine cut_end [] (false) (by simp only [go_sem, Bool.not_eq_true', Bool.not_eq_false']; rfl) ?_ ?_; (focus (simp only [go_sem, Bool.not_eq_true', Bool.not_eq_false']; done)))
           intro q
           exfalso
           have w := (hk0 q).1
           omega)
        | skip
    rintro fr hfr
    clear hk0
    (refine swp_lastW ?_; simp only [go_sem, Bool.not_eq_true', Bool.not_eq_false', List.length_map])
    repeat' first | contradiction | intro _ | refine And.intro ?_ ?_ | refine ex_get (by omega) ?_ | (show drawB _ _ = true; kernel_rfl) | (refine ret2 [] (by simp only [go_sem, Bool.not_eq_true', Bool.not_eq_false', List.length_map]; rfl) ?_; simp only [go_sem, Bool.not_eq_true', Bool.not_eq_false', List.length_map])
    all_goals first
      | omega
      | ((refine swp_lastW ?_; simp only [go_sem, Bool.not_eq_true', Bool.not_eq_false'])
         refine ⟨by omega, ?_⟩
         (refine loop_end [] (k + 1) (by simp only [go_sem, Bool.not_eq_true', Bool.not_eq_false']; rfl) ?_ ?_ ?_; (focus first | omega | (simp only; omega)); (focus (simp only [go_sem, Bool.not_eq_true', Bool.not_eq_false']; done)))
         exact hkN)
      | (exfalso; simp_all; done)
      | skip
  rintro - -
  clear hnt hnl hcal
  refine swp_cutS (fun _ : Unit => stM8 l of b [(10, .sl 1 (A.map cInt))]) (fun _ => (0 ≤ b ∧ b < l.length) ∧ ∀ h : b.toNat < l.length, l[b.toNat].kind = 1) 140 ?_ ?_
  · (refine swp_lastW ?_; simp only [go_sem, Bool.not_eq_true', Bool.not_eq_false', List.length_map])
    repeat' first | contradiction | intro _ | refine And.intro ?_ ?_ | refine ex_get (by omega) ?_ | (show drawB _ _ = true; kernel_rfl) | (refine ret2 [] (by simp only [go_sem, Bool.not_eq_true', Bool.not_eq_false', List.length_map]; rfl) ?_; simp only [go_sem, Bool.not_eq_true', Bool.not_eq_false', List.length_map]) | (refine acall2 [] (awake18_ok) (by simp only [go_sem, Bool.not_eq_true', Bool.not_eq_false']; rfl) (fit_of (by simp only [go_sem, Bool.not_eq_true', Bool.not_eq_false']) (by simp only [go_sem, Bool.not_eq_true', Bool.not_eq_false']) (by simp only [go_sem, Bool.not_eq_true', Bool.not_eq_false']) (by simp only [go_sem, Bool.not_eq_true', Bool.not_eq_false']) (by simp only [go_sem, Bool.not_eq_true', Bool.not_eq_false']) (by simp only [go_sem, Bool.not_eq_true', Bool.not_eq_false']) (by simp only [go_sem, Bool.not_eq_true', Bool.not_eq_false'])) ?_; simp only [go_sem, Bool.not_eq_true', Bool.not_eq_false', List.length_map])
    all_goals first
      | omega
      | ((refine cut_end [] (()) (by simp only [go_sem, Bool.not_eq_true', Bool.not_eq_false']; rfl) ?_ ?_; (focus (simp only [go_sem, Bool.not_eq_true', Bool.not_eq_false']; done)))
         exact ⟨by omega, fun _ => by assumption⟩)
      | ((refine cut_end [] (()) (by simp only [go_sem, Bool.not_eq_true', Bool.not_eq_false']; rfl) ?_ ?_; (focus (simp only [go_sem, Bool.not_eq_true', Bool.not_eq_false']; done)))
         exact ⟨by omega, fun _ => Decidable.not_not.1 (by assumption)⟩)
      | skip
  rintro - ⟨hb, hkd⟩
  obtain ⟨j, rfl⟩ : ∃ j : Nat, b = j := ⟨b.toNat, by omega⟩
  have hj : j < l.length := by omega
  have hkd : l[j].kind = 1 := hkd hj
  have hmor := fun (k : Nat) (hk : k ≤ of.length) => mor_law hc (l := l) (of := of) (k := k) hj hkd (by omega)
  have hs2 : Skel l (morL l j) := by
    rw [morL_at hj]
    exact skel_set hj (fun x hx => isG_nod l _ _ hv x hx) rfl rfl rfl (minN1_nod (isG_nod l _ _ hv l[j] (List.getElem_mem hj)) hkd)
  have hc3 := hs2.chk hc
  have hml : (morL l j).length ≤ 1000 := by rw [hs2.len]; exact hl
  have hmw : ∀ x ∈ morL l j, x.words.length ≤ 9223372036854775807 := fun x hx => by
    rw [morL_at hj] at hx
    rcases List.mem_or_eq_of_mem_set hx with h | h
    · exact hw x h
    · rw [h]
      exact hw l[j] (List.getElem_mem hj)
  (refine swp_seqW ?_; simp only [go_sem, Bool.not_eq_true', Bool.not_eq_false', List.length_map, List.length_nil, List.nil_append])
  refine ⟨by omega, ?_⟩
  refine swp_cutS (fun _ : Unit => stM8 l of j [(10, .sl 1 (A.map cInt)), (16, .sl 20 ((morL l j).map cNo))]) (fun _ => True) 180 ?_ ?_
  · have hRk : (l.map cNo)[j]? = some (cNo l[j]) := by rw [List.getElem?_map, List.getElem?_eq_getElem hj]; rfl
    have e : (morL l j).map cNo = (l.map cNo).set j (cNo (minN1 l[j])) := by rw [morL_at hj, List.map_set]
    rw [e]
    (refine swp_lastW ?_; simp only [go_sem, Bool.not_eq_true', Bool.not_eq_false', List.length_map])
    refine ⟨by omega, ex_get hj ?_⟩
    (refine cut_end [1136 ] ( ()) (by simp only [go_sem, Bool.not_eq_true', Bool.not_eq_false']; rfl) ?_ ?_; (focus (simp only [go_sem, Bool.not_eq_true', Bool.not_eq_false', minN1]; done)))
    trivial
  rintro - -
  have hml2 := allR_ln hc3
  have hmt := fun k (h : k < (allR (morL l j) of).length) => allR_at hc3 h
  refine swp_cutS (fun _ : Unit => stM8 l of j [(10, .sl 1 (A.map cInt)), (17, .sl 1 ((allR (morL l j) of).map cInt)), (18, .raw (.int .i64 0))]) (fun _ => True) 20 ?_ ?_
  · (refine swp_lastW ?_; simp only [go_sem, Bool.not_eq_true', Bool.not_eq_false'])
    (refine acall2 [] (allR_ok (morL l j) of hml ho hmw) (by simp only [go_sem, Bool.not_eq_true', Bool.not_eq_false']; rfl) (fit_of (by simp only [go_sem, Bool.not_eq_true', Bool.not_eq_false']) (by simp only [go_sem, Bool.not_eq_true', Bool.not_eq_false']) (by simp only [go_sem, Bool.not_eq_true', Bool.not_eq_false']) (by simp only [go_sem, Bool.not_eq_true', Bool.not_eq_false']) (by simp only [go_sem, Bool.not_eq_true', Bool.not_eq_false']) (by simp only [go_sem, Bool.not_eq_true', Bool.not_eq_false']) (by simp only [go_sem, Bool.not_eq_true', Bool.not_eq_false'])) ?_; simp only [go_sem, Bool.not_eq_true', Bool.not_eq_false'])
    rw [hc3, e3]
    (refine cut_end [1456 ] ( ()) (by simp only [go_sem, Bool.not_eq_true', Bool.not_eq_false']; rfl) ?_ ?_; (focus (simp only [go_sem, Bool.not_eq_true', Bool.not_eq_false']; done)))
    trivial
  rintro - -
  generalize allR (morL l j) of = M at hml2 hmt ⊢
  (refine swp_seqW ?_; simp only [go_sem, Bool.not_eq_true', Bool.not_eq_false'])
  (refine acall2 [] (held16_ok l of j hl ho hw) (by simp only [go_sem, Bool.not_eq_true', Bool.not_eq_false']; rfl) (fit_of (by simp only [go_sem, Bool.not_eq_true', Bool.not_eq_false']) (by simp only [go_sem, Bool.not_eq_true', Bool.not_eq_false']) (by simp only [go_sem, Bool.not_eq_true', Bool.not_eq_false']) (by simp only [go_sem, Bool.not_eq_true', Bool.not_eq_false']) (by simp only [go_sem, Bool.not_eq_true', Bool.not_eq_false']) (by simp only [go_sem, Bool.not_eq_true', Bool.not_eq_false']) (by simp only [go_sem, Bool.not_eq_true', Bool.not_eq_false'])) ?_; simp only [go_sem, Bool.not_eq_true', Bool.not_eq_false'])
  generalize heldA l of j = p at hmor ⊢
  (refine swp_seqW ?_; simp only [go_sem, Bool.not_eq_true', Bool.not_eq_false', List.length_map])
  refine ⟨fun q => by omega, fun _ => ?_⟩
  refine swp_cutS (fun _ : Unit => stM8 l of j []) (fun _ => True) 120 ?_ ?_
  · (refine swp_seqW ?_; simp only [go_sem, Bool.not_eq_true', Bool.not_eq_false'])
    refine swp_block ?_
    refine swp_loop2 [] (fun k : Nat => stM8 l of j [(10, .sl 1 (A.map cInt)), (17, .sl 1 (M.map cInt)), (19, .raw (.int .i64 p.1)), (20, .raw (.int .i64 p.2)), (21, .raw (.int .i64 k))]) (fun k => k ≤ M.length) (fun k => M.length - k) 120 0 (by simp only [go_sem, Bool.not_eq_true', Bool.not_eq_false']; rfl) (by simp only [go_sem, Bool.not_eq_true', Bool.not_eq_false']) ?_ ?_
    · exact Nat.zero_le _
    intro k hk
    (refine swp_seqW ?_; simp only [go_sem, Bool.not_eq_true', Bool.not_eq_false', List.length_map])
    refine ⟨fun h5 => ?_, fun h5 => ?_⟩
    rotate_left
    · (refine cut_end [] (()) (by simp only [go_sem, Bool.not_eq_true', Bool.not_eq_false']; rfl) ?_ ?_; (focus (simp only [go_sem, Bool.not_eq_true', Bool.not_eq_false']; done)))
      trivial
    have hkM : k < M.length := by omega
    have hkA : k < A.length := by omega
    obtain ⟨HC1, HC2⟩ := hmor k (by omega)
    rw [← hat k hkA, ← hmt k hkM] at HC1
    rw [← hmt k hkM] at HC2
    clear hmor hat hmt
    refine swp_seqS ?_
    refine swp_block ?_
    (refine swp_lastW ?_; simp only [go_sem, Bool.not_eq_true', Bool.not_eq_false', List.length_map])
    repeat' first | contradiction | intro _ | refine And.intro ?_ ?_ | refine ex_get (by omega) ?_ | (show drawB _ _ = true; kernel_rfl) | (refine ret2 [] (by simp only [go_sem, Bool.not_eq_true', Bool.not_eq_false', List.length_map]; rfl) ?_; simp only [go_sem, Bool.not_eq_true', Bool.not_eq_false', List.length_map])
    all_goals first
      | omega
      | ((refine swp_lastW ?_; simp only [go_sem, Bool.not_eq_true', Bool.not_eq_false'])
         refine ⟨by omega, ?_⟩
         (refine loop_end [] (k + 1) (by simp only [go_sem, Bool.not_eq_true', Bool.not_eq_false']; rfl) ?_ ?_ ?_; (focus first | omega | (simp only; omega)); (focus (simp only [go_sem, Bool.not_eq_true', Bool.not_eq_false']; done)))
         exact hkM)
      | (exact absurd (by assumption) (HC2 (by assumption) (by assumption)))
      | skip
  rintro - -
  (refine swp_lastW ?_; simp only [go_sem, Bool.not_eq_true', Bool.not_eq_false'])
  (refine acall2 [] (awake18_ok) (by simp only [go_sem, Bool.not_eq_true', Bool.not_eq_false']; rfl) (fit_of (by simp only [go_sem, Bool.not_eq_true', Bool.not_eq_false']) (by simp only [go_sem, Bool.not_eq_true', Bool.not_eq_false']) (by simp only [go_sem, Bool.not_eq_true', Bool.not_eq_false']) (by simp only [go_sem, Bool.not_eq_true', Bool.not_eq_false']) (by simp only [go_sem, Bool.not_eq_true', Bool.not_eq_false']) (by simp only [go_sem, Bool.not_eq_true', Bool.not_eq_false']) (by simp only [go_sem, Bool.not_eq_true', Bool.not_eq_false'])) ?_; simp only [go_sem, Bool.not_eq_true', Bool.not_eq_false'])
end Go.Proofs.Ytbgcmnccjfdooaa
