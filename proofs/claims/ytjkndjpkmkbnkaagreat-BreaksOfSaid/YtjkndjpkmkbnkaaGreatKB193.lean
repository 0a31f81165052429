/- CONTRACTS of the functions, and plain laws, joined out of: GRanG GRanH GBreF GBreG. -/
import Derived.Test.YtjkndjpkmkbnkaaGreatKB192
/- CHAPTER 18: the document's rank. -/
/- G -/
/- BOOLS -/
set_option linter.unusedSimpArgs false
set_option linter.unusedVariables false
namespace Go.Proofs.YtjkndjpkmkbnkaaGreat
open Go.RowKit

theorem ins_ran {l : List LNo} (hv : isS l = true) {b : Int} (hb : hasN l b = true) : (styN l b).inside = 0 ∨ (styN l b).inside = 1 := by
  have hh := hasN_iff.1 hb
  obtain ⟨n, rfl⟩ : ∃ n : Nat, b = n := ⟨b.toNat, by omega⟩
  have hn : n < l.length := by omega
  rw [styN_get hn]
  have h := isG_nod l _ _ hv l[n] (List.getElem_mem hn)
  unfold nodB at h
  split at h
  · simp only [Bool.and_eq_true] at h
    have h5 := h.2
    simp only [styB, hasL, offN, List.any_cons, List.any_nil, Bool.or_false, Bool.and_eq_true, Bool.not_eq_true', Bool.or_eq_false_iff, decide_eq_false_iff_not] at h5
    omega
  · left
    have hbare : bareB l[n] = true := by
      split at h
      · simp only [Bool.and_eq_true] at h; exact h.1.1.1.1.1.1.1
      · split at h
        · simp only [Bool.and_eq_true] at h; exact h.1.1.1
        · split at h
          · simp only [Bool.and_eq_true] at h; exact h.1.1.1
          · cases h
    simp only [bareB, Bool.and_eq_true, decide_eq_true_eq] at hbare
    omega
theorem kin_txt {l : List LNo} {of : List Int} {k : Int} (hc : chkB l of = true) (hk : 0 ≤ k ∧ k ≤ of.length) : -1 ≤ (kinA l of k).text ∧ (kinA l of k).text < (l.length : Int) + 1 := by
  have hf := (chk_has hc).2
  have e : kinA l of k = kinS l of k := by unfold kinA; rw [if_pos (kinG_chk hc hk)]
  rw [e]
  show -1 ≤ txtK of k ∧ txtK of k < (l.length : Int) + 1
  unfold txtK
  split
  · next q =>
    have hj : k.toNat < of.length := by omega
    have e2 : of.getD k.toNat 0 = of[k.toNat] := by simp [List.getD_eq_getElem?_getD, hj]
    rw [e2]
    have := hasN_iff.1 (hf _ (List.getElem_mem hj))
    omega
  · omega
def b01 (b : Bool) (n : Int) : Int := if b = true then n else 0
theorem rnk_sum (f w b : Bool) : rnkP f w b 3 = b01 f 1 + 2 * b01 w 1 + 4 * b01 b 1 := by cases f <;> cases w <;> cases b <;> rfl
def stQ (l : List LNo) (of : List Int) (k : Int) (x : LKin) (t : List (Nat × AV)) : AS := ⟨t ++ [(0, .sl 20 (l.map cNo)), (1, .sl 1 (of.map cInt)), (2, .raw (.int .i64 k)), (7, .hdr 800)], [(800, some (.cells 86 [.sl 1 (x.ends.map cInt), .sl 1 (x.begins.map cInt), .sl 1 (x.both.map cInt), .raw (.int .i64 x.text)]))], none⟩
attribute [go_sem] stQ
set_option maxRecDepth 100000 in
set_option maxHeartbeats 8000000 in
theorem rrnk_ok (l : List LNo) (of : List Int) (k : Int) (hl : l.length ≤ 1000) (ho : of.length ≤ 1000) (hk : 0 ≤ k ∧ k ≤ of.length) (hc : chkB l of = true) : FnOk Tryz.prog 39 [.sl 20 (l.map cNo), .sl 1 (of.map cInt), .raw (.int .i64 k)] [] (.raw (.int .i64 (rnkA l of k))) [] := by
  have hn := kinA_len l of k
  have hbo := both_has l of k
  have hg := kinG_chk hc hk
  have hv := (chk_has hc).1
  have htx := kin_txt hc hk
  have hlin := rlin_ok l of k hl ho hk hc
  refine fn_of_swp Tryz.func39 rfl (by kernel_rfl) (by kernel_rfl) (Nat.le_of_ble_eq_true rfl) Tryz.results39 ?_
  (refine swp_seqW ?_; simp only [go_sem, Bool.not_eq_true', Bool.not_eq_false'])
  (refine swp_seqW ?_; simp only [go_sem, Bool.not_eq_true', Bool.not_eq_false', List.length_map])
  by_cases hq : k ≠ 0 ∧ k ≠ of.length
  rotate_left
  · have e : rnkA l of k = 0 := if_neg (fun q => hq q.2)
    rw [e]
    repeat' first | contradiction | intro _ | refine And.intro ?_ ?_ | refine ex_get (by omega) ?_ | (show drawB _ _ = true; kernel_rfl) | (refine ret2 [] (by simp only [go_sem, Bool.not_eq_true', Bool.not_eq_false']; rfl) ?_; simp only [go_sem, Bool.not_eq_true', Bool.not_eq_false'])
    all_goals first
      | rfl
      | omega
      | exact absurd ⟨by assumption, by assumption⟩ hq
      | skip
  have e : rnkA l of k = rnkK l of k (kinA l of k) := if_pos ⟨hg, hq⟩
  rw [e, rnkK, rnk_sum]
  refine ⟨fun _ => ⟨fun q => absurd q hq.2, fun _ => ?_⟩, fun q => absurd q hq.1⟩
  refine swp_cutS (fun _ : Unit => stQ l of k (kinA l of k) []) (fun _ => True) 120 ?_ ?_
  · (refine swp_lastW ?_; simp only [go_sem, Bool.not_eq_true', Bool.not_eq_false'])
    (refine acall2 [] (rat_ok l of k hl ho hk) (by simp only [go_sem, Bool.not_eq_true', Bool.not_eq_false']; rfl) (fit_of (by simp only [go_sem, Bool.not_eq_true', Bool.not_eq_false']) (by simp only [go_sem, Bool.not_eq_true', Bool.not_eq_false']) (by simp only [go_sem, Bool.not_eq_true', Bool.not_eq_false']) (by simp only [go_sem, Bool.not_eq_true', Bool.not_eq_false']) (by simp only [go_sem, Bool.not_eq_true', Bool.not_eq_false']) (by simp only [go_sem, Bool.not_eq_true', Bool.not_eq_false']) (by simp only [go_sem, Bool.not_eq_true', Bool.not_eq_false'])) ?_; simp only [go_sem, Bool.not_eq_true', Bool.not_eq_false'])
    rw [kin_R hc hk]
    (refine cut_end [104, 105, 106 ] ( ()) (by simp only [go_sem, Bool.not_eq_true', Bool.not_eq_false']; rfl) ?_ ?_; (focus (simp only [go_sem, Bool.not_eq_true', Bool.not_eq_false']; done)))
    trivial
  rintro - -
  generalize kinA l of k = x at *
  (refine swp_seqW ?_; simp only [go_sem, Bool.not_eq_true', Bool.not_eq_false'])
  refine swp_cutS (fun _ : Unit => stQ l of k x [(8, .raw (.int .i64 (b01 (fewB l of k x) 1)))]) (fun _ => True) 160 ?_ ?_
  · have hp := parN_ran l x.text
    (refine swp_lastW ?_; simp only [go_sem, Bool.not_eq_true', Bool.not_eq_false'])
    refine ⟨fun ht => ?_, fun ht => ?_⟩
    rotate_left
    · have ef : fewB l of k x = false := by simp only [fewB, Bool.and_eq_false_iff, decide_eq_false_iff_not]; omega
      have eb : b01 (fewB l of k x) 1 = 0 := by rw [ef]; rfl
      rw [eb]
      (refine cut_end [] (()) (by simp only [go_sem, Bool.not_eq_true', Bool.not_eq_false']; rfl) ?_ ?_; (focus (simp only [go_sem, Bool.not_eq_true', Bool.not_eq_false']; done)))
      trivial
    have ef : fewB l of k x = (decide (linA of k x.text < (stP l x.text).orphans) || decide (linB of k x.text < (stP l x.text).widows)) := by
      have : decide (0 ≤ x.text) = true := decide_eq_true ht
      rw [fewB, this, Bool.true_and]
    have e1 : (linA of k x.text < (stP l x.text).orphans ∨ linB of k x.text < (stP l x.text).widows) → b01 (fewB l of k x) 1 = 1 := fun q => by rw [ef]; rcases q with q | q <;> simp [b01, q]
    have e0 : ¬ linA of k x.text < (stP l x.text).orphans → ¬ linB of k x.text < (stP l x.text).widows → b01 (fewB l of k x) 1 = 0 := fun q q2 => by rw [ef]; simp [b01, q, q2]
    generalize b01 (fewB l of k x) 1 = V at e1 e0 ⊢
    (refine acall2 [] (parent8r_ok l x.text (by omega) hl) (by simp only [go_sem, Bool.not_eq_true', Bool.not_eq_false']; rfl) (fit_of (by simp only [go_sem, Bool.not_eq_true', Bool.not_eq_false']) (by simp only [go_sem, Bool.not_eq_true', Bool.not_eq_false']) (by simp only [go_sem, Bool.not_eq_true', Bool.not_eq_false']) (by simp only [go_sem, Bool.not_eq_true', Bool.not_eq_false']) (by simp only [go_sem, Bool.not_eq_true', Bool.not_eq_false']) (by simp only [go_sem, Bool.not_eq_true', Bool.not_eq_false']) (by simp only [go_sem, Bool.not_eq_true', Bool.not_eq_false'])) ?_; simp only [go_sem, Bool.not_eq_true', Bool.not_eq_false'])
    refine ⟨fun q => ?_, fun q => ?_⟩
    · have e : stP l x.text = styN l (parN l x.text) := if_pos q
      rw [e] at e0 e1
      generalize parN l x.text = b at hp q e0 e1 ⊢
      obtain ⟨n, rfl⟩ : ∃ n : Nat, b = n := ⟨b.toNat, by omega⟩
      have hn : n < l.length := by omega
      rw [styN_get hn] at e0 e1
      refine ⟨by omega, ?_⟩
      simp only [Int.toNat_natCast]
      refine ex_get hn ⟨by omega, ex_get hn ?_⟩
      (refine acall2 [] (hlin) (by simp only [go_sem, Bool.not_eq_true', Bool.not_eq_false']; rfl) (fit_of (by simp only [go_sem, Bool.not_eq_true', Bool.not_eq_false']) (by simp only [go_sem, Bool.not_eq_true', Bool.not_eq_false']) (by simp only [go_sem, Bool.not_eq_true', Bool.not_eq_false']) (by simp only [go_sem, Bool.not_eq_true', Bool.not_eq_false']) (by simp only [go_sem, Bool.not_eq_true', Bool.not_eq_false']) (by simp only [go_sem, Bool.not_eq_true', Bool.not_eq_false']) (by simp only [go_sem, Bool.not_eq_true', Bool.not_eq_false'])) ?_; simp only [go_sem, Bool.not_eq_true', Bool.not_eq_false'])
      repeat' first | contradiction | intro _ | refine And.intro ?_ ?_ | refine ex_get (by omega) ?_ | (show drawB _ _ = true; kernel_rfl) | (refine ret2 [] (by simp only [go_sem, Bool.not_eq_true', Bool.not_eq_false']; rfl) ?_; simp only [go_sem, Bool.not_eq_true', Bool.not_eq_false'])
      all_goals first
        | (have ev := e1 (by omega)
           rw [ev]
           (refine cut_end [] (()) (by simp only [go_sem, Bool.not_eq_true', Bool.not_eq_false']; rfl) ?_ ?_; (focus (simp only [go_sem, Bool.not_eq_true', Bool.not_eq_false']; done)))
           trivial)
        | (have ev := e0 (by omega) (by omega)
           rw [ev]
           (refine cut_end [] (()) (by simp only [go_sem, Bool.not_eq_true', Bool.not_eq_false']; rfl) ?_ ?_; (focus (simp only [go_sem, Bool.not_eq_true', Bool.not_eq_false']; done)))
           trivial)
        | skip
    · have e : stP l x.text = sty2 := if_neg q
      rw [e] at e0 e1
      simp only [sty2] at e0 e1
      (refine acall2 [] (hlin) (by simp only [go_sem, Bool.not_eq_true', Bool.not_eq_false']; rfl) (fit_of (by simp only [go_sem, Bool.not_eq_true', Bool.not_eq_false']) (by simp only [go_sem, Bool.not_eq_true', Bool.not_eq_false']) (by simp only [go_sem, Bool.not_eq_true', Bool.not_eq_false']) (by simp only [go_sem, Bool.not_eq_true', Bool.not_eq_false']) (by simp only [go_sem, Bool.not_eq_true', Bool.not_eq_false']) (by simp only [go_sem, Bool.not_eq_true', Bool.not_eq_false']) (by simp only [go_sem, Bool.not_eq_true', Bool.not_eq_false'])) ?_; simp only [go_sem, Bool.not_eq_true', Bool.not_eq_false'])
      repeat' first | contradiction | intro _ | refine And.intro ?_ ?_ | refine ex_get (by omega) ?_ | (show drawB _ _ = true; kernel_rfl) | (refine ret2 [] (by simp only [go_sem, Bool.not_eq_true', Bool.not_eq_false']; rfl) ?_; simp only [go_sem, Bool.not_eq_true', Bool.not_eq_false'])
      all_goals first
        | (have ev := e1 (by omega)
           rw [ev]
           (refine cut_end [] (()) (by simp only [go_sem, Bool.not_eq_true', Bool.not_eq_false']; rfl) ?_ ?_; (focus (simp only [go_sem, Bool.not_eq_true', Bool.not_eq_false']; done)))
           trivial)
        | (have ev := e0 (by omega) (by omega)
           rw [ev]
           (refine cut_end [] (()) (by simp only [go_sem, Bool.not_eq_true', Bool.not_eq_false']; rfl) ?_ ?_; (focus (simp only [go_sem, Bool.not_eq_true', Bool.not_eq_false']; done)))
           trivial)
        | skip
  rintro - -
  have hV : ∀ c : Bool, 0 ≤ b01 c 1 ∧ b01 c 1 ≤ 1 := fun c => by cases c <;> simp [b01]
  have hV1 := hV (fewB l of k x)
  generalize b01 (fewB l of k x) 1 = V at hV1 ⊢
  (refine swp_seqW ?_; simp only [go_sem, Bool.not_eq_true', Bool.not_eq_false'])
  refine swp_cutS (fun _ : Unit => stQ l of k x [(8, .raw (.int .i64 V)), (14, .raw (.int .i64 (b01 (x.both.any (insI l)) 1)))]) (fun _ => True) 200 ?_ ?_
  · (refine swp_seqW ?_; simp only [go_sem, Bool.not_eq_true', Bool.not_eq_false'])
    refine swp_block ?_
    refine swp_loop2 [] (fun z : KY Int => stQ l of k x [(8, .raw (.int .i64 V)), (14, .raw (.int .i64 z.o)), (15, .raw (.int .i64 z.k))]) (fun z => z.k ≤ x.both.length ∧ z.o = b01 ((x.both.take z.k).any (insI l)) 1) (fun z => x.both.length - z.k) 200 ⟨0, 0⟩ (by simp only [go_sem, Bool.not_eq_true', Bool.not_eq_false']; rfl) (by simp only [go_sem, Bool.not_eq_true', Bool.not_eq_false']) ?_ ?_
    · exact ⟨Nat.zero_le _, rfl⟩
    · rintro ⟨j, o⟩ ⟨j1, j2⟩
      simp only at j1 j2
      (refine swp_lastW ?_; simp only [go_sem, Bool.not_eq_true', Bool.not_eq_false', List.length_map])
      refine ⟨fun h5 => ?_, fun h5 => ?_⟩
      · have hj : j < x.both.length := by omega
        have hb := hbo _ (List.getElem_mem hj)
        have hi := ins_ran hv hb
        have hh := hasN_iff.1 hb
        have e1 : b01 ((x.both.take (j + 1)).any (insI l)) 1 = max o (styN l x.both[j]).inside := by
          rw [List.take_succ_eq_append_getElem hj, List.any_append, j2]
          have e2 : [x.both[j]].any (insI l) = decide ((styN l x.both[j]).inside = 1) := by simp [insI]
          rw [e2]
          cases (x.both.take j).any (insI l) <;> rcases hi with q | q <;> rw [q] <;> rfl
        refine ⟨by omega, ex_get hj ?_⟩
        generalize x.both[j] = b at hh e1 ⊢
        obtain ⟨n, rfl⟩ : ∃ n : Nat, b = n := ⟨b.toNat, by omega⟩
        have hn2 : n < l.length := by omega
        rw [styN_get hn2] at e1
        refine ⟨by omega, ?_⟩
        simp only [Int.toNat_natCast]
        refine ex_get hn2 ⟨by omega, ?_⟩
        (refine loop_end [] (⟨j + 1, max o l[n].st.inside⟩) (by simp only [go_sem, Bool.not_eq_true', Bool.not_eq_false']; rfl) ?_ ?_ ?_; (focus first | omega | (simp only; omega)); (focus (simp only [go_sem, Bool.not_eq_true', Bool.not_eq_false']; done)))
        exact ⟨hj, e1.symm⟩
      · rw [List.take_of_length_le (by omega)] at j2
        rw [j2]
        (refine cut_end [] (()) (by simp only [go_sem, Bool.not_eq_true', Bool.not_eq_false']; rfl) ?_ ?_; (focus (simp only [go_sem, Bool.not_eq_true', Bool.not_eq_false']; done)))
        trivial
  rintro - -
  have hW1 := hV (x.both.any (insI l))
  generalize b01 (x.both.any (insI l)) 1 = W at hW1 ⊢
  have hal := askA_len l of k
  (refine swp_seqW ?_; simp only [go_sem, Bool.not_eq_true', Bool.not_eq_false'])
  refine swp_cutS (fun _ : Unit => ⟨[(8, .raw (.int .i64 V)), (14, .raw (.int .i64 W)), (16, .raw (.int .i64 0)), (17, .sl 1 ((askA l of k).map cInt))], [], none⟩) (fun _ => True) 300 ?_ ?_
  · (refine swp_lastW ?_; simp only [go_sem, Bool.not_eq_true', Bool.not_eq_false'])
    (refine acall2 [] (rasked_ok l of k hl ho hk hc) (by simp only [go_sem, Bool.not_eq_true', Bool.not_eq_false']; rfl) (fit_of (by simp only [go_sem, Bool.not_eq_true', Bool.not_eq_false']) (by simp only [go_sem, Bool.not_eq_true', Bool.not_eq_false']) (by simp only [go_sem, Bool.not_eq_true', Bool.not_eq_false']) (by simp only [go_sem, Bool.not_eq_true', Bool.not_eq_false']) (by simp only [go_sem, Bool.not_eq_true', Bool.not_eq_false']) (by simp only [go_sem, Bool.not_eq_true', Bool.not_eq_false']) (by simp only [go_sem, Bool.not_eq_true', Bool.not_eq_false'])) ?_; simp only [go_sem, Bool.not_eq_true', Bool.not_eq_false'])
    (refine cut_end [1632 ] ( ()) (by simp only [go_sem, Bool.not_eq_true', Bool.not_eq_false']; rfl) ?_ ?_; (focus (simp only [go_sem, Bool.not_eq_true', Bool.not_eq_false']; done)))
    trivial
  rintro - -
  rw [betB]
  have hW2 := hV ((askA l of k).any (fun y => decide (1 = y)))
  generalize askA l of k = all at hal hW2 ⊢
  refine swp_cutS (fun _ : Unit => ⟨[(8, .raw (.int .i64 V)), (14, .raw (.int .i64 W)), (16, .raw (.int .i64 (b01 (all.any (fun y => decide (1 = y))) 1)))], [], none⟩) (fun _ => True) 300 ?_ ?_
  · (refine swp_seqW ?_; simp only [go_sem, Bool.not_eq_true', Bool.not_eq_false'])
    refine swp_block ?_
    refine swp_loop2 [] (fun z : KY Int => ⟨[(8, .raw (.int .i64 V)), (14, .raw (.int .i64 W)), (16, .raw (.int .i64 z.o)), (17, .sl 1 (all.map cInt)), (18, .raw (.int .i64 z.k))], [], none⟩) (fun z => z.k ≤ all.length ∧ z.o = b01 ((all.take z.k).any (fun y => decide (1 = y))) 1) (fun z => all.length - z.k) 300 ⟨0, 0⟩ (by simp only [go_sem, Bool.not_eq_true', Bool.not_eq_false']; rfl) (by simp only [go_sem, Bool.not_eq_true', Bool.not_eq_false']) ?_ ?_
    · exact ⟨Nat.zero_le _, rfl⟩
    · rintro ⟨j, o⟩ ⟨j1, j2⟩
      simp only at j1 j2
      (refine swp_lastW ?_; simp only [go_sem, Bool.not_eq_true', Bool.not_eq_false', List.length_map])
      refine ⟨fun h5 => ?_, fun h5 => ?_⟩
      · have hj : j < all.length := by omega
        have e1 : b01 ((all.take (j + 1)).any (fun y => decide (1 = y))) 1 = if all[j] = 1 then 1 else o := by
          rw [List.take_succ_eq_append_getElem hj, List.any_append, j2]
          by_cases q : all[j] = 1
          · rw [if_pos q]
            simp [q, b01]
          · have q2 : ¬ 1 = all[j] := fun h => q h.symm
            rw [if_neg q]
            simp [q2]
        refine ⟨by omega, ex_get hj ⟨fun q => ?_, fun q => ?_⟩⟩
        · rw [if_pos q] at e1
          refine ⟨by omega, ?_⟩
          (refine loop_end [] (⟨j + 1, 1⟩) (by simp only [go_sem, Bool.not_eq_true', Bool.not_eq_false']; rfl) ?_ ?_ ?_; (focus first | omega | (simp only; omega)); (focus (simp only [go_sem, Bool.not_eq_true', Bool.not_eq_false']; done)))
          exact ⟨hj, e1.symm⟩
        · rw [if_neg q] at e1
          refine ⟨by omega, ?_⟩
          (refine loop_end [] (⟨j + 1, o⟩) (by simp only [go_sem, Bool.not_eq_true', Bool.not_eq_false']; rfl) ?_ ?_ ?_; (focus first | omega | (simp only; omega)); (focus (simp only [go_sem, Bool.not_eq_true', Bool.not_eq_false']; done)))
          exact ⟨hj, e1.symm⟩
      · rw [List.take_of_length_le (by omega)] at j2
        rw [j2]
        (refine cut_end [] (()) (by simp only [go_sem, Bool.not_eq_true', Bool.not_eq_false']; rfl) ?_ ?_; (focus (simp only [go_sem, Bool.not_eq_true', Bool.not_eq_false']; done)))
        trivial
  rintro - -
  generalize b01 (all.any (fun y => decide (1 = y))) 1 = Z at hW2 ⊢
  (refine swp_lastW ?_; simp only [go_sem, Bool.not_eq_true', Bool.not_eq_false'])
  repeat' first | contradiction | intro _ | refine And.intro ?_ ?_ | refine ex_get (by omega) ?_ | (show drawB _ _ = true; kernel_rfl) | (refine ret2 [] (by simp only [go_sem, Bool.not_eq_true', Bool.not_eq_false']; rfl) ?_; simp only [go_sem, Bool.not_eq_true', Bool.not_eq_false'])
  all_goals first
    | omega
    | skip
set_option maxRecDepth 100000 in
set_option maxHeartbeats 4000000 in
theorem rallR_ok (l : List LNo) (of : List Int) (hl : l.length ≤ 1000) (ho : of.length ≤ 1000) (hc : chkB l of = true) : FnOk Tryz.prog 24 [.sl 20 (l.map cNo), .sl 1 (of.map cInt)] [] (.hdr 8) [(8, .row 3 1 ((allR l of).map cInt))] := by
  have ea : allR l of = (List.range (of.length + 1)).map (fun k : Nat => rnkA l of k) := by unfold allR; rw [if_pos hc]
  rw [ea]
  refine fn_of_awp Tryz.func24 rfl (by kernel_rfl) (by kernel_rfl) (Nat.le_of_ble_eq_true rfl) Tryz.results24 ?_
  simp only [go_sem, Bool.not_eq_true', Bool.not_eq_false', List.length_map]
  refine aloop2 [] (fun z : KY (List Int) => ⟨[(0, .sl 20 (l.map cNo)), (1, .sl 1 (of.map cInt)), (5, .hdr 16), (6, .raw (.int .i64 z.k))], [(16, some (.row 3 1 (z.o.map cInt)))], none⟩) (fun z => z.k ≤ of.length + 1 ∧ z.o = (List.range z.k).map (fun k : Nat => rnkA l of k)) (fun z => of.length + 1 - z.k) 40 ⟨0, []⟩ (by simp only [go_sem, Bool.not_eq_true', Bool.not_eq_false']; rfl) (by simp only [go_sem, Bool.not_eq_true', Bool.not_eq_false']) ?_ ?_
  · exact ⟨Nat.zero_le _, rfl⟩
  · rintro ⟨k, o⟩ ⟨k1, k2⟩
    simp only at k1 k2
    have hol : o.length = k := by rw [k2]; simp
    simp only [go_sem, Bool.not_eq_true', Bool.not_eq_false', List.length_map]
    refine ⟨fun h5 => ?_, fun h5 => ?_⟩
    · (refine acall2 [] (rrnk_ok l of k hl ho (by omega) hc) (by simp only [go_sem, Bool.not_eq_true', Bool.not_eq_false']; rfl) (fit_of (by simp only [go_sem, Bool.not_eq_true', Bool.not_eq_false']) (by simp only [go_sem, Bool.not_eq_true', Bool.not_eq_false']) (by simp only [go_sem, Bool.not_eq_true', Bool.not_eq_false']) (by simp only [go_sem, Bool.not_eq_true', Bool.not_eq_false']) (by simp only [go_sem, Bool.not_eq_true', Bool.not_eq_false']) (by simp only [go_sem, Bool.not_eq_true', Bool.not_eq_false']) (by simp only [go_sem, Bool.not_eq_true', Bool.not_eq_false'])) ?_; simp only [go_sem, Bool.not_eq_true', Bool.not_eq_false'])
      repeat' first | contradiction | intro _ | refine And.intro ?_ ?_ | refine ex_get (by omega) ?_ | (show drawB _ _ = true; kernel_rfl) | (refine ret2 [] (by simp only [go_sem, Bool.not_eq_true', Bool.not_eq_false']; rfl) ?_; simp only [go_sem, Bool.not_eq_true', Bool.not_eq_false'])
      all_goals first
        | omega
        | skip
      (refine loop_end [] (⟨k + 1, o ++ [rnkA l of k]⟩) (by simp only [go_sem, Bool.not_eq_true', Bool.not_eq_false']; rfl) ?_ ?_ ?_; (focus first | omega | (simp only; omega)); (focus (simp only [go_sem, Bool.not_eq_true', Bool.not_eq_false', List.map_append]; done)))
      simp only
      exact ⟨by omega, by rw [k2, List.range_succ, List.map_append]; rfl⟩
    · have e5 : k = of.length + 1 := by omega
      rw [e5, List.range_succ] at k2
      rw [← k2]
      (refine ret2 [] (by simp only [go_sem, Bool.not_eq_true', Bool.not_eq_false']; rfl) ?_; simp only [go_sem, Bool.not_eq_true', Bool.not_eq_false'])
end Go.Proofs.YtjkndjpkmkbnkaaGreat
/- CHAPTER 18: the law RankTells. -/
/- G -/
/- BOOLS -/
set_option linter.unusedSimpArgs false
set_option linter.unusedVariables false
namespace Go.Proofs.YtjkndjpkmkbnkaaGreat
open Go.RowKit

theorem allR_len (l : List LNo) (of : List Int) : (allR l of).length ≤ of.length + 1 := by unfold allR; split <;> simp
theorem linK_no {l : List LNo} {of : List Int} {k : Int} {f : Int → Int → Int} (h : kinG l of k = false) : linK l of k f = 0 := by unfold linK; rw [if_neg (by simp [h])]
theorem rnkA_no {l : List LNo} {of : List Int} {k : Int} (h : kinG l of k = false) : rnkA l of k = 0 := by unfold rnkA; rw [if_neg (by simp [h])]
theorem linK_is {l : List LNo} {of : List Int} {k : Int} {f : Int → Int → Int} (h : kinG l of k = true) : linK l of k f = f k (kinA l of k).text := by unfold linK; rw [if_pos h]
end Go.Proofs.YtjkndjpkmkbnkaaGreat
/- CHAPTER 19: the document's answer; the law BreaksOf. -/
/- G -/
/- BOOLS -/
set_option linter.unusedSimpArgs false
set_option linter.unusedVariables false
namespace Go.Proofs.YtjkndjpkmkbnkaaGreat
open Go.RowKit

set_option maxRecDepth 100000 in
set_option maxHeartbeats 8000000 in
theorem rallB_ok (l : List LNo) (of : List Int) (hl : l.length ≤ 1000) (ho : of.length ≤ 1000) (hc : chkB l of = true) : FnOk Tryz.prog 12 [.sl 20 (l.map cNo), .sl 1 (of.map cInt)] [] (.hdr 8) [(8, .row 44 3 ((allB l of).map cBrk))] := by
  have ea : allB l of = (List.range (of.length + 1)).map (fun k : Nat => brkA l of k) := by unfold allB; rw [if_pos hc]
  rw [ea]
  refine fn_of_swp Tryz.func12 rfl (by kernel_rfl) (by kernel_rfl) (Nat.le_of_ble_eq_true rfl) Tryz.results12 ?_
  (refine swp_seqW ?_; simp only [go_sem, Bool.not_eq_true', Bool.not_eq_false'])
  refine swp_cutS (fun _ : Unit => ⟨[(1, .sl 1 (of.map cInt)), (5, .sl 1 ((allF l of).map cInt)), (6, .sl 1 ((allR l of).map cInt))], [], none⟩) (fun _ => True) 3 ?_ ?_
  · (refine swp_lastW ?_; simp only [go_sem, Bool.not_eq_true', Bool.not_eq_false'])
    (refine acall2 [] (rallF_ok l of hl ho hc) (by simp only [go_sem, Bool.not_eq_true', Bool.not_eq_false']; rfl) (fit_of (by simp only [go_sem, Bool.not_eq_true', Bool.not_eq_false']) (by simp only [go_sem, Bool.not_eq_true', Bool.not_eq_false']) (by simp only [go_sem, Bool.not_eq_true', Bool.not_eq_false']) (by simp only [go_sem, Bool.not_eq_true', Bool.not_eq_false']) (by simp only [go_sem, Bool.not_eq_true', Bool.not_eq_false']) (by simp only [go_sem, Bool.not_eq_true', Bool.not_eq_false']) (by simp only [go_sem, Bool.not_eq_true', Bool.not_eq_false'])) ?_; simp only [go_sem, Bool.not_eq_true', Bool.not_eq_false'])
    (refine acall2 [] (rallR_ok l of hl ho hc) (by simp only [go_sem, Bool.not_eq_true', Bool.not_eq_false']; rfl) (fit_of (by simp only [go_sem, Bool.not_eq_true', Bool.not_eq_false']) (by simp only [go_sem, Bool.not_eq_true', Bool.not_eq_false']) (by simp only [go_sem, Bool.not_eq_true', Bool.not_eq_false']) (by simp only [go_sem, Bool.not_eq_true', Bool.not_eq_false']) (by simp only [go_sem, Bool.not_eq_true', Bool.not_eq_false']) (by simp only [go_sem, Bool.not_eq_true', Bool.not_eq_false']) (by simp only [go_sem, Bool.not_eq_true', Bool.not_eq_false'])) ?_; simp only [go_sem, Bool.not_eq_true', Bool.not_eq_false'])
    (refine cut_end [32, 56 ] ( ()) (by simp only [go_sem, Bool.not_eq_true', Bool.not_eq_false']; rfl) ?_ ?_; (focus (simp only [go_sem, Bool.not_eq_true', Bool.not_eq_false']; done)))
    trivial
  rintro - -
  have f1 := allF_ln hc
  have f2 := fun k (h : k < (allF l of).length) => allF_at hc h
  have r1 := allR_ln2 hc
  have r2 := fun k (h : k < (allR l of).length) => allR_at2 hc h
  obtain ⟨B, hB⟩ : ∃ B : Nat → LBrk, B = fun k : Nat => brkA l of k := ⟨_, rfl⟩
  have hbr := fun k : Nat => show B k = ⟨clsK of k, forA l of k, if forA l of k = 0 then rnkA l of k else 0⟩ by rw [hB]; rfl
  rw [← hB]
  clear hB ea
  generalize allF l of = F at f1 f2 ⊢
  generalize allR l of = R at r1 r2 ⊢
  (refine swp_seqW ?_; simp only [go_sem, Bool.not_eq_true', Bool.not_eq_false'])
  refine swp_cutS (fun _ : Unit => ⟨[(7, .hdr 800)], [(800, some (.row 44 3 (((List.range (of.length + 1)).map B).map cBrk)))], none⟩) (fun _ => True) 120 ?_ ?_
  · (refine swp_seqW ?_; simp only [go_sem, Bool.not_eq_true', Bool.not_eq_false'])
    refine swp_block ?_
    refine swp_loop2 [] (fun k : Nat => ⟨[(1, .sl 1 (of.map cInt)), (5, .sl 1 (F.map cInt)), (6, .sl 1 (R.map cInt)), (7, .hdr 800), (8, .raw (.int .i64 k))], [(800, some (.row 44 3 (((List.range k).map B).map cBrk)))], none⟩) (fun k => k ≤ of.length + 1) (fun k => of.length + 1 - k) 120 0 (by simp only [go_sem, Bool.not_eq_true', Bool.not_eq_false']; rfl) (by simp only [go_sem, Bool.not_eq_true', Bool.not_eq_false', List.range_zero, List.map_nil]) ?_ ?_
    · exact Nat.zero_le _
    intro k hk
    (refine swp_seqW ?_; simp only [go_sem, Bool.not_eq_true', Bool.not_eq_false', List.length_map])
    refine ⟨fun h5 => ?_, fun h5 => ?_⟩
    rotate_left
    · obtain rfl : k = of.length + 1 := by omega
      (refine cut_end [] (()) (by simp only [go_sem, Bool.not_eq_true', Bool.not_eq_false']; rfl) ?_ ?_; (focus (simp only [go_sem, Bool.not_eq_true', Bool.not_eq_false']; done)))
      trivial
    have hkF : k < F.length := by omega
    have hkF2 : k + 1 ≤ of.length + 1 := by omega
    have hkR : k < R.length := by omega
    have e0 : List.range (k + 1) = List.range k ++ [k] := List.range_succ
    have e2 : cBrk (B k) = [.raw (.int .i64 (clsK of k)), .raw (.int .i64 F[k]), .raw (.int .i64 (if F[k] = 0 then R[k] else 0))] := by
      rw [hbr, f2 k hkF, r2 k hkR]; rfl
    have e3 : (((List.range k ++ [k]).map B).map cBrk) = ((List.range k).map B).map cBrk ++ [[.raw (.int .i64 (clsK of k)), .raw (.int .i64 F[k]), .raw (.int .i64 (if F[k] = 0 then R[k] else 0))]] := by
      rw [List.map_append, List.map_append, ← e2]; rfl
    have c1 : (k : Int) = 0 → clsK of k = 0 := fun q => by unfold clsK; rw [if_pos q]
    have c2 : (k : Int) ≠ 0 → (k : Int) = of.length → clsK of k = 3 := fun q q2 => by unfold clsK; rw [if_neg q, if_pos q2]
    have c3 : ∀ (_ : (k : Int) ≠ 0) (h1 : k < of.length) (h2 : ((k : Int) - 1).toNat < of.length), clsK of k = if of[((k : Int) - 1).toNat] = of[k] then 2 else 1 := fun q h1 h2 => by
      unfold clsK
      rw [if_neg q, if_neg (by omega), List.getD_eq_getElem?_getD, List.getD_eq_getElem?_getD, Int.toNat_natCast, List.getElem?_eq_getElem h1, List.getElem?_eq_getElem h2]
      simp only [Option.getD_some]
      by_cases w : of[((k : Int) - 1).toNat] = of[k]
      · rw [if_pos w, if_pos w.symm]
      · rw [if_neg w, if_neg (fun e => w e.symm)]
    generalize clsK of k = c at e3 c1 c2 c3
    clear e0 e2 f2 r2 hbr
    refine swp_seqS ?_
    refine swp_block ?_
    (refine swp_seqW ?_; simp only [go_sem, Bool.not_eq_true', Bool.not_eq_false', List.length_map])
    refine ⟨by omega, ex_get hkF ⟨by omega, ex_get hkR ⟨(show drawB _ _ = true by kernel_rfl), ?_⟩⟩⟩
    refine swp_cutS (fun _ : Unit => ⟨[(1, .sl 1 (of.map cInt)), (5, .sl 1 (F.map cInt)), (6, .sl 1 (R.map cInt)), (7, .hdr 800), (8, .raw (.int .i64 k)), (9, .hdr 808)], [(800, some (.row 44 3 (((List.range k).map B).map cBrk))), (808, some (.cells 44 [.raw (.int .i64 1), .raw (.int .i64 F[k]), .raw (.int .i64 (if F[k] = 0 then R[k] else 0))]))], none⟩) (fun _ => True) 200 ?_ ?_
    · (refine swp_lastW ?_; simp only [go_sem, Bool.not_eq_true', Bool.not_eq_false', List.length_map])
      refine ⟨by omega, ex_get hkF ⟨fun q => ?_, fun q => ?_⟩⟩
      · rw [if_neg q]
        (refine cut_end [] (()) (by simp only [go_sem, Bool.not_eq_true', Bool.not_eq_false']; rfl) ?_ ?_; (focus (simp only [go_sem, Bool.not_eq_true', Bool.not_eq_false']; done)))
        trivial
      · rw [if_pos q]
        (refine cut_end [] (()) (by simp only [go_sem, Bool.not_eq_true', Bool.not_eq_false']; rfl) ?_ ?_; (focus (simp only [go_sem, Bool.not_eq_true', Bool.not_eq_false']; done)))
        trivial
    rintro - -
    generalize (if F[k] = 0 then R[k] else 0) = rk at e3 ⊢
    generalize F[k] = fo at e3 ⊢
    (refine swp_lastW ?_; simp only [go_sem, Bool.not_eq_true', Bool.not_eq_false', List.length_map, List.length_range])
    repeat' first | contradiction | intro _ | refine And.intro ?_ ?_ | refine ex_get (by omega) ?_ | (show drawB _ _ = true; kernel_rfl) | (refine ret2 [] (by simp only [go_sem, Bool.not_eq_true', Bool.not_eq_false', List.length_map, List.length_range]; rfl) ?_; simp only [go_sem, Bool.not_eq_true', Bool.not_eq_false', List.length_map, List.length_range])
    all_goals first
      | omega
      | (rw [List.length_range]; omega)
      | (obtain rfl : c = 0 := by omega
         (refine swp_lastW ?_; simp only [go_sem, Bool.not_eq_true', Bool.not_eq_false'])
         refine ⟨by omega, ?_⟩
         (refine loop_end [] (k + 1) (by simp only [go_sem, Bool.not_eq_true', Bool.not_eq_false']; rfl) ?_ ?_ ?_; (focus first | omega | (simp only; omega)); (focus (simp only [go_sem, Bool.not_eq_true', Bool.not_eq_false', e3]; done)))
         exact hkF2)
      | (obtain rfl : c = 3 := by omega
         (refine swp_lastW ?_; simp only [go_sem, Bool.not_eq_true', Bool.not_eq_false'])
         refine ⟨by omega, ?_⟩
         (refine loop_end [] (k + 1) (by simp only [go_sem, Bool.not_eq_true', Bool.not_eq_false']; rfl) ?_ ?_ ?_; (focus first | omega | (simp only; omega)); (focus (simp only [go_sem, Bool.not_eq_true', Bool.not_eq_false', e3]; done)))
         exact hkF2)
      | (obtain rfl : c = 2 := by rw [c3 (by omega) (by omega) (by omega), if_pos (by assumption)]
         (refine swp_lastW ?_; simp only [go_sem, Bool.not_eq_true', Bool.not_eq_false'])
         refine ⟨by omega, ?_⟩
         (refine loop_end [] (k + 1) (by simp only [go_sem, Bool.not_eq_true', Bool.not_eq_false']; rfl) ?_ ?_ ?_; (focus first | omega | (simp only; omega)); (focus (simp only [go_sem, Bool.not_eq_true', Bool.not_eq_false', e3]; done)))
         exact hkF2)
      | (obtain rfl : c = 1 := by rw [c3 (by omega) (by omega) (by omega), if_neg (by assumption)]
         (refine swp_lastW ?_; simp only [go_sem, Bool.not_eq_true', Bool.not_eq_false'])
         refine ⟨by omega, ?_⟩
         (refine loop_end [] (k + 1) (by simp only [go_sem, Bool.not_eq_true', Bool.not_eq_false']; rfl) ?_ ?_ ?_; (focus first | omega | (simp only; omega)); (focus (simp only [go_sem, Bool.not_eq_true', Bool.not_eq_false', e3]; done)))
         exact hkF2)
      | skip
  rintro - -
  (refine swp_lastW ?_; simp only [go_sem, Bool.not_eq_true', Bool.not_eq_false'])
  (refine ret2 [] (by simp only [go_sem, Bool.not_eq_true', Bool.not_eq_false']; rfl) ?_; simp only [go_sem, Bool.not_eq_true', Bool.not_eq_false'])
end Go.Proofs.YtjkndjpkmkbnkaaGreat
/- CHAPTER 19: the law BreaksOf. -/
/- G -/
/- BOOLS -/
set_option linter.unusedSimpArgs false
set_option linter.unusedVariables false
namespace Go.Proofs.YtjkndjpkmkbnkaaGreat
open Go.RowKit

set_option maxRecDepth 100000 in
set_option maxHeartbeats 8000000 in
theorem breaksOf_ok (l : List LNo) (of : List Int) : FnOk Tryz.prog 3 [.sl 20 (l.map cNo), .sl 1 (of.map cInt)] [] (.raw (.bool true)) [] := by
  refine fn_of_swp Tryz.func3 rfl (by kernel_rfl) (by kernel_rfl) (Nat.le_of_ble_eq_true rfl) Tryz.results3 ?_
  (refine swp_seqW ?_; simp only [go_sem, Bool.not_eq_true', Bool.not_eq_false'])
  (refine swp_seqW ?_; simp only [go_sem, Bool.not_eq_true', Bool.not_eq_false'])
  (refine acall2 [] (vast19_ok l of) (by simp only [go_sem, Bool.not_eq_true', Bool.not_eq_false']; rfl) (fit_of (by simp only [go_sem, Bool.not_eq_true', Bool.not_eq_false']) (by simp only [go_sem, Bool.not_eq_true', Bool.not_eq_false']) (by simp only [go_sem, Bool.not_eq_true', Bool.not_eq_false']) (by simp only [go_sem, Bool.not_eq_true', Bool.not_eq_false']) (by simp only [go_sem, Bool.not_eq_true', Bool.not_eq_false']) (by simp only [go_sem, Bool.not_eq_true', Bool.not_eq_false']) (by simp only [go_sem, Bool.not_eq_true', Bool.not_eq_false'])) ?_; simp only [go_sem, Bool.not_eq_true', Bool.not_eq_false'])
  refine ⟨fun h1 => ?_, fun h1 => ?_⟩
  · (refine acall2 [] (awake19_ok) (by simp only [go_sem, Bool.not_eq_true', Bool.not_eq_false']; rfl) (fit_of (by simp only [go_sem, Bool.not_eq_true', Bool.not_eq_false']) (by simp only [go_sem, Bool.not_eq_true', Bool.not_eq_false']) (by simp only [go_sem, Bool.not_eq_true', Bool.not_eq_false']) (by simp only [go_sem, Bool.not_eq_true', Bool.not_eq_false']) (by simp only [go_sem, Bool.not_eq_true', Bool.not_eq_false']) (by simp only [go_sem, Bool.not_eq_true', Bool.not_eq_false']) (by simp only [go_sem, Bool.not_eq_true', Bool.not_eq_false'])) ?_; simp only [go_sem, Bool.not_eq_true', Bool.not_eq_false'])
  obtain ⟨hl6, ho6, hw6⟩ := vst2_no h1
  have hl : l.length ≤ 1000 := by omega
  have ho : of.length ≤ 1000 := by omega
  have hw : ∀ x ∈ l, x.words.length ≤ 9223372036854775807 := fun x hx => by have := hw6 x hx; omega
  have hw2 : ∀ x ∈ l, x.words.length ≤ 1000 := fun x hx => by have := hw6 x hx; omega
  have hbl := allB_le l of
  refine swp_cutS (fun _ : Unit => ⟨[(0, .sl 20 (l.map cNo)), (1, .sl 1 (of.map cInt)), (5, .sl 20 (l.map cNo)), (6, .sl 1 (of.map cInt))], [], none⟩) (fun _ => True) 3 ?_ ?_
  · (refine swp_lastW ?_; simp only [go_sem, Bool.not_eq_true', Bool.not_eq_false'])
    (refine acall2 [] (own5_ok l hl hw2) (by simp only [go_sem, Bool.not_eq_true', Bool.not_eq_false']; rfl) (fit_of (by simp only [go_sem, Bool.not_eq_true', Bool.not_eq_false']) (by simp only [go_sem, Bool.not_eq_true', Bool.not_eq_false']) (by simp only [go_sem, Bool.not_eq_true', Bool.not_eq_false']) (by simp only [go_sem, Bool.not_eq_true', Bool.not_eq_false']) (by simp only [go_sem, Bool.not_eq_true', Bool.not_eq_false']) (by simp only [go_sem, Bool.not_eq_true', Bool.not_eq_false']) (by simp only [go_sem, Bool.not_eq_true', Bool.not_eq_false'])) ?_; simp only [go_sem, Bool.not_eq_true', Bool.not_eq_false'])
    refine ⟨⟨by omega, by omega⟩, ?_⟩
    (refine cut_end [48, 72 ] ( ()) (by simp only [go_sem, Bool.not_eq_true', Bool.not_eq_false']; rfl) ?_ ?_; (focus (simp only [go_sem, Bool.not_eq_true', Bool.not_eq_false']; done)))
    trivial
  rintro - -
  refine swp_cutS (fun _ : Unit => ⟨[(0, .sl 20 (l.map cNo)), (1, .sl 1 (of.map cInt)), (5, .sl 20 (l.map cNo)), (6, .sl 1 (of.map cInt)), (7, .sl 3 ((allB l of).map cBrk)), (8, .raw (.int .i64 (errB (chkB l of))))], [], none⟩) (fun _ => True) 6 ?_ ?_
  · (refine swp_lastW ?_; simp only [go_sem, Bool.not_eq_true', Bool.not_eq_false'])
    (refine acall2 [] (allB_ok l of hl ho hw) (by simp only [go_sem, Bool.not_eq_true', Bool.not_eq_false']; rfl) (fit_of (by simp only [go_sem, Bool.not_eq_true', Bool.not_eq_false']) (by simp only [go_sem, Bool.not_eq_true', Bool.not_eq_false']) (by simp only [go_sem, Bool.not_eq_true', Bool.not_eq_false']) (by simp only [go_sem, Bool.not_eq_true', Bool.not_eq_false']) (by simp only [go_sem, Bool.not_eq_true', Bool.not_eq_false']) (by simp only [go_sem, Bool.not_eq_true', Bool.not_eq_false']) (by simp only [go_sem, Bool.not_eq_true', Bool.not_eq_false'])) ?_; simp only [go_sem, Bool.not_eq_true', Bool.not_eq_false'])
    (refine cut_end [40 ] ( ()) (by simp only [go_sem, Bool.not_eq_true', Bool.not_eq_false']; rfl) ?_ ?_; (focus (simp only [go_sem, Bool.not_eq_true', Bool.not_eq_false']; done)))
    trivial
  rintro - -
  (refine swp_seqW ?_; simp only [go_sem, Bool.not_eq_true', Bool.not_eq_false'])
  (refine acall2 [] (same5_ok l hl hw) (by simp only [go_sem, Bool.not_eq_true', Bool.not_eq_false']; rfl) (fit_of (by simp only [go_sem, Bool.not_eq_true', Bool.not_eq_false']) (by simp only [go_sem, Bool.not_eq_true', Bool.not_eq_false']) (by simp only [go_sem, Bool.not_eq_true', Bool.not_eq_false']) (by simp only [go_sem, Bool.not_eq_true', Bool.not_eq_false']) (by simp only [go_sem, Bool.not_eq_true', Bool.not_eq_false']) (by simp only [go_sem, Bool.not_eq_true', Bool.not_eq_false']) (by simp only [go_sem, Bool.not_eq_true', Bool.not_eq_false'])) ?_; simp only [go_sem, Bool.not_eq_true', Bool.not_eq_false'])
  (refine acall2 [] (ints8_ok of of ho ho) (by simp only [go_sem, Bool.not_eq_true', Bool.not_eq_false']; rfl) (fit_of (by simp only [go_sem, Bool.not_eq_true', Bool.not_eq_false']) (by simp only [go_sem, Bool.not_eq_true', Bool.not_eq_false']) (by simp only [go_sem, Bool.not_eq_true', Bool.not_eq_false']) (by simp only [go_sem, Bool.not_eq_true', Bool.not_eq_false']) (by simp only [go_sem, Bool.not_eq_true', Bool.not_eq_false']) (by simp only [go_sem, Bool.not_eq_true', Bool.not_eq_false']) (by simp only [go_sem, Bool.not_eq_true', Bool.not_eq_false'])) ?_; simp only [go_sem, Bool.not_eq_true', Bool.not_eq_false'])
  (refine swp_seqW ?_; simp only [go_sem, Bool.not_eq_true', Bool.not_eq_false'])
  (refine acall2 [] (rcheck_ok l of hl ho hw) (by simp only [go_sem, Bool.not_eq_true', Bool.not_eq_false']; rfl) (fit_of (by simp only [go_sem, Bool.not_eq_true', Bool.not_eq_false']) (by simp only [go_sem, Bool.not_eq_true', Bool.not_eq_false']) (by simp only [go_sem, Bool.not_eq_true', Bool.not_eq_false']) (by simp only [go_sem, Bool.not_eq_true', Bool.not_eq_false']) (by simp only [go_sem, Bool.not_eq_true', Bool.not_eq_false']) (by simp only [go_sem, Bool.not_eq_true', Bool.not_eq_false']) (by simp only [go_sem, Bool.not_eq_true', Bool.not_eq_false'])) ?_; simp only [go_sem, Bool.not_eq_true', Bool.not_eq_false'])
  cases hc : chkB l of with
  | false =>
    have e2 : allB l of = [] := by unfold allB; rw [hc]; rfl
    have e3 : errB false = 4 := rfl
    rw [e2, e3]
    refine ⟨fun _ => ?_, fun q => by omega⟩
    repeat' first | contradiction | intro _ | refine And.intro ?_ ?_ | refine ex_get (by omega) ?_ | (show drawB _ _ = true; kernel_rfl) | (refine ret2 [] (by simp only [go_sem, Bool.not_eq_true', Bool.not_eq_false', List.map]; rfl) ?_; simp only [go_sem, Bool.not_eq_true', Bool.not_eq_false', List.map]) | (refine acall2 [] (awake19_ok) (by simp only [go_sem, Bool.not_eq_true', Bool.not_eq_false']; rfl) (fit_of (by simp only [go_sem, Bool.not_eq_true', Bool.not_eq_false']) (by simp only [go_sem, Bool.not_eq_true', Bool.not_eq_false']) (by simp only [go_sem, Bool.not_eq_true', Bool.not_eq_false']) (by simp only [go_sem, Bool.not_eq_true', Bool.not_eq_false']) (by simp only [go_sem, Bool.not_eq_true', Bool.not_eq_false']) (by simp only [go_sem, Bool.not_eq_true', Bool.not_eq_false']) (by simp only [go_sem, Bool.not_eq_true', Bool.not_eq_false'])) ?_; simp only [go_sem, Bool.not_eq_true', Bool.not_eq_false', List.map])
    all_goals first
      | omega
      | (simp; done)
      | (exfalso; simp at *; done)
      | skip
  | true =>
    have e3 : errB true = 0 := rfl
    rw [e3]
    refine ⟨fun q => absurd rfl q, fun _ => ?_⟩
    (refine swp_lastW ?_; simp only [go_sem, Bool.not_eq_true', Bool.not_eq_false'])
    (refine acall2 [] (rallB_ok l of hl ho hc) (by simp only [go_sem, Bool.not_eq_true', Bool.not_eq_false']; rfl) (fit_of (by simp only [go_sem, Bool.not_eq_true', Bool.not_eq_false']) (by simp only [go_sem, Bool.not_eq_true', Bool.not_eq_false']) (by simp only [go_sem, Bool.not_eq_true', Bool.not_eq_false']) (by simp only [go_sem, Bool.not_eq_true', Bool.not_eq_false']) (by simp only [go_sem, Bool.not_eq_true', Bool.not_eq_false']) (by simp only [go_sem, Bool.not_eq_true', Bool.not_eq_false']) (by simp only [go_sem, Bool.not_eq_true', Bool.not_eq_false'])) ?_; simp only [go_sem, Bool.not_eq_true', Bool.not_eq_false'])
    (refine acallF2 [208 ] [] ( same19_ok (allB l of) (allB l of) (by omega) (by omega)) (by simp only [go_sem, Bool.not_eq_true', Bool.not_eq_false']; rfl) (fit_of (by simp only [go_sem, Bool.not_eq_true', Bool.not_eq_false']) (by simp only [go_sem, Bool.not_eq_true', Bool.not_eq_false']) (by simp only [go_sem, Bool.not_eq_true', Bool.not_eq_false']) (by simp only [go_sem, Bool.not_eq_true', Bool.not_eq_false']) (by simp only [go_sem, Bool.not_eq_true', Bool.not_eq_false']) (by simp only [go_sem, Bool.not_eq_true', Bool.not_eq_false']) (by simp only [go_sem, Bool.not_eq_true', Bool.not_eq_false'])) ?_; simp only [go_sem, Bool.not_eq_true', Bool.not_eq_false', decide_true])
    (refine acall2 [] (awake19_ok) (by simp only [go_sem, Bool.not_eq_true', Bool.not_eq_false']; rfl) (fit_of (by simp only [go_sem, Bool.not_eq_true', Bool.not_eq_false']) (by simp only [go_sem, Bool.not_eq_true', Bool.not_eq_false']) (by simp only [go_sem, Bool.not_eq_true', Bool.not_eq_false']) (by simp only [go_sem, Bool.not_eq_true', Bool.not_eq_false']) (by simp only [go_sem, Bool.not_eq_true', Bool.not_eq_false']) (by simp only [go_sem, Bool.not_eq_true', Bool.not_eq_false']) (by simp only [go_sem, Bool.not_eq_true', Bool.not_eq_false'])) ?_; simp only [go_sem, Bool.not_eq_true', Bool.not_eq_false'])
end Go.Proofs.YtjkndjpkmkbnkaaGreat
