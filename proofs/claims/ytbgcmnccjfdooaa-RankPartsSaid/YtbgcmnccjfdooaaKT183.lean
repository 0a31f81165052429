/- CONTRACTS of the functions, and plain laws, joined out of: GForH GRanG GRanH GRanI GRanJ. -/
import Derived.Test.YtbgcmnccjfdooaaKT182
/- CHAPTER 17: the plain law of ForcedHeads. -/
/- G -/
/- BOOLS -/
set_option linter.unusedSimpArgs false
set_option linter.unusedVariables false
namespace Go.Proofs.Ytbgcmnccjfdooaa
open Go.RowKit

theorem frc_ran : ∀ (r : List Int) (o : Int), (o = 0 ∨ o = 2 ∨ o = 3 ∨ o = 4) → (r.foldl frcT o = 0 ∨ r.foldl frcT o = 2 ∨ r.foldl frcT o = 3 ∨ r.foldl frcT o = 4)
  | [], _, h => h
  | x :: r, o, h => by
    rw [List.foldl_cons]
    apply frc_ran r
    unfold frcT
    split
    · omega
    · split <;> omega
theorem frc_mem : ∀ (r : List Int) (o : Int), r.foldl frcT o = o ∨ r.foldl frcT o ∈ r
  | [], _ => .inl rfl
  | x :: r, o => by
    rw [List.foldl_cons]
    rcases frc_mem r (frcT o x) with h | h
    · rw [h]
      unfold frcT
      split
      · exact .inr List.mem_cons_self
      · split
        · next q => exact .inr (List.mem_cons.2 (.inl q.1.symm))
        · exact .inl rfl
    · exact .inr (List.mem_cons_of_mem _ h)
theorem frc_ne : ∀ (r : List Int) (o : Int), o ≠ 0 → r.foldl frcT o ≠ 0
  | [], _, h => h
  | x :: r, o, h => by
    rw [List.foldl_cons]
    apply frc_ne r
    unfold frcT
    split
    · omega
    · split <;> omega
theorem frcS_two : ∀ (r : List Int), 2 ∈ r → ∀ o, r.foldl frcT o ≠ 0
  | [], h, _ => by cases h
  | x :: r, h, o => by
    rw [List.foldl_cons]
    rcases List.mem_cons.1 h with q | q
    · apply frc_ne
      unfold frcT
      split
      · omega
      · split <;> omega
    · exact frcS_two r q _
theorem abv_hol {l : List LNo} (h : isS l = true) {a x : Int} (hx : x ∈ abvN l a) : holN l x a = true := by
  rw [abv_eq h, abvR] at hx
  split at hx
  · next q =>
    obtain ⟨m, rfl, h1, h2⟩ := (abvD_mem l a _ x).1 hx
    have q2 := hasN_iff.1 q
    have e1 : hasN l m = true := hasN_iff.2 (by omega)
    simp only [holN, q, e1, Bool.true_and, Bool.and_eq_true, decide_eq_true_eq, Int.toNat_natCast]
    omega
  · cases hx
theorem kin_text {l : List LNo} {of : List Int} {k : Int} (hc : chkB l of = true) (hk : 0 ≤ k ∧ k ≤ of.length) (ht : 0 ≤ (kinA l of k).text) : (kinA l of k).ends = [] ∧ (kinA l of k).begins = [] := by
  have hv := (chk_has hc).1
  have e : kinA l of k = kinS l of k := by unfold kinA; rw [if_pos (kinG_chk hc hk)]
  rw [e] at ht ⊢
  simp only [kinS] at ht ⊢
  unfold txtK at ht
  split at ht
  · next q =>
    obtain ⟨q1, q2, q3⟩ := q
    constructor
    · unfold choS
      split
      · rw [List.filter_eq_nil_iff]
        intro b hb
        have := abv_hol hv hb
        rw [← q3] at this
        have e2 : hldK l of b k = true := by simp only [hldK, this, Bool.and_true, Bool.and_eq_true, decide_eq_true_eq]; omega
        simp [e2]
      · rfl
    · unfold choS
      split
      · rw [List.reverse_eq_nil_iff, List.filter_eq_nil_iff]
        intro b hb
        have := abv_hol hv hb
        rw [q3] at this
        have e2 : hldK l of b (k - 1) = true := by simp only [hldK, this, Bool.and_true, Bool.and_eq_true, decide_eq_true_eq]; omega
        simp [e2]
      · rfl
  · omega
theorem ask_mem {l : List LNo} {x : LKin} {y : Int} : y ∈ askL l x ↔ (∃ b ∈ x.ends, (styN l b).after = y) ∨ (∃ b ∈ x.begins, (0 < (styN l b).head ∧ y = 2) ∨ (styN l b).before = y) := by
  simp only [askL, List.mem_append, List.mem_map, List.mem_flatMap]
  constructor
  · rintro (h | ⟨b, hb, h⟩)
    · exact .inl h
    · refine .inr ⟨b, hb, ?_⟩
      unfold begA at h
      split at h
      · next q =>
        rcases List.mem_cons.1 h with h | h
        · exact .inl ⟨q, h⟩
        · exact .inr (List.mem_singleton.1 h).symm
      · exact .inr (List.mem_singleton.1 h).symm
  · rintro (h | ⟨b, hb, h⟩)
    · exact .inl h
    · refine .inr ⟨b, hb, ?_⟩
      unfold begA
      rcases h with ⟨h1, h2⟩ | h
      · rw [if_pos h1, h2]; simp
      · split <;> simp [h]
/-- does no block ask for any break, nor has a header? -/
def calmB (l : List LNo) : Bool := l.all (fun x => decide (x.st.head = 0) && decide (x.st.before < 2) && decide (x.st.after < 2))
def hdsB (l : List LNo) (b : List Int) : Bool := b.any (fun b => decide (0 < (styN l b).head))
def askB (l : List LNo) (f : Int) (b : List Int) : Bool := b.any (fun b => decide ((styN l b).before = f) || (decide (0 < (styN l b).head) && decide (f = 2)))
def aftB (l : List LNo) (f : Int) (b : List Int) : Bool := b.any (fun b => decide ((styN l b).after = f))
structure HdsP (l : List LNo) (x : LKin) (f : Int) : Prop where
  calm : f ≠ 0 → calmB l = false
  text : f ≠ 0 → x.text < 0
  heads : hdsB l x.begins = true → f ≠ 0
  asks : f ≠ 0 → askB l f x.begins = true ∨ aftB l f x.ends = true
  ran : f ≠ 0 → 2 ≤ f ∧ f ≤ 4
theorem hds_law {l : List LNo} {of : List Int} {k : Int} (hc : chkB l of = true) (hk : 0 ≤ k ∧ k < of.length) : HdsP l (kinA l of k) (forA l of k) := by
  have hh := kinA_has l of k
  have hg := kinG_chk hc (k := k) (by omega)
  have ea : askA l of k = askL l (kinA l of k) := by unfold askA; rw [if_pos ⟨hg, by omega⟩]
  have ef : forA l of k = frcS (askL l (kinA l of k)) := by unfold forA; rw [ea]
  have hm : forA l of k ≠ 0 → forA l of k ∈ askL l (kinA l of k) := fun h => by
    rw [ef] at h ⊢
    exact (frc_mem _ 0).resolve_left h
  have ht := kin_text hc (k := k) (by omega)
  generalize kinA l of k = x at *
  generalize forA l of k = f at *
  refine ⟨fun h => ?_, fun h => ?_, fun h => ?_, fun h => ?_, fun h => ?_⟩
  · have hr := frc_ran (askL l x) 0 (.inl rfl)
    have e : (askL l x).foldl frcT 0 = f := ef.symm
    rw [e] at hr
    rcases hcal : calmB l with _ | _
    · rfl
    · exfalso
      have hs : ∀ b, hasN l b = true → (styN l b).head = 0 ∧ (styN l b).before < 2 ∧ (styN l b).after < 2 := fun b hb => by
        have q := hasN_iff.1 hb
        obtain ⟨n, rfl⟩ : ∃ n : Nat, b = n := ⟨b.toNat, by omega⟩
        have hn : n < l.length := by omega
        have := List.all_eq_true.1 hcal l[n] (List.getElem_mem hn)
        simp only [Bool.and_eq_true, decide_eq_true_eq] at this
        rw [styN_get hn]
        exact ⟨this.1.1, this.1.2, this.2⟩
      rcases ask_mem.1 (hm h) with ⟨b, hb, q⟩ | ⟨b, hb, q⟩
      · have := hs b (hh.1 b hb); omega
      · have := hs b (hh.2 b hb); omega
  · refine Int.lt_of_not_ge fun q => ?_
    obtain ⟨t1, t2⟩ := ht q
    have := hm h
    rw [askL, t1, t2] at this
    cases this
  · rw [ef]
    refine frcS_two _ (ask_mem.2 (.inr ?_)) 0
    obtain ⟨b, hb, q⟩ := List.any_eq_true.1 h
    exact ⟨b, hb, .inl ⟨of_decide_eq_true q, rfl⟩⟩
  · rcases ask_mem.1 (hm h) with ⟨b, hb, q⟩ | ⟨b, hb, q⟩
    · exact .inr (List.any_eq_true.2 ⟨b, hb, decide_eq_true q⟩)
    · refine .inl (List.any_eq_true.2 ⟨b, hb, ?_⟩)
      simp only [Bool.or_eq_true, Bool.and_eq_true, decide_eq_true_eq]
      exact q.symm
  · have hr := frc_ran (askL l x) 0 (.inl rfl)
    have e : (askL l x).foldl frcT 0 = f := ef.symm
    rw [e] at hr
    omega
end Go.Proofs.Ytbgcmnccjfdooaa
/- CHAPTER 18: the document's rank. -/
/- G -/
/- BOOLS -/
set_option linter.unusedSimpArgs false
set_option linter.unusedVariables false
namespace Go.Proofs.Ytbgcmnccjfdooaa
open Go.RowKit

theorem ins_ran {l : List LNo} (hv : isS l = true) {b : Int} (hb : hasN l b = true) : (styN l b).inside = 0 ∨ (styN l b).inside = 1 := by
  have hh := hasN_iff.1 hb
  obtain ⟨n, rfl⟩ : ∃ n : Nat, b = n := ⟨b.toNat, by omega⟩
  have hn : n < l.length := by omega
  rw [styN_get hn]
  have h := isG_nod l _ _ hv l[n] (List.getElem_mem hn)
  unfold nodB at h
  split at h
  · simp only [Bool.and_eq_true] at h
    have h5 := h.2
    simp only [styB, hasL, offN, List.any_cons, List.any_nil, Bool.or_false, Bool.and_eq_true, Bool.not_eq_true', Bool.or_eq_false_iff, decide_eq_false_iff_not] at h5
    omega
  · left
    have hbare : bareB l[n] = true := by
      split at h
      · simp only [Bool.and_eq_true] at h; exact h.1.1.1.1.1.1.1
      · split at h
        · simp only [Bool.and_eq_true] at h; exact h.1.1.1
        · split at h
          · simp only [Bool.and_eq_true] at h; exact h.1.1.1
          · cases h
    simp only [bareB, Bool.and_eq_true, decide_eq_true_eq] at hbare
    omega
theorem kin_txt {l : List LNo} {of : List Int} {k : Int} (hc : chkB l of = true) (hk : 0 ≤ k ∧ k ≤ of.length) : -1 ≤ (kinA l of k).text ∧ (kinA l of k).text < (l.length : Int) + 1 := by
  have hf := (chk_has hc).2
  have e : kinA l of k = kinS l of k := by unfold kinA; rw [if_pos (kinG_chk hc hk)]
  rw [e]
  show -1 ≤ txtK of k ∧ txtK of k < (l.length : Int) + 1
  unfold txtK
  split
  · next q =>
    have hj : k.toNat < of.length := by omega
    have e2 : of.getD k.toNat 0 = of[k.toNat] := by simp [List.getD_eq_getElem?_getD, hj]
    rw [e2]
    have := hasN_iff.1 (hf _ (List.getElem_mem hj))
    omega
  · omega
def b01 (b : Bool) (n : Int) : Int := if b = true then n else 0
theorem rnk_sum (f w b : Bool) : rnkP f w b 3 = b01 f 1 + 2 * b01 w 1 + 4 * b01 b 1 := by cases f <;> cases w <;> cases b <;> rfl
def stQ (l : List LNo) (of : List Int) (k : Int) (x : LKin) (t : List (Nat × AV)) : AS := ⟨t ++ [(0, .sl 20 (l.map cNo)), (1, .sl 1 (of.map cInt)), (2, .raw (.int .i64 k)), (7, .hdr 800)], [(800, some (.cells 28 [.sl 1 (x.ends.map cInt), .sl 1 (x.begins.map cInt), .sl 1 (x.both.map cInt), .raw (.int .i64 x.text)]))], none⟩
attribute [go_sem] stQ
set_option maxRecDepth 100000 in
set_option maxHeartbeats 8000000 in
theorem rrnk_ok (l : List LNo) (of : List Int) (k : Int) (hl : l.length ≤ 1000) (ho : of.length ≤ 1000) (hk : 0 ≤ k ∧ k ≤ of.length) (hc : chkB l of = true) : FnOk Try.prog 45 [.sl 20 (l.map cNo), .sl 1 (of.map cInt), .raw (.int .i64 k)] [] (.raw (.int .i64 (rnkA l of k))) [] := by
  have hn := kinA_len l of k
  have hbo := both_has l of k
  have hg := kinG_chk hc hk
  have hv := (chk_has hc).1
  have htx := kin_txt hc hk
  have hlin := rlin_ok l of k hl ho hk hc
  refine fn_of_swp Try.func45 rfl (by kernel_rfl) (by kernel_rfl) (Nat.le_of_ble_eq_true rfl) Try.results45 ?_
  (refine swp_seqW ?_; simp only [go_sem, Bool.not_eq_true', Bool.not_eq_false'])
  (refine swp_seqW ?_; simp only [go_sem, Bool.not_eq_true', Bool.not_eq_false', List.length_map])
  by_cases hq : k ≠ 0 ∧ k ≠ of.length
  rotate_left
  · have e : rnkA l of k = 0 := if_neg (fun q => hq q.2)
    rw [e]
    repeat' first | contradiction | intro _ | refine And.intro ?_ ?_ | refine ex_get (by omega) ?_ | (show drawB _ _ = true; kernel_rfl) | (refine ret2 [] (by simp only [go_sem, Bool.not_eq_true', Bool.not_eq_false']; rfl) ?_; simp only [go_sem, Bool.not_eq_true', Bool.not_eq_false'])
    all_goals first
      | rfl
      | omega
      | exact absurd ⟨by assumption, by assumption⟩ hq
      | skip
  have e : rnkA l of k = rnkK l of k (kinA l of k) := if_pos ⟨hg, hq⟩
  rw [e, rnkK, rnk_sum]
  refine ⟨fun _ => ⟨fun q => absurd q hq.2, fun _ => ?_⟩, fun q => absurd q hq.1⟩
  refine swp_cutS (fun _ : Unit => stQ l of k (kinA l of k) []) (fun _ => True) 120 ?_ ?_
  · (refine swp_lastW ?_; simp only [go_sem, Bool.not_eq_true', Bool.not_eq_false'])
    (refine acall2 [] (rat_ok l of k hl ho hk) (by simp only [go_sem, Bool.not_eq_true', Bool.not_eq_false']; rfl) (fit_of (by simp only [go_sem, Bool.not_eq_true', Bool.not_eq_false']) (by simp only [go_sem, Bool.not_eq_true', Bool.not_eq_false']) (by simp only [go_sem, Bool.not_eq_true', Bool.not_eq_false']) (by simp only [go_sem, Bool.not_eq_true', Bool.not_eq_false']) (by simp only [go_sem, Bool.not_eq_true', Bool.not_eq_false']) (by simp only [go_sem, Bool.not_eq_true', Bool.not_eq_false']) (by simp only [go_sem, Bool.not_eq_true', Bool.not_eq_false'])) ?_; simp only [go_sem, Bool.not_eq_true', Bool.not_eq_false'])
    rw [kin_R hc hk]
    (refine cut_end [104, 105, 106 ] ( ()) (by simp only [go_sem, Bool.not_eq_true', Bool.not_eq_false']; rfl) ?_ ?_; (focus (simp only [go_sem, Bool.not_eq_true', Bool.not_eq_false']; done)))
    trivial
  rintro - -
  generalize kinA l of k = x at *
  (refine swp_seqW ?_; simp only [go_sem, Bool.not_eq_true', Bool.not_eq_false'])
  refine swp_cutS (fun _ : Unit => stQ l of k x [(8, .raw (.int .i64 (b01 (fewB l of k x) 1)))]) (fun _ => True) 160 ?_ ?_
  · have hp := parN_ran l x.text
    (refine swp_lastW ?_; simp only [go_sem, Bool.not_eq_true', Bool.not_eq_false'])
    refine ⟨fun ht => ?_, fun ht => ?_⟩
    rotate_left
    · have ef : fewB l of k x = false := by simp only [fewB, Bool.and_eq_false_iff, decide_eq_false_iff_not]; omega
      have eb : b01 (fewB l of k x) 1 = 0 := by rw [ef]; rfl
      rw [eb]
      (refine cut_end [] (()) (by simp only [go_sem, Bool.not_eq_true', Bool.not_eq_false']; rfl) ?_ ?_; (focus (simp only [go_sem, Bool.not_eq_true', Bool.not_eq_false']; done)))
      trivial
    have ef : fewB l of k x = (decide (linA of k x.text < (stP l x.text).orphans) || decide (linB of k x.text < (stP l x.text).widows)) := by
      have : decide (0 ≤ x.text) = true := decide_eq_true ht
      rw [fewB, this, Bool.true_and]
    have e1 : (linA of k x.text < (stP l x.text).orphans ∨ linB of k x.text < (stP l x.text).widows) → b01 (fewB l of k x) 1 = 1 := fun q => by rw [ef]; rcases q with q | q <;> simp [b01, q]
    have e0 : ¬ linA of k x.text < (stP l x.text).orphans → ¬ linB of k x.text < (stP l x.text).widows → b01 (fewB l of k x) 1 = 0 := fun q q2 => by rw [ef]; simp [b01, q, q2]
    generalize b01 (fewB l of k x) 1 = V at e1 e0 ⊢
    (refine acall2 [] (parent8r_ok l x.text (by omega) hl) (by simp only [go_sem, Bool.not_eq_true', Bool.not_eq_false']; rfl) (fit_of (by simp only [go_sem, Bool.not_eq_true', Bool.not_eq_false']) (by simp only [go_sem, Bool.not_eq_true', Bool.not_eq_false']) (by simp only [go_sem, Bool.not_eq_true', Bool.not_eq_false']) (by simp only [go_sem, Bool.not_eq_true', Bool.not_eq_false']) (by simp only [go_sem, Bool.not_eq_true', Bool.not_eq_false']) (by simp only [go_sem, Bool.not_eq_true', Bool.not_eq_false']) (by simp only [go_sem, Bool.not_eq_true', Bool.not_eq_false'])) ?_; simp only [go_sem, Bool.not_eq_true', Bool.not_eq_false'])
    refine ⟨fun q => ?_, fun q => ?_⟩
    · have e : stP l x.text = styN l (parN l x.text) := if_pos q
      rw [e] at e0 e1
      generalize parN l x.text = b at hp q e0 e1 ⊢
      obtain ⟨n, rfl⟩ : ∃ n : Nat, b = n := ⟨b.toNat, by omega⟩
      have hn : n < l.length := by omega
      rw [styN_get hn] at e0 e1
      refine ⟨by omega, ?_⟩
      simp only [Int.toNat_natCast]
      refine ex_get hn ⟨by omega, ex_get hn ?_⟩
      (refine acall2 [] (hlin) (by simp only [go_sem, Bool.not_eq_true', Bool.not_eq_false']; rfl) (fit_of (by simp only [go_sem, Bool.not_eq_true', Bool.not_eq_false']) (by simp only [go_sem, Bool.not_eq_true', Bool.not_eq_false']) (by simp only [go_sem, Bool.not_eq_true', Bool.not_eq_false']) (by simp only [go_sem, Bool.not_eq_true', Bool.not_eq_false']) (by simp only [go_sem, Bool.not_eq_true', Bool.not_eq_false']) (by simp only [go_sem, Bool.not_eq_true', Bool.not_eq_false']) (by simp only [go_sem, Bool.not_eq_true', Bool.not_eq_false'])) ?_; simp only [go_sem, Bool.not_eq_true', Bool.not_eq_false'])
      repeat' first | contradiction | intro _ | refine And.intro ?_ ?_ | refine ex_get (by omega) ?_ | (show drawB _ _ = true; kernel_rfl) | (refine ret2 [] (by simp only [go_sem, Bool.not_eq_true', Bool.not_eq_false']; rfl) ?_; simp only [go_sem, Bool.not_eq_true', Bool.not_eq_false'])
      all_goals first
        | (have ev := e1 (by omega)
           rw [ev]
           (refine cut_end [] (()) (by simp only [go_sem, Bool.not_eq_true', Bool.not_eq_false']; rfl) ?_ ?_; (focus (simp only [go_sem, Bool.not_eq_true', Bool.not_eq_false']; done)))
           trivial)
        | (have ev := e0 (by omega) (by omega)
           rw [ev]
           (refine cut_end [] (()) (by simp only [go_sem, Bool.not_eq_true', Bool.not_eq_false']; rfl) ?_ ?_; (focus (simp only [go_sem, Bool.not_eq_true', Bool.not_eq_false']; done)))
           trivial)
        | skip
    · have e : stP l x.text = sty2 := if_neg q
      rw [e] at e0 e1
      simp only [sty2] at e0 e1
      (refine acall2 [] (hlin) (by simp only [go_sem, Bool.not_eq_true', Bool.not_eq_false']; rfl) (fit_of (by simp only [go_sem, Bool.not_eq_true', Bool.not_eq_false']) (by simp only [go_sem, Bool.not_eq_true', Bool.not_eq_false']) (by simp only [go_sem, Bool.not_eq_true', Bool.not_eq_false']) (by simp only [go_sem, Bool.not_eq_true', Bool.not_eq_false']) (by simp only [go_sem, Bool.not_eq_true', Bool.not_eq_false']) (by simp only [go_sem, Bool.not_eq_true', Bool.not_eq_false']) (by simp only [go_sem, Bool.not_eq_true', Bool.not_eq_false'])) ?_; simp only [go_sem, Bool.not_eq_true', Bool.not_eq_false'])
      repeat' first | contradiction | intro _ | refine And.intro ?_ ?_ | refine ex_get (by omega) ?_ | (show drawB _ _ = true; kernel_rfl) | (refine ret2 [] (by simp only [go_sem, Bool.not_eq_true', Bool.not_eq_false']; rfl) ?_; simp only [go_sem, Bool.not_eq_true', Bool.not_eq_false'])
      all_goals first
        | (have ev := e1 (by omega)
           rw [ev]
           (refine cut_end [] (()) (by simp only [go_sem, Bool.not_eq_true', Bool.not_eq_false']; rfl) ?_ ?_; (focus (simp only [go_sem, Bool.not_eq_true', Bool.not_eq_false']; done)))
           trivial)
        | (have ev := e0 (by omega) (by omega)
           rw [ev]
           (refine cut_end [] (()) (by simp only [go_sem, Bool.not_eq_true', Bool.not_eq_false']; rfl) ?_ ?_; (focus (simp only [go_sem, Bool.not_eq_true', Bool.not_eq_false']; done)))
           trivial)
        | skip
  rintro - -
  have hV : ∀ c : Bool, 0 ≤ b01 c 1 ∧ b01 c 1 ≤ 1 := fun c => by cases c <;> simp [b01]
  have hV1 := hV (fewB l of k x)
  generalize b01 (fewB l of k x) 1 = V at hV1 ⊢
  (refine swp_seqW ?_; simp only [go_sem, Bool.not_eq_true', Bool.not_eq_false'])
  refine swp_cutS (fun _ : Unit => stQ l of k x [(8, .raw (.int .i64 V)), (14, .raw (.int .i64 (b01 (x.both.any (insI l)) 1)))]) (fun _ => True) 200 ?_ ?_
  · (refine swp_seqW ?_; simp only [go_sem, Bool.not_eq_true', Bool.not_eq_false'])
    refine swp_block ?_
    refine swp_loop2 [] (fun z : KY Int => stQ l of k x [(8, .raw (.int .i64 V)), (14, .raw (.int .i64 z.o)), (15, .raw (.int .i64 z.k))]) (fun z => z.k ≤ x.both.length ∧ z.o = b01 ((x.both.take z.k).any (insI l)) 1) (fun z => x.both.length - z.k) 200 ⟨0, 0⟩ (by simp only [go_sem, Bool.not_eq_true', Bool.not_eq_false']; rfl) (by simp only [go_sem, Bool.not_eq_true', Bool.not_eq_false']) ?_ ?_
    · exact ⟨Nat.zero_le _, rfl⟩
    · rintro ⟨j, o⟩ ⟨j1, j2⟩
      simp only at j1 j2
      (refine swp_lastW ?_; simp only [go_sem, Bool.not_eq_true', Bool.not_eq_false', List.length_map])
      refine ⟨fun h5 => ?_, fun h5 => ?_⟩
      · have hj : j < x.both.length := by omega
        have hb := hbo _ (List.getElem_mem hj)
        have hi := ins_ran hv hb
        have hh := hasN_iff.1 hb
        have e1 : b01 ((x.both.take (j + 1)).any (insI l)) 1 = max o (styN l x.both[j]).inside := by
          rw [List.take_succ_eq_append_getElem hj, List.any_append, j2]
          have e2 : [x.both[j]].any (insI l) = decide ((styN l x.both[j]).inside = 1) := by simp [insI]
          rw [e2]
          cases (x.both.take j).any (insI l) <;> rcases hi with q | q <;> rw [q] <;> rfl
        refine ⟨by omega, ex_get hj ?_⟩
        generalize x.both[j] = b at hh e1 ⊢
        obtain ⟨n, rfl⟩ : ∃ n : Nat, b = n := ⟨b.toNat, by omega⟩
        have hn2 : n < l.length := by omega
        rw [styN_get hn2] at e1
        refine ⟨by omega, ?_⟩
        simp only [Int.toNat_natCast]
        refine ex_get hn2 ⟨by omega, ?_⟩
        (refine loop_end [] (⟨j + 1, max o l[n].st.inside⟩) (by simp only [go_sem, Bool.not_eq_true', Bool.not_eq_false']; rfl) ?_ ?_ ?_; (focus first | omega | (simp only; omega)); (focus (simp only [go_sem, Bool.not_eq_true', Bool.not_eq_false']; done)))
        exact ⟨hj, e1.symm⟩
      · rw [List.take_of_length_le (by omega)] at j2
        rw [j2]
        (refine cut_end [] (()) (by simp only [go_sem, Bool.not_eq_true', Bool.not_eq_false']; rfl) ?_ ?_; (focus (simp only [go_sem, Bool.not_eq_true', Bool.not_eq_false']; done)))
        trivial
  rintro - -
  have hW1 := hV (x.both.any (insI l))
  generalize b01 (x.both.any (insI l)) 1 = W at hW1 ⊢
  have hal := askA_len l of k
  (refine swp_seqW ?_; simp only [go_sem, Bool.not_eq_true', Bool.not_eq_false'])
  refine swp_cutS (fun _ : Unit => ⟨[(8, .raw (.int .i64 V)), (14, .raw (.int .i64 W)), (16, .raw (.int .i64 0)), (17, .sl 1 ((askA l of k).map cInt))], [], none⟩) (fun _ => True) 300 ?_ ?_
  · (refine swp_lastW ?_; simp only [go_sem, Bool.not_eq_true', Bool.not_eq_false'])
    (refine acall2 [] (rasked_ok l of k hl ho hk hc) (by simp only [go_sem, Bool.not_eq_true', Bool.not_eq_false']; rfl) (fit_of (by simp only [go_sem, Bool.not_eq_true', Bool.not_eq_false']) (by simp only [go_sem, Bool.not_eq_true', Bool.not_eq_false']) (by simp only [go_sem, Bool.not_eq_true', Bool.not_eq_false']) (by simp only [go_sem, Bool.not_eq_true', Bool.not_eq_false']) (by simp only [go_sem, Bool.not_eq_true', Bool.not_eq_false']) (by simp only [go_sem, Bool.not_eq_true', Bool.not_eq_false']) (by simp only [go_sem, Bool.not_eq_true', Bool.not_eq_false'])) ?_; simp only [go_sem, Bool.not_eq_true', Bool.not_eq_false'])
    (refine cut_end [1632 ] ( ()) (by simp only [go_sem, Bool.not_eq_true', Bool.not_eq_false']; rfl) ?_ ?_; (focus (simp only [go_sem, Bool.not_eq_true', Bool.not_eq_false']; done)))
    trivial
  rintro - -
  rw [betB]
  have hW2 := hV ((askA l of k).any (fun y => decide (1 = y)))
  generalize askA l of k = all at hal hW2 ⊢
  refine swp_cutS (fun _ : Unit => ⟨[(8, .raw (.int .i64 V)), (14, .raw (.int .i64 W)), (16, .raw (.int .i64 (b01 (all.any (fun y => decide (1 = y))) 1)))], [], none⟩) (fun _ => True) 300 ?_ ?_
  · (refine swp_seqW ?_; simp only [go_sem, Bool.not_eq_true', Bool.not_eq_false'])
    refine swp_block ?_
    refine swp_loop2 [] (fun z : KY Int => ⟨[(8, .raw (.int .i64 V)), (14, .raw (.int .i64 W)), (16, .raw (.int .i64 z.o)), (17, .sl 1 (all.map cInt)), (18, .raw (.int .i64 z.k))], [], none⟩) (fun z => z.k ≤ all.length ∧ z.o = b01 ((all.take z.k).any (fun y => decide (1 = y))) 1) (fun z => all.length - z.k) 300 ⟨0, 0⟩ (by simp only [go_sem, Bool.not_eq_true', Bool.not_eq_false']; rfl) (by simp only [go_sem, Bool.not_eq_true', Bool.not_eq_false']) ?_ ?_
    · exact ⟨Nat.zero_le _, rfl⟩
    · rintro ⟨j, o⟩ ⟨j1, j2⟩
      simp only at j1 j2
      (refine swp_lastW ?_; simp only [go_sem, Bool.not_eq_true', Bool.not_eq_false', List.length_map])
      refine ⟨fun h5 => ?_, fun h5 => ?_⟩
      · have hj : j < all.length := by omega
        have e1 : b01 ((all.take (j + 1)).any (fun y => decide (1 = y))) 1 = if all[j] = 1 then 1 else o := by
          rw [List.take_succ_eq_append_getElem hj, List.any_append, j2]
          by_cases q : all[j] = 1
          · rw [if_pos q]
            simp [q, b01]
          · have q2 : ¬ 1 = all[j] := fun h => q h.symm
            rw [if_neg q]
            simp [q2]
        refine ⟨by omega, ex_get hj ⟨fun q => ?_, fun q => ?_⟩⟩
        · rw [if_pos q] at e1
          refine ⟨by omega, ?_⟩
          (refine loop_end [] (⟨j + 1, 1⟩) (by simp only [go_sem, Bool.not_eq_true', Bool.not_eq_false']; rfl) ?_ ?_ ?_; (focus first | omega | (simp only; omega)); (focus (simp only [go_sem, Bool.not_eq_true', Bool.not_eq_false']; done)))
          exact ⟨hj, e1.symm⟩
        · rw [if_neg q] at e1
          refine ⟨by omega, ?_⟩
          (refine loop_end [] (⟨j + 1, o⟩) (by simp only [go_sem, Bool.not_eq_true', Bool.not_eq_false']; rfl) ?_ ?_ ?_; (focus first | omega | (simp only; omega)); (focus (simp only [go_sem, Bool.not_eq_true', Bool.not_eq_false']; done)))
          exact ⟨hj, e1.symm⟩
      · rw [List.take_of_length_le (by omega)] at j2
        rw [j2]
        (refine cut_end [] (()) (by simp only [go_sem, Bool.not_eq_true', Bool.not_eq_false']; rfl) ?_ ?_; (focus (simp only [go_sem, Bool.not_eq_true', Bool.not_eq_false']; done)))
        trivial
  rintro - -
  generalize b01 (all.any (fun y => decide (1 = y))) 1 = Z at hW2 ⊢
  (refine swp_lastW ?_; simp only [go_sem, Bool.not_eq_true', Bool.not_eq_false'])
  repeat' first | contradiction | intro _ | refine And.intro ?_ ?_ | refine ex_get (by omega) ?_ | (show drawB _ _ = true; kernel_rfl) | (refine ret2 [] (by simp only [go_sem, Bool.not_eq_true', Bool.not_eq_false']; rfl) ?_; simp only [go_sem, Bool.not_eq_true', Bool.not_eq_false'])
  all_goals first
    | omega
    | skip
set_option maxRecDepth 100000 in
set_option maxHeartbeats 4000000 in
theorem rallR_ok (l : List LNo) (of : List Int) (hl : l.length ≤ 1000) (ho : of.length ≤ 1000) (hc : chkB l of = true) : FnOk Try.prog 43 [.sl 20 (l.map cNo), .sl 1 (of.map cInt)] [] (.hdr 8) [(8, .row 3 1 ((allR l of).map cInt))] := by
  have ea : allR l of = (List.range (of.length + 1)).map (fun k : Nat => rnkA l of k) := by unfold allR; rw [if_pos hc]
  rw [ea]
  refine fn_of_awp Try.func43 rfl (by kernel_rfl) (by kernel_rfl) (Nat.le_of_ble_eq_true rfl) Try.results43 ?_
  simp only [go_sem, Bool.not_eq_true', Bool.not_eq_false', List.length_map]
  refine aloop2 [] (fun z : KY (List Int) => ⟨[(0, .sl 20 (l.map cNo)), (1, .sl 1 (of.map cInt)), (5, .hdr 16), (6, .raw (.int .i64 z.k))], [(16, some (.row 3 1 (z.o.map cInt)))], none⟩) (fun z => z.k ≤ of.length + 1 ∧ z.o = (List.range z.k).map (fun k : Nat => rnkA l of k)) (fun z => of.length + 1 - z.k) 40 ⟨0, []⟩ (by simp only [go_sem, Bool.not_eq_true', Bool.not_eq_false']; rfl) (by simp only [go_sem, Bool.not_eq_true', Bool.not_eq_false']) ?_ ?_
  · exact ⟨Nat.zero_le _, rfl⟩
  · rintro ⟨k, o⟩ ⟨k1, k2⟩
    simp only at k1 k2
    have hol : o.length = k := by rw [k2]; simp
    simp only [go_sem, Bool.not_eq_true', Bool.not_eq_false', List.length_map]
    refine ⟨fun h5 => ?_, fun h5 => ?_⟩
    · (refine acall2 [] (rrnk_ok l of k hl ho (by omega) hc) (by simp only [go_sem, Bool.not_eq_true', Bool.not_eq_false']; rfl) (fit_of (by simp only [go_sem, Bool.not_eq_true', Bool.not_eq_false']) (by simp only [go_sem, Bool.not_eq_true', Bool.not_eq_false']) (by simp only [go_sem, Bool.not_eq_true', Bool.not_eq_false']) (by simp only [go_sem, Bool.not_eq_true', Bool.not_eq_false']) (by simp only [go_sem, Bool.not_eq_true', Bool.not_eq_false']) (by simp only [go_sem, Bool.not_eq_true', Bool.not_eq_false']) (by simp only [go_sem, Bool.not_eq_true', Bool.not_eq_false'])) ?_; simp only [go_sem, Bool.not_eq_true', Bool.not_eq_false'])
      repeat' first | contradiction | intro _ | refine And.intro ?_ ?_ | refine ex_get (by omega) ?_ | (show drawB _ _ = true; kernel_rfl) | (refine ret2 [] (by simp only [go_sem, Bool.not_eq_true', Bool.not_eq_false']; rfl) ?_; simp only [go_sem, Bool.not_eq_true', Bool.not_eq_false'])
      all_goals first
        | omega
        | skip
      (refine loop_end [] (⟨k + 1, o ++ [rnkA l of k]⟩) (by simp only [go_sem, Bool.not_eq_true', Bool.not_eq_false']; rfl) ?_ ?_ ?_; (focus first | omega | (simp only; omega)); (focus (simp only [go_sem, Bool.not_eq_true', Bool.not_eq_false', List.map_append]; done)))
      simp only
      exact ⟨by omega, by rw [k2, List.range_succ, List.map_append]; rfl⟩
    · have e5 : k = of.length + 1 := by omega
      rw [e5, List.range_succ] at k2
      rw [← k2]
      (refine ret2 [] (by simp only [go_sem, Bool.not_eq_true', Bool.not_eq_false']; rfl) ?_; simp only [go_sem, Bool.not_eq_true', Bool.not_eq_false'])
end Go.Proofs.Ytbgcmnccjfdooaa
/- CHAPTER 18: the law RankTells. -/
/- G -/
/- BOOLS -/
set_option linter.unusedSimpArgs false
set_option linter.unusedVariables false
namespace Go.Proofs.Ytbgcmnccjfdooaa
open Go.RowKit

theorem allR_len (l : List LNo) (of : List Int) : (allR l of).length ≤ of.length + 1 := by unfold allR; split <;> simp
theorem linK_no {l : List LNo} {of : List Int} {k : Int} {f : Int → Int → Int} (h : kinG l of k = false) : linK l of k f = 0 := by unfold linK; rw [if_neg (by simp [h])]
theorem rnkA_no {l : List LNo} {of : List Int} {k : Int} (h : kinG l of k = false) : rnkA l of k = 0 := by unfold rnkA; rw [if_neg (by simp [h])]
theorem linK_is {l : List LNo} {of : List Int} {k : Int} {f : Int → Int → Int} (h : kinG l of k = true) : linK l of k f = f k (kinA l of k).text := by unfold linK; rw [if_pos h]
set_option maxRecDepth 100000 in
set_option maxHeartbeats 8000000 in
theorem rankTells_ok (l : List LNo) (of : List Int) (k : Int) : FnOk Try.prog 9 [.sl 20 (l.map cNo), .sl 1 (of.map cInt), .raw (.int .i64 k)] [] (.raw (.bool true)) [] := by
  refine fn_of_swp Try.func9 rfl (by kernel_rfl) (by kernel_rfl) (Nat.le_of_ble_eq_true rfl) Try.results9 ?_
  (refine swp_seqW ?_; simp only [go_sem, Bool.not_eq_true', Bool.not_eq_false'])
  (refine swp_seqW ?_; simp only [go_sem, Bool.not_eq_true', Bool.not_eq_false'])
  (refine acall2 [] (vast18_ok l of) (by simp only [go_sem, Bool.not_eq_true', Bool.not_eq_false']; rfl) (fit_of (by simp only [go_sem, Bool.not_eq_true', Bool.not_eq_false']) (by simp only [go_sem, Bool.not_eq_true', Bool.not_eq_false']) (by simp only [go_sem, Bool.not_eq_true', Bool.not_eq_false']) (by simp only [go_sem, Bool.not_eq_true', Bool.not_eq_false']) (by simp only [go_sem, Bool.not_eq_true', Bool.not_eq_false']) (by simp only [go_sem, Bool.not_eq_true', Bool.not_eq_false']) (by simp only [go_sem, Bool.not_eq_true', Bool.not_eq_false'])) ?_; simp only [go_sem, Bool.not_eq_true', Bool.not_eq_false'])
  refine ⟨fun h1 => ?_, fun h1 => ?_⟩
  · (refine acall2 [] (awake18_ok) (by simp only [go_sem, Bool.not_eq_true', Bool.not_eq_false']; rfl) (fit_of (by simp only [go_sem, Bool.not_eq_true', Bool.not_eq_false']) (by simp only [go_sem, Bool.not_eq_true', Bool.not_eq_false']) (by simp only [go_sem, Bool.not_eq_true', Bool.not_eq_false']) (by simp only [go_sem, Bool.not_eq_true', Bool.not_eq_false']) (by simp only [go_sem, Bool.not_eq_true', Bool.not_eq_false']) (by simp only [go_sem, Bool.not_eq_true', Bool.not_eq_false']) (by simp only [go_sem, Bool.not_eq_true', Bool.not_eq_false'])) ?_; simp only [go_sem, Bool.not_eq_true', Bool.not_eq_false'])
  obtain ⟨hl6, ho6, hw6⟩ := vst2_no h1
  have hl : l.length ≤ 1000 := by omega
  have ho : of.length ≤ 1000 := by omega
  have hw : ∀ x ∈ l, x.words.length ≤ 9223372036854775807 := fun x hx => by have := hw6 x hx; omega
  have hw2 : ∀ x ∈ l, x.words.length ≤ 1000 := fun x hx => by have := hw6 x hx; omega
  have hll := allR_len l of
  refine swp_cutS (fun _ : Unit => stF l of k [(7, .sl 20 (l.map cNo)), (8, .sl 1 (of.map cInt))]) (fun _ => True) 3 ?_ ?_
  · (refine swp_lastW ?_; simp only [go_sem, Bool.not_eq_true', Bool.not_eq_false'])
    (refine acall2 [] (own5_ok l hl hw2) (by simp only [go_sem, Bool.not_eq_true', Bool.not_eq_false']; rfl) (fit_of (by simp only [go_sem, Bool.not_eq_true', Bool.not_eq_false']) (by simp only [go_sem, Bool.not_eq_true', Bool.not_eq_false']) (by simp only [go_sem, Bool.not_eq_true', Bool.not_eq_false']) (by simp only [go_sem, Bool.not_eq_true', Bool.not_eq_false']) (by simp only [go_sem, Bool.not_eq_true', Bool.not_eq_false']) (by simp only [go_sem, Bool.not_eq_true', Bool.not_eq_false']) (by simp only [go_sem, Bool.not_eq_true', Bool.not_eq_false'])) ?_; simp only [go_sem, Bool.not_eq_true', Bool.not_eq_false'])
    refine ⟨⟨by omega, by omega⟩, ?_⟩
    (refine cut_end [48, 72 ] ( ()) (by simp only [go_sem, Bool.not_eq_true', Bool.not_eq_false']; rfl) ?_ ?_; (focus (simp only [go_sem, Bool.not_eq_true', Bool.not_eq_false']; done)))
    trivial
  rintro - -
  (refine swp_seqW ?_; simp only [go_sem, Bool.not_eq_true', Bool.not_eq_false'])
  (refine acall2 [] (linK_ok l of k hl ho hw) (by simp only [go_sem, Bool.not_eq_true', Bool.not_eq_false']; rfl) (fit_of (by simp only [go_sem, Bool.not_eq_true', Bool.not_eq_false']) (by simp only [go_sem, Bool.not_eq_true', Bool.not_eq_false']) (by simp only [go_sem, Bool.not_eq_true', Bool.not_eq_false']) (by simp only [go_sem, Bool.not_eq_true', Bool.not_eq_false']) (by simp only [go_sem, Bool.not_eq_true', Bool.not_eq_false']) (by simp only [go_sem, Bool.not_eq_true', Bool.not_eq_false']) (by simp only [go_sem, Bool.not_eq_true', Bool.not_eq_false'])) ?_; simp only [go_sem, Bool.not_eq_true', Bool.not_eq_false'])
  (refine swp_seqW ?_; simp only [go_sem, Bool.not_eq_true', Bool.not_eq_false'])
  (refine acall2 [] (rnkA_ok l of k hl ho hw) (by simp only [go_sem, Bool.not_eq_true', Bool.not_eq_false']; rfl) (fit_of (by simp only [go_sem, Bool.not_eq_true', Bool.not_eq_false']) (by simp only [go_sem, Bool.not_eq_true', Bool.not_eq_false']) (by simp only [go_sem, Bool.not_eq_true', Bool.not_eq_false']) (by simp only [go_sem, Bool.not_eq_true', Bool.not_eq_false']) (by simp only [go_sem, Bool.not_eq_true', Bool.not_eq_false']) (by simp only [go_sem, Bool.not_eq_true', Bool.not_eq_false']) (by simp only [go_sem, Bool.not_eq_true', Bool.not_eq_false'])) ?_; simp only [go_sem, Bool.not_eq_true', Bool.not_eq_false'])
  refine swp_cutS (fun _ : Unit => stF l of k [(7, .sl 20 (l.map cNo)), (8, .sl 1 (of.map cInt)), (9, .raw (.int .i64 (linK l of k (linA of)))), (10, .raw (.int .i64 (linK l of k (linB of)))), (11, .raw (.int .i64 (errB (kinG l of k)))), (12, .raw (.int .i64 (rnkA l of k))), (13, .raw (.int .i64 (errB (kinG l of k)))), (14, .sl 1 ((allR l of).map cInt)), (15, .raw (.int .i64 (errB (chkB l of))))]) (fun _ => True) 6 ?_ ?_
  · (refine swp_lastW ?_; simp only [go_sem, Bool.not_eq_true', Bool.not_eq_false'])
    (refine acall2 [] (allR_ok l of hl ho hw) (by simp only [go_sem, Bool.not_eq_true', Bool.not_eq_false']; rfl) (fit_of (by simp only [go_sem, Bool.not_eq_true', Bool.not_eq_false']) (by simp only [go_sem, Bool.not_eq_true', Bool.not_eq_false']) (by simp only [go_sem, Bool.not_eq_true', Bool.not_eq_false']) (by simp only [go_sem, Bool.not_eq_true', Bool.not_eq_false']) (by simp only [go_sem, Bool.not_eq_true', Bool.not_eq_false']) (by simp only [go_sem, Bool.not_eq_true', Bool.not_eq_false']) (by simp only [go_sem, Bool.not_eq_true', Bool.not_eq_false'])) ?_; simp only [go_sem, Bool.not_eq_true', Bool.not_eq_false'])
    (refine cut_end [200 ] ( ()) (by simp only [go_sem, Bool.not_eq_true', Bool.not_eq_false']; rfl) ?_ ?_; (focus (simp only [go_sem, Bool.not_eq_true', Bool.not_eq_false']; done)))
    trivial
  rintro - -
  (refine swp_seqW ?_; simp only [go_sem, Bool.not_eq_true', Bool.not_eq_false'])
  (refine acall2 [] (same5_ok l hl hw) (by simp only [go_sem, Bool.not_eq_true', Bool.not_eq_false']; rfl) (fit_of (by simp only [go_sem, Bool.not_eq_true', Bool.not_eq_false']) (by simp only [go_sem, Bool.not_eq_true', Bool.not_eq_false']) (by simp only [go_sem, Bool.not_eq_true', Bool.not_eq_false']) (by simp only [go_sem, Bool.not_eq_true', Bool.not_eq_false']) (by simp only [go_sem, Bool.not_eq_true', Bool.not_eq_false']) (by simp only [go_sem, Bool.not_eq_true', Bool.not_eq_false']) (by simp only [go_sem, Bool.not_eq_true', Bool.not_eq_false'])) ?_; simp only [go_sem, Bool.not_eq_true', Bool.not_eq_false'])
  (refine acall2 [] (ints8_ok of of ho ho) (by simp only [go_sem, Bool.not_eq_true', Bool.not_eq_false']; rfl) (fit_of (by simp only [go_sem, Bool.not_eq_true', Bool.not_eq_false']) (by simp only [go_sem, Bool.not_eq_true', Bool.not_eq_false']) (by simp only [go_sem, Bool.not_eq_true', Bool.not_eq_false']) (by simp only [go_sem, Bool.not_eq_true', Bool.not_eq_false']) (by simp only [go_sem, Bool.not_eq_true', Bool.not_eq_false']) (by simp only [go_sem, Bool.not_eq_true', Bool.not_eq_false']) (by simp only [go_sem, Bool.not_eq_true', Bool.not_eq_false'])) ?_; simp only [go_sem, Bool.not_eq_true', Bool.not_eq_false'])
  (refine swp_seqW ?_; simp only [go_sem, Bool.not_eq_true', Bool.not_eq_false'])
  (refine acall2 [] (rcheck_ok l of hl ho hw) (by simp only [go_sem, Bool.not_eq_true', Bool.not_eq_false']; rfl) (fit_of (by simp only [go_sem, Bool.not_eq_true', Bool.not_eq_false']) (by simp only [go_sem, Bool.not_eq_true', Bool.not_eq_false']) (by simp only [go_sem, Bool.not_eq_true', Bool.not_eq_false']) (by simp only [go_sem, Bool.not_eq_true', Bool.not_eq_false']) (by simp only [go_sem, Bool.not_eq_true', Bool.not_eq_false']) (by simp only [go_sem, Bool.not_eq_true', Bool.not_eq_false']) (by simp only [go_sem, Bool.not_eq_true', Bool.not_eq_false'])) ?_; simp only [go_sem, Bool.not_eq_true', Bool.not_eq_false'])
  cases hc : chkB l of with
  | false =>
    have e1 : kinG l of k = false := kinG_no (.inl hc)
    have e2 : allR l of = [] := by unfold allR; rw [hc]; rfl
    have e3 : errB false = 4 := rfl
    rw [e1, e2, linK_no e1, linK_no e1, rnkA_no e1, e3]
    refine ⟨fun _ => ?_, fun q => by omega⟩
    repeat' first | contradiction | intro _ | refine And.intro ?_ ?_ | refine ex_get (by omega) ?_ | (show drawB _ _ = true; kernel_rfl) | (refine ret2 [] (by simp only [go_sem, Bool.not_eq_true', Bool.not_eq_false']; rfl) ?_; simp only [go_sem, Bool.not_eq_true', Bool.not_eq_false']) | (refine acall2 [] (awake18_ok) (by simp only [go_sem, Bool.not_eq_true', Bool.not_eq_false']; rfl) (fit_of (by simp only [go_sem, Bool.not_eq_true', Bool.not_eq_false']) (by simp only [go_sem, Bool.not_eq_true', Bool.not_eq_false']) (by simp only [go_sem, Bool.not_eq_true', Bool.not_eq_false']) (by simp only [go_sem, Bool.not_eq_true', Bool.not_eq_false']) (by simp only [go_sem, Bool.not_eq_true', Bool.not_eq_false']) (by simp only [go_sem, Bool.not_eq_true', Bool.not_eq_false']) (by simp only [go_sem, Bool.not_eq_true', Bool.not_eq_false'])) ?_; simp only [go_sem, Bool.not_eq_true', Bool.not_eq_false'])
    all_goals first
      | omega
      | (simp; done)
      | (exfalso; simp at *; done)
      | skip
  | true =>
    have e3 : errB true = 0 := rfl
    rw [e3]
    refine ⟨fun q => absurd rfl q, fun _ => ?_⟩
    (refine swp_seqW ?_; simp only [go_sem, Bool.not_eq_true', Bool.not_eq_false'])
    (refine acall2 [] (rallR_ok l of hl ho hc) (by simp only [go_sem, Bool.not_eq_true', Bool.not_eq_false']; rfl) (fit_of (by simp only [go_sem, Bool.not_eq_true', Bool.not_eq_false']) (by simp only [go_sem, Bool.not_eq_true', Bool.not_eq_false']) (by simp only [go_sem, Bool.not_eq_true', Bool.not_eq_false']) (by simp only [go_sem, Bool.not_eq_true', Bool.not_eq_false']) (by simp only [go_sem, Bool.not_eq_true', Bool.not_eq_false']) (by simp only [go_sem, Bool.not_eq_true', Bool.not_eq_false']) (by simp only [go_sem, Bool.not_eq_true', Bool.not_eq_false'])) ?_; simp only [go_sem, Bool.not_eq_true', Bool.not_eq_false'])
    (refine acallF2 [208 ] [] ( ints8_ok (allR l of) (allR l of) (by omega) (by omega)) (by simp only [go_sem, Bool.not_eq_true', Bool.not_eq_false']; rfl) (fit_of (by simp only [go_sem, Bool.not_eq_true', Bool.not_eq_false']) (by simp only [go_sem, Bool.not_eq_true', Bool.not_eq_false']) (by simp only [go_sem, Bool.not_eq_true', Bool.not_eq_false']) (by simp only [go_sem, Bool.not_eq_true', Bool.not_eq_false']) (by simp only [go_sem, Bool.not_eq_true', Bool.not_eq_false']) (by simp only [go_sem, Bool.not_eq_true', Bool.not_eq_false']) (by simp only [go_sem, Bool.not_eq_true', Bool.not_eq_false'])) ?_; simp only [go_sem, Bool.not_eq_true', Bool.not_eq_false'])
    by_cases hk : 0 ≤ k ∧ k ≤ of.length
    rotate_left
    · have e1 : kinG l of k = false := kinG_no (.inr hk)
      have e4 : errB false = 4 := rfl
      rw [e1, linK_no e1, linK_no e1, rnkA_no e1, e4]
      (refine swp_seqW ?_; simp only [go_sem, Bool.not_eq_true', Bool.not_eq_false', List.length_map])
      repeat' first | contradiction | intro _ | refine And.intro ?_ ?_ | refine ex_get (by omega) ?_ | (show drawB _ _ = true; kernel_rfl) | (refine ret2 [] (by simp only [go_sem, Bool.not_eq_true', Bool.not_eq_false', List.map]; rfl) ?_; simp only [go_sem, Bool.not_eq_true', Bool.not_eq_false', List.map]) | (refine acall2 [] (awake18_ok) (by simp only [go_sem, Bool.not_eq_true', Bool.not_eq_false']; rfl) (fit_of (by simp only [go_sem, Bool.not_eq_true', Bool.not_eq_false']) (by simp only [go_sem, Bool.not_eq_true', Bool.not_eq_false']) (by simp only [go_sem, Bool.not_eq_true', Bool.not_eq_false']) (by simp only [go_sem, Bool.not_eq_true', Bool.not_eq_false']) (by simp only [go_sem, Bool.not_eq_true', Bool.not_eq_false']) (by simp only [go_sem, Bool.not_eq_true', Bool.not_eq_false']) (by simp only [go_sem, Bool.not_eq_true', Bool.not_eq_false'])) ?_; simp only [go_sem, Bool.not_eq_true', Bool.not_eq_false', List.map])
      all_goals first
        | omega
        | (simp; done)
        | (exfalso; simp at *; done)
        | skip
    have e1 : kinG l of k = true := kinG_chk hc hk
    rw [e1, e3]
    (refine swp_seqW ?_; simp only [go_sem, Bool.not_eq_true', Bool.not_eq_false', List.length_map])
    refine ⟨fun _ => ⟨fun q => by omega, fun _ => ?_⟩, fun q => by omega⟩
    (refine swp_seqW ?_; simp only [go_sem, Bool.not_eq_true', Bool.not_eq_false'])
    (refine acall2 [] (rlin_ok l of k hl ho hk hc) (by simp only [go_sem, Bool.not_eq_true', Bool.not_eq_false']; rfl) (fit_of (by simp only [go_sem, Bool.not_eq_true', Bool.not_eq_false']) (by simp only [go_sem, Bool.not_eq_true', Bool.not_eq_false']) (by simp only [go_sem, Bool.not_eq_true', Bool.not_eq_false']) (by simp only [go_sem, Bool.not_eq_true', Bool.not_eq_false']) (by simp only [go_sem, Bool.not_eq_true', Bool.not_eq_false']) (by simp only [go_sem, Bool.not_eq_true', Bool.not_eq_false']) (by simp only [go_sem, Bool.not_eq_true', Bool.not_eq_false'])) ?_; simp only [go_sem, Bool.not_eq_true', Bool.not_eq_false'])
    rw [linK_is e1, linK_is e1]
    (refine swp_lastW ?_; simp only [go_sem, Bool.not_eq_true', Bool.not_eq_false'])
    (refine acall2 [] (rrnk_ok l of k hl ho hk hc) (by simp only [go_sem, Bool.not_eq_true', Bool.not_eq_false']; rfl) (fit_of (by simp only [go_sem, Bool.not_eq_true', Bool.not_eq_false']) (by simp only [go_sem, Bool.not_eq_true', Bool.not_eq_false']) (by simp only [go_sem, Bool.not_eq_true', Bool.not_eq_false']) (by simp only [go_sem, Bool.not_eq_true', Bool.not_eq_false']) (by simp only [go_sem, Bool.not_eq_true', Bool.not_eq_false']) (by simp only [go_sem, Bool.not_eq_true', Bool.not_eq_false']) (by simp only [go_sem, Bool.not_eq_true', Bool.not_eq_false'])) ?_; simp only [go_sem, Bool.not_eq_true', Bool.not_eq_false'])
    (refine acall2 [] (awake18_ok) (by simp only [go_sem, Bool.not_eq_true', Bool.not_eq_false']; rfl) (fit_of (by simp only [go_sem, Bool.not_eq_true', Bool.not_eq_false']) (by simp only [go_sem, Bool.not_eq_true', Bool.not_eq_false']) (by simp only [go_sem, Bool.not_eq_true', Bool.not_eq_false']) (by simp only [go_sem, Bool.not_eq_true', Bool.not_eq_false']) (by simp only [go_sem, Bool.not_eq_true', Bool.not_eq_false']) (by simp only [go_sem, Bool.not_eq_true', Bool.not_eq_false']) (by simp only [go_sem, Bool.not_eq_true', Bool.not_eq_false'])) ?_; simp only [go_sem, Bool.not_eq_true', Bool.not_eq_false'])
end Go.Proofs.Ytbgcmnccjfdooaa
/- CHAPTER 18: the plain law of RankParts. -/
/- G -/
/- BOOLS -/
set_option linter.unusedSimpArgs false
set_option linter.unusedVariables false
namespace Go.Proofs.Ytbgcmnccjfdooaa
open Go.RowKit

/-- how many atoms are a text's, among the first. -/
def cntT (of : List Int) (t : Int) : Nat → Nat
  | 0 => 0
  | j + 1 => cntT of t j + if of.getD j 0 = t then 1 else 0
theorem cnt_sum (of : List Int) (t k : Int) : ∀ j, cntA of t k j + cntB of t k j = cntT of t j
  | 0 => rfl
  | j + 1 => by
    have := cnt_sum of t k j
    rw [cntA, cntB, cntT]
    by_cases q : of.getD j 0 = t <;> by_cases h : (j : Int) < k <;> simp [q, h] <;> omega
theorem cntA_pos (of : List Int) (t k : Int) (i : Nat) (h : of.getD i 0 = t) (hk : (i : Int) < k) : ∀ j, i < j → 1 ≤ cntA of t k j
  | 0, h => absurd h (Nat.not_lt_zero _)
  | j + 1, h2 => by
    rcases Nat.lt_succ_iff_lt_or_eq.1 h2 with q | q
    · have := cntA_pos of t k i h hk j q
      rw [cntA]; omega
    · subst q
      rw [cntA, if_pos ⟨h, hk⟩]; omega
theorem cntB_pos (of : List Int) (t k : Int) (i : Nat) (h : of.getD i 0 = t) (hk : ¬ (i : Int) < k) : ∀ j, i < j → 1 ≤ cntB of t k j
  | 0, h => absurd h (Nat.not_lt_zero _)
  | j + 1, h2 => by
    rcases Nat.lt_succ_iff_lt_or_eq.1 h2 with q | q
    · have := cntB_pos of t k i h hk j q
      rw [cntB]; omega
    · subst q
      rw [cntB, if_pos ⟨h, hk⟩]; omega
structure PrtP (l : List LNo) (of : List Int) (k n a b t : Int) : Prop where
  ran : 0 ≤ n ∧ n ≤ 7
  text : 0 ≤ t → andI n 4 = 0
  none : t < 0 → andI n 1 = 0 ∧ a + b = 0
  sum : 0 ≤ t → a + b = cntT of t of.length
  some : 0 ≤ t → 1 ≤ a ∧ 1 ≤ b
theorem txt_in {of : List Int} {k : Int} (h : 0 ≤ txtK of k) : 0 < k ∧ k < of.length ∧ of.getD k.toNat 0 = txtK of k ∧ of.getD (k - 1).toNat 0 = txtK of k := by
  unfold txtK at h ⊢
  split at h
  · next q => rw [if_pos q]; exact ⟨q.1, q.2.1, rfl, q.2.2.symm⟩
  · omega
theorem prt_law {l : List LNo} {of : List Int} {k : Int} (hc : chkB l of = true) (hk : 0 ≤ k ∧ k ≤ of.length) : PrtP l of k (rnkA l of k) (linA of k (kinA l of k).text) (linB of k (kinA l of k).text) (kinA l of k).text := by
  have hg := kinG_chk hc hk
  have et : (kinA l of k).text = txtK of k := by unfold kinA; rw [if_pos hg]; rfl
  have hbg := kin_text hc hk
  refine ⟨?_, fun h => ?_, fun h => ⟨?_, ?_⟩, fun h => ?_, fun h => ?_⟩
  · unfold rnkA
    split
    · rw [rnkK]
      generalize fewB l of k (kinA l of k) = f
      generalize (kinA l of k).both.any (insI l) = w
      generalize betB l of k = b
      cases f <;> cases w <;> cases b <;> simp [rnkP]
    · omega
  · unfold rnkA
    split
    · rw [rnkK]
      have hb : betB l of k = false := by
        obtain ⟨h1, h2⟩ := hbg h
        unfold betB askA askL
        split
        · rw [h1, h2]; rfl
        · rfl
      rw [hb]
      generalize fewB l of k (kinA l of k) = f
      generalize (kinA l of k).both.any (insI l) = w
      cases f <;> cases w <;> rfl
    · rfl
  · unfold rnkA
    split
    · rw [rnkK]
      have hf : fewB l of k (kinA l of k) = false := by simp only [fewB, Bool.and_eq_false_iff, decide_eq_false_iff_not]; omega
      rw [hf]
      generalize (kinA l of k).both.any (insI l) = w
      generalize betB l of k = b
      cases w <;> cases b <;> rfl
    · rfl
  · rw [linA, linB, if_pos h, if_pos h]; rfl
  · rw [linA, linB, if_neg (by omega), if_neg (by omega)]
    have := cnt_sum of (kinA l of k).text k of.length
    omega
  · rw [et] at h ⊢
    obtain ⟨h1, h2, h3, h4⟩ := txt_in h
    rw [linA, linB, if_neg (by omega), if_neg (by omega)]
    have p1 := cntA_pos of (txtK of k) k (k - 1).toNat h4 (by omega) of.length (by omega)
    have p2 := cntB_pos of (txtK of k) k k.toNat h3 (by omega) of.length (by omega)
    omega
end Go.Proofs.Ytbgcmnccjfdooaa
/- CHAPTER 18: the law RankParts. -/
/- G -/
/- BOOLS -/
set_option linter.unusedSimpArgs false
set_option linter.unusedVariables false
namespace Go.Proofs.Ytbgcmnccjfdooaa
open Go.RowKit

theorem allR_at {l : List LNo} {of : List Int} (hc : chkB l of = true) {k : Nat} (hk : k < (allR l of).length) : (allR l of)[k] = rnkA l of k := by
  simp only [allR, hc, if_true, List.getElem_map, List.getElem_range]
theorem allR_ln {l : List LNo} {of : List Int} (hc : chkB l of = true) : (allR l of).length = of.length + 1 := by simp [allR, hc]
def stT8 (l : List LNo) (of A : List Int) (t : List (Nat × AV)) : AS := ⟨t ++ [(0, .sl 20 (l.map cNo)), (1, .sl 1 (of.map cInt)), (5, .sl 1 (A.map cInt))], [], none⟩
def stR8 (l : List LNo) (of A : List Int) (x : LKin) (k : Nat) (t : List (Nat × AV)) : AS := ⟨t ++ [(0, .sl 20 (l.map cNo)), (1, .sl 1 (of.map cInt)), (5, .sl 1 (A.map cInt)), (7, .raw (.int .i64 k)), (8, .hdr 800)], [(800, some (.cells 28 [.sl 1 (x.ends.map cInt), .sl 1 (x.begins.map cInt), .sl 1 (x.both.map cInt), .raw (.int .i64 x.text)]))], none⟩
attribute [go_sem] stT8 stR8
set_option maxRecDepth 100000 in
set_option maxHeartbeats 8000000 in
theorem rankParts_ok (l : List LNo) (of : List Int) : FnOk Try.prog 10 [.sl 20 (l.map cNo), .sl 1 (of.map cInt)] [] (.raw (.bool true)) [] := by
  refine fn_of_swp Try.func10 rfl (by kernel_rfl) (by kernel_rfl) (Nat.le_of_ble_eq_true rfl) Try.results10 ?_
  (refine swp_seqW ?_; simp only [go_sem, Bool.not_eq_true', Bool.not_eq_false'])
  (refine swp_seqW ?_; simp only [go_sem, Bool.not_eq_true', Bool.not_eq_false'])
  (refine acall2 [] (vast18_ok l of) (by simp only [go_sem, Bool.not_eq_true', Bool.not_eq_false']; rfl) (fit_of (by simp only [go_sem, Bool.not_eq_true', Bool.not_eq_false']) (by simp only [go_sem, Bool.not_eq_true', Bool.not_eq_false']) (by simp only [go_sem, Bool.not_eq_true', Bool.not_eq_false']) (by simp only [go_sem, Bool.not_eq_true', Bool.not_eq_false']) (by simp only [go_sem, Bool.not_eq_true', Bool.not_eq_false']) (by simp only [go_sem, Bool.not_eq_true', Bool.not_eq_false']) (by simp only [go_sem, Bool.not_eq_true', Bool.not_eq_false'])) ?_; simp only [go_sem, Bool.not_eq_true', Bool.not_eq_false'])
  rcases hvs : vst2 l of with _ | _
  rotate_left
  · simp only [go_sem, Bool.not_eq_true', Bool.not_eq_false']
    (refine acall2 [] (awake18_ok) (by simp only [go_sem, Bool.not_eq_true', Bool.not_eq_false']; rfl) (fit_of (by simp only [go_sem, Bool.not_eq_true', Bool.not_eq_false']) (by simp only [go_sem, Bool.not_eq_true', Bool.not_eq_false']) (by simp only [go_sem, Bool.not_eq_true', Bool.not_eq_false']) (by simp only [go_sem, Bool.not_eq_true', Bool.not_eq_false']) (by simp only [go_sem, Bool.not_eq_true', Bool.not_eq_false']) (by simp only [go_sem, Bool.not_eq_true', Bool.not_eq_false']) (by simp only [go_sem, Bool.not_eq_true', Bool.not_eq_false'])) ?_; simp only [go_sem, Bool.not_eq_true', Bool.not_eq_false'])
  obtain ⟨hl6, ho6, hw6⟩ := vst2_no hvs
  have hl : l.length ≤ 1000 := by omega
  have ho : of.length ≤ 1000 := by omega
  have hw : ∀ x ∈ l, x.words.length ≤ 9223372036854775807 := fun x hx => by have := hw6 x hx; omega
  simp only [go_sem, Bool.not_eq_true', Bool.not_eq_false']
  (refine acall2 [] (check16_ok l of hl ho hw) (by simp only [go_sem, Bool.not_eq_true', Bool.not_eq_false']; rfl) (fit_of (by simp only [go_sem, Bool.not_eq_true', Bool.not_eq_false']) (by simp only [go_sem, Bool.not_eq_true', Bool.not_eq_false']) (by simp only [go_sem, Bool.not_eq_true', Bool.not_eq_false']) (by simp only [go_sem, Bool.not_eq_true', Bool.not_eq_false']) (by simp only [go_sem, Bool.not_eq_true', Bool.not_eq_false']) (by simp only [go_sem, Bool.not_eq_true', Bool.not_eq_false']) (by simp only [go_sem, Bool.not_eq_true', Bool.not_eq_false'])) ?_; simp only [go_sem, Bool.not_eq_true', Bool.not_eq_false'])
  rcases hc : chkB l of with _ | _
  · have e3 : errB false = 4 := rfl
    rw [e3]
    refine ⟨fun _ => ?_, fun q => by omega⟩
    (refine acall2 [] (awake18_ok) (by simp only [go_sem, Bool.not_eq_true', Bool.not_eq_false']; rfl) (fit_of (by simp only [go_sem, Bool.not_eq_true', Bool.not_eq_false']) (by simp only [go_sem, Bool.not_eq_true', Bool.not_eq_false']) (by simp only [go_sem, Bool.not_eq_true', Bool.not_eq_false']) (by simp only [go_sem, Bool.not_eq_true', Bool.not_eq_false']) (by simp only [go_sem, Bool.not_eq_true', Bool.not_eq_false']) (by simp only [go_sem, Bool.not_eq_true', Bool.not_eq_false']) (by simp only [go_sem, Bool.not_eq_true', Bool.not_eq_false'])) ?_; simp only [go_sem, Bool.not_eq_true', Bool.not_eq_false'])
  have e3 : errB true = 0 := rfl
  rw [e3]
  refine ⟨fun q => absurd rfl q, fun _ => ?_⟩
  refine swp_cutS (fun _ : Unit => stT8 l of (allR l of) [(6, .raw (.int .i64 0))]) (fun _ => True) 40 ?_ ?_
  · (refine swp_lastW ?_; simp only [go_sem, Bool.not_eq_true', Bool.not_eq_false'])
    (refine acall2 [] (allR_ok l of hl ho hw) (by simp only [go_sem, Bool.not_eq_true', Bool.not_eq_false']; rfl) (fit_of (by simp only [go_sem, Bool.not_eq_true', Bool.not_eq_false']) (by simp only [go_sem, Bool.not_eq_true', Bool.not_eq_false']) (by simp only [go_sem, Bool.not_eq_true', Bool.not_eq_false']) (by simp only [go_sem, Bool.not_eq_true', Bool.not_eq_false']) (by simp only [go_sem, Bool.not_eq_true', Bool.not_eq_false']) (by simp only [go_sem, Bool.not_eq_true', Bool.not_eq_false']) (by simp only [go_sem, Bool.not_eq_true', Bool.not_eq_false'])) ?_; simp only [go_sem, Bool.not_eq_true', Bool.not_eq_false'])
    rw [hc, e3]
    (refine cut_end [104 ] ( ()) (by simp only [go_sem, Bool.not_eq_true', Bool.not_eq_false']; rfl) ?_ ?_; (focus (simp only [go_sem, Bool.not_eq_true', Bool.not_eq_false']; done)))
    trivial
  rintro - -
  have hal := allR_ln hc
  have hat := fun k (h : k < (allR l of).length) => allR_at hc h
  generalize allR l of = A at hal hat ⊢
  have h0 : A[0] = 0 := by
    rw [hat]
    unfold rnkA
    rw [if_neg (by simp)]
  have h1 : A[of.length] = 0 := by
    rw [hat]
    unfold rnkA
    rw [if_neg (by simp)]
  (refine swp_seqW ?_; simp only [go_sem, Bool.not_eq_true', Bool.not_eq_false', List.length_map])
  refine ⟨by omega, fun _ => ⟨by omega, ex_get (by omega) ⟨fun _ => ⟨by omega, ex_get (by omega) ⟨fun q => (q h1).elim, fun _ => ?_⟩⟩, fun q => (q h0).elim⟩⟩, fun q => by omega⟩
  refine swp_cutS (fun _ : Unit => ⟨[], [], none⟩) (fun _ => True) 80 ?_ ?_
  · (refine swp_seqW ?_; simp only [go_sem, Bool.not_eq_true', Bool.not_eq_false'])
    refine swp_block ?_
    refine swp_loop2 [] (fun k : Nat => stT8 l of A [(7, .raw (.int .i64 k))]) (fun k => k ≤ A.length) (fun k => A.length - k) 80 0 (by simp only [go_sem, Bool.not_eq_true', Bool.not_eq_false']; rfl) (by simp only [go_sem, Bool.not_eq_true', Bool.not_eq_false']) ?_ ?_
    · exact Nat.zero_le _
    · rintro k k1
      (refine swp_seqW ?_; simp only [go_sem, Bool.not_eq_true', Bool.not_eq_false', List.length_map])
      refine ⟨fun h5 => ?_, fun h5 => ?_⟩
      rotate_left
      · (refine cut_end [] (()) (by simp only [go_sem, Bool.not_eq_true', Bool.not_eq_false']; rfl) ?_ ?_; (focus (simp only [go_sem, Bool.not_eq_true', Bool.not_eq_false']; done)))
        trivial
      have hkA : k < A.length := by omega
      have hk2 : 0 ≤ (k : Int) ∧ (k : Int) ≤ of.length := by omega
      have hF := hat k hkA
      have HL := prt_law hc (l := l) (of := of) (k := k) hk2
      rw [← hF] at HL
      have hg := kinG_chk hc (k := k) (l := l) (of := of) hk2
      refine swp_seqS ?_
      refine swp_block ?_
      refine swp_cutS (fun _ : Unit => stR8 l of A (kinA l of k) k [(9, .raw (.int .i64 0))]) (fun _ => True) 120 ?_ ?_
      · (refine swp_lastW ?_; simp only [go_sem, Bool.not_eq_true', Bool.not_eq_false'])
        (refine acall2 [] (kinAt_ok l of k hl ho hw) (by simp only [go_sem, Bool.not_eq_true', Bool.not_eq_false']; rfl) (fit_of (by simp only [go_sem, Bool.not_eq_true', Bool.not_eq_false']) (by simp only [go_sem, Bool.not_eq_true', Bool.not_eq_false']) (by simp only [go_sem, Bool.not_eq_true', Bool.not_eq_false']) (by simp only [go_sem, Bool.not_eq_true', Bool.not_eq_false']) (by simp only [go_sem, Bool.not_eq_true', Bool.not_eq_false']) (by simp only [go_sem, Bool.not_eq_true', Bool.not_eq_false']) (by simp only [go_sem, Bool.not_eq_true', Bool.not_eq_false'])) ?_; simp only [go_sem, Bool.not_eq_true', Bool.not_eq_false'])
        rw [hg, e3]
        (refine cut_end [696, 697, 698 ] ( ()) (by simp only [go_sem, Bool.not_eq_true', Bool.not_eq_false']; rfl) ?_ ?_; (focus (simp only [go_sem, Bool.not_eq_true', Bool.not_eq_false']; done)))
        trivial
      rintro - -
      (refine swp_seqW ?_; simp only [go_sem, Bool.not_eq_true', Bool.not_eq_false'])
      (refine acall2 [] (linK_ok l of k hl ho hw) (by simp only [go_sem, Bool.not_eq_true', Bool.not_eq_false']; rfl) (fit_of (by simp only [go_sem, Bool.not_eq_true', Bool.not_eq_false']) (by simp only [go_sem, Bool.not_eq_true', Bool.not_eq_false']) (by simp only [go_sem, Bool.not_eq_true', Bool.not_eq_false']) (by simp only [go_sem, Bool.not_eq_true', Bool.not_eq_false']) (by simp only [go_sem, Bool.not_eq_true', Bool.not_eq_false']) (by simp only [go_sem, Bool.not_eq_true', Bool.not_eq_false']) (by simp only [go_sem, Bool.not_eq_true', Bool.not_eq_false'])) ?_; simp only [go_sem, Bool.not_eq_true', Bool.not_eq_false'])
      rw [hg, e3, linK_is hg, linK_is hg]
      generalize kinA l of k = x at *
      have ha : 0 ≤ linA of k x.text ∧ linA of k x.text ≤ 1000 := by
        have := cntA_le of x.text k of.length
        unfold linA
        split <;> omega
      have hb : 0 ≤ linB of k x.text ∧ linB of k x.text ≤ 1000 := by
        have := cntB_le of x.text k of.length
        unfold linB
        split <;> omega
      generalize linA of k x.text = a at *
      generalize linB of k x.text = b at *
      (refine swp_seqW ?_; simp only [go_sem, Bool.not_eq_true', Bool.not_eq_false', List.length_map])
      refine ⟨by omega, ex_get hkA ?_⟩
      generalize A[k] = n at *
      refine swp_cutS (fun _ : Unit => stR8 l of A x k [(10, .raw (.int .i64 a)), (11, .raw (.int .i64 b))]) (fun _ => True) 160 ?_ ?_
      · have q1 := HL.ran
        have q2 := HL.text
        have q3 := HL.none
        clear HL hF hat
        (refine swp_lastW ?_; simp only [go_sem, Bool.not_eq_true', Bool.not_eq_false'])
        repeat' first | contradiction | intro _ | refine And.intro ?_ ?_ | refine ex_get (by omega) ?_ | (show drawB _ _ = true; kernel_rfl) | (refine ret2 [] (by simp only [go_sem, Bool.not_eq_true', Bool.not_eq_false']; rfl) ?_; simp only [go_sem, Bool.not_eq_true', Bool.not_eq_false'])
        all_goals first
          | omega
          | ((refine cut_end [] (()) (by simp only [go_sem, Bool.not_eq_true', Bool.not_eq_false']; rfl) ?_ ?_; (focus (simp only [go_sem, Bool.not_eq_true', Bool.not_eq_false']; done)))
             trivial)
          | skip
      rintro - -
      (refine swp_seqW ?_; simp only [go_sem, Bool.not_eq_true', Bool.not_eq_false'])
      refine swp_cutS (fun c : Nat => stR8 l of A x k [(10, .raw (.int .i64 a)), (11, .raw (.int .i64 b)), (14, .raw (.int .i64 c))]) (fun c => c = if 0 ≤ x.text then cntT of x.text of.length else 0) 200 ?_ ?_
      · clear HL hF hat
        (refine swp_seqW ?_; simp only [go_sem, Bool.not_eq_true', Bool.not_eq_false'])
        refine swp_block ?_
        refine swp_loop2 [] (fun z : KY Nat => stR8 l of A x k [(10, .raw (.int .i64 a)), (11, .raw (.int .i64 b)), (14, .raw (.int .i64 z.o)), (15, .raw (.int .i64 z.k))]) (fun z => z.k ≤ of.length ∧ z.o ≤ z.k ∧ z.o = if 0 ≤ x.text then cntT of x.text z.k else 0) (fun z => of.length - z.k) 200 ⟨0, 0⟩ (by simp only [go_sem, Bool.not_eq_true', Bool.not_eq_false']; rfl) (by simp only [go_sem, Bool.not_eq_true', Bool.not_eq_false']) ?_ ?_
        · exact ⟨Nat.zero_le _, Nat.le_refl _, by simp [cntT]⟩
        · rintro ⟨j, o⟩ ⟨j1, jo, j2⟩
          simp only at j1 jo j2
          (refine swp_lastW ?_; simp only [go_sem, Bool.not_eq_true', Bool.not_eq_false', List.length_map])
          refine ⟨fun h5 => ?_, fun h5 => ?_⟩
          · have hj : j < of.length := by omega
            have e0 : of.getD j 0 = of[j] := by simp [List.getD_eq_getElem?_getD, hj]
            have e1 : (if 0 ≤ x.text then cntT of x.text (j + 1) else 0) = o + if 0 ≤ x.text ∧ of[j] = x.text then 1 else 0 := by
              rw [cntT, e0, j2]
              by_cases q : 0 ≤ x.text <;> simp [q]
            have hjo : o + 1 ≤ j + 1 := by omega
            have hjo2 : o ≤ j + 1 := by omega
            have ho2 : o ≤ 1000 := by omega
            clear j2 e0
            repeat' first | contradiction | intro _ | refine And.intro ?_ ?_ | refine ex_get (by omega) ?_ | (show drawB _ _ = true; kernel_rfl) | (refine ret2 [] (by simp only [go_sem, Bool.not_eq_true', Bool.not_eq_false']; rfl) ?_; simp only [go_sem, Bool.not_eq_true', Bool.not_eq_false'])
            all_goals first
              | omega
              | ((refine loop_end [] (⟨j + 1, o⟩) (by simp only [go_sem, Bool.not_eq_true', Bool.not_eq_false']; rfl) ?_ ?_ ?_; (focus first | omega | (simp only; omega)); (focus (simp only [go_sem, Bool.not_eq_true', Bool.not_eq_false']; done)))
                 exact ⟨hj, hjo2, by rw [e1]; simp [*]⟩)
              | ((refine loop_end [] (⟨j + 1, o + 1⟩) (by simp only [go_sem, Bool.not_eq_true', Bool.not_eq_false']; rfl) ?_ ?_ ?_; (focus first | omega | (simp only; omega)); (focus (simp only [go_sem, Bool.not_eq_true', Bool.not_eq_false']; done)))
                 exact ⟨hj, hjo, by rw [e1]; simp [*]⟩)
              | skip
          · have e : j = of.length := by omega
            rw [e] at j2
            (refine cut_end [] (o) (by simp only [go_sem, Bool.not_eq_true', Bool.not_eq_false']; rfl) ?_ ?_; (focus (simp only [go_sem, Bool.not_eq_true', Bool.not_eq_false']; done)))
            exact j2
      rintro c hcn
      have q4 : a + b = c := by
        rw [hcn]
        split
        · next q => exact HL.sum q
        · next q => exact (HL.none (by omega)).2
      have q5 := HL.some
      clear HL hF hat hcn
      (refine swp_lastW ?_; simp only [go_sem, Bool.not_eq_true', Bool.not_eq_false'])
      repeat' first | contradiction | intro _ | refine And.intro ?_ ?_ | refine ex_get (by omega) ?_ | (show drawB _ _ = true; kernel_rfl) | (refine ret2 [] (by simp only [go_sem, Bool.not_eq_true', Bool.not_eq_false']; rfl) ?_; simp only [go_sem, Bool.not_eq_true', Bool.not_eq_false'])
      all_goals first
        | omega
        | ((refine swp_lastW ?_; simp only [go_sem, Bool.not_eq_true', Bool.not_eq_false'])
           refine ⟨by omega, ?_⟩
           (refine loop_end [] (k + 1) (by simp only [go_sem, Bool.not_eq_true', Bool.not_eq_false']; rfl) ?_ ?_ ?_; (focus first | omega | (simp only; omega)); (focus (simp only [go_sem, Bool.not_eq_true', Bool.not_eq_false']; done)))
           exact hkA)
        | skip
  rintro - -
  (refine swp_lastW ?_; simp only [go_sem, Bool.not_eq_true', Bool.not_eq_false'])
  (refine acall2 [] (awake18_ok) (by simp only [go_sem, Bool.not_eq_true', Bool.not_eq_false']; rfl) (fit_of (by simp only [go_sem, Bool.not_eq_true', Bool.not_eq_false']) (by simp only [go_sem, Bool.not_eq_true', Bool.not_eq_false']) (by simp only [go_sem, Bool.not_eq_true', Bool.not_eq_false']) (by simp only [go_sem, Bool.not_eq_true', Bool.not_eq_false']) (by simp only [go_sem, Bool.not_eq_true', Bool.not_eq_false']) (by simp only [go_sem, Bool.not_eq_true', Bool.not_eq_false']) (by simp only [go_sem, Bool.not_eq_true', Bool.not_eq_false'])) ?_; simp only [go_sem, Bool.not_eq_true', Bool.not_eq_false'])
end Go.Proofs.Ytbgcmnccjfdooaa
