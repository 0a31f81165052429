/- CONTRACTS of the functions, and plain laws, joined out of: GTreC GTreD GTreE GTreF GTreG GTreH GTreI GTreJ GTreK GTreL GTreM GTreN GTreO GTreP GAtmA GPenA GChkA GFloA GFloB GChkB GChkC GChkD GChkE GFloC GFloD GFloP GOncA. -/
import Derived.Test.YtblmebjhhanoaaaGreatKA151
/- CHAPTER 08: tree: Holds, Kids. -/
/- G -/
/- BOOLS -/
set_option linter.unusedSimpArgs false
set_option linter.unusedVariables false
namespace Go.Proofs.YtblmebjhhanoaaaGreat
open Go.RowKit

def holN (l : List LNo) (a b : Int) : Bool := hasN l a && hasN l b && decide (a ≤ b) && decide (b < a + sizN l a.toNat)
theorem docN_eq {l : List LNo} {a : Int} (h : hasN (docN l) a = true) : docN l = l ∧ 0 ≤ a ∧ a < l.length := by
  unfold docN at h ⊢
  split at h
  · next q =>
    simp only [hasN, Bool.and_eq_true, decide_eq_true_eq] at h
    rw [if_pos q]
    exact ⟨rfl, h⟩
  · simp only [hasN, Bool.and_eq_true, decide_eq_true_eq, List.length_nil] at h
    omega
theorem isG_ends (N : Int) : ∀ (l : List LNo) (i : Nat) (st : List Int), isG l i st = true → 1 ≤ st.length → (∀ e ∈ st, e ≤ N) → ∀ k (hk : k < l.length), i + k + l[k].size ≤ N
  | [], _, _, _, _, _, k, hk => absurd hk (Nat.not_lt_zero _)
  | y :: l, i, st, h, h1, h2, k, hk => by
    rw [isG] at h
    simp only [Bool.and_eq_true, Bool.not_eq_true', Bool.and_eq_false_iff, decide_eq_true_eq, decide_eq_false_iff_not] at h
    obtain ⟨⟨⟨⟨u1, u2⟩, u3⟩, u4⟩, u5⟩ := h
    have hp := popS_sub i st.length st
    have ht := h2 _ (hp.1 _ (topI_mem (hp.2.2 h1)))
    cases k with
    | zero => show (i : Int) + (0 : Nat) + y.size ≤ N; omega
    | succ k =>
      have := isG_ends N l (i + 1) _ u5 (by simp) (fun e he => by
        rcases List.mem_append.1 he with h | h
        · exact h2 _ (hp.1 _ h)
        · simp only [List.mem_singleton] at h; omega) k (by simp only [List.length_cons] at hk; omega)
      simp only [List.getElem_cons_succ]
      omega
theorem docN_ends (l : List LNo) : ∀ k (hk : k < (docN l).length), k + (docN l)[k].size ≤ (docN l).length := by
  by_cases h : isS l = true
  · have e : docN l = l := by simp [docN, h]
    rw [e]
    intro k hk
    have := isG_ends l.length l 0 _ h (Nat.le_refl _) (fun e he => by simp at he; omega) k hk
    omega
  · have e : docN l = [] := by simp [docN, h]
    rw [e]
    intro k hk
    exact absurd hk (Nat.not_lt_zero _)
def kidS (l : List LNo) (e : Int) : Nat → Nat → List Int
  | 0, _ => []
  | f + 1, k => if (k : Int) < e then (k : Int) :: kidS l e f (k + (sizN l k).toNat) else []
def kidN (l : List LNo) (a : Int) : List Int :=
  if a = -1 then kidS l l.length l.length 0
  else if hasN l a = true then kidS l (a + sizN l a.toNat) l.length (a.toNat + 1) else []
theorem docN_or (l : List LNo) : docN l = l ∨ docN l = [] := by
  unfold docN
  split
  · exact Or.inl rfl
  · exact Or.inr rfl
structure LKd where
  e : Int
  k : Nat
  acc : List Int
set_option maxRecDepth 100000 in
set_option maxHeartbeats 4000000 in
theorem kids8_ok (l : List LNo) (a : Int) (hl : l.length ≤ 1000) (hw : ∀ x ∈ l, x.words.length ≤ 9223372036854775807) : FnOk Tryz.prog 20 [.sl 20 (l.map cNo), .raw (.int .i64 a)] [] (.hdr 8) [(8, .row 3 1 ((kidN (docN l) a).map cInt))] := by
  have hz := docN_sizes l
  have hn := docN_ends l
  have hd := docN_len l
  have hq : ∀ a, hasN (docN l) a = true → docN l = l ∧ 0 ≤ a ∧ a < l.length := fun a h => docN_eq h
  refine fn_of_swp Tryz.func20 rfl (by kernel_rfl) (by kernel_rfl) (Nat.le_of_ble_eq_true rfl) Tryz.results20 ?_
  (refine swp_seqW ?_; simp only [go_sem, Bool.not_eq_true', Bool.not_eq_false'])
  (refine swp_seqW ?_; simp only [go_sem, Bool.not_eq_true', Bool.not_eq_false'])
  (refine acall2 [] (of8_ok l hl hw) (by simp only [go_sem, Bool.not_eq_true', Bool.not_eq_false']; rfl) (fit_of (by simp only [go_sem, Bool.not_eq_true', Bool.not_eq_false']) (by simp only [go_sem, Bool.not_eq_true', Bool.not_eq_false']) (by simp only [go_sem, Bool.not_eq_true', Bool.not_eq_false']) (by simp only [go_sem, Bool.not_eq_true', Bool.not_eq_false']) (by simp only [go_sem, Bool.not_eq_true', Bool.not_eq_false']) (by simp only [go_sem, Bool.not_eq_true', Bool.not_eq_false']) (by simp only [go_sem, Bool.not_eq_true', Bool.not_eq_false'])) ?_; simp only [go_sem, Bool.not_eq_true', Bool.not_eq_false'])
  have ho := docN_or l
  generalize docN l = d at hz hn hd hq ho
  (refine swp_seqW ?_; simp only [go_sem, Bool.not_eq_true', Bool.not_eq_false', List.length_map])
  refine ⟨(by show drawB _ _ = true; kernel_rfl), ?_⟩
  refine swp_cutS (fun z : LKd => ⟨[(0, .sl 20 (l.map cNo)), (6, .raw (.int .i64 z.k)), (7, .raw (.int .i64 z.e))], [], none⟩) (fun z => (∃ f, kidS d z.e f z.k = kidN d a ∧ z.e ≤ f + z.k) ∧ z.e ≤ d.length ∧ z.k ≤ d.length) 4 ?_ ?_
  · (refine swp_lastW ?_; simp only [go_sem, Bool.not_eq_true', Bool.not_eq_false', List.length_map])
    refine ⟨fun h1 => ?_, fun h1 => ?_⟩
    · (refine acall2 [] (has8_ok d a) (by simp only [go_sem, Bool.not_eq_true', Bool.not_eq_false']; rfl) (fit_of (by simp only [go_sem, Bool.not_eq_true', Bool.not_eq_false']) (by simp only [go_sem, Bool.not_eq_true', Bool.not_eq_false']) (by simp only [go_sem, Bool.not_eq_true', Bool.not_eq_false']) (by simp only [go_sem, Bool.not_eq_true', Bool.not_eq_false']) (by simp only [go_sem, Bool.not_eq_true', Bool.not_eq_false']) (by simp only [go_sem, Bool.not_eq_true', Bool.not_eq_false']) (by simp only [go_sem, Bool.not_eq_true', Bool.not_eq_false'])) ?_; simp only [go_sem, Bool.not_eq_true', Bool.not_eq_false', List.length_map])
      refine ⟨fun h2 => ?_, fun h2 => ?_⟩
      · have e : kidN d a = [] := by simp [kidN, h1, h2]
        rw [e]
        (refine ret2 [] (by simp only [go_sem, Bool.not_eq_true', Bool.not_eq_false', List.map]; rfl) ?_; simp only [go_sem, Bool.not_eq_true', Bool.not_eq_false', List.map])
      · obtain ⟨e, k1, k2⟩ := hq a h2
        subst e
        obtain ⟨n, rfl⟩ : ∃ n : Nat, a = n := ⟨a.toNat, by omega⟩
        have hn1 : n < d.length := by omega
        have hs := hz d[n] (List.getElem_mem hn1)
        have he := hn n hn1
        refine ⟨by omega, ⟨k1, k2⟩, d[n], List.getElem?_eq_getElem hn1, by omega, (by show drawB _ _ = true; kernel_rfl), ?_⟩
        (refine cut_end [] (⟨(n : Int) + d[n].size, n + 1, []⟩) (by simp only [go_sem, Bool.not_eq_true', Bool.not_eq_false']; rfl) ?_ ?_; (focus (simp only [go_sem, Bool.not_eq_true', Bool.not_eq_false']; done)))
        refine ⟨⟨d.length, ?_, ?_⟩, he, hn1⟩
        · simp [kidN, h1, h2, sizN_get hn1]
        · simp only; omega
    · (refine cut_end [] (⟨d.length, 0, []⟩) (by simp only [go_sem, Bool.not_eq_true', Bool.not_eq_false']; rfl) ?_ ?_; (focus (simp only [go_sem, Bool.not_eq_true', Bool.not_eq_false']; done)))
      refine ⟨⟨d.length, ?_, ?_⟩, ?_, ?_⟩
      · simp [kidN, h1]
      · simp
      · simp
      · simp
  rintro ⟨e, k, acc⟩ ⟨⟨f, q1, q2⟩, q3, q6⟩
  simp only at q1 q2 q3 q6
  (refine swp_seqW ?_; simp only [go_sem, Bool.not_eq_true', Bool.not_eq_false'])
  refine swp_cutS (fun _ : Unit => ⟨[(8, .hdr 8)], [(8, some (.row 3 1 ((kidN d a).map cInt)))], none⟩) (fun _ => True) 4 ?_ ?_
  · refine swp_block ?_
    refine swp_loop2 [] (fun z : LKd => ⟨[(0, .sl 20 (l.map cNo)), (6, .raw (.int .i64 z.k)), (7, .raw (.int .i64 e)), (8, .hdr 8)], [(8, some (.row 3 1 (z.acc.map cInt)))], none⟩) (fun z => (∃ f, z.acc ++ kidS d e f z.k = kidN d a ∧ e ≤ f + z.k) ∧ z.acc.length ≤ z.k ∧ z.k ≤ d.length) (fun z => d.length - z.k) 40 ⟨0, k, []⟩ (by simp only [go_sem, Bool.not_eq_true', Bool.not_eq_false']; rfl) (by simp only [go_sem, Bool.not_eq_true', Bool.not_eq_false']) ?_ ?_
    · exact ⟨⟨f, q1, q2⟩, Nat.zero_le _, q6⟩
    · rintro ⟨e0, k, acc⟩ ⟨⟨f, q1, q2⟩, q4, q5⟩
      simp only at q1 q2 q4 q5
      (refine swp_lastW ?_; simp only [go_sem, Bool.not_eq_true', Bool.not_eq_false', List.length_map])
      refine ⟨fun h1 => ?_, fun h1 => ?_⟩
      · have hk : k < d.length := by omega
        have hdl : d = l := by
          rcases ho with h | h
          · exact h
          · rw [h] at hk; exact absurd hk (Nat.not_lt_zero _)
        subst hdl
        have hs := hz d[k] (List.getElem_mem hk)
        have he := hn k hk
        have hsz := sizN_get hk
        obtain ⟨f, rfl⟩ : ∃ g, f = g + 1 := ⟨f - 1, by omega⟩
        rw [kidS, if_pos h1, hsz] at q1
        refine ⟨⟨by omega, by omega⟩, ⟨by omega, by omega⟩, d[k], List.getElem?_eq_getElem hk, by omega, (by show drawB _ _ = true; kernel_rfl), ?_⟩
        obtain ⟨m, hm⟩ : ∃ m : Nat, d[k].size = m := ⟨d[k].size.toNat, by omega⟩
        rw [hm] at hs he q1 ⊢
        simp only [Int.toNat_natCast] at q1
        have e2 : (acc ++ [(k : Int)]).length = acc.length + 1 := by simp
        (refine loop_end [] (⟨0, k + m, acc ++ [(k : Int)]⟩) (by simp only [go_sem, Bool.not_eq_true', Bool.not_eq_false']; rfl) ?_ ?_ ?_; (focus first | omega | (simp only; omega)); (focus (simp only [go_sem, Bool.not_eq_true', Bool.not_eq_false', List.map_append]; done)))
        exact ⟨⟨f, by rw [← q1]; simp, by simp only; omega⟩, by simp only; omega, by simp only; omega⟩
      · have e3 : acc = kidN d a := by
          rw [← q1]
          cases f with
          | zero => simp [kidS]
          | succ f => rw [kidS, if_neg h1]; simp
        rw [e3]
        (refine cut_end [] (()) (by simp only [go_sem, Bool.not_eq_true', Bool.not_eq_false']; rfl) ?_ ?_; (focus (simp only [go_sem, Bool.not_eq_true', Bool.not_eq_false']; done)))
        trivial
  rintro - -
  (refine swp_lastW ?_; simp only [go_sem, Bool.not_eq_true', Bool.not_eq_false'])
  (refine ret2 [] (by simp only [go_sem, Bool.not_eq_true', Bool.not_eq_false']; rfl) ?_; simp only [go_sem, Bool.not_eq_true', Bool.not_eq_false'])
end Go.Proofs.YtblmebjhhanoaaaGreat
/- CHAPTER 08: tree: Above. -/
/- G -/
/- BOOLS -/
set_option linter.unusedSimpArgs false
set_option linter.unusedVariables false
namespace Go.Proofs.YtblmebjhhanoaaaGreat
open Go.RowKit

def abvL (l : List LNo) : Nat → Int → List Int
  | 0, _ => []
  | f + 1, p => if 0 ≤ p then p :: abvL l f (parI l p p.toNat) else []
def abvN (l : List LNo) (a : Int) : List Int := if hasN l a = true then abvL l l.length (parI l a a.toNat) else []
structure LAb where
  p : Int
  acc : List Int
set_option maxRecDepth 100000 in
set_option maxHeartbeats 4000000 in
theorem appSeq8_ok (d : List LNo) (a : Int) (hl : d.length ≤ 1000) (hz : ∀ x ∈ d, 1 ≤ x.size ∧ x.size ≤ d.length) : FnOk Tryz.prog 84 [.raw (.slice none 0 0), .clo (.func 85) [.hdr 1, .hdr 2]] [(1, .cells 77 [.sl 20 (d.map cNo)]), (2, .cells 3 [.raw (.int .i64 a)])] (.hdr 8) [(8, .row 3 1 ((abvN d a).map cInt))] := by
  refine fn_of_awp Tryz.func84 rfl (by kernel_rfl) (by kernel_rfl) (Nat.le_of_ble_eq_true rfl) Tryz.results84 ?_
  simp only [go_sem, Bool.not_eq_true', Bool.not_eq_false']
  (refine arange (by simp only [go_sem, Bool.not_eq_true', Bool.not_eq_false']; rfl) Tryz.func85 rfl (by kernel_rfl) (by kernel_rfl) (Nat.le_of_ble_eq_true rfl) Tryz.results85 ?_; intro tm1 lc1 hfit1 hps1 hasg1 hbody1; simp only [List.toList_toArray] at hps1; simp only [go_sem, Bool.not_eq_true', Bool.not_eq_false'])
  (refine acall2 [] (has8_ok d a) (by simp only [go_sem, Bool.not_eq_true', Bool.not_eq_false']; rfl) (fit_of (by simp only [go_sem, Bool.not_eq_true', Bool.not_eq_false']) (by simp only [go_sem, Bool.not_eq_true', Bool.not_eq_false']) (by simp only [go_sem, Bool.not_eq_true', Bool.not_eq_false']) (by simp only [go_sem, Bool.not_eq_true', Bool.not_eq_false']) (by simp only [go_sem, Bool.not_eq_true', Bool.not_eq_false']) (by simp only [go_sem, Bool.not_eq_true', Bool.not_eq_false']) (by simp only [go_sem, Bool.not_eq_true', Bool.not_eq_false'])) ?_; simp only [go_sem, Bool.not_eq_true', Bool.not_eq_false'])
  refine ⟨fun h1 => ?_, fun h1 => ?_⟩
  · have e : abvN d a = [] := by simp [abvN, h1]
    rw [e]
    (refine ret2 [] (by simp only [go_sem, Bool.not_eq_true', Bool.not_eq_false', List.map]; rfl) ?_; simp only [go_sem, Bool.not_eq_true', Bool.not_eq_false', List.map])
  have e : abvN d a = abvL d d.length (parI d a a.toNat) := by simp [abvN, h1]
  simp only [hasN, Bool.and_eq_true, decide_eq_true_eq] at h1
  obtain ⟨b, rfl⟩ : ∃ b : Nat, a = b := ⟨a.toNat, by omega⟩
  simp only [Int.toNat_natCast] at e
  (refine acall2 [] (par8_ok d b hl hz (by omega)) (by simp only [go_sem, Bool.not_eq_true', Bool.not_eq_false']; rfl) (fit_of (by simp only [go_sem, Bool.not_eq_true', Bool.not_eq_false']) (by simp only [go_sem, Bool.not_eq_true', Bool.not_eq_false']) (by simp only [go_sem, Bool.not_eq_true', Bool.not_eq_false']) (by simp only [go_sem, Bool.not_eq_true', Bool.not_eq_false']) (by simp only [go_sem, Bool.not_eq_true', Bool.not_eq_false']) (by simp only [go_sem, Bool.not_eq_true', Bool.not_eq_false']) (by simp only [go_sem, Bool.not_eq_true', Bool.not_eq_false'])) ?_; simp only [go_sem, Bool.not_eq_true', Bool.not_eq_false'])
  have hp := parI_lt d b b
  generalize parI d b b = p at hp e
  refine aloop2 [] (fun z : LAb => ⟨[(0, .hdr 32), (1, .hdr 1), (2, .hdr 2), (4, .raw (.int .i64 z.p))], [(32, some (.loop tm1 lc1 .ready)), (33, some (.frm tm1 [(2, .hdr 8)])), (1, some (.cells 77 [.sl 20 (d.map cNo)])), (2, some (.cells 3 [.raw (.int .i64 b)])), (8, some (.cells 40 [.hdr 9])), (9, some (.row 3 1 (z.acc.map cInt)))], none⟩) (fun z => (∃ f, z.acc ++ abvL d f z.p = abvN d b ∧ z.p + 1 ≤ f) ∧ -1 ≤ z.p ∧ z.p < d.length ∧ z.acc.length + (z.p + 1) ≤ d.length) (fun z => (z.p + 1).toNat) 100 ⟨p, []⟩ (by simp only [go_sem, Bool.not_eq_true', Bool.not_eq_false']; rfl) (by simp only [go_sem, Bool.not_eq_true', Bool.not_eq_false']) ?_ ?_
  · exact ⟨⟨d.length, e.symm, by simp only; omega⟩, by simp only; omega, by simp only; omega, by simp only [List.length_nil]; omega⟩
  · rintro ⟨p, acc⟩ ⟨⟨f, q1, q2⟩, q3, q4, q5⟩
    simp only at q1 q2 q3 q4 q5
    simp only [go_sem, Bool.not_eq_true', Bool.not_eq_false']
    refine ⟨fun h2 => ?_, fun h2 => ?_⟩
    · obtain ⟨n, rfl⟩ : ∃ n : Nat, p = n := ⟨p.toNat, by omega⟩
      obtain ⟨f, rfl⟩ : ∃ g, f = g + 1 := ⟨f - 1, by omega⟩
      rw [abvL, if_pos h2] at q1
      simp only [Int.toNat_natCast] at q1
      (refine ayield rfl ?_; simp only [go_sem, Bool.not_eq_true', Bool.not_eq_false', hfit1, hps1, hasg1, hbody1]; intro tmI1)
      refine ⟨⟨by omega, by omega⟩, ?_⟩
      have hp2 := parI_lt d n n
      (refine acall2 [] (par8_ok d n hl hz (by omega)) (by simp only [go_sem, Bool.not_eq_true', Bool.not_eq_false']; rfl) (fit_of (by simp only [go_sem, Bool.not_eq_true', Bool.not_eq_false']) (by simp only [go_sem, Bool.not_eq_true', Bool.not_eq_false']) (by simp only [go_sem, Bool.not_eq_true', Bool.not_eq_false']) (by simp only [go_sem, Bool.not_eq_true', Bool.not_eq_false']) (by simp only [go_sem, Bool.not_eq_true', Bool.not_eq_false']) (by simp only [go_sem, Bool.not_eq_true', Bool.not_eq_false']) (by simp only [go_sem, Bool.not_eq_true', Bool.not_eq_false'])) ?_; simp only [go_sem, Bool.not_eq_true', Bool.not_eq_false'])
      generalize parI d n n = p2 at hp2 q1
      have e2 : (acc ++ [(n : Int)]).length = acc.length + 1 := by simp
      (refine loop_end [] (⟨p2, acc ++ [(n : Int)]⟩) (by simp only [go_sem, Bool.not_eq_true', Bool.not_eq_false']; rfl) ?_ ?_ ?_; (focus first | omega | (simp only; omega)); (focus (simp only [go_sem, Bool.not_eq_true', Bool.not_eq_false', List.map_append]; done)))
      exact ⟨⟨f, by rw [← q1]; simp, by simp only; omega⟩, by simp only; omega, by simp only; omega, by simp only; omega⟩
    · have e3 : acc = abvN d b := by
        rw [← q1]
        cases f with
        | zero => simp [abvL]
        | succ f => rw [abvL, if_neg h2]; simp
      rw [e3]
      (refine ret2 [] (by simp only [go_sem, Bool.not_eq_true', Bool.not_eq_false']; rfl) ?_; simp only [go_sem, Bool.not_eq_true', Bool.not_eq_false'])
set_option maxRecDepth 100000 in
theorem collect8_ok (d : List LNo) (a : Int) (hl : d.length ≤ 1000) (hz : ∀ x ∈ d, 1 ≤ x.size ∧ x.size ≤ d.length) : FnOk Tryz.prog 50 [.clo (.func 85) [.hdr 1, .hdr 2]] [(1, .cells 77 [.sl 20 (d.map cNo)]), (2, .cells 3 [.raw (.int .i64 a)])] (.hdr 8) [(8, .row 3 1 ((abvN d a).map cInt))] := by
  refine fn_of_awp Tryz.func50 rfl (by kernel_rfl) (by kernel_rfl) (Nat.le_of_ble_eq_true rfl) Tryz.results50 ?_
  simp only [go_sem, Bool.not_eq_true', Bool.not_eq_false']
  (refine acall2 [] (appSeq8_ok d a hl hz) (by simp only [go_sem, Bool.not_eq_true', Bool.not_eq_false']; rfl) (fit_of (by simp only [go_sem, Bool.not_eq_true', Bool.not_eq_false']) (by simp only [go_sem, Bool.not_eq_true', Bool.not_eq_false']) (by simp only [go_sem, Bool.not_eq_true', Bool.not_eq_false']) (by simp only [go_sem, Bool.not_eq_true', Bool.not_eq_false']) (by simp only [go_sem, Bool.not_eq_true', Bool.not_eq_false']) (by simp only [go_sem, Bool.not_eq_true', Bool.not_eq_false']) (by simp only [go_sem, Bool.not_eq_true', Bool.not_eq_false'])) ?_; simp only [go_sem, Bool.not_eq_true', Bool.not_eq_false'])
  (refine ret2 [] (by simp only [go_sem, Bool.not_eq_true', Bool.not_eq_false']; rfl) ?_; simp only [go_sem, Bool.not_eq_true', Bool.not_eq_false'])
set_option maxRecDepth 100000 in
theorem above9_ok (l : List LNo) (a : Int) (hl : l.length ≤ 1000) (hw : ∀ x ∈ l, x.words.length ≤ 9223372036854775807) : FnOk Tryz.prog 18 [.sl 20 (l.map cNo), .raw (.int .i64 a)] [] (.hdr 8) [(8, .row 3 1 ((abvN (docN l) a).map cInt))] := by
  have hd := docN_len l
  have hz := docN_sizes l
  refine fn_of_awp Tryz.func18 rfl (by kernel_rfl) (by kernel_rfl) (Nat.le_of_ble_eq_true rfl) Tryz.results18 ?_
  simp only [go_sem, Bool.not_eq_true', Bool.not_eq_false']
  (refine acall2 [] (of8_ok l hl hw) (by simp only [go_sem, Bool.not_eq_true', Bool.not_eq_false']; rfl) (fit_of (by simp only [go_sem, Bool.not_eq_true', Bool.not_eq_false']) (by simp only [go_sem, Bool.not_eq_true', Bool.not_eq_false']) (by simp only [go_sem, Bool.not_eq_true', Bool.not_eq_false']) (by simp only [go_sem, Bool.not_eq_true', Bool.not_eq_false']) (by simp only [go_sem, Bool.not_eq_true', Bool.not_eq_false']) (by simp only [go_sem, Bool.not_eq_true', Bool.not_eq_false']) (by simp only [go_sem, Bool.not_eq_true', Bool.not_eq_false'])) ?_; simp only [go_sem, Bool.not_eq_true', Bool.not_eq_false'])
  (refine acall2 [] (above8_ok (docN l) a) (by simp only [go_sem, Bool.not_eq_true', Bool.not_eq_false']; rfl) (fit_of (by simp only [go_sem, Bool.not_eq_true', Bool.not_eq_false']) (by simp only [go_sem, Bool.not_eq_true', Bool.not_eq_false']) (by simp only [go_sem, Bool.not_eq_true', Bool.not_eq_false']) (by simp only [go_sem, Bool.not_eq_true', Bool.not_eq_false']) (by simp only [go_sem, Bool.not_eq_true', Bool.not_eq_false']) (by simp only [go_sem, Bool.not_eq_true', Bool.not_eq_false']) (by simp only [go_sem, Bool.not_eq_true', Bool.not_eq_false'])) ?_; simp only [go_sem, Bool.not_eq_true', Bool.not_eq_false'])
  (refine acall2 [] (collect8_ok (docN l) a (by omega) hz) (by simp only [go_sem, Bool.not_eq_true', Bool.not_eq_false']; rfl) (fit_of (by simp only [go_sem, Bool.not_eq_true', Bool.not_eq_false']) (by simp only [go_sem, Bool.not_eq_true', Bool.not_eq_false']) (by simp only [go_sem, Bool.not_eq_true', Bool.not_eq_false']) (by simp only [go_sem, Bool.not_eq_true', Bool.not_eq_false']) (by simp only [go_sem, Bool.not_eq_true', Bool.not_eq_false']) (by simp only [go_sem, Bool.not_eq_true', Bool.not_eq_false']) (by simp only [go_sem, Bool.not_eq_true', Bool.not_eq_false'])) ?_; simp only [go_sem, Bool.not_eq_true', Bool.not_eq_false'])
  (refine ret2 [] (by simp only [go_sem, Bool.not_eq_true', Bool.not_eq_false']; rfl) ?_; simp only [go_sem, Bool.not_eq_true', Bool.not_eq_false'])
end Go.Proofs.YtblmebjhhanoaaaGreat
/- CHAPTER 08: tree: Rooms (under way). -/
/- G -/
/- BOOLS -/
set_option linter.unusedSimpArgs false
set_option linter.unusedVariables false
namespace Go.Proofs.YtblmebjhhanoaaaGreat
open Go.RowKit

structure LRm where
  x : Int
  w : Int
deriving DecidableEq
def cRm (r : LRm) : List PV := [.raw (.int .i64 r.x), .raw (.int .i64 r.w)]
attribute [go_sem] cRm
def insN (l : List LNo) (k : Nat) : Int := match l[k]? with | some x => x.st.inset | none => 0
theorem insN_get {l : List LNo} {k : Nat} (hk : k < l.length) : insN l k = l[k].st.inset := by unfold insN; rw [List.getElem?_eq_getElem hk]
def inR (l : List LNo) (k : Nat) (r : LRm) : LRm := ⟨min (r.x + insN l k) 1099511627776, max (r.w - 2 * insN l k) 1⟩
def putS (l : List LNo) : Nat → Nat → Int → LRm → List LRm
  | 0, _, _, _ => []
  | f + 1, k, e, r => if (k : Int) < e then r :: (putS l f (k + 1) (k + sizN l k) (inR l k r) ++ putS l f (k + (sizN l k).toNat) e r) else []
def okR (r : LRm) : Prop := 0 ≤ r.x ∧ r.x ≤ 1099511627776 ∧ 1 ≤ r.w ∧ r.w ≤ 1099511627776
abbrev putO (l : List LNo) (i : Nat) : List (Nat × AO) := [(0, .cells 22 [.sl 20 (l.map cNo)]), (1, .cells 35 [.hdr i]), (2, .cells 79 [.clo (.func 34) [.hdr 0, .hdr 1, .hdr 2]])]
def nst (l : List LNo) : Nat → Nat → Int → Prop
  | 0, _, _ => False
  | f + 1, k, e => (k : Int) ≤ e ∧ ((k : Int) < e → 1 ≤ sizN l k ∧ k + sizN l k ≤ e ∧ nst l f (k + 1) (k + sizN l k) ∧ nst l f (k + (sizN l k).toNat) e)
theorem putS_len (l : List LNo) : ∀ (f k : Nat) (e : Int) (r : LRm), nst l f k e → ((putS l f k e r).length : Int) = e - k
  | 0, k, e, r, h => absurd h (by simp [nst])
  | f + 1, k, e, r, h => by
    obtain ⟨h1, h2⟩ := h
    rw [putS]
    split
    · next q =>
      obtain ⟨u1, u2, u3, u4⟩ := h2 q
      have e1 := putS_len l f (k + 1) (k + sizN l k) (inR l k r) u3
      have e2 := putS_len l f (k + (sizN l k).toNat) e r u4
      simp only [List.length_cons, List.length_append]
      omega
    · simp only [List.length_nil]; omega
theorem nst_le (l : List LNo) {f k : Nat} {e : Int} (h : nst l f k e) : (k : Int) ≤ e := by
  cases f with
  | zero => exact absurd h (by simp [nst])
  | succ f => exact h.1
structure LPt where
  k : Nat
  acc : List LRm
set_option maxRecDepth 100000 in
set_option maxHeartbeats 4000000 in
theorem put8_ok (l : List LNo) (hl : l.length ≤ 1000) (hi : ∀ x ∈ l, 0 ≤ x.st.inset ∧ x.st.inset ≤ 1099511627776) : ∀ (F f : Nat), f ≤ F → ∀ (k : Nat) (e : Int) (r : LRm) (acc : List LRm), okR r → e ≤ l.length → nst l f k e → acc.length ≤ k → 
    FnOk Tryz.prog 34 [.raw (.int .i64 k), .raw (.int .i64 e), .agg [.raw (.int .i64 r.x), .raw (.int .i64 r.w)], .hdr 0, .hdr 1, .hdr 2] [(0, .cells 22 [.sl 20 (l.map cNo)]), (1, .cells 35 [.hdr 3]), (2, .cells 79 [.clo (.func 34) [.hdr 0, .hdr 1, .hdr 2]]), (3, .row 49 2 (acc.map cRm))] (.tup []) [(0, .cells 22 [.sl 20 (l.map cNo)]), (1, .cells 35 [.hdr 8]), (2, .cells 79 [.clo (.func 34) [.hdr 0, .hdr 1, .hdr 2]]), (8, .row 49 2 ((acc ++ putS l f k e r).map cRm))]
  | 0, f, hf, k, e, r, acc, h1, h2, h3, h5 => by
    obtain rfl : f = 0 := by omega
    exact absurd h3 (by simp [nst])
  | F + 1, f, hf, k, e, r, acc, h1, h2, h3, h5 => by
    refine fn_of_swp Tryz.func34 rfl (by kernel_rfl) (by kernel_rfl) (Nat.le_of_ble_eq_true rfl) Tryz.results34 ?_
    (refine swp_seqW ?_; simp only [go_sem, Bool.not_eq_true', Bool.not_eq_false'])
    (refine swp_seqW ?_; simp only [go_sem, Bool.not_eq_true', Bool.not_eq_false'])
    refine swp_block ?_
    refine swp_loop2 [] (fun z : LPt => ⟨[(1, .raw (.int .i64 e)), (3, .hdr 0), (4, .hdr 1), (5, .hdr 2), (8, .hdr 8), (9, .raw (.int .i64 z.k))], [(1, some (.cells 35 [.hdr 16])), (8, some (.cells 49 [.raw (.int .i64 r.x), .raw (.int .i64 r.w)])), (0, some (.cells 22 [.sl 20 (l.map cNo)])), (2, some (.cells 79 [.clo (.func 34) [.hdr 0, .hdr 1, .hdr 2]])), (16, some (.row 49 2 (z.acc.map cRm)))], none⟩) (fun z => ∃ g, g ≤ f ∧ nst l g z.k e ∧ z.acc ++ putS l g z.k e r = acc ++ putS l f k e r ∧ z.acc.length ≤ z.k) (fun z => l.length - z.k) 4 ⟨k, acc⟩ (by simp only [go_sem, Bool.not_eq_true', Bool.not_eq_false']; rfl) (by simp only [go_sem, Bool.not_eq_true', Bool.not_eq_false']) ?_ ?_
    · exact ⟨f, Nat.le_refl _, h3, rfl, h5⟩
    · rintro ⟨kk, ac⟩ ⟨g, g1, g2, g3, g4⟩
      simp only at g1 g2 g3 g4
      obtain ⟨g, rfl⟩ : ∃ g', g = g' + 1 := by
        cases g with
        | zero => exact absurd g2 (by simp [nst])
        | succ g => exact ⟨g, rfl⟩
      (refine swp_seqW ?_; simp only [go_sem, Bool.not_eq_true', Bool.not_eq_false'])
      refine ⟨fun q => ?_, fun q => ?_⟩
      · obtain ⟨u1, u2, u3, u4⟩ := g2.2 q
        have hk : kk < l.length := by omega
        have hin := hi l[kk] (List.getElem_mem hk)
        have hsz := sizN_get hk
        have hii := insN_get hk
        obtain ⟨m, hm⟩ : ∃ m : Nat, sizN l kk = m := ⟨(sizN l kk).toNat, by omega⟩
        have e1 := putS_len l g (kk + 1) (kk + sizN l kk) (inR l kk r) u3
        rw [putS, if_pos q] at g3
        refine swp_seqS ?_
        refine swp_block ?_
        (refine swp_seqW ?_; simp only [go_sem, Bool.not_eq_true', Bool.not_eq_false'])
        refine ⟨⟨by omega, by omega⟩, ?_⟩
        (refine swp_seqW ?_; simp only [go_sem, Bool.not_eq_true', Bool.not_eq_false'])
        refine ⟨⟨by omega, by omega⟩, l[kk], List.getElem?_eq_getElem hk, ?_⟩
        (refine swp_lastW ?_; simp only [go_sem, Bool.not_eq_true', Bool.not_eq_false'])
        have er : inR l kk r = ⟨min (r.x + l[kk].st.inset) 1099511627776, max (r.w - 2 * l[kk].st.inset) 1⟩ := by unfold inR; rw [hii]
        obtain ⟨o1, o2, o3, o4⟩ := h1
        rw [er] at e1 g3
        rw [hsz] at e1 u1 u2 u3 u4 g3 hm
        refine ⟨by omega, ⟨by omega, by omega⟩, l[kk], List.getElem?_eq_getElem hk, by omega, by omega, by omega, by omega, ?_⟩
        have em : ac.map cRm ++ [[PV.raw (.int .i64 r.x), PV.raw (.int .i64 r.w)]] = (ac ++ [r]).map cRm := by simp [cRm]
        rw [em]
        (refine acall2 [] (put8_ok l hl hi F g (by omega) (kk + 1) (kk + l[kk].size) ⟨min (r.x + l[kk].st.inset) 1099511627776, max (r.w - 2 * l[kk].st.inset) 1⟩ (ac ++ [r]) ⟨by simp only; omega, by simp only; omega, by simp only; omega, by simp only; omega⟩ (by omega) u3 (by simp; omega)) (by simp only [go_sem, Bool.not_eq_true', Bool.not_eq_false']; rfl) (fit_of (by simp only [go_sem, Bool.not_eq_true', Bool.not_eq_false']) (by simp only [go_sem, Bool.not_eq_true', Bool.not_eq_false']) (by simp only [go_sem, Bool.not_eq_true', Bool.not_eq_false']) (by simp only [go_sem, Bool.not_eq_true', Bool.not_eq_false']) (by simp only [go_sem, Bool.not_eq_true', Bool.not_eq_false']) (by simp only [go_sem, Bool.not_eq_true', Bool.not_eq_false']) (by simp only [go_sem, Bool.not_eq_true', Bool.not_eq_false'])) ?_; simp only [go_sem, Bool.not_eq_true', Bool.not_eq_false'])
        refine ⟨(by show drawB _ _ = true; kernel_rfl), ?_⟩
        (refine swp_lastW ?_; simp only [go_sem, Bool.not_eq_true', Bool.not_eq_false'])
        refine ⟨⟨by omega, by omega⟩, l[kk], List.getElem?_eq_getElem hk, by omega, ?_⟩
        rw [hm] at g3 e1 u1 u2 u4 ⊢
        simp only [Int.toNat_natCast] at g3 u4
        generalize putS l g (kk + 1) (kk + (m : Int)) _ = pp at g3 e1 ⊢
        have e5 : (ac ++ [r] ++ pp).length = ac.length + 1 + pp.length := by simp; omega
        (refine loop_end [] (⟨kk + m, ac ++ [r] ++ pp⟩) (by simp only [go_sem, Bool.not_eq_true', Bool.not_eq_false']; rfl) ?_ ?_ ?_; (focus first | omega | (simp only; omega)); (focus (simp only [go_sem, Bool.not_eq_true', Bool.not_eq_false']; done)))
        exact ⟨g, by omega, u4, by rw [← g3]; simp, by simp only; omega⟩
      · rw [← g3, putS, if_neg q, List.append_nil]
        (refine ret2 [] (by simp only [go_sem, Bool.not_eq_true', Bool.not_eq_false']; rfl) ?_; simp only [go_sem, Bool.not_eq_true', Bool.not_eq_false'])
end Go.Proofs.YtblmebjhhanoaaaGreat
/- CHAPTER 08: tree: Rooms. -/
/- G -/
/- BOOLS -/
set_option linter.unusedSimpArgs false
set_option linter.unusedVariables false
namespace Go.Proofs.YtblmebjhhanoaaaGreat
open Go.RowKit

def romN (l : List LNo) (w : Int) : List LRm := if 1 ≤ w ∧ w ≤ 1099511627776 then putS l (l.length + 1) 0 (docN l).length ⟨0, w⟩ else []
set_option maxRecDepth 100000 in
set_option maxHeartbeats 4000000 in
theorem rooms8_ok (l : List LNo) (w : Int) (hl : l.length ≤ 1000) (hw : ∀ x ∈ l, x.words.length ≤ 9223372036854775807) (hi : ∀ x ∈ l, 0 ≤ x.st.inset ∧ x.st.inset ≤ 1099511627776) (hn : nst l (l.length + 1) 0 (docN l).length) : FnOk Tryz.prog 12 [.sl 20 (l.map cNo), .raw (.int .i64 w)] [] (.hdr 8) [(8, .row 49 2 ((romN l w).map cRm))] := by
  have hd := docN_len l
  refine fn_of_swp Tryz.func12 rfl (by kernel_rfl) (by kernel_rfl) (Nat.le_of_ble_eq_true rfl) Tryz.results12 ?_
  (refine swp_seqW ?_; simp only [go_sem, Bool.not_eq_true', Bool.not_eq_false'])
  (refine swp_seqW ?_; simp only [go_sem, Bool.not_eq_true', Bool.not_eq_false'])
  (refine acall2 [] (of8_ok l hl hw) (by simp only [go_sem, Bool.not_eq_true', Bool.not_eq_false']; rfl) (fit_of (by simp only [go_sem, Bool.not_eq_true', Bool.not_eq_false']) (by simp only [go_sem, Bool.not_eq_true', Bool.not_eq_false']) (by simp only [go_sem, Bool.not_eq_true', Bool.not_eq_false']) (by simp only [go_sem, Bool.not_eq_true', Bool.not_eq_false']) (by simp only [go_sem, Bool.not_eq_true', Bool.not_eq_false']) (by simp only [go_sem, Bool.not_eq_true', Bool.not_eq_false']) (by simp only [go_sem, Bool.not_eq_true', Bool.not_eq_false'])) ?_; simp only [go_sem, Bool.not_eq_true', Bool.not_eq_false'])
  (refine swp_seqW ?_; simp only [go_sem, Bool.not_eq_true', Bool.not_eq_false'])
  repeat' first | contradiction | intro _ | refine And.intro ?_ ?_ | refine ex_get (by omega) ?_ | (show drawB _ _ = true; kernel_rfl) | (refine ret2 [] (by simp only [go_sem, Bool.not_eq_true', Bool.not_eq_false']; rfl) ?_; simp only [go_sem, Bool.not_eq_true', Bool.not_eq_false'])
  rotate_left
  · (refine swp_seqW ?_; simp only [go_sem, Bool.not_eq_true', Bool.not_eq_false'])
    (refine swp_seqW ?_; simp only [go_sem, Bool.not_eq_true', Bool.not_eq_false'])
    (refine swp_seqW ?_; simp only [go_sem, Bool.not_eq_true', Bool.not_eq_false'])
    (refine swp_seqW ?_; simp only [go_sem, Bool.not_eq_true', Bool.not_eq_false', List.length_map])
    (refine acall2 [] (put8_ok l hl hi (l.length + 1) (l.length + 1) (Nat.le_refl _) 0 (docN l).length ⟨0, w⟩ [] ⟨by simp, by simp, by simp only; omega, by simp only; omega⟩ (by omega) hn (Nat.le_refl _)) (by simp only [go_sem, Bool.not_eq_true', Bool.not_eq_false']; rfl) (fit_of (by simp only [go_sem, Bool.not_eq_true', Bool.not_eq_false']) (by simp only [go_sem, Bool.not_eq_true', Bool.not_eq_false']) (by simp only [go_sem, Bool.not_eq_true', Bool.not_eq_false']) (by simp only [go_sem, Bool.not_eq_true', Bool.not_eq_false']) (by simp only [go_sem, Bool.not_eq_true', Bool.not_eq_false']) (by simp only [go_sem, Bool.not_eq_true', Bool.not_eq_false']) (by simp only [go_sem, Bool.not_eq_true', Bool.not_eq_false'])) ?_; simp only [go_sem, Bool.not_eq_true', Bool.not_eq_false'])
    have er : romN l w = putS l (l.length + 1) 0 (docN l).length ⟨0, w⟩ := by unfold romN; rw [if_pos ⟨by omega, by omega⟩]
    rw [er]
    (refine swp_lastW ?_; simp only [go_sem, Bool.not_eq_true', Bool.not_eq_false'])
    (refine ret2 [] (by simp only [go_sem, Bool.not_eq_true', Bool.not_eq_false']; rfl) ?_; simp only [go_sem, Bool.not_eq_true', Bool.not_eq_false'])
  all_goals
    have er : romN l w = [] := by unfold romN; rw [if_neg (by omega)]
    rw [er]
    rfl
end Go.Proofs.YtblmebjhhanoaaaGreat
/- CHAPTER 08: nodes of a document lie within one another. -/
/- G -/
set_option linter.unusedSimpArgs false
set_option linter.unusedVariables false
namespace Go.Proofs.YtblmebjhhanoaaaGreat
open Go.RowKit

theorem nst_fuel (l : List LNo) : ∀ (g f k : Nat) (e : Int), nst l f k e → e - k < g → nst l g k e
  | 0, f, k, e, h, q => absurd (nst_le l h) (by omega)
  | g + 1, 0, k, e, h, q => absurd h (by simp [nst])
  | g + 1, f + 1, k, e, h, q => by
    obtain ⟨h1, h2⟩ := h
    refine ⟨h1, fun h => ?_⟩
    obtain ⟨u1, u2, u3, u4⟩ := h2 h
    exact ⟨u1, u2, nst_fuel l g f _ _ u3 (by omega), nst_fuel l g f _ _ u4 (by omega)⟩
def chn (l : List LNo) : Nat → List Int → Prop
  | _, [] => True
  | k, e :: s => (∃ f, nst l f k e) ∧ chn l e.toNat s
theorem topI_rev (a : Int) (t : List Int) : topI (a :: t).reverse = a := by
  unfold topI
  simp [List.getD_eq_getElem?_getD]
theorem take_rev (a : Int) (t : List Int) : (a :: t).reverse.take ((a :: t).reverse.length - 1) = t.reverse := by
  simp
def popR (i : Int) : List Int → List Int
  | a :: b :: t => if a = i then popR i (b :: t) else a :: b :: t
  | s => s
theorem popS_rev (i : Int) : ∀ (f : Nat) (R : List Int), R.length ≤ f → popS i f R.reverse = (popR i R).reverse
  | 0, R, h => by
    obtain rfl : R = [] := List.eq_nil_of_length_eq_zero (by omega)
    rfl
  | f + 1, [], h => by simp [popS, popR]
  | f + 1, [a], h => by simp [popS, popR]
  | f + 1, a :: b :: t, h => by
    rw [popS, topI_rev, take_rev, popR]
    by_cases q : a = i
    · rw [if_pos ⟨by simp, q⟩, if_pos q]
      exact popS_rev i f (b :: t) (by simp only [List.length_cons] at h ⊢; omega)
    · rw [if_neg (fun z => q z.2), if_neg q]
def gdR (k N : Int) : List Int → Prop
  | [] => False
  | [a] => k ≤ a ∧ a = N
  | a :: b :: t => k ≤ a ∧ gdR a N (b :: t)
theorem gdR_le {k N : Int} : ∀ {R : List Int}, gdR k N R → k ≤ N
  | [], h => absurd h (by simp [gdR])
  | [a], h => by obtain ⟨h1, h2⟩ := h; omega
  | a :: b :: t, h => by obtain ⟨h1, h2⟩ := h; have := gdR_le h2; omega
theorem gdR_to {k k2 N a : Int} {t : List Int} (h : gdR k N (a :: t)) (q : k2 ≤ a) : gdR k2 N (a :: t) := by
  cases t with
  | nil => exact ⟨q, h.2⟩
  | cons b t => exact ⟨q, h.2⟩
theorem popR_gd {k N : Int} (hk : k < N) : ∀ (R : List Int), gdR k N R → gdR (k + 1) N (popR k R)
  | [], h => absurd h (by simp [gdR])
  | [a], h => by obtain ⟨h1, h2⟩ := h; exact ⟨by omega, h2⟩
  | a :: b :: t, h => by
    rw [popR]
    split
    · next q => subst q; exact popR_gd hk (b :: t) h.2
    · next q => exact ⟨by have := h.1; omega, h.2⟩
theorem nst_same (l : List LNo) (k : Nat) : nst l 1 k k := ⟨Int.le_refl _, fun h => absurd h (by omega)⟩
theorem popR_chn (l : List LNo) (k : Nat) : ∀ (R : List Int), chn l k (popR k R) → chn l k R
  | [], h => h
  | [a], h => h
  | a :: b :: t, h => by
    rw [popR] at h
    split at h
    · next q => subst q; exact ⟨⟨1, nst_same l k⟩, popR_chn l k (b :: t) h⟩
    · exact h
theorem chn_end (l : List LNo) (k : Nat) : ∀ (R : List Int), gdR k k R → chn l k R
  | [], h => trivial
  | [a], h => by obtain ⟨h1, h2⟩ := h; subst h2; exact ⟨⟨1, nst_same l k⟩, trivial⟩
  | a :: b :: t, h => by
    obtain ⟨h1, h2⟩ := h
    have h3 := gdR_le h2
    obtain rfl : a = k := by omega
    exact ⟨⟨1, nst_same l k⟩, chn_end l k (b :: t) h2⟩
theorem isG_chn (l : List LNo) : ∀ (m k : Nat) (R : List Int), m + k = l.length → gdR k l.length R → isG (l.drop k) k R.reverse = true → chn l k R
  | 0, k, R, hm, hg, h => by
    have e : (l.length : Int) = k := by omega
    rw [e] at hg
    exact chn_end l k R hg
  | m + 1, k, R, hm, hg, h => by
    have hk : k < l.length := by omega
    rw [List.drop_eq_getElem_cons hk, isG, popS_rev _ _ _ (by simp)] at h
    simp only [Bool.and_eq_true, Bool.not_eq_true', Bool.and_eq_false_iff, decide_eq_true_eq, decide_eq_false_iff_not] at h
    obtain ⟨⟨⟨⟨u1, u2⟩, u3⟩, u4⟩, u5⟩ := h
    have hg2 := popR_gd (by omega) R hg
    refine popR_chn l k R ?_
    generalize popR (k : Int) R = R2 at u3 u5 hg2 ⊢
    cases R2 with
    | nil => exact absurd hg2 (by simp [gdR])
    | cons e t =>
      rw [topI_rev] at u3
      have hs := sizN_get hk
      obtain ⟨s, hs2⟩ : ∃ s : Nat, l[k].size = s := ⟨l[k].size.toNat, by omega⟩
      rw [hs2] at u2 u3 u5 hs
      have hR : (e :: t).reverse ++ [(k : Int) + (s : Int)] = (((k : Int) + (s : Int)) :: e :: t).reverse := by simp
      rw [hR] at u5
      have hc := isG_chn l m (k + 1) (((k : Int) + (s : Int)) :: e :: t) (by omega) ⟨by omega, gdR_to hg2 (by omega)⟩ u5
      obtain ⟨⟨f1, n1⟩, ⟨f2, n2⟩, hc⟩ := hc
      have ek : ((k : Int) + (s : Int)).toNat = k + s := by omega
      rw [ek] at n2
      refine ⟨⟨f1 + f2 + (e - k).toNat + 1 + s, ?_⟩, hc⟩
      refine nst_fuel l _ ((e - k).toNat + s + 1) k e ⟨by omega, fun _ => ⟨by omega, by omega, ?_, ?_⟩⟩ (by omega)
      · rw [hs]; exact nst_fuel l _ f1 (k + 1) _ n1 (by omega)
      · rw [hs, Int.toNat_natCast]; exact nst_fuel l _ f2 (k + s) e n2 (by omega)
theorem isS_nst {l : List LNo} (h : isS l = true) : nst l (l.length + 1) 0 l.length := by
  have hc := isG_chn l l.length 0 [(l.length : Int)] (by omega) ⟨by omega, rfl⟩ h
  obtain ⟨⟨f, n⟩, -⟩ := hc
  exact nst_fuel l _ f 0 _ n (by omega)
end Go.Proofs.YtblmebjhhanoaaaGreat
/- CHAPTER 08: tree: Rooms, of any nodes. -/
/- G -/
/- BOOLS -/
set_option linter.unusedSimpArgs false
set_option linter.unusedVariables false
namespace Go.Proofs.YtblmebjhhanoaaaGreat
open Go.RowKit

theorem nodB_ins {x : LNo} (h : nodB x = true) : 0 ≤ x.st.inset ∧ x.st.inset ≤ 1099511627776 := by
  unfold nodB at h
  have hb : bareB x = true → 0 ≤ x.st.inset ∧ x.st.inset ≤ 1099511627776 := by
    intro q
    simp only [bareB, Bool.and_eq_true, decide_eq_true_eq] at q
    omega
  split at h
  · simp only [Bool.and_eq_true, styB, hasL, Bool.not_eq_true', List.any_cons, Bool.or_eq_false_iff, offN, decide_eq_false_iff_not] at h
    omega
  · split at h
    · simp only [Bool.and_eq_true] at h
      exact hb h.1.1.1.1.1.1.1
    · split at h
      · simp only [Bool.and_eq_true] at h
        exact hb h.1.1.1
      · split at h
        · simp only [Bool.and_eq_true] at h
          exact hb h.1.1.1
        · cases h
theorem isG_nod : ∀ (l : List LNo) (i : Nat) (st : List Int), isG l i st = true → ∀ x ∈ l, nodB x = true
  | [], _, _, _, x, hx => by cases hx
  | y :: l, i, st, h, x, hx => by
    rw [isG] at h
    simp only [Bool.and_eq_true] at h
    rcases List.mem_cons.1 hx with e | e
    · subst e; exact h.1.1.1.1
    · exact isG_nod l (i + 1) _ h.2 x e
theorem isS_ins {l : List LNo} (h : isS l = true) : ∀ x ∈ l, 0 ≤ x.st.inset ∧ x.st.inset ≤ 1099511627776 := fun x hx => nodB_ins (isG_nod l 0 _ h x hx)
end Go.Proofs.YtblmebjhhanoaaaGreat
/- CHAPTER 05: nodes in memory of their own; are nodes the same? -/
/- G -/
/- BOOLS -/
set_option linter.unusedSimpArgs false
set_option linter.unusedVariables false
namespace Go.Proofs.YtblmebjhhanoaaaGreat
open Go.RowKit

end Go.Proofs.YtblmebjhhanoaaaGreat
/- CHAPTER 06: the document's answer: which nodes are a document's. -/
/- G -/
/- BOOLS -/
set_option linter.unusedSimpArgs false
set_option linter.unusedVariables false
namespace Go.Proofs.YtblmebjhhanoaaaGreat
open Go.RowKit

def frB (n a b : Int) : Bool := decide (a ≤ n) && decide (n ≤ b)
set_option maxRecDepth 100000 in
theorem from6_ok (n a b : Int) : FnOk Tryz.prog 145 [.raw (.int .i64 n), .raw (.int .i64 a), .raw (.int .i64 b)] [] (.raw (.bool (frB n a b))) [] := by
  refine fn_of_awp Tryz.func145 rfl (by kernel_rfl) (by kernel_rfl) (Nat.le_of_ble_eq_true rfl) Tryz.results145 ?_
  simp only [go_sem, Bool.not_eq_true', Bool.not_eq_false']
  repeat' first | contradiction | intro _ | refine And.intro ?_ ?_ | refine ex_get (by omega) ?_ | (show drawB _ _ = true; kernel_rfl) | (refine ret2 [] (by simp only [go_sem, Bool.not_eq_true', Bool.not_eq_false']; rfl) ?_; simp only [go_sem, Bool.not_eq_true', Bool.not_eq_false'])
  all_goals (simp [frB] <;> omega)
theorem offN_fr (n a b : Int) : offN a b n = !frB n a b := by
  simp only [offN, frB]
  by_cases h1 : n < a
  · have : ¬ a ≤ n := by omega
    simp [h1, this]
  · have : a ≤ n := by omega
    by_cases h2 : b < n
    · have : ¬ n ≤ b := by omega
      simp [*]
    · have : n ≤ b := by omega
      simp [*]
theorem styB_fr (s : LSty) : styB s = (frB s.top 0 1099511627776 && frB s.bottom 0 1099511627776 && frB s.padTop 0 1099511627776 && frB s.padBottom 0 1099511627776 && frB s.inset 0 1099511627776 && frB s.orphans 1 1099511627776 && frB s.widows 1 1099511627776 && frB s.head 0 1099511627776 && frB s.before 0 4 && frB s.after 0 4 && frB s.inside 0 1 && frB s.clear 0 3) := by
  simp only [styB, hasL, List.any_cons, List.any_nil, offN_fr, Bool.not_or, Bool.not_not, Bool.or_false]
  ac_rfl
set_option maxRecDepth 100000 in
set_option maxHeartbeats 4000000 in
theorem block6_ok (s : LSty) : FnOk Tryz.prog 144 [aSty s] [] (.raw (.bool (styB s))) [] := by
  rw [styB_fr]
  refine fn_of_awp Tryz.func144 rfl (by kernel_rfl) (by kernel_rfl) (Nat.le_of_ble_eq_true rfl) Tryz.results144 ?_
  simp only [go_sem, Bool.not_eq_true', Bool.not_eq_false']
  (refine acall2 [] (from6_ok s.top 0 1099511627776) (by simp only [go_sem, Bool.not_eq_true', Bool.not_eq_false']; rfl) (fit_of (by simp only [go_sem, Bool.not_eq_true', Bool.not_eq_false']) (by simp only [go_sem, Bool.not_eq_true', Bool.not_eq_false']) (by simp only [go_sem, Bool.not_eq_true', Bool.not_eq_false']) (by simp only [go_sem, Bool.not_eq_true', Bool.not_eq_false']) (by simp only [go_sem, Bool.not_eq_true', Bool.not_eq_false']) (by simp only [go_sem, Bool.not_eq_true', Bool.not_eq_false']) (by simp only [go_sem, Bool.not_eq_true', Bool.not_eq_false'])) ?_; simp only [go_sem, Bool.not_eq_true', Bool.not_eq_false'])
  refine ⟨fun h1 => ?_, fun h1 => by simp [h1]⟩
  (refine acall2 [] (from6_ok s.bottom 0 1099511627776) (by simp only [go_sem, Bool.not_eq_true', Bool.not_eq_false']; rfl) (fit_of (by simp only [go_sem, Bool.not_eq_true', Bool.not_eq_false']) (by simp only [go_sem, Bool.not_eq_true', Bool.not_eq_false']) (by simp only [go_sem, Bool.not_eq_true', Bool.not_eq_false']) (by simp only [go_sem, Bool.not_eq_true', Bool.not_eq_false']) (by simp only [go_sem, Bool.not_eq_true', Bool.not_eq_false']) (by simp only [go_sem, Bool.not_eq_true', Bool.not_eq_false']) (by simp only [go_sem, Bool.not_eq_true', Bool.not_eq_false'])) ?_; simp only [go_sem, Bool.not_eq_true', Bool.not_eq_false'])
  refine ⟨fun h2 => ?_, fun h2 => by simp [h2]⟩
  (refine acall2 [] (from6_ok s.padTop 0 1099511627776) (by simp only [go_sem, Bool.not_eq_true', Bool.not_eq_false']; rfl) (fit_of (by simp only [go_sem, Bool.not_eq_true', Bool.not_eq_false']) (by simp only [go_sem, Bool.not_eq_true', Bool.not_eq_false']) (by simp only [go_sem, Bool.not_eq_true', Bool.not_eq_false']) (by simp only [go_sem, Bool.not_eq_true', Bool.not_eq_false']) (by simp only [go_sem, Bool.not_eq_true', Bool.not_eq_false']) (by simp only [go_sem, Bool.not_eq_true', Bool.not_eq_false']) (by simp only [go_sem, Bool.not_eq_true', Bool.not_eq_false'])) ?_; simp only [go_sem, Bool.not_eq_true', Bool.not_eq_false'])
  refine ⟨fun h3 => ?_, fun h3 => by simp [h3]⟩
  (refine acall2 [] (from6_ok s.padBottom 0 1099511627776) (by simp only [go_sem, Bool.not_eq_true', Bool.not_eq_false']; rfl) (fit_of (by simp only [go_sem, Bool.not_eq_true', Bool.not_eq_false']) (by simp only [go_sem, Bool.not_eq_true', Bool.not_eq_false']) (by simp only [go_sem, Bool.not_eq_true', Bool.not_eq_false']) (by simp only [go_sem, Bool.not_eq_true', Bool.not_eq_false']) (by simp only [go_sem, Bool.not_eq_true', Bool.not_eq_false']) (by simp only [go_sem, Bool.not_eq_true', Bool.not_eq_false']) (by simp only [go_sem, Bool.not_eq_true', Bool.not_eq_false'])) ?_; simp only [go_sem, Bool.not_eq_true', Bool.not_eq_false'])
  refine ⟨fun h4 => ?_, fun h4 => by simp [h4]⟩
  (refine acall2 [] (from6_ok s.inset 0 1099511627776) (by simp only [go_sem, Bool.not_eq_true', Bool.not_eq_false']; rfl) (fit_of (by simp only [go_sem, Bool.not_eq_true', Bool.not_eq_false']) (by simp only [go_sem, Bool.not_eq_true', Bool.not_eq_false']) (by simp only [go_sem, Bool.not_eq_true', Bool.not_eq_false']) (by simp only [go_sem, Bool.not_eq_true', Bool.not_eq_false']) (by simp only [go_sem, Bool.not_eq_true', Bool.not_eq_false']) (by simp only [go_sem, Bool.not_eq_true', Bool.not_eq_false']) (by simp only [go_sem, Bool.not_eq_true', Bool.not_eq_false'])) ?_; simp only [go_sem, Bool.not_eq_true', Bool.not_eq_false'])
  refine ⟨fun h5 => ?_, fun h5 => by simp [h5]⟩
  (refine acall2 [] (from6_ok s.orphans 1 1099511627776) (by simp only [go_sem, Bool.not_eq_true', Bool.not_eq_false']; rfl) (fit_of (by simp only [go_sem, Bool.not_eq_true', Bool.not_eq_false']) (by simp only [go_sem, Bool.not_eq_true', Bool.not_eq_false']) (by simp only [go_sem, Bool.not_eq_true', Bool.not_eq_false']) (by simp only [go_sem, Bool.not_eq_true', Bool.not_eq_false']) (by simp only [go_sem, Bool.not_eq_true', Bool.not_eq_false']) (by simp only [go_sem, Bool.not_eq_true', Bool.not_eq_false']) (by simp only [go_sem, Bool.not_eq_true', Bool.not_eq_false'])) ?_; simp only [go_sem, Bool.not_eq_true', Bool.not_eq_false'])
  refine ⟨fun h6 => ?_, fun h6 => by simp [h6]⟩
  (refine acall2 [] (from6_ok s.widows 1 1099511627776) (by simp only [go_sem, Bool.not_eq_true', Bool.not_eq_false']; rfl) (fit_of (by simp only [go_sem, Bool.not_eq_true', Bool.not_eq_false']) (by simp only [go_sem, Bool.not_eq_true', Bool.not_eq_false']) (by simp only [go_sem, Bool.not_eq_true', Bool.not_eq_false']) (by simp only [go_sem, Bool.not_eq_true', Bool.not_eq_false']) (by simp only [go_sem, Bool.not_eq_true', Bool.not_eq_false']) (by simp only [go_sem, Bool.not_eq_true', Bool.not_eq_false']) (by simp only [go_sem, Bool.not_eq_true', Bool.not_eq_false'])) ?_; simp only [go_sem, Bool.not_eq_true', Bool.not_eq_false'])
  refine ⟨fun h7 => ?_, fun h7 => by simp [h7]⟩
  (refine acall2 [] (from6_ok s.head 0 1099511627776) (by simp only [go_sem, Bool.not_eq_true', Bool.not_eq_false']; rfl) (fit_of (by simp only [go_sem, Bool.not_eq_true', Bool.not_eq_false']) (by simp only [go_sem, Bool.not_eq_true', Bool.not_eq_false']) (by simp only [go_sem, Bool.not_eq_true', Bool.not_eq_false']) (by simp only [go_sem, Bool.not_eq_true', Bool.not_eq_false']) (by simp only [go_sem, Bool.not_eq_true', Bool.not_eq_false']) (by simp only [go_sem, Bool.not_eq_true', Bool.not_eq_false']) (by simp only [go_sem, Bool.not_eq_true', Bool.not_eq_false'])) ?_; simp only [go_sem, Bool.not_eq_true', Bool.not_eq_false'])
  refine ⟨fun h8 => ?_, fun h8 => by simp [h8]⟩
  (refine acall2 [] (from6_ok s.before 0 4) (by simp only [go_sem, Bool.not_eq_true', Bool.not_eq_false']; rfl) (fit_of (by simp only [go_sem, Bool.not_eq_true', Bool.not_eq_false']) (by simp only [go_sem, Bool.not_eq_true', Bool.not_eq_false']) (by simp only [go_sem, Bool.not_eq_true', Bool.not_eq_false']) (by simp only [go_sem, Bool.not_eq_true', Bool.not_eq_false']) (by simp only [go_sem, Bool.not_eq_true', Bool.not_eq_false']) (by simp only [go_sem, Bool.not_eq_true', Bool.not_eq_false']) (by simp only [go_sem, Bool.not_eq_true', Bool.not_eq_false'])) ?_; simp only [go_sem, Bool.not_eq_true', Bool.not_eq_false'])
  refine ⟨fun h9 => ?_, fun h9 => by simp [h9]⟩
  (refine acall2 [] (from6_ok s.after 0 4) (by simp only [go_sem, Bool.not_eq_true', Bool.not_eq_false']; rfl) (fit_of (by simp only [go_sem, Bool.not_eq_true', Bool.not_eq_false']) (by simp only [go_sem, Bool.not_eq_true', Bool.not_eq_false']) (by simp only [go_sem, Bool.not_eq_true', Bool.not_eq_false']) (by simp only [go_sem, Bool.not_eq_true', Bool.not_eq_false']) (by simp only [go_sem, Bool.not_eq_true', Bool.not_eq_false']) (by simp only [go_sem, Bool.not_eq_true', Bool.not_eq_false']) (by simp only [go_sem, Bool.not_eq_true', Bool.not_eq_false'])) ?_; simp only [go_sem, Bool.not_eq_true', Bool.not_eq_false'])
  refine ⟨fun h10 => ?_, fun h10 => by simp [h10]⟩
  (refine acall2 [] (from6_ok s.inside 0 1) (by simp only [go_sem, Bool.not_eq_true', Bool.not_eq_false']; rfl) (fit_of (by simp only [go_sem, Bool.not_eq_true', Bool.not_eq_false']) (by simp only [go_sem, Bool.not_eq_true', Bool.not_eq_false']) (by simp only [go_sem, Bool.not_eq_true', Bool.not_eq_false']) (by simp only [go_sem, Bool.not_eq_true', Bool.not_eq_false']) (by simp only [go_sem, Bool.not_eq_true', Bool.not_eq_false']) (by simp only [go_sem, Bool.not_eq_true', Bool.not_eq_false']) (by simp only [go_sem, Bool.not_eq_true', Bool.not_eq_false'])) ?_; simp only [go_sem, Bool.not_eq_true', Bool.not_eq_false'])
  refine ⟨fun h11 => ?_, fun h11 => by simp [h11]⟩
  (refine acall2 [] (from6_ok s.clear 0 3) (by simp only [go_sem, Bool.not_eq_true', Bool.not_eq_false']; rfl) (fit_of (by simp only [go_sem, Bool.not_eq_true', Bool.not_eq_false']) (by simp only [go_sem, Bool.not_eq_true', Bool.not_eq_false']) (by simp only [go_sem, Bool.not_eq_true', Bool.not_eq_false']) (by simp only [go_sem, Bool.not_eq_true', Bool.not_eq_false']) (by simp only [go_sem, Bool.not_eq_true', Bool.not_eq_false']) (by simp only [go_sem, Bool.not_eq_true', Bool.not_eq_false']) (by simp only [go_sem, Bool.not_eq_true', Bool.not_eq_false'])) ?_; simp only [go_sem, Bool.not_eq_true', Bool.not_eq_false'])
  simp [*]
theorem hasL_words {l : List Int} {a b : Int} (h : ∀ j (hj : j < l.length), offN a b l[j] = false) : hasL a b l = true := by
  unfold hasL
  rw [Bool.not_eq_true', List.any_eq_false]
  intro x hx
  obtain ⟨j, hj, rfl⟩ := List.getElem_of_mem hx
  rw [h j hj]; decide
theorem hasL_not {l : List Int} {a b : Int} {k : Nat} (hk : k < l.length) (h : frB l[k] a b = false) : hasL a b l = false := by
  unfold hasL
  rw [Bool.not_eq_false', List.any_eq_true]
  exact ⟨l[k], List.getElem_mem hk, by rw [offN_fr, h]; rfl⟩
theorem hasL_1 (n a b : Int) : hasL a b [n] = frB n a b := by simp [hasL, offN_fr]
theorem hasL_2 (n m a b : Int) : hasL a b [n, m] = (frB n a b && frB m a b) := by simp [hasL, offN_fr]
set_option maxRecDepth 100000 in
set_option maxHeartbeats 4000000 in
theorem one6_ok (x : LNo) (hw : x.words.length ≤ 9223372036854775807) : FnOk Tryz.prog 122 [aNo x] [] (.raw (.bool (nodB x))) [] := by
  refine fn_of_swp Tryz.func122 rfl (by kernel_rfl) (by kernel_rfl) (Nat.le_of_ble_eq_true rfl) Tryz.results122 ?_
  (refine swp_seqW ?_; simp only [go_sem, Bool.not_eq_true', Bool.not_eq_false'])
  (refine swp_seqW ?_; simp only [go_sem, Bool.not_eq_true', Bool.not_eq_false'])
  refine swp_seqS ?_
  (refine swp_seqW ?_; simp only [go_sem, Bool.not_eq_true', Bool.not_eq_false'])
  (refine swp_condW ?_; simp only [go_sem, Bool.not_eq_true', Bool.not_eq_false'])
  refine ⟨fun k1 => ?_, fun k1 => ?_⟩
  · have e : nodB x = (txtB x && decide (x.w = 0) && decide (x.h = 0) && decide (x.side = 0) && styB x.st) := by unfold nodB; rw [if_pos k1]
    rw [e]
    (refine swp_lastW ?_; simp only [go_sem, Bool.not_eq_true', Bool.not_eq_false'])
    (refine acall2 [] (block6_ok x.st) (by simp only [go_sem, Bool.not_eq_true', Bool.not_eq_false']; rfl) (fit_of (by simp only [go_sem, Bool.not_eq_true', Bool.not_eq_false']) (by simp only [go_sem, Bool.not_eq_true', Bool.not_eq_false']) (by simp only [go_sem, Bool.not_eq_true', Bool.not_eq_false']) (by simp only [go_sem, Bool.not_eq_true', Bool.not_eq_false']) (by simp only [go_sem, Bool.not_eq_true', Bool.not_eq_false']) (by simp only [go_sem, Bool.not_eq_true', Bool.not_eq_false']) (by simp only [go_sem, Bool.not_eq_true', Bool.not_eq_false'])) ?_; simp only [go_sem, Bool.not_eq_true', Bool.not_eq_false'])
    refine ⟨fun h1 => ?_, fun h1 => by simp [*]⟩
    repeat' first | contradiction | intro _ | refine And.intro ?_ ?_ | refine ex_get (by omega) ?_ | (show drawB _ _ = true; kernel_rfl) | (refine ret2 [] (by simp only [go_sem, Bool.not_eq_true', Bool.not_eq_false']; rfl) ?_; simp only [go_sem, Bool.not_eq_true', Bool.not_eq_false'])
    all_goals first
      | (simp [txtB, *]; done)
      | (simp [txtB, *]; intro _; exact List.eq_nil_of_length_eq_zero (by omega))
      | (simp [txtB, *]; intro q; simp [q] at *)
  (refine swp_lastW ?_; simp only [go_sem, Bool.not_eq_true', Bool.not_eq_false'])
  refine swp_seqS ?_
  (refine swp_seqW ?_; simp only [go_sem, Bool.not_eq_true', Bool.not_eq_false'])
  (refine swp_condW ?_; simp only [go_sem, Bool.not_eq_true', Bool.not_eq_false'])
  refine ⟨fun k2 => ?_, fun k2 => ?_⟩
  · have e : nodB x = false := by
      unfold nodB
      rw [if_neg k1]
      have : bareB x = false := by simp [bareB]; simp_all
      simp [this]
    rw [e]
    (refine swp_lastW ?_; simp only [go_sem, Bool.not_eq_true', Bool.not_eq_false'])
  (refine swp_lastW ?_; simp only [go_sem, Bool.not_eq_true', Bool.not_eq_false'])
  have hb : bareB x = true := by simp [bareB]; simp_all
  clear k2
  refine swp_seqS ?_
  (refine swp_seqW ?_; simp only [go_sem, Bool.not_eq_true', Bool.not_eq_false'])
  (refine swp_condW ?_; simp only [go_sem, Bool.not_eq_true', Bool.not_eq_false'])
  refine ⟨fun k2 => ?_, fun k2 => ?_⟩
  · have e : nodB x = (bareB x && decide (x.w = 0) && decide (x.h = 0) && decide (x.side = 0) && hasL 1 1099511627776 [x.line] && hasL 1 1099511627776 x.words && hasL 0 1099511627776 [x.space] && decide (0 < x.words.length)) := by unfold nodB; rw [if_neg k1, if_pos k2]
    rw [e]
    refine swp_cutS (fun _ : Unit => ⟨[(1, .hdr 8), (3, .raw (.int .i64 1099511627776))], [(8, some (.cells 56 (lNo x)))], none⟩) (fun _ => hasL 1 1099511627776 x.words = true) 3 ?_ ?_
    · (refine swp_seqW ?_; simp only [go_sem, Bool.not_eq_true', Bool.not_eq_false'])
      refine swp_block ?_
      refine swp_loop2 [] (fun k : Nat => ⟨[(1, .hdr 8), (3, .raw (.int .i64 1099511627776)), (4, .raw (.int .i64 k))], [(8, some (.cells 56 (lNo x)))], none⟩) (fun k => k ≤ x.words.length ∧ ∀ j (hj : j < x.words.length), j < k → offN 1 1099511627776 x.words[j] = false) (fun k => x.words.length - k) 4 0 (by simp only [go_sem, Bool.not_eq_true', Bool.not_eq_false']; rfl) (by simp only [go_sem, Bool.not_eq_true', Bool.not_eq_false']) ?_ ?_
      · exact ⟨Nat.zero_le _, fun j _ h => absurd h (Nat.not_lt_zero j)⟩
      · rintro k ⟨hk, ha⟩
        (refine swp_lastW ?_; simp only [go_sem, Bool.not_eq_true', Bool.not_eq_false', List.length_map])
        refine ⟨fun h5 => ?_, fun h5 => ?_⟩
        · have hkl : k < x.words.length := by omega
          refine ⟨by omega, ex_get hkl ?_⟩
          (refine acall2 [] (from6_ok x.words[k] 1 1099511627776) (by simp only [go_sem, Bool.not_eq_true', Bool.not_eq_false']; rfl) (fit_of (by simp only [go_sem, Bool.not_eq_true', Bool.not_eq_false']) (by simp only [go_sem, Bool.not_eq_true', Bool.not_eq_false']) (by simp only [go_sem, Bool.not_eq_true', Bool.not_eq_false']) (by simp only [go_sem, Bool.not_eq_true', Bool.not_eq_false']) (by simp only [go_sem, Bool.not_eq_true', Bool.not_eq_false']) (by simp only [go_sem, Bool.not_eq_true', Bool.not_eq_false']) (by simp only [go_sem, Bool.not_eq_true', Bool.not_eq_false'])) ?_; simp only [go_sem, Bool.not_eq_true', Bool.not_eq_false'])
          refine ⟨fun h6 => ?_, fun h6 => ⟨by omega, ?_⟩⟩
          · simp [hasL_not hkl h6]
          · (refine loop_end [] (k + 1) (by simp only [go_sem, Bool.not_eq_true', Bool.not_eq_false']; rfl) ?_ ?_ ?_; (focus first | omega | (simp only; omega)); (focus (simp only [go_sem, Bool.not_eq_true', Bool.not_eq_false']; done)))
            refine ⟨by omega, fun j hj h7 => ?_⟩
            rcases Nat.lt_succ_iff_lt_or_eq.1 h7 with h8 | h8
            · exact ha j hj h8
            · subst h8; rw [offN_fr, h6]; rfl
        · (refine cut_end [] (()) (by simp only [go_sem, Bool.not_eq_true', Bool.not_eq_false']; rfl) ?_ ?_; (focus (simp only [go_sem, Bool.not_eq_true', Bool.not_eq_false']; done)))
          exact hasL_words fun j hj => ha j hj (by omega)
    rintro - hwd
    rw [hasL_1, hasL_1]
    (refine swp_lastW ?_; simp only [go_sem, Bool.not_eq_true', Bool.not_eq_false', List.length_map])
    refine ⟨fun h1 => ?_, fun h1 => by simp [show x.words.length = 0 by omega]⟩
    (refine acall2 [] (from6_ok x.line 1 1099511627776) (by simp only [go_sem, Bool.not_eq_true', Bool.not_eq_false']; rfl) (fit_of (by simp only [go_sem, Bool.not_eq_true', Bool.not_eq_false']) (by simp only [go_sem, Bool.not_eq_true', Bool.not_eq_false']) (by simp only [go_sem, Bool.not_eq_true', Bool.not_eq_false']) (by simp only [go_sem, Bool.not_eq_true', Bool.not_eq_false']) (by simp only [go_sem, Bool.not_eq_true', Bool.not_eq_false']) (by simp only [go_sem, Bool.not_eq_true', Bool.not_eq_false']) (by simp only [go_sem, Bool.not_eq_true', Bool.not_eq_false'])) ?_; simp only [go_sem, Bool.not_eq_true', Bool.not_eq_false'])
    refine ⟨fun h2 => ?_, fun h2 => by simp [h2]⟩
    (refine acall2 [] (from6_ok x.space 0 1099511627776) (by simp only [go_sem, Bool.not_eq_true', Bool.not_eq_false']; rfl) (fit_of (by simp only [go_sem, Bool.not_eq_true', Bool.not_eq_false']) (by simp only [go_sem, Bool.not_eq_true', Bool.not_eq_false']) (by simp only [go_sem, Bool.not_eq_true', Bool.not_eq_false']) (by simp only [go_sem, Bool.not_eq_true', Bool.not_eq_false']) (by simp only [go_sem, Bool.not_eq_true', Bool.not_eq_false']) (by simp only [go_sem, Bool.not_eq_true', Bool.not_eq_false']) (by simp only [go_sem, Bool.not_eq_true', Bool.not_eq_false'])) ?_; simp only [go_sem, Bool.not_eq_true', Bool.not_eq_false'])
    refine ⟨fun h3 => ?_, fun h3 => by simp [h3]⟩
    repeat' first | contradiction | intro _ | refine And.intro ?_ ?_ | refine ex_get (by omega) ?_ | (show drawB _ _ = true; kernel_rfl) | (refine ret2 [] (by simp only [go_sem, Bool.not_eq_true', Bool.not_eq_false']; rfl) ?_; simp only [go_sem, Bool.not_eq_true', Bool.not_eq_false'])
    all_goals first
      | (simp [*]; done)
      | (simp [*]; omega)
  (refine swp_lastW ?_; simp only [go_sem, Bool.not_eq_true', Bool.not_eq_false'])
  by_cases k5 : txtB x = true ∧ frB x.w 1 1099511627776 = true ∧ frB x.h 1 1099511627776 = true
  rotate_left
  · have e : nodB x = false := by
      unfold nodB
      rw [if_neg k1, if_neg k2, hasL_2]
      cases h1 : txtB x <;> cases h2 : frB x.w 1 1099511627776 <;> cases h3 : frB x.h 1 1099511627776 <;> simp_all
    rw [e]
    refine swp_seqS ?_
    (refine swp_seqW ?_; simp only [go_sem, Bool.not_eq_true', Bool.not_eq_false', List.length_map])
    refine ⟨fun z1 => ⟨fun z2 => ⟨fun z3 => ?_, fun z3 => ?_⟩, fun z2 => ?_⟩, fun z1 => ?_⟩
    · (refine acall2 [] (from6_ok x.w 1 1099511627776) (by simp only [go_sem, Bool.not_eq_true', Bool.not_eq_false']; rfl) (fit_of (by simp only [go_sem, Bool.not_eq_true', Bool.not_eq_false']) (by simp only [go_sem, Bool.not_eq_true', Bool.not_eq_false']) (by simp only [go_sem, Bool.not_eq_true', Bool.not_eq_false']) (by simp only [go_sem, Bool.not_eq_true', Bool.not_eq_false']) (by simp only [go_sem, Bool.not_eq_true', Bool.not_eq_false']) (by simp only [go_sem, Bool.not_eq_true', Bool.not_eq_false']) (by simp only [go_sem, Bool.not_eq_true', Bool.not_eq_false'])) ?_; simp only [go_sem, Bool.not_eq_true', Bool.not_eq_false'])
      refine ⟨fun z4 => ?_, fun z4 => ?_⟩
      · (refine acall2 [] (from6_ok x.h 1 1099511627776) (by simp only [go_sem, Bool.not_eq_true', Bool.not_eq_false']; rfl) (fit_of (by simp only [go_sem, Bool.not_eq_true', Bool.not_eq_false']) (by simp only [go_sem, Bool.not_eq_true', Bool.not_eq_false']) (by simp only [go_sem, Bool.not_eq_true', Bool.not_eq_false']) (by simp only [go_sem, Bool.not_eq_true', Bool.not_eq_false']) (by simp only [go_sem, Bool.not_eq_true', Bool.not_eq_false']) (by simp only [go_sem, Bool.not_eq_true', Bool.not_eq_false']) (by simp only [go_sem, Bool.not_eq_true', Bool.not_eq_false'])) ?_; simp only [go_sem, Bool.not_eq_true', Bool.not_eq_false'])
        (refine swp_condW ?_; simp only [go_sem, Bool.not_eq_true', Bool.not_eq_false'])
        refine ⟨fun z5 => ?_, fun z5 => absurd ⟨by simp only [txtB, Bool.and_eq_true, decide_eq_true_eq]; omega, z4, z5⟩ k5⟩
        (refine swp_lastW ?_; simp only [go_sem, Bool.not_eq_true', Bool.not_eq_false'])
      · (refine swp_condW ?_; simp only [go_sem, Bool.not_eq_true', Bool.not_eq_false'])
        (refine swp_lastW ?_; simp only [go_sem, Bool.not_eq_true', Bool.not_eq_false'])
    all_goals
      (refine swp_condW ?_; simp only [go_sem, Bool.not_eq_true', Bool.not_eq_false'])
      (refine swp_lastW ?_; simp only [go_sem, Bool.not_eq_true', Bool.not_eq_false'])
  obtain ⟨k6, k7, k8⟩ := k5
  have e : nodB x = (decide (x.kind = 3) && decide (x.side = 0) || decide (x.kind = 4) && frB x.side 1 2) := by
    unfold nodB
    rw [if_neg k1, if_neg k2, hasL_2, hasL_1]
    by_cases k3 : x.kind = 3
    · simp [*]
    · by_cases k4 : x.kind = 4 <;> simp [*]
  rw [e]
  simp only [txtB, Bool.and_eq_true, decide_eq_true_eq] at k6
  obtain ⟨⟨q1, q2⟩, q3⟩ := k6
  refine swp_seqS ?_
  (refine swp_seqW ?_; simp only [go_sem, Bool.not_eq_true', Bool.not_eq_false', List.length_map])
  refine ⟨fun z1 => ⟨fun z2 => ⟨fun z3 => ?_, fun z3 => absurd (by omega) z3⟩, fun z2 => absurd q2 z2⟩, fun z1 => absurd q1 z1⟩
  (refine acall2 [] (from6_ok x.w 1 1099511627776) (by simp only [go_sem, Bool.not_eq_true', Bool.not_eq_false']; rfl) (fit_of (by simp only [go_sem, Bool.not_eq_true', Bool.not_eq_false']) (by simp only [go_sem, Bool.not_eq_true', Bool.not_eq_false']) (by simp only [go_sem, Bool.not_eq_true', Bool.not_eq_false']) (by simp only [go_sem, Bool.not_eq_true', Bool.not_eq_false']) (by simp only [go_sem, Bool.not_eq_true', Bool.not_eq_false']) (by simp only [go_sem, Bool.not_eq_true', Bool.not_eq_false']) (by simp only [go_sem, Bool.not_eq_true', Bool.not_eq_false'])) ?_; simp only [go_sem, Bool.not_eq_true', Bool.not_eq_false', k7])
  (refine acall2 [] (from6_ok x.h 1 1099511627776) (by simp only [go_sem, Bool.not_eq_true', Bool.not_eq_false']; rfl) (fit_of (by simp only [go_sem, Bool.not_eq_true', Bool.not_eq_false']) (by simp only [go_sem, Bool.not_eq_true', Bool.not_eq_false']) (by simp only [go_sem, Bool.not_eq_true', Bool.not_eq_false']) (by simp only [go_sem, Bool.not_eq_true', Bool.not_eq_false']) (by simp only [go_sem, Bool.not_eq_true', Bool.not_eq_false']) (by simp only [go_sem, Bool.not_eq_true', Bool.not_eq_false']) (by simp only [go_sem, Bool.not_eq_true', Bool.not_eq_false'])) ?_; simp only [go_sem, Bool.not_eq_true', Bool.not_eq_false', k8])
  (refine swp_condW ?_; simp only [go_sem, Bool.not_eq_true', Bool.not_eq_false', k8])
  (refine swp_lastW ?_; simp only [go_sem, Bool.not_eq_true', Bool.not_eq_false'])
  (refine swp_lastW ?_; simp only [go_sem, Bool.not_eq_true', Bool.not_eq_false'])
  refine ⟨fun k3 => ⟨fun z4 => ?_, fun z4 => ?_⟩, fun k3 => ⟨fun k4 => ?_, fun k4 => ?_⟩⟩
  · simp [*]
  · simp [*]
  · (refine acall2 [] (from6_ok x.side 1 2) (by simp only [go_sem, Bool.not_eq_true', Bool.not_eq_false']; rfl) (fit_of (by simp only [go_sem, Bool.not_eq_true', Bool.not_eq_false']) (by simp only [go_sem, Bool.not_eq_true', Bool.not_eq_false']) (by simp only [go_sem, Bool.not_eq_true', Bool.not_eq_false']) (by simp only [go_sem, Bool.not_eq_true', Bool.not_eq_false']) (by simp only [go_sem, Bool.not_eq_true', Bool.not_eq_false']) (by simp only [go_sem, Bool.not_eq_true', Bool.not_eq_false']) (by simp only [go_sem, Bool.not_eq_true', Bool.not_eq_false'])) ?_; simp only [go_sem, Bool.not_eq_true', Bool.not_eq_false'])
    simp [*]
  · simp [*]
end Go.Proofs.YtblmebjhhanoaaaGreat
/- CHAPTER 06: the document's answer: rows within rows. -/
/- G -/
/- BOOLS -/
set_option linter.unusedSimpArgs false
set_option linter.unusedVariables false
namespace Go.Proofs.YtblmebjhhanoaaaGreat
open Go.RowKit

def kinN (l : List LNo) (k : Nat) : Int := match l[k]? with | some x => x.kind | none => 0
theorem kinN_get {l : List LNo} {k : Nat} (hk : k < l.length) : kinN l k = l[k].kind := by unfold kinN; rw [List.getElem?_eq_getElem hk]
def rowB (l : List LNo) : Nat → Nat → Int → Bool
  | 0, _, _ => true
  | f + 1, k, e => if (k : Int) < e then decide (1 ≤ sizN l k) && decide (sizN l k ≤ e - k) && !(decide (kinN l k ≠ 1) && decide (1 < sizN l k)) && rowB l f (k + 1) (k + sizN l k) && rowB l f (k + (sizN l k).toNat) e else true
set_option maxRecDepth 100000 in
set_option maxHeartbeats 4000000 in
theorem rows6_ok (l : List LNo) (hl : l.length ≤ 1000) : ∀ (f : Nat) (k : Nat) (e : Int), e ≤ l.length → 0 ≤ e → e - k < f → k ≤ l.length → FnOk Tryz.prog 123 [.sl 20 (l.map cNo), .raw (.int .i64 k), .raw (.int .i64 e)] [] (.raw (.bool (rowB l f k e))) [] := by
  intro f
  induction f using Nat.strongRecOn with
  | ind f ih =>
    intro k e h1 h0 h2 h3
    refine fn_of_swp Tryz.func123 rfl (by kernel_rfl) (by kernel_rfl) (Nat.le_of_ble_eq_true rfl) Tryz.results123 ?_
    (refine swp_seqW ?_; simp only [go_sem, Bool.not_eq_true', Bool.not_eq_false'])
    refine swp_cutS (fun _ : Unit => ⟨[], [], none⟩) (fun _ => rowB l f k e = true) 3 ?_ ?_
    · refine swp_block ?_
      refine swp_loop2 [] (fun k : Nat => ⟨[(0, .sl 20 (l.map cNo)), (1, .raw (.int .i64 k)), (2, .raw (.int .i64 e))], [], none⟩) (fun z => ∃ g, g ≤ f ∧ e - z < g ∧ rowB l g z e = rowB l f k e ∧ z ≤ l.length) (fun z => l.length - z) 3 k (by simp only [go_sem, Bool.not_eq_true', Bool.not_eq_false']; rfl) (by simp only [go_sem, Bool.not_eq_true', Bool.not_eq_false']) ?_ ?_
      · exact ⟨f, Nat.le_refl _, h2, rfl, h3⟩
      · rintro kk ⟨g, g1, g2, g3, g4⟩
        (refine swp_seqW ?_; simp only [go_sem, Bool.not_eq_true', Bool.not_eq_false'])
        refine ⟨fun q => ?_, fun q => ?_⟩
        · obtain ⟨g, rfl⟩ : ∃ g', g = g' + 1 := ⟨g - 1, by omega⟩
          have hk : kk < l.length := by omega
          have hsz := sizN_get hk
          have hkn := kinN_get hk
          rw [rowB, if_pos q, hsz, hkn] at g3
          refine swp_block ?_
          (refine swp_seqW ?_; simp only [go_sem, Bool.not_eq_true', Bool.not_eq_false'])
          refine ⟨by omega, ex_get hk ?_⟩
          have ihx := ih g (by omega) (kk + 1)
          generalize l[kk] = x at g3
          refine swp_seqS ?_
          (refine swp_seqW ?_; simp only [go_sem, Bool.not_eq_true', Bool.not_eq_false'])
          obtain ⟨m, hm⟩ : ∃ m : Int, m = kk + x.size := ⟨_, rfl⟩
          refine ⟨fun z1 => ⟨by omega, fun z2 => ⟨fun z3 => ⟨fun z4 => ?_, fun z4 => ?_⟩, fun z3 => ?_⟩, fun z2 => ?_⟩, fun z1 => ?_⟩
          rotate_left
          · have e0 : rowB l f k e = false := by rw [← g3]; simp [z3, z4]
            (refine swp_condW ?_; simp only [go_sem, Bool.not_eq_true', Bool.not_eq_false'])
            (refine swp_lastW ?_; simp only [go_sem, Bool.not_eq_true', Bool.not_eq_false', e0])
          rotate_left
          · have e0 : rowB l f k e = false := by rw [← g3]; have : ¬ x.size ≤ e - kk := by omega
                                                 simp [this]
            (refine swp_condW ?_; simp only [go_sem, Bool.not_eq_true', Bool.not_eq_false'])
            (refine swp_lastW ?_; simp only [go_sem, Bool.not_eq_true', Bool.not_eq_false', e0])
          · have e0 : rowB l f k e = false := by rw [← g3]; have : ¬ 1 ≤ x.size := by omega
                                                 simp [this]
            (refine swp_condW ?_; simp only [go_sem, Bool.not_eq_true', Bool.not_eq_false'])
            (refine swp_lastW ?_; simp only [go_sem, Bool.not_eq_true', Bool.not_eq_false', e0])
          all_goals
            have e1 : (decide (1 ≤ x.size) && decide (x.size ≤ e - ↑kk) && !(decide (x.kind ≠ 1) && decide (1 < x.size))) = true := by
              have a1 : 1 ≤ x.size := by omega
              have a2 : x.size ≤ e - kk := by omega
              simp [a1, a2]
              omega
            rw [e1, Bool.true_and] at g3
            refine ⟨by omega, by omega, ?_⟩
            rw [← hm] at g3 ⊢
            (refine acall2 [] (ihx m (by omega) (by omega) (by omega) (by omega)) (by simp only [go_sem, Bool.not_eq_true', Bool.not_eq_false']; rfl) (fit_of (by simp only [go_sem, Bool.not_eq_true', Bool.not_eq_false']) (by simp only [go_sem, Bool.not_eq_true', Bool.not_eq_false']) (by simp only [go_sem, Bool.not_eq_true', Bool.not_eq_false']) (by simp only [go_sem, Bool.not_eq_true', Bool.not_eq_false']) (by simp only [go_sem, Bool.not_eq_true', Bool.not_eq_false']) (by simp only [go_sem, Bool.not_eq_true', Bool.not_eq_false']) (by simp only [go_sem, Bool.not_eq_true', Bool.not_eq_false'])) ?_; simp only [go_sem, Bool.not_eq_true', Bool.not_eq_false'])
            (refine swp_condW ?_; simp only [go_sem, Bool.not_eq_true', Bool.not_eq_false'])
            refine ⟨fun z5 => ?_, fun z5 => ?_⟩
            · have e0 : rowB l f k e = false := by rw [← g3, z5]; rfl
              (refine swp_lastW ?_; simp only [go_sem, Bool.not_eq_true', Bool.not_eq_false', e0])
            · rw [z5, Bool.true_and] at g3
              (refine swp_lastW ?_; simp only [go_sem, Bool.not_eq_true', Bool.not_eq_false'])
              (refine swp_lastW ?_; simp only [go_sem, Bool.not_eq_true', Bool.not_eq_false'])
              obtain ⟨s, hs⟩ : ∃ s : Nat, x.size = s := ⟨x.size.toNat, by omega⟩
              rw [hs] at g3 ⊢
              simp only [Int.toNat_natCast] at g3
              refine ⟨by omega, ?_⟩
              (refine loop_end [] (kk + s) (by simp only [go_sem, Bool.not_eq_true', Bool.not_eq_false']; rfl) ?_ ?_ ?_; (focus first | omega | (simp only; omega)); (focus (simp only [go_sem, Bool.not_eq_true', Bool.not_eq_false']; done)))
              exact ⟨g, by omega, by omega, g3, by omega⟩
        · (refine cut_end [] (()) (by simp only [go_sem, Bool.not_eq_true', Bool.not_eq_false']; rfl) ?_ ?_; (focus (simp only [go_sem, Bool.not_eq_true', Bool.not_eq_false']; done)))
          rw [← g3]
          cases g with
          | zero => rfl
          | succ g => rw [rowB, if_neg q]
    rintro - hb
    rw [hb]
    (refine swp_lastW ?_; simp only [go_sem, Bool.not_eq_true', Bool.not_eq_false'])
def isR (l : List LNo) : Bool := l.all nodB && rowB l (l.length + 1) 0 l.length
set_option maxRecDepth 100000 in
set_option maxHeartbeats 4000000 in
theorem isR_ok (l : List LNo) (hl : l.length ≤ 1000) (hw : ∀ x ∈ l, x.words.length ≤ 9223372036854775807) : FnOk Tryz.prog 96 [.sl 20 (l.map cNo)] [] (.raw (.bool (isR l))) [] := by
  refine fn_of_swp Tryz.func96 rfl (by kernel_rfl) (by kernel_rfl) (Nat.le_of_ble_eq_true rfl) Tryz.results96 ?_
  (refine swp_seqW ?_; simp only [go_sem, Bool.not_eq_true', Bool.not_eq_false'])
  refine swp_cutS (fun _ : Unit => ⟨[(0, .sl 20 (l.map cNo))], [], none⟩) (fun _ => l.all nodB = true) 3 ?_ ?_
  · (refine swp_seqW ?_; simp only [go_sem, Bool.not_eq_true', Bool.not_eq_false'])
    refine swp_block ?_
    refine swp_loop2 [] (fun k : Nat => ⟨[(0, .sl 20 (l.map cNo)), (3, .raw (.int .i64 k))], [], none⟩) (fun k => k ≤ l.length ∧ ∀ j (hj : j < l.length), j < k → nodB l[j] = true) (fun k => l.length - k) 4 0 (by simp only [go_sem, Bool.not_eq_true', Bool.not_eq_false']; rfl) (by simp only [go_sem, Bool.not_eq_true', Bool.not_eq_false']) ?_ ?_
    · exact ⟨Nat.zero_le _, fun j _ h => absurd h (Nat.not_lt_zero j)⟩
    · rintro k ⟨hk, ha⟩
      (refine swp_lastW ?_; simp only [go_sem, Bool.not_eq_true', Bool.not_eq_false', List.length_map])
      refine ⟨fun h5 => ?_, fun h5 => ?_⟩
      · have hkl : k < l.length := by omega
        refine ⟨by omega, ex_get hkl ?_⟩
        (refine acall2 [] (one6_ok l[k] (hw _ (List.getElem_mem hkl))) (by simp only [go_sem, Bool.not_eq_true', Bool.not_eq_false']; rfl) (fit_of (by simp only [go_sem, Bool.not_eq_true', Bool.not_eq_false']) (by simp only [go_sem, Bool.not_eq_true', Bool.not_eq_false']) (by simp only [go_sem, Bool.not_eq_true', Bool.not_eq_false']) (by simp only [go_sem, Bool.not_eq_true', Bool.not_eq_false']) (by simp only [go_sem, Bool.not_eq_true', Bool.not_eq_false']) (by simp only [go_sem, Bool.not_eq_true', Bool.not_eq_false']) (by simp only [go_sem, Bool.not_eq_true', Bool.not_eq_false'])) ?_; simp only [go_sem, Bool.not_eq_true', Bool.not_eq_false'])
        refine ⟨fun h6 => ?_, fun h6 => ⟨by omega, ?_⟩⟩
        · have : l.all nodB = false := by
            rw [List.all_eq_false]
            exact ⟨l[k], List.getElem_mem hkl, by rw [h6]; decide⟩
          simp [isR, this]
        · (refine loop_end [] (k + 1) (by simp only [go_sem, Bool.not_eq_true', Bool.not_eq_false']; rfl) ?_ ?_ ?_; (focus first | omega | (simp only; omega)); (focus (simp only [go_sem, Bool.not_eq_true', Bool.not_eq_false']; done)))
          refine ⟨by omega, fun j hj h7 => ?_⟩
          rcases Nat.lt_succ_iff_lt_or_eq.1 h7 with h8 | h8
          · exact ha j hj h8
          · subst h8; exact h6
      · (refine cut_end [] (()) (by simp only [go_sem, Bool.not_eq_true', Bool.not_eq_false']; rfl) ?_ ?_; (focus (simp only [go_sem, Bool.not_eq_true', Bool.not_eq_false']; done)))
        rw [List.all_eq_true]
        intro x hx
        obtain ⟨j, hj, rfl⟩ := List.getElem_of_mem hx
        exact ha j hj (by omega)
  rintro - hb
  have e : isR l = rowB l (l.length + 1) 0 l.length := by simp [isR, hb]
  rw [e]
  (refine swp_lastW ?_; simp only [go_sem, Bool.not_eq_true', Bool.not_eq_false', List.length_map])
  (refine acall2 [] (rows6_ok l hl (l.length + 1) 0 l.length (by omega) (by omega) (by omega) (by omega)) (by simp only [go_sem, Bool.not_eq_true', Bool.not_eq_false']; rfl) (fit_of (by simp only [go_sem, Bool.not_eq_true', Bool.not_eq_false']) (by simp only [go_sem, Bool.not_eq_true', Bool.not_eq_false']) (by simp only [go_sem, Bool.not_eq_true', Bool.not_eq_false']) (by simp only [go_sem, Bool.not_eq_true', Bool.not_eq_false']) (by simp only [go_sem, Bool.not_eq_true', Bool.not_eq_false']) (by simp only [go_sem, Bool.not_eq_true', Bool.not_eq_false']) (by simp only [go_sem, Bool.not_eq_true', Bool.not_eq_false'])) ?_; simp only [go_sem, Bool.not_eq_true', Bool.not_eq_false'])
end Go.Proofs.YtblmebjhhanoaaaGreat
/- CHAPTERS 06, 08: nodes of a document: the program's test is the answer's; who stands in whom. -/
/- G -/
set_option linter.unusedSimpArgs false
set_option linter.unusedVariables false
namespace Go.Proofs.YtblmebjhhanoaaaGreat
open Go.RowKit

def leafB (x : LNo) : Bool := !(decide (x.kind ≠ 1) && decide (1 < x.size))
theorem isG_leaf : ∀ (l : List LNo) (i : Nat) (st : List Int), isG l i st = true → ∀ x ∈ l, leafB x = true
  | [], _, _, _, x, hx => by cases hx
  | y :: l, i, st, h, x, hx => by
    rw [isG] at h
    simp only [Bool.and_eq_true] at h
    rcases List.mem_cons.1 hx with e | e
    · subst e; exact h.1.2
    · exact isG_leaf l (i + 1) _ h.2 x e
theorem popR_chn2 (l : List LNo) (k : Nat) : ∀ (R : List Int), chn l k R → chn l k (popR k R)
  | [], h => h
  | [a], h => h
  | a :: b :: t, h => by
    rw [popR]
    split
    · next q => subst q; exact popR_chn2 l k (b :: t) (by have := h.2; rwa [Int.toNat_natCast] at this)
    · exact h
theorem isG_of (l : List LNo) (hn : ∀ x ∈ l, nodB x = true) (hf : ∀ x ∈ l, leafB x = true) : ∀ (m k : Nat) (R : List Int), m + k = l.length → gdR k l.length R → chn l k R → isG (l.drop k) k R.reverse = true
  | 0, k, R, hm, hg, h => by
    rw [List.drop_of_length_le (by omega)]; rfl
  | m + 1, k, R, hm, hg, h => by
    have hk : k < l.length := by omega
    have hg2 := popR_gd (by omega) R hg
    have h2 := popR_chn2 l k R h
    rw [List.drop_eq_getElem_cons hk, isG, popS_rev _ _ _ (by simp)]
    generalize popR (k : Int) R = R2 at hg2 h2 ⊢
    have hs := sizN_get hk
    cases R2 with
    | nil => exact absurd hg2 (by simp [gdR])
    | cons e t =>
      obtain ⟨⟨f, n1⟩, c1⟩ := h2
      have hke : (k : Int) < e := by
        cases t with
        | nil => have := hg2.1; omega
        | cons b t => have := hg2.1; omega
      cases f with
      | zero => exact absurd n1 (by simp [nst])
      | succ f =>
        obtain ⟨u1, u2, u3, u4⟩ := n1.2 hke
        rw [hs] at u1 u2 u3 u4
        obtain ⟨s, hs2⟩ : ∃ s : Nat, l[k].size = s := ⟨l[k].size.toNat, by omega⟩
        rw [topI_rev]
        have e1 := hn l[k] (List.getElem_mem hk)
        have e2 := hf l[k] (List.getElem_mem hk)
        unfold leafB at e2
        rw [hs2] at u1 u2 u3 u4
        have hR : (e :: t).reverse ++ [(k : Int) + (s : Int)] = (((k : Int) + (s : Int)) :: e :: t).reverse := by simp
        rw [e1, e2, hs2, hR]
        simp only [Bool.and_eq_true, decide_eq_true_eq, Bool.true_and]
        refine ⟨⟨⟨u1, by omega⟩, trivial⟩, isG_of l hn hf m (k + 1) _ (by omega) ⟨by omega, gdR_to hg2 (by omega)⟩ ⟨⟨f, u3⟩, ⟨f, ?_⟩, c1⟩⟩
        have ek : ((k : Int) + (s : Int)).toNat = k + s := by omega
        rw [ek]
        rw [Int.toNat_natCast] at u4
        exact u4
theorem rowB_nst (l : List LNo) : ∀ (f k : Nat) (e : Int), rowB l f k e = true → (k : Int) ≤ e → e - k < f → nst l f k e
  | 0, k, e, h, h1, h2 => by omega
  | f + 1, k, e, h, h1, h2 => by
    refine ⟨h1, fun q => ?_⟩
    rw [rowB, if_pos q] at h
    simp only [Bool.and_eq_true, decide_eq_true_eq] at h
    obtain ⟨⟨⟨⟨u1, u2⟩, -⟩, u3⟩, u4⟩ := h
    exact ⟨u1, by omega, rowB_nst l f _ _ u3 (by omega) (by omega), rowB_nst l f _ _ u4 (by omega) (by omega)⟩
theorem rowB_leaf (l : List LNo) : ∀ (f k : Nat) (e : Int), rowB l f k e = true → e - k < f → e ≤ l.length → ∀ j (hj : j < l.length), k ≤ j → (j : Int) < e → leafB l[j] = true
  | 0, k, e, h, h2, h3, j, hj, h4, h5 => by omega
  | f + 1, k, e, h, h2, h3, j, hj, h4, h5 => by
    rw [rowB, if_pos (by omega)] at h
    simp only [Bool.and_eq_true, decide_eq_true_eq] at h
    obtain ⟨⟨⟨⟨u1, u2⟩, u0⟩, u3⟩, u4⟩ := h
    by_cases h6 : j = k
    · subst h6
      rw [kinN_get hj, sizN_get hj] at u0
      exact u0
    · by_cases h7 : (j : Int) < k + sizN l k
      · exact rowB_leaf l f _ _ u3 (by omega) (by omega) j hj (by omega) h7
      · exact rowB_leaf l f _ _ u4 (by omega) h3 j hj (by omega) h5
theorem nst_rowB (l : List LNo) (hf : ∀ x ∈ l, leafB x = true) : ∀ (f k : Nat) (e : Int), nst l f k e → e ≤ l.length → rowB l f k e = true
  | 0, k, e, h, h2 => rfl
  | f + 1, k, e, h, h2 => by
    rw [rowB]
    split
    · next q =>
      obtain ⟨u1, u2, u3, u4⟩ := h.2 q
      have hk : k < l.length := by omega
      have e2 := hf l[k] (List.getElem_mem hk)
      unfold leafB at e2
      rw [kinN_get hk, sizN_get hk] at *
      rw [e2, nst_rowB l hf f _ _ u3 (by omega), nst_rowB l hf f _ _ u4 h2]
      simp only [Bool.and_eq_true, decide_eq_true_eq, Bool.and_true]
      omega
    · rfl
theorem isR_eq (l : List LNo) : isR l = isS l := by
  rw [Bool.eq_iff_iff]
  constructor
  · intro h
    simp only [isR, Bool.and_eq_true, List.all_eq_true] at h
    obtain ⟨h1, h2⟩ := h
    have h3 := rowB_nst l _ _ _ h2 (by omega) (by omega)
    have h4 := rowB_leaf l _ _ _ h2 (by omega) (by omega)
    refine isG_of l h1 (fun x hx => ?_) l.length 0 [(l.length : Int)] (by omega) ⟨by omega, rfl⟩ ⟨⟨_, h3⟩, trivial⟩
    obtain ⟨j, hj, rfl⟩ := List.getElem_of_mem hx
    exact h4 j hj (by omega) (by omega)
  · intro h
    simp only [isR, Bool.and_eq_true, List.all_eq_true]
    exact ⟨isG_nod l 0 _ h, nst_rowB l (isG_leaf l 0 _ h) _ _ _ (isS_nst h) (by omega)⟩
theorem isR2_ok (l : List LNo) (hl : l.length ≤ 1000) (hw : ∀ x ∈ l, x.words.length ≤ 9223372036854775807) : FnOk Tryz.prog 96 [.sl 20 (l.map cNo)] [] (.raw (.bool (isS l))) [] := by
  rw [← isR_eq]
  exact isR_ok l hl hw
end Go.Proofs.YtblmebjhhanoaaaGreat
/- CHAPTER 08: the document's answer: who stands in whom. -/
/- G -/
/- BOOLS -/
set_option linter.unusedSimpArgs false
set_option linter.unusedVariables false
namespace Go.Proofs.YtblmebjhhanoaaaGreat
open Go.RowKit

theorem does_subw {P : Program} {n : Nat} {S : AS} {o : Oper} {x y : Operand} {t u : TypeId} {k l : Int} (ho : o.op = .binOp .sub t x y u) (hx : S.val x = .raw (.int .i64 k)) (hy : S.val y = .raw (.int .i64 l)) : DoesAt P o S n ⟨.raw (.int .i64 (IntKind.i64.wrap (k - l))), [], []⟩ :=
  does_pure rfl fun c p ρ a w hm => ⟨_, by
    unfold execOp; rw [ho]
    refine run_v (v := .int .i64 (IntKind.i64.wrap (k - l))) ?_
    simp [hm.raw hx, hm.raw hy, eqGuard, binOp, Op.intArith], by simp [Rep]⟩
set_option maxRecDepth 100000 in
theorem has8r_ok (l : List LNo) (a : Int) : FnOk Tryz.prog 146 [.sl 20 (l.map cNo), .raw (.int .i64 a)] [] (.raw (.bool (hasN l a))) [] := by
  refine fn_of_awp Tryz.func146 rfl (by kernel_rfl) (by kernel_rfl) (Nat.le_of_ble_eq_true rfl) Tryz.results146 ?_
  simp only [go_sem, Bool.not_eq_true', Bool.not_eq_false', List.length_map]
  repeat' first | contradiction | intro _ | refine And.intro ?_ ?_ | refine ex_get (by omega) ?_ | (show drawB _ _ = true; kernel_rfl) | (refine ret2 [] (by simp only [go_sem, Bool.not_eq_true', Bool.not_eq_false']; rfl) ?_; simp only [go_sem, Bool.not_eq_true', Bool.not_eq_false'])
  all_goals (simp [hasN] <;> omega)
set_option maxRecDepth 100000 in
set_option maxHeartbeats 4000000 in
theorem holds8r_ok (l : List LNo) (a b : Int) (hl : l.length ≤ 1000) : FnOk Tryz.prog 147 [.sl 20 (l.map cNo), .raw (.int .i64 a), .raw (.int .i64 b)] [] (.raw (.bool (holN l a b))) [] := by
  refine fn_of_awp Tryz.func147 rfl (by kernel_rfl) (by kernel_rfl) (Nat.le_of_ble_eq_true rfl) Tryz.results147 ?_
  simp only [go_sem, Bool.not_eq_true', Bool.not_eq_false']
  (refine acall2 [] (has8r_ok l a) (by simp only [go_sem, Bool.not_eq_true', Bool.not_eq_false']; rfl) (fit_of (by simp only [go_sem, Bool.not_eq_true', Bool.not_eq_false']) (by simp only [go_sem, Bool.not_eq_true', Bool.not_eq_false']) (by simp only [go_sem, Bool.not_eq_true', Bool.not_eq_false']) (by simp only [go_sem, Bool.not_eq_true', Bool.not_eq_false']) (by simp only [go_sem, Bool.not_eq_true', Bool.not_eq_false']) (by simp only [go_sem, Bool.not_eq_true', Bool.not_eq_false']) (by simp only [go_sem, Bool.not_eq_true', Bool.not_eq_false'])) ?_; simp only [go_sem, Bool.not_eq_true', Bool.not_eq_false', List.length_map])
  refine ⟨fun h1 => ?_, fun h1 => by simp [holN, h1]⟩
  (refine acall2 [] (has8r_ok l b) (by simp only [go_sem, Bool.not_eq_true', Bool.not_eq_false']; rfl) (fit_of (by simp only [go_sem, Bool.not_eq_true', Bool.not_eq_false']) (by simp only [go_sem, Bool.not_eq_true', Bool.not_eq_false']) (by simp only [go_sem, Bool.not_eq_true', Bool.not_eq_false']) (by simp only [go_sem, Bool.not_eq_true', Bool.not_eq_false']) (by simp only [go_sem, Bool.not_eq_true', Bool.not_eq_false']) (by simp only [go_sem, Bool.not_eq_true', Bool.not_eq_false']) (by simp only [go_sem, Bool.not_eq_true', Bool.not_eq_false'])) ?_; simp only [go_sem, Bool.not_eq_true', Bool.not_eq_false', List.length_map])
  have k1 := h1
  simp only [hasN, Bool.and_eq_true, decide_eq_true_eq] at k1
  obtain ⟨n, rfl⟩ : ∃ n : Nat, a = n := ⟨a.toNat, by omega⟩
  have hn : n < l.length := by omega
  have e : holN l n b = (hasN l b && decide ((n : Int) ≤ b) && decide (b < n + l[n].size)) := by simp [holN, h1, sizN_get hn]
  rw [e]
  refine ⟨fun h2 => ?_, fun h2 => by simp [h2]⟩
  have k2 := h2
  simp only [hasN, Bool.and_eq_true, decide_eq_true_eq] at k2
  repeat' first | contradiction | intro _ | refine And.intro ?_ ?_ | refine ex_get (by omega) ?_ | (show drawB _ _ = true; kernel_rfl) | (refine ret2 [] (by simp only [go_sem, Bool.not_eq_true', Bool.not_eq_false']; rfl) ?_; simp only [go_sem, Bool.not_eq_true', Bool.not_eq_false'])
  all_goals first
    | omega
    | (simp [*]; done)
    | (simp [*]; omega)
/-- the places above, among those below k. -/
def abvD (l : List LNo) (a : Int) : Nat → List Int
  | 0 => []
  | k + 1 => if a < k + sizN l k then (k : Int) :: abvD l a k else abvD l a k
def abvR (l : List LNo) (a : Int) : List Int := if hasN l a = true then abvD l a a.toNat else []
theorem abvD_len (l : List LNo) (a : Int) : ∀ k, (abvD l a k).length ≤ k
  | 0 => Nat.le_refl _
  | k + 1 => by
    rw [abvD]
    have := abvD_len l a k
    split
    · simp only [List.length_cons]; omega
    · omega
theorem holN_lt {l : List LNo} {a : Int} {k : Nat} (h : hasN l a = true) (hk : (k : Int) < a) : holN l k a = decide (a < k + sizN l k) := by
  have h1 := h
  simp only [hasN, Bool.and_eq_true, decide_eq_true_eq] at h1
  have h2 : hasN l k = true := by simp only [hasN, Bool.and_eq_true, decide_eq_true_eq]; omega
  have h3 : (k : Int) ≤ a := by omega
  simp [holN, h, h2, h3]
set_option maxRecDepth 100000 in
set_option maxHeartbeats 4000000 in
theorem above8r_ok (l : List LNo) (a : Int) (ha : -9223372036854775808 ≤ a ∧ a ≤ 9223372036854775807) (hl : l.length ≤ 1000) : FnOk Tryz.prog 124 [.sl 20 (l.map cNo), .raw (.int .i64 a)] [] (.hdr 8) [(8, .row 3 1 ((abvR l a).map cInt))] := by
  refine fn_of_swp Tryz.func124 rfl (by kernel_rfl) (by kernel_rfl) (Nat.le_of_ble_eq_true rfl) Tryz.results124 ?_
  (refine swp_seqW ?_; simp only [go_sem, Bool.not_eq_true', Bool.not_eq_false'])
  (refine swp_seqW ?_; simp only [go_sem, Bool.not_eq_true', Bool.not_eq_false'])
  refine swp_cutS (fun _ : Unit => ⟨[(5, .hdr 8)], [(8, some (.row 3 1 ((abvR l a).map cInt)))], none⟩) (fun _ => True) 3 ?_ ?_
  · refine swp_cutS (fun p : Int => ⟨[(0, .sl 20 (l.map cNo)), (1, .raw (.int .i64 a)), (5, .hdr 8), (6, .raw (.int .i64 p))], [(8, some (.row 3 1 []))], none⟩) (fun p => hasN l a = true → p = a - 1) 3 ?_ ?_
    · by_cases hm : a = -9223372036854775808
      · refine swp_region (sli_cons rfl (does_move _ (.inl rfl)) (sli_cons rfl (does_subw (k := a) (l := 1) rfl (by simp only [go_sem, Bool.not_eq_true', Bool.not_eq_false']) (by simp only [go_sem, Bool.not_eq_true', Bool.not_eq_false'])) (sli_cons rfl (does_move _ (.inr rfl)) (sli_nil ?_))))
        simp only [go_sem, Bool.not_eq_true', Bool.not_eq_false']
        (refine cut_end [] (IntKind.i64.wrap (a - 1)) (by simp only [go_sem, Bool.not_eq_true', Bool.not_eq_false']; rfl) ?_ ?_; (focus (simp only [go_sem, Bool.not_eq_true', Bool.not_eq_false']; done)))
        intro h
        simp only [hasN, Bool.and_eq_true, decide_eq_true_eq] at h
        omega
      · (refine swp_lastW ?_; simp only [go_sem, Bool.not_eq_true', Bool.not_eq_false'])
        refine ⟨by omega, ?_⟩
        (refine cut_end [] (a - 1) (by simp only [go_sem, Bool.not_eq_true', Bool.not_eq_false']; rfl) ?_ ?_; (focus (simp only [go_sem, Bool.not_eq_true', Bool.not_eq_false']; done)))
        exact fun _ => rfl
    rintro p0 hp0
    refine swp_block ?_
    refine swp_loop2 [] (fun z : LAb => ⟨[(0, .sl 20 (l.map cNo)), (1, .raw (.int .i64 a)), (5, .hdr 8), (6, .raw (.int .i64 z.p))], [(8, some (.row 3 1 (z.acc.map cInt)))], none⟩) (fun z => (hasN l a = false → z.acc = []) ∧ (hasN l a = true → ∃ k : Nat, z.p = k - 1 ∧ k ≤ a.toNat ∧ z.acc ++ abvD l a k = abvR l a ∧ z.acc.length + k ≤ a.toNat)) (fun z => (z.p + 1).toNat) 4 ⟨p0, []⟩ (by simp only [go_sem, Bool.not_eq_true', Bool.not_eq_false']; rfl) (by simp only [go_sem, Bool.not_eq_true', Bool.not_eq_false']) ?_ ?_
    · refine ⟨fun _ => rfl, fun h => ⟨a.toNat, ?_, Nat.le_refl _, ?_, ?_⟩⟩
      · simp only [hp0 h]
        simp only [hasN, Bool.and_eq_true, decide_eq_true_eq] at h
        omega
      · simp [abvR, h]
      · simp
    · rintro ⟨p, acc⟩ ⟨q1, q2⟩
      simp only at q1 q2
      (refine swp_seqW ?_; simp only [go_sem, Bool.not_eq_true', Bool.not_eq_false'])
      refine ⟨fun h1 => ?_, fun h1 => ?_⟩
      · (refine acall2 [] (has8r_ok l a) (by simp only [go_sem, Bool.not_eq_true', Bool.not_eq_false']; rfl) (fit_of (by simp only [go_sem, Bool.not_eq_true', Bool.not_eq_false']) (by simp only [go_sem, Bool.not_eq_true', Bool.not_eq_false']) (by simp only [go_sem, Bool.not_eq_true', Bool.not_eq_false']) (by simp only [go_sem, Bool.not_eq_true', Bool.not_eq_false']) (by simp only [go_sem, Bool.not_eq_true', Bool.not_eq_false']) (by simp only [go_sem, Bool.not_eq_true', Bool.not_eq_false']) (by simp only [go_sem, Bool.not_eq_true', Bool.not_eq_false'])) ?_; simp only [go_sem, Bool.not_eq_true', Bool.not_eq_false'])
        refine ⟨fun h2 => ?_, fun h2 => ?_⟩
        · obtain ⟨k, e1, e2, e3, e4⟩ := q2 h2
          obtain ⟨k, rfl⟩ : ∃ k', k = k' + 1 := ⟨k - 1, by omega⟩
          obtain rfl : p = k := by omega
          have h3 := h2
          simp only [hasN, Bool.and_eq_true, decide_eq_true_eq] at h3
          have hh := holN_lt (l := l) (a := a) (k := k) h2 (by omega)
          rw [abvD] at e3
          refine swp_cutS (fun acc : List Int => ⟨[(0, .sl 20 (l.map cNo)), (1, .raw (.int .i64 a)), (5, .hdr 8), (6, .raw (.int .i64 k))], [(8, some (.row 3 1 (acc.map cInt)))], none⟩) (fun acc => acc ++ abvD l a k = abvR l a ∧ acc.length + k ≤ a.toNat) 3 ?_ ?_
          · refine swp_block ?_
            (refine swp_seqW ?_; simp only [go_sem, Bool.not_eq_true', Bool.not_eq_false'])
            (refine acall2 [] (holds8r_ok l k a hl) (by simp only [go_sem, Bool.not_eq_true', Bool.not_eq_false']; rfl) (fit_of (by simp only [go_sem, Bool.not_eq_true', Bool.not_eq_false']) (by simp only [go_sem, Bool.not_eq_true', Bool.not_eq_false']) (by simp only [go_sem, Bool.not_eq_true', Bool.not_eq_false']) (by simp only [go_sem, Bool.not_eq_true', Bool.not_eq_false']) (by simp only [go_sem, Bool.not_eq_true', Bool.not_eq_false']) (by simp only [go_sem, Bool.not_eq_true', Bool.not_eq_false']) (by simp only [go_sem, Bool.not_eq_true', Bool.not_eq_false'])) ?_; simp only [go_sem, Bool.not_eq_true', Bool.not_eq_false'])
            rw [hh]
            (refine swp_condW ?_; simp only [go_sem, Bool.not_eq_true', Bool.not_eq_false'])
            refine ⟨fun h4 => ?_, fun h4 => ?_⟩
            · (refine swp_lastW ?_; simp only [go_sem, Bool.not_eq_true', Bool.not_eq_false', List.length_map])
              refine ⟨⟨by omega, by omega⟩, ?_⟩
              rw [if_pos h4] at e3
              (refine cut_end [] (acc ++ [(k : Int)]) (by simp only [go_sem, Bool.not_eq_true', Bool.not_eq_false']; rfl) ?_ ?_; (focus (simp only [go_sem, Bool.not_eq_true', Bool.not_eq_false', List.map_append]; done)))
              exact ⟨by rw [← e3]; simp, by simp; omega⟩
            · (refine swp_lastW ?_; simp only [go_sem, Bool.not_eq_true', Bool.not_eq_false'])
              rw [if_neg h4] at e3
              (refine cut_end [] (acc) (by simp only [go_sem, Bool.not_eq_true', Bool.not_eq_false']; rfl) ?_ ?_; (focus (simp only [go_sem, Bool.not_eq_true', Bool.not_eq_false']; done)))
              exact ⟨e3, by omega⟩
          rintro acc ⟨e5, e6⟩
          (refine swp_lastW ?_; simp only [go_sem, Bool.not_eq_true', Bool.not_eq_false'])
          refine ⟨by omega, ?_⟩
          (refine loop_end [] (⟨(k : Int) - 1, acc⟩) (by simp only [go_sem, Bool.not_eq_true', Bool.not_eq_false']; rfl) ?_ ?_ ?_; (focus first | omega | (simp only; omega)); (focus (simp only [go_sem, Bool.not_eq_true', Bool.not_eq_false']; done)))
          exact ⟨fun h => by (rw [h2] at h; cases h), fun _ => ⟨k, rfl, by omega, e5, e6⟩⟩
        · have e : acc = abvR l a := by rw [q1 h2]; simp [abvR, h2]
          rw [e]
          (refine cut_end [] (()) (by simp only [go_sem, Bool.not_eq_true', Bool.not_eq_false']; rfl) ?_ ?_; (focus (simp only [go_sem, Bool.not_eq_true', Bool.not_eq_false']; done)))
          trivial
      · have e : acc = abvR l a := by
          cases h2 : hasN l a with
          | false => rw [q1 h2]; simp [abvR, h2]
          | true =>
            obtain ⟨k, e1, e2, e3, e4⟩ := q2 h2
            obtain rfl : k = 0 := by omega
            rw [← e3]; simp [abvD]
        rw [e]
        (refine cut_end [] (()) (by simp only [go_sem, Bool.not_eq_true', Bool.not_eq_false']; rfl) ?_ ?_; (focus (simp only [go_sem, Bool.not_eq_true', Bool.not_eq_false']; done)))
        trivial
  rintro - -
  (refine swp_lastW ?_; simp only [go_sem, Bool.not_eq_true', Bool.not_eq_false'])
  (refine ret2 [] (by simp only [go_sem, Bool.not_eq_true', Bool.not_eq_false']; rfl) ?_; simp only [go_sem, Bool.not_eq_true', Bool.not_eq_false'])
end Go.Proofs.YtblmebjhhanoaaaGreat
/- CHAPTER 08: the document's answer: parents, kids, rooms. -/
/- G -/
/- BOOLS -/
set_option linter.unusedSimpArgs false
set_option linter.unusedVariables false
namespace Go.Proofs.YtblmebjhhanoaaaGreat
open Go.RowKit

theorem abvD_head (l : List LNo) (a : Int) : ∀ k, (abvD l a k).headD (-1) = parI l a k
  | 0 => rfl
  | k + 1 => by
    rw [abvD, parI]
    split
    · rfl
    · exact abvD_head l a k
theorem abvR_head (l : List LNo) (a : Int) : (abvR l a).headD (-1) = parN l a := by
  unfold abvR parN
  split
  · exact abvD_head l a _
  · rfl
theorem headD_el {l : List Int} (h : 0 < l.length) : l.headD (-1) = l[0] := by
  cases l with
  | nil => exact absurd h (by simp)
  | cons a l => rfl
theorem headD_nil {l : List Int} (h : l.length = 0) : l.headD (-1) = -1 := by
  rw [List.eq_nil_of_length_eq_zero h]; rfl
set_option maxRecDepth 100000 in
set_option maxHeartbeats 4000000 in
theorem parent8r_ok (l : List LNo) (a : Int) (ha : -9223372036854775808 ≤ a ∧ a ≤ 9223372036854775807) (hl : l.length ≤ 1000) : FnOk Tryz.prog 98 [.sl 20 (l.map cNo), .raw (.int .i64 a)] [] (.raw (.int .i64 (parN l a))) [] := by
  have h0 := abvR_head l a
  refine fn_of_awp Tryz.func98 rfl (by kernel_rfl) (by kernel_rfl) (Nat.le_of_ble_eq_true rfl) Tryz.results98 ?_
  simp only [go_sem, Bool.not_eq_true', Bool.not_eq_false']
  (refine acall2 [] (above8r_ok l a ha hl) (by simp only [go_sem, Bool.not_eq_true', Bool.not_eq_false']; rfl) (fit_of (by simp only [go_sem, Bool.not_eq_true', Bool.not_eq_false']) (by simp only [go_sem, Bool.not_eq_true', Bool.not_eq_false']) (by simp only [go_sem, Bool.not_eq_true', Bool.not_eq_false']) (by simp only [go_sem, Bool.not_eq_true', Bool.not_eq_false']) (by simp only [go_sem, Bool.not_eq_true', Bool.not_eq_false']) (by simp only [go_sem, Bool.not_eq_true', Bool.not_eq_false']) (by simp only [go_sem, Bool.not_eq_true', Bool.not_eq_false'])) ?_; simp only [go_sem, Bool.not_eq_true', Bool.not_eq_false', List.length_map])
  rw [← h0]
  generalize abvR l a = r
  repeat' first | contradiction | intro _ | refine And.intro ?_ ?_ | refine ex_get (by omega) ?_ | (show drawB _ _ = true; kernel_rfl) | (refine ret2 [] (by simp only [go_sem, Bool.not_eq_true', Bool.not_eq_false']; rfl) ?_; simp only [go_sem, Bool.not_eq_true', Bool.not_eq_false'])
  all_goals first
    | omega
    | exact headD_nil (by omega)
    | exact headD_el (by omega)
def kidR (l : List LNo) (a : Int) (k : Nat) : List Int := ((List.range k).filter (fun i : Nat => decide (parN l i = a))).map (fun i : Nat => (i : Int))
end Go.Proofs.YtblmebjhhanoaaaGreat
/- CHAPTER 08: the document's answer: rooms. -/
/- G -/
/- BOOLS -/
set_option linter.unusedSimpArgs false
set_option linter.unusedVariables false
namespace Go.Proofs.YtblmebjhhanoaaaGreat
open Go.RowKit

def rmR (l : List LNo) (w : Int) : Nat → Nat → LRm
  | 0, _ => ⟨0, w⟩
  | f + 1, i => if parN l i < 0 then ⟨0, w⟩ else inR l (parN l i).toNat (rmR l w f (parN l i).toNat)
theorem parN_lt (l : List LNo) (i : Nat) : -1 ≤ parN l i ∧ parN l i < i := by
  unfold parN
  split
  · exact parI_lt l i _
  · omega
theorem inR_ok {l : List LNo} (hi : ∀ x ∈ l, 0 ≤ x.st.inset ∧ x.st.inset ≤ 1099511627776) {k : Nat} {r : LRm} (h : okR r) : okR (inR l k r) := by
  obtain ⟨h1, h2, h3, h4⟩ := h
  have : 0 ≤ insN l k ∧ insN l k ≤ 1099511627776 := by
    unfold insN
    cases e : l[k]? with
    | none => simp
    | some x => exact hi x (List.mem_of_getElem? e)
  refine ⟨?_, ?_, ?_, ?_⟩ <;> (simp only [inR]; omega)
theorem rmR_ok {l : List LNo} (hi : ∀ x ∈ l, 0 ≤ x.st.inset ∧ x.st.inset ≤ 1099511627776) {w : Int} (hw : 1 ≤ w ∧ w ≤ 1099511627776) : ∀ f i, okR (rmR l w f i)
  | 0, i => ⟨by simp [rmR], by simp [rmR], hw.1, hw.2⟩
  | f + 1, i => by
    rw [rmR]
    split
    · exact ⟨by simp, by simp, hw.1, hw.2⟩
    · exact inR_ok hi (rmR_ok hi hw f _)
set_option maxRecDepth 100000 in
set_option maxHeartbeats 4000000 in
theorem room8r_ok (l : List LNo) (w : Int) (hl : l.length ≤ 1000) (hi : ∀ x ∈ l, 0 ≤ x.st.inset ∧ x.st.inset ≤ 1099511627776) (hw : 1 ≤ w ∧ w ≤ 1099511627776) : ∀ (f i : Nat), i < f → i < l.length → FnOk Tryz.prog 66 [.sl 20 (l.map cNo), .raw (.int .i64 i), .raw (.int .i64 w)] [] (.agg [.raw (.int .i64 (rmR l w f i).x), .raw (.int .i64 (rmR l w f i).w)]) []
  | 0, i, h, _ => absurd h (Nat.not_lt_zero _)
  | f + 1, i, hf, hil => by
    have hp := parN_lt l i
    have hr := room8r_ok l w hl hi hw f
    have ho := rmR_ok hi hw f
    rw [rmR]
    refine fn_of_awp Tryz.func66 rfl (by kernel_rfl) (by kernel_rfl) (Nat.le_of_ble_eq_true rfl) Tryz.results66 ?_
    simp only [go_sem, Bool.not_eq_true', Bool.not_eq_false']
    (refine acall2 [] (parent8r_ok l i (by omega) hl) (by simp only [go_sem, Bool.not_eq_true', Bool.not_eq_false']; rfl) (fit_of (by simp only [go_sem, Bool.not_eq_true', Bool.not_eq_false']) (by simp only [go_sem, Bool.not_eq_true', Bool.not_eq_false']) (by simp only [go_sem, Bool.not_eq_true', Bool.not_eq_false']) (by simp only [go_sem, Bool.not_eq_true', Bool.not_eq_false']) (by simp only [go_sem, Bool.not_eq_true', Bool.not_eq_false']) (by simp only [go_sem, Bool.not_eq_true', Bool.not_eq_false']) (by simp only [go_sem, Bool.not_eq_true', Bool.not_eq_false'])) ?_; simp only [go_sem, Bool.not_eq_true', Bool.not_eq_false'])
    generalize parN l i = p at hp
    refine ⟨fun h => ?_, fun h => ?_⟩
    · simp [h]
    · rw [if_neg h]
      obtain ⟨k, rfl⟩ : ∃ k : Nat, p = k := ⟨p.toNat, by omega⟩
      have hk : k < l.length := by omega
      have ho := ho k
      have hin := hi l[k] (List.getElem_mem hk)
      have hii := insN_get hk
      (refine acall2 [] (hr k (by omega) hk) (by simp only [go_sem, Bool.not_eq_true', Bool.not_eq_false']; rfl) (fit_of (by simp only [go_sem, Bool.not_eq_true', Bool.not_eq_false']) (by simp only [go_sem, Bool.not_eq_true', Bool.not_eq_false']) (by simp only [go_sem, Bool.not_eq_true', Bool.not_eq_false']) (by simp only [go_sem, Bool.not_eq_true', Bool.not_eq_false']) (by simp only [go_sem, Bool.not_eq_true', Bool.not_eq_false']) (by simp only [go_sem, Bool.not_eq_true', Bool.not_eq_false']) (by simp only [go_sem, Bool.not_eq_true', Bool.not_eq_false'])) ?_; simp only [go_sem, Bool.not_eq_true', Bool.not_eq_false'])
      unfold inR
      rw [hii]
      generalize rmR l w f k = r at ho ⊢
      obtain ⟨o1, o2, o3, o4⟩ := ho
      refine ⟨by omega, ex_get hk ?_⟩
      generalize l[k].st.inset = q at hin
      have e : r.w - 2 * q = r.w - q - q := by omega
      rw [e]
      refine ⟨by omega, by omega, by omega, rfl, rfl⟩
theorem rmR_fuel (l : List LNo) (w : Int) : ∀ f g i, i < f → i < g → rmR l w f i = rmR l w g i
  | 0, _, i, h, _ => absurd h (Nat.not_lt_zero _)
  | _ + 1, 0, i, _, h => absurd h (Nat.not_lt_zero _)
  | f + 1, g + 1, i, h1, h2 => by
    have hp := parN_lt l i
    rw [rmR, rmR]
    split
    · rfl
    · rw [rmR_fuel l w f g _ (by omega) (by omega)]
def rmsR (l : List LNo) (w : Int) (k : Nat) : List LRm := (List.range k).map (fun i => rmR l w l.length i)
theorem rmsR_len (l : List LNo) (w : Int) (k : Nat) : (rmsR l w k).length = k := by simp [rmsR]
def rmsN (l : List LNo) (w : Int) : List LRm := if 1 ≤ w ∧ w ≤ 1099511627776 then rmsR l w l.length else []
end Go.Proofs.YtblmebjhhanoaaaGreat
/- CHAPTER 08: the plain law: the program's trees are the answer's. -/
/- G -/
set_option linter.unusedSimpArgs false
set_option linter.unusedVariables false
namespace Go.Proofs.YtblmebjhhanoaaaGreat
open Go.RowKit

theorem nst_lam (l : List LNo) : ∀ (f k : Nat) (e : Int), nst l f k e → ∀ j : Nat, k ≤ j → (j : Int) < e → 1 ≤ sizN l j ∧ j + sizN l j ≤ e ∧ ∀ i : Nat, j < i → (i : Int) < j + sizN l j → i + sizN l i ≤ j + sizN l j
  | 0, k, e, h, _, _, _ => absurd h (by simp [nst])
  | f + 1, k, e, h, j, h1, h2 => by
    obtain ⟨u1, u2, u3, u4⟩ := h.2 (by omega)
    by_cases h3 : j = k
    · subst h3
      exact ⟨u1, u2, fun i h4 h5 => (nst_lam l f _ _ u3 i (by omega) h5).2.1⟩
    · by_cases h4 : (j : Int) < k + sizN l k
      · obtain ⟨w1, w2, w3⟩ := nst_lam l f _ _ u3 j (by omega) h4
        exact ⟨w1, by omega, w3⟩
      · exact nst_lam l f _ _ u4 j (by omega) h2
structure Lam (l : List LNo) : Prop where
  pos : ∀ j : Nat, j < l.length → 1 ≤ sizN l j
  fin : ∀ j : Nat, j < l.length → j + sizN l j ≤ l.length
  nest : ∀ j i : Nat, j < l.length → j < i → (i : Int) < j + sizN l j → i + sizN l i ≤ j + sizN l j
theorem isS_lam {l : List LNo} (h : isS l = true) : Lam l := by
  have := nst_lam l _ _ _ (isS_nst h)
  exact ⟨fun j hj => (this j (Nat.zero_le _) (by omega)).1, fun j hj => (this j (Nat.zero_le _) (by omega)).2.1, fun j i hj => (this j (Nat.zero_le _) (by omega)).2.2 i⟩
theorem parI_is {l : List LNo} {a : Int} {p : Nat} : ∀ {k : Nat}, p < k → a < p + sizN l p → (∀ i : Nat, p < i → i < k → ¬ a < i + sizN l i) → parI l a k = p
  | 0, h, _, _ => absurd h (Nat.not_lt_zero _)
  | k + 1, h, h1, h2 => by
    rw [parI]
    by_cases e : p = k
    · subst e; rw [if_pos h1]
    · rw [if_neg (h2 k (by omega) (by omega))]
      exact parI_is (by omega) h1 (fun i a b => h2 i a (by omega))
theorem parI_no {l : List LNo} {a : Int} : ∀ {k : Nat}, (∀ i : Nat, i < k → ¬ a < i + sizN l i) → parI l a k = -1
  | 0, _ => rfl
  | k + 1, h => by
    rw [parI, if_neg (h k (by omega))]
    exact parI_no fun i hi => h i (by omega)
theorem parI_congr {l : List LNo} {a b : Int} : ∀ {k : Nat}, (∀ i : Nat, i < k → (a < i + sizN l i ↔ b < i + sizN l i)) → parI l a k = parI l b k
  | 0, _ => rfl
  | k + 1, h => by
    rw [parI, parI, parI_congr fun i hi => h i (by omega)]
    have := h k (by omega)
    by_cases q : a < k + sizN l k
    · rw [if_pos q, if_pos (this.1 q)]
    · rw [if_neg q, if_neg (fun z => q (this.2 z))]
theorem parI_up {l : List LNo} (hl : Lam l) {a p : Nat} (ha : a < l.length) (h1 : p < a) (h2 : (a : Int) < p + sizN l p) : parI l p p = parI l a p :=
  parI_congr fun i hi => ⟨fun h => by have := hl.nest i p (by omega) hi h; omega, fun h => by omega⟩
theorem abvL_eq {l : List LNo} (hl : Lam l) {a : Nat} (ha : a < l.length) : ∀ (k f : Nat), k ≤ f → k ≤ a → abvL l f (parI l a k) = abvD l a k
  | 0, f, _, _ => by
    cases f with
    | zero => rfl
    | succ f => rw [parI, abvL, if_neg (by omega)]; rfl
  | k + 1, f, h, hk => by
    rw [parI, abvD]
    split
    · next q =>
      obtain ⟨f, rfl⟩ : ∃ g, f = g + 1 := ⟨f - 1, by omega⟩
      rw [abvL, if_pos (by omega), Int.toNat_natCast, parI_up hl ha (by omega) q, abvL_eq hl ha k f (by omega) (by omega)]
    · exact abvL_eq hl ha k f (by omega) (by omega)
theorem abv_eq {l : List LNo} (h : isS l = true) (a : Int) : abvN l a = abvR l a := by
  unfold abvN abvR
  split
  · next q =>
    simp only [hasN, Bool.and_eq_true, decide_eq_true_eq] at q
    obtain ⟨n, rfl⟩ : ∃ n : Nat, a = n := ⟨a.toNat, by omega⟩
    rw [Int.toNat_natCast]
    exact abvL_eq (isS_lam h) (by omega) n l.length (by omega) (Nat.le_refl _)
  · rfl
/-- whom a row of kids belongs to, up to where, from where on. -/
structure Row (l : List LNo) (a e : Int) (k : Nat) : Prop where
  le : (k : Int) ≤ e
  lt : a < k
  en : e ≤ l.length
  own : 0 ≤ a → e = a + sizN l a.toNat
  top : a < 0 → e = l.length
  low : -1 ≤ a
  bd : ∀ i : Nat, a < i → i < k → i + sizN l i ≤ k
theorem parN_nat {l : List LNo} {k : Nat} (h : k < l.length) : parN l k = parI l k k := by
  unfold parN
  rw [if_pos (by simp only [hasN, Bool.and_eq_true, decide_eq_true_eq]; omega), Int.toNat_natCast]
theorem Row.par {l : List LNo} {a e : Int} {k : Nat} (h : Row l a e k) (hk : (k : Int) < e) : parN l k = a := by
  have := h.en
  rw [parN_nat (by omega)]
  have hlow := h.low
  by_cases q : 0 ≤ a
  · obtain ⟨p, rfl⟩ : ∃ p : Nat, a = p := ⟨a.toNat, by omega⟩
    have e1 := h.own q
    rw [Int.toNat_natCast] at e1
    exact parI_is (by have := h.lt; omega) (by omega) fun i h1 h2 h3 => by have := h.bd i (by omega) h2; omega
  · obtain rfl : a = -1 := by omega
    exact parI_no fun i h2 h3 => by have := h.bd i (by omega) h2; omega
theorem Row.next {l : List LNo} (hl : Lam l) {a e : Int} {k : Nat} (h : Row l a e k) (hk : (k : Int) < e) : Row l a e (k + (sizN l k).toNat) := by
  have h0 := h.en
  have h1 := hl.pos k (by omega)
  have hf := hl.fin k (by omega)
  have hlow := h.low
  have hlt := h.lt
  have hbd := h.bd
  refine ⟨?_, by omega, h.en, h.own, h.top, h.low, fun i h2 h3 => ?_⟩
  · by_cases q : 0 ≤ a
    · obtain ⟨p, rfl⟩ : ∃ p : Nat, a = p := ⟨a.toNat, by omega⟩
      have e1 := h.own q
      rw [Int.toNat_natCast] at e1
      have := hl.nest p k (by omega) (by omega) (by omega)
      omega
    · have := h.top (by omega)
      omega
  · by_cases h4 : i < k
    · have := hbd i h2 h4; omega
    · by_cases h5 : i = k
      · subst h5; omega
      · have := hl.nest k i (by omega) (by omega) (by omega); omega
theorem Row.down {l : List LNo} (hl : Lam l) {k : Nat} (hk : k < l.length) : Row l k (k + sizN l k) (k + 1) := by
  have h1 := hl.pos k hk
  have h2 := hl.fin k hk
  exact ⟨by omega, by omega, by omega, fun _ => by rw [Int.toNat_natCast], fun q => absurd q (by omega), by omega, fun i a b => by omega⟩
theorem range_split (k s m : Nat) : List.range' k (s + m) = List.range' k s ++ List.range' (k + s) m := by
  rw [List.range'_append_1]
theorem Row.all (l : List LNo) : Row l (-1) l.length 0 := ⟨by omega, by omega, by omega, fun q => absurd q (by omega), fun _ => rfl, by omega, fun i _ h => absurd h (Nat.not_lt_zero _)⟩
def valR (l : List LNo) (w a : Int) : LRm := if a < 0 then ⟨0, w⟩ else inR l a.toNat (rmR l w l.length a.toNat)
theorem rmR_val {l : List LNo} {w : Int} {i : Nat} (h : i < l.length) : rmR l w l.length i = valR l w (parN l i) := by
  have hp := parN_lt l i
  obtain ⟨m, hm⟩ : ∃ m, l.length = m + 1 := ⟨l.length - 1, by omega⟩
  unfold valR
  rw [hm, rmR]
  split
  · rfl
  · rw [rmR_fuel l w m (m + 1) _ (by omega) (by omega)]
theorem putS_eq {l : List LNo} (hl : Lam l) {w : Int} : ∀ (f k : Nat) (a e : Int), Row l a e k → nst l f k e → putS l f k e (valR l w a) = (List.range' k (e - k).toNat).map (fun i => rmR l w l.length i)
  | 0, k, a, e, h, hn => absurd hn (by simp [nst])
  | f + 1, k, a, e, h, hn => by
    rw [putS]
    split
    · next q =>
      obtain ⟨u1, u2, u3, u4⟩ := hn.2 q
      have h0 := h.en
      have hk : k < l.length := by omega
      have hr := rmR_val (w := w) hk
      rw [h.par q] at hr
      have hv : inR l k (valR l w a) = valR l w k := by
        rw [← hr]
        unfold valR
        rw [if_neg (by omega), Int.toNat_natCast]
      have hnx := h.next hl q
      have hle := hnx.le
      rw [hv, putS_eq hl f (k + 1) k (k + sizN l k) (Row.down hl hk) u3, putS_eq hl f _ a e hnx u4]
      have e1 : (e - k).toNat = 1 + (((k : Int) + sizN l k - (k + 1 : Nat)).toNat + (e - (k + (sizN l k).toNat : Nat)).toNat) := by omega
      have e2 : k + 1 + ((k : Int) + sizN l k - (k + 1 : Nat)).toNat = k + (sizN l k).toNat := by omega
      rw [e1, range_split, range_split, e2]
      simp [hr]
    · have : (e - k).toNat = 0 := by omega
      rw [this]; rfl
theorem rooms_eq {l : List LNo} (h : isS l = true) (w : Int) : romN l w = rmsN l w := by
  have e : docN l = l := by simp [docN, h]
  unfold romN rmsN
  rw [e]
  split
  · have := putS_eq (isS_lam h) (w := w) _ _ _ _ (Row.all l) (isS_nst h)
    have e1 : valR l w (-1) = ⟨0, w⟩ := if_pos (by omega)
    rw [e1] at this
    rw [this]
    have e2 : ((l.length : Int) - (0 : Nat)).toNat = l.length := by omega
    rw [e2, rmsR, List.range_eq_range']
  · rfl
end Go.Proofs.YtblmebjhhanoaaaGreat
/- CHAPTERS 14, 15: atoms; rows of atoms, of floats that are alike; what is near. -/
/- G -/
/- BOOLS -/
/- GET ex_atA ex_atA' -/
set_option linter.unusedSimpArgs false
set_option linter.unusedVariables false
namespace Go.Proofs.YtblmebjhhanoaaaGreat
open Go.RowKit

structure LAt where
  kind : Int
  node : Int
  fr : Int
  to : Int
  x : Int
  y : Int
  w : Int
  h : Int
deriving DecidableEq
def cAt (a : LAt) : List PV := [.raw (.int .i64 a.kind), .raw (.int .i64 a.node), .raw (.int .i64 a.fr), .raw (.int .i64 a.to), .raw (.int .i64 a.x), .raw (.int .i64 a.y), .raw (.int .i64 a.w), .raw (.int .i64 a.h)]
def aAt (a : LAt) : AV := .agg [.raw (.int .i64 a.kind), .raw (.int .i64 a.node), .raw (.int .i64 a.fr), .raw (.int .i64 a.to), .raw (.int .i64 a.x), .raw (.int .i64 a.y), .raw (.int .i64 a.w), .raw (.int .i64 a.h)]
attribute [go_sem] cAt aAt
def atA (l : List LAt) (q : Int) : LAt := l[q.toNat]?.getD ⟨0, 0, 0, 0, 0, 0, 0, 0⟩
theorem atA_get {l : List LAt} {q : Int} (h : q.toNat < l.length) : l[q.toNat]? = some (atA l q) := by simp [atA, h]
theorem ex_atA {l : List LAt} {q : Int} {C : LAt → Prop} (h : q.toNat < l.length) (hC : C (atA l q)) : ∃ x, l[q.toNat]? = some x ∧ C x := ⟨_, atA_get h, hC⟩
theorem ex_atA' {l : List LAt} {k : Nat} {C : LAt → Prop} (h : k < l.length) (hC : C (atA l k)) : ∃ x, l[k]? = some x ∧ C x := ex_atA (q := k) (by omega) hC
/-- what chapter 15 speaks of. -/
def good15 (l : List LAt) (k : Nat) : Bool := decide (((-1125899906842624 ≤ (atA l k).x ∧ (atA l k).x ≤ 1125899906842624) ∧ (-1125899906842624 ≤ (atA l k).y ∧ (atA l k).y ≤ 1125899906842624) ∧ (-1125899906842624 ≤ (atA l k).w ∧ (atA l k).w ≤ 1125899906842624) ∧ (-1125899906842624 ≤ (atA l k).h ∧ (atA l k).h ≤ 1125899906842624)) ∧ (0 < (k : Int) → (atA l ((k : Int) - 1)).node ≤ (atA l k).node))
def near15 (l : List LAt) : Bool := (List.range l.length).all (good15 l)
def Near15 (l : List LAt) : Prop := ∀ q : Int, 0 ≤ q → q < l.length → ((-1125899906842624 ≤ (atA l q).x ∧ (atA l q).x ≤ 1125899906842624) ∧ (-1125899906842624 ≤ (atA l q).y ∧ (atA l q).y ≤ 1125899906842624) ∧ (-1125899906842624 ≤ (atA l q).w ∧ (atA l q).w ≤ 1125899906842624) ∧ (-1125899906842624 ≤ (atA l q).h ∧ (atA l q).h ≤ 1125899906842624)) ∧ (0 < q → (atA l (q - 1)).node ≤ (atA l q).node)
theorem near15_iff (l : List LAt) : near15 l = true ↔ Near15 l := by
  simp only [near15, List.all_eq_true, List.mem_range, good15, decide_eq_true_eq, Near15]
  constructor
  · intro h q h1 h2
    obtain ⟨k, rfl⟩ := Int.eq_ofNat_of_zero_le h1
    exact h k (by omega)
  · intro h k hk
    exact h k (by omega) (by omega)
end Go.Proofs.YtblmebjhhanoaaaGreat
/- CHAPTER 13: the pen. -/
/- G -/
/- BOOLS -/
set_option linter.unusedSimpArgs false
set_option linter.unusedVariables false
namespace Go.Proofs.YtblmebjhhanoaaaGreat
open Go.RowKit

structure LPen where
  y : Int
  m : Int
deriving DecidableEq
def aPen (p : LPen) : AV := .agg [.raw (.int .i64 p.y), .raw (.int .i64 p.m)]
attribute [go_sem] aPen
def penP (p : LPen) (n : Int) : LPen := if 0 < n then ⟨p.y + p.m + n, 0⟩ else p
def penE (p : LPen) (mg n : Int) : LPen := penP ⟨p.y, max p.m mg⟩ n
def penL (p : LPen) (mg n : Int) : LPen := ⟨(penP p n).y, max (penP p n).m mg⟩
def penC (p : LPen) (low : Int) : LPen := if p.y + p.m < low then ⟨low, 0⟩ else p
def nr52 (x : Int) : Prop := -4503599627370496 ≤ x ∧ x ≤ 4503599627370496
structure PenOk (p : LPen) (a b : Int) : Prop where
  y : -4503599627370496 ≤ p.y ∧ p.y ≤ 4503599627370496
  m : -4503599627370496 ≤ p.m ∧ p.m ≤ 4503599627370496
  a : -4503599627370496 ≤ a ∧ a ≤ 4503599627370496
  b : -4503599627370496 ≤ b ∧ b ≤ 4503599627370496
set_option maxRecDepth 100000 in
theorem pat_ok (p : LPen) (h : PenOk p 0 0) : FnOk Tryz.prog 16 [aPen p] [] (.raw (.int .i64 (p.y + p.m))) [] := by
  have := h.y
  have := h.m
  refine fn_of_awp Tryz.func16 rfl (by kernel_rfl) (by kernel_rfl) (Nat.le_of_ble_eq_true rfl) Tryz.results16 ?_
  simp only [go_sem, Bool.not_eq_true', Bool.not_eq_false']
  repeat' first | contradiction | intro _ | refine And.intro ?_ ?_ | refine ex_get (by omega) ?_ | (show drawB _ _ = true; kernel_rfl) | (refine ret2 [] (by simp only [go_sem, Bool.not_eq_true', Bool.not_eq_false']; rfl) ?_; simp only [go_sem, Bool.not_eq_true', Bool.not_eq_false'])
  all_goals omega
set_option maxRecDepth 100000 in
theorem pwiden_ok (p : LPen) (mg : Int) : FnOk Tryz.prog 76 [.hdr 0, .raw (.int .i64 mg)] [(0, .cells 124 [.raw (.int .i64 p.y), .raw (.int .i64 p.m)])] (.tup []) [(0, .cells 124 [.raw (.int .i64 p.y), .raw (.int .i64 (max p.m mg))])] := by
  refine fn_of_awp Tryz.func76 rfl (by kernel_rfl) (by kernel_rfl) (Nat.le_of_ble_eq_true rfl) Tryz.results76 ?_
  simp only [go_sem, Bool.not_eq_true', Bool.not_eq_false']
  (refine ret2 [] (by simp only [go_sem, Bool.not_eq_true', Bool.not_eq_false']; rfl) ?_; simp only [go_sem, Bool.not_eq_true', Bool.not_eq_false'])
set_option maxRecDepth 100000 in
theorem ppad_ok (p : LPen) (n : Int) (h : PenOk p n 0) : FnOk Tryz.prog 77 [.hdr 0, .raw (.int .i64 n)] [(0, .cells 124 [.raw (.int .i64 p.y), .raw (.int .i64 p.m)])] (.tup []) [(0, .cells 124 [.raw (.int .i64 (penP p n).y), .raw (.int .i64 (penP p n).m)])] := by
  have := h.y
  have := h.m
  have := h.a
  have e1 : 0 < n → penP p n = ⟨p.y + p.m + n, 0⟩ := fun q => by unfold penP; rw [if_pos q]
  have e2 : ¬ 0 < n → penP p n = p := fun q => by unfold penP; rw [if_neg q]
  refine fn_of_awp Tryz.func77 rfl (by kernel_rfl) (by kernel_rfl) (Nat.le_of_ble_eq_true rfl) Tryz.results77 ?_
  simp only [go_sem, Bool.not_eq_true', Bool.not_eq_false']
  repeat' first | contradiction | intro _ | refine And.intro ?_ ?_ | refine ex_get (by omega) ?_ | (show drawB _ _ = true; kernel_rfl) | (refine ret2 [] (by simp only [go_sem, Bool.not_eq_true', Bool.not_eq_false']; rfl) ?_; simp only [go_sem, Bool.not_eq_true', Bool.not_eq_false'])
  all_goals first
    | omega
    | (refine ⟨(show drawB _ _ = true by kernel_rfl), ?_⟩)
    | (rw [e1 (by assumption)])
    | (rw [e2 (by assumption)])
    | skip
set_option maxRecDepth 100000 in
theorem penter_ok (p : LPen) (mg n : Int) (h : PenOk p mg n) : FnOk Tryz.prog 37 [aPen p, .raw (.int .i64 mg), .raw (.int .i64 n)] [] (aPen (penE p mg n)) [] := by
  have h2 := h.y
  have h3 := h.m
  have h4 := h.a
  have h5 := h.b
  have hp : PenOk ⟨p.y, max p.m mg⟩ n 0 := ⟨h2, by simp only; omega, h5, by omega⟩
  refine fn_of_awp Tryz.func37 rfl (by kernel_rfl) (by kernel_rfl) (Nat.le_of_ble_eq_true rfl) Tryz.results37 ?_
  simp only [go_sem, Bool.not_eq_true', Bool.not_eq_false']
  (refine acall2 [] (pwiden_ok p mg) (by simp only [go_sem, Bool.not_eq_true', Bool.not_eq_false']; rfl) (fit_of (by simp only [go_sem, Bool.not_eq_true', Bool.not_eq_false']) (by simp only [go_sem, Bool.not_eq_true', Bool.not_eq_false']) (by simp only [go_sem, Bool.not_eq_true', Bool.not_eq_false']) (by simp only [go_sem, Bool.not_eq_true', Bool.not_eq_false']) (by simp only [go_sem, Bool.not_eq_true', Bool.not_eq_false']) (by simp only [go_sem, Bool.not_eq_true', Bool.not_eq_false']) (by simp only [go_sem, Bool.not_eq_true', Bool.not_eq_false'])) ?_; simp only [go_sem, Bool.not_eq_true', Bool.not_eq_false'])
  (refine acall2 [] (ppad_ok ⟨p.y, max p.m mg⟩ n hp) (by simp only [go_sem, Bool.not_eq_true', Bool.not_eq_false']; rfl) (fit_of (by simp only [go_sem, Bool.not_eq_true', Bool.not_eq_false']) (by simp only [go_sem, Bool.not_eq_true', Bool.not_eq_false']) (by simp only [go_sem, Bool.not_eq_true', Bool.not_eq_false']) (by simp only [go_sem, Bool.not_eq_true', Bool.not_eq_false']) (by simp only [go_sem, Bool.not_eq_true', Bool.not_eq_false']) (by simp only [go_sem, Bool.not_eq_true', Bool.not_eq_false']) (by simp only [go_sem, Bool.not_eq_true', Bool.not_eq_false'])) ?_; simp only [go_sem, Bool.not_eq_true', Bool.not_eq_false'])
  exact ⟨rfl, rfl⟩
set_option maxRecDepth 100000 in
theorem pleave_ok (p : LPen) (mg n : Int) (h : PenOk p mg n) : FnOk Tryz.prog 39 [aPen p, .raw (.int .i64 mg), .raw (.int .i64 n)] [] (aPen (penL p mg n)) [] := by
  have h2 := h.y
  have h3 := h.m
  have h4 := h.a
  have h5 := h.b
  have hp : PenOk p n 0 := ⟨h2, h3, h5, by omega⟩
  refine fn_of_awp Tryz.func39 rfl (by kernel_rfl) (by kernel_rfl) (Nat.le_of_ble_eq_true rfl) Tryz.results39 ?_
  simp only [go_sem, Bool.not_eq_true', Bool.not_eq_false']
  (refine acall2 [] (ppad_ok p n hp) (by simp only [go_sem, Bool.not_eq_true', Bool.not_eq_false']; rfl) (fit_of (by simp only [go_sem, Bool.not_eq_true', Bool.not_eq_false']) (by simp only [go_sem, Bool.not_eq_true', Bool.not_eq_false']) (by simp only [go_sem, Bool.not_eq_true', Bool.not_eq_false']) (by simp only [go_sem, Bool.not_eq_true', Bool.not_eq_false']) (by simp only [go_sem, Bool.not_eq_true', Bool.not_eq_false']) (by simp only [go_sem, Bool.not_eq_true', Bool.not_eq_false']) (by simp only [go_sem, Bool.not_eq_true', Bool.not_eq_false'])) ?_; simp only [go_sem, Bool.not_eq_true', Bool.not_eq_false'])
  (refine acall2 [] (pwiden_ok (penP p n) mg) (by simp only [go_sem, Bool.not_eq_true', Bool.not_eq_false']; rfl) (fit_of (by simp only [go_sem, Bool.not_eq_true', Bool.not_eq_false']) (by simp only [go_sem, Bool.not_eq_true', Bool.not_eq_false']) (by simp only [go_sem, Bool.not_eq_true', Bool.not_eq_false']) (by simp only [go_sem, Bool.not_eq_true', Bool.not_eq_false']) (by simp only [go_sem, Bool.not_eq_true', Bool.not_eq_false']) (by simp only [go_sem, Bool.not_eq_true', Bool.not_eq_false']) (by simp only [go_sem, Bool.not_eq_true', Bool.not_eq_false'])) ?_; simp only [go_sem, Bool.not_eq_true', Bool.not_eq_false'])
  exact ⟨rfl, rfl⟩
set_option maxRecDepth 100000 in
theorem pclear_ok (p : LPen) (low : Int) (h : PenOk p low 0) : FnOk Tryz.prog 41 [aPen p, .raw (.int .i64 low)] [] (aPen (penC p low)) [] := by
  have h2 := h.y
  have h3 := h.m
  have e1 : p.y + p.m < low → penC p low = ⟨low, 0⟩ := fun q => by unfold penC; rw [if_pos q]
  have e2 : ¬ p.y + p.m < low → penC p low = p := fun q => by unfold penC; rw [if_neg q]
  refine fn_of_awp Tryz.func41 rfl (by kernel_rfl) (by kernel_rfl) (Nat.le_of_ble_eq_true rfl) Tryz.results41 ?_
  simp only [go_sem, Bool.not_eq_true', Bool.not_eq_false']
  repeat' first | contradiction | intro _ | refine And.intro ?_ ?_ | refine ex_get (by omega) ?_ | (show drawB _ _ = true; kernel_rfl) | (refine ret2 [] (by simp only [go_sem, Bool.not_eq_true', Bool.not_eq_false']; rfl) ?_; simp only [go_sem, Bool.not_eq_true', Bool.not_eq_false']) | (refine acall2 [] (pat_ok p ⟨h2, h3, by omega, by omega⟩) (by simp only [go_sem, Bool.not_eq_true', Bool.not_eq_false']; rfl) (fit_of (by simp only [go_sem, Bool.not_eq_true', Bool.not_eq_false']) (by simp only [go_sem, Bool.not_eq_true', Bool.not_eq_false']) (by simp only [go_sem, Bool.not_eq_true', Bool.not_eq_false']) (by simp only [go_sem, Bool.not_eq_true', Bool.not_eq_false']) (by simp only [go_sem, Bool.not_eq_true', Bool.not_eq_false']) (by simp only [go_sem, Bool.not_eq_true', Bool.not_eq_false']) (by simp only [go_sem, Bool.not_eq_true', Bool.not_eq_false'])) ?_; simp only [go_sem, Bool.not_eq_true', Bool.not_eq_false'])
  all_goals first
    | omega
    | (rw [e1 (by assumption)])
    | (rw [e2 (by assumption)])
    | skip
set_option maxRecDepth 100000 in
theorem rpenter_ok (p : LPen) (mg n : Int) (h : PenOk p mg n) : FnOk Tryz.prog 69 [aPen p, .raw (.int .i64 mg), .raw (.int .i64 n)] [] (aPen (penE p mg n)) [] := by
  have h2 := h.y
  have h3 := h.m
  have h4 := h.a
  have h5 := h.b
  have e1 : 0 < n → penE p mg n = ⟨p.y + max p.m mg + n, 0⟩ := fun q => by unfold penE penP; rw [if_pos q]
  have e2 : ¬ 0 < n → penE p mg n = ⟨p.y, max p.m mg⟩ := fun q => by unfold penE penP; rw [if_neg q]
  refine fn_of_awp Tryz.func69 rfl (by kernel_rfl) (by kernel_rfl) (Nat.le_of_ble_eq_true rfl) Tryz.results69 ?_
  simp only [go_sem, Bool.not_eq_true', Bool.not_eq_false']
  repeat' first | contradiction | intro _ | refine And.intro ?_ ?_ | refine ex_get (by omega) ?_ | (show drawB _ _ = true; kernel_rfl) | (refine ret2 [] (by simp only [go_sem, Bool.not_eq_true', Bool.not_eq_false']; rfl) ?_; simp only [go_sem, Bool.not_eq_true', Bool.not_eq_false'])
  all_goals first
    | omega
    | (rw [e1 (by assumption)]; done)
    | (rw [e2 (by assumption)]; done)
    | (rw [e1 (by assumption)]; simp only; omega)
    | (rw [e2 (by assumption)]; simp only; omega)
    | skip
set_option maxRecDepth 100000 in
theorem rpleave_ok (p : LPen) (mg n : Int) (h : PenOk p mg n) : FnOk Tryz.prog 70 [aPen p, .raw (.int .i64 mg), .raw (.int .i64 n)] [] (aPen (penL p mg n)) [] := by
  have h2 := h.y
  have h3 := h.m
  have h4 := h.a
  have h5 := h.b
  have e1 : 0 < n → penL p mg n = ⟨p.y + p.m + n, max 0 mg⟩ := fun q => by unfold penL penP; rw [if_pos q]
  have e2 : ¬ 0 < n → penL p mg n = ⟨p.y, max p.m mg⟩ := fun q => by unfold penL penP; rw [if_neg q]
  refine fn_of_awp Tryz.func70 rfl (by kernel_rfl) (by kernel_rfl) (Nat.le_of_ble_eq_true rfl) Tryz.results70 ?_
  simp only [go_sem, Bool.not_eq_true', Bool.not_eq_false']
  repeat' first | contradiction | intro _ | refine And.intro ?_ ?_ | refine ex_get (by omega) ?_ | (show drawB _ _ = true; kernel_rfl) | (refine ret2 [] (by simp only [go_sem, Bool.not_eq_true', Bool.not_eq_false']; rfl) ?_; simp only [go_sem, Bool.not_eq_true', Bool.not_eq_false'])
  all_goals first
    | omega
    | (rw [e1 (by assumption)]; done)
    | (rw [e2 (by assumption)]; done)
    | (rw [e1 (by assumption)]; simp only; omega)
    | (rw [e2 (by assumption)]; simp only; omega)
    | skip
set_option maxRecDepth 100000 in
theorem rpclear_ok (p : LPen) (low : Int) (h : PenOk p low 0) : FnOk Tryz.prog 68 [aPen p, .raw (.int .i64 low)] [] (aPen (penC p low)) [] := by
  have h2 := h.y
  have h3 := h.m
  have e1 : p.y + p.m < low → penC p low = ⟨low, 0⟩ := fun q => by unfold penC; rw [if_pos q]
  have e2 : ¬ p.y + p.m < low → penC p low = p := fun q => by unfold penC; rw [if_neg q]
  refine fn_of_awp Tryz.func68 rfl (by kernel_rfl) (by kernel_rfl) (Nat.le_of_ble_eq_true rfl) Tryz.results68 ?_
  simp only [go_sem, Bool.not_eq_true', Bool.not_eq_false']
  repeat' first | contradiction | intro _ | refine And.intro ?_ ?_ | refine ex_get (by omega) ?_ | (show drawB _ _ = true; kernel_rfl) | (refine ret2 [] (by simp only [go_sem, Bool.not_eq_true', Bool.not_eq_false']; rfl) ?_; simp only [go_sem, Bool.not_eq_true', Bool.not_eq_false'])
  all_goals first
    | omega
    | (rw [e1 (by assumption)])
    | (rw [e2 (by assumption)])
    | skip
end Go.Proofs.YtblmebjhhanoaaaGreat
/- CHAPTER 06: valid: Count and Check; what they count, in plain words. -/
/- G -/
set_option linter.unusedSimpArgs false
set_option linter.unusedVariables false
namespace Go.Proofs.YtblmebjhhanoaaaGreat
open Go.RowKit

def ndN (l : List LNo) (k : Nat) : LNo := l[k]?.getD ⟨0, 0, sty0, 0, 0, [], 0, 0, 0⟩
theorem ndN_get {l : List LNo} {k : Nat} (hk : k < l.length) : ndN l k = l[k] := by unfold ndN; rw [List.getElem?_eq_getElem hk]; rfl
theorem ndN_siz (l : List LNo) (k : Nat) : (ndN l k).size = sizN l k := by
  unfold ndN sizN
  cases l[k]? <;> rfl
/-- how high a node is at most, by its own numbers; how many pieces it is. -/
def hgtN (x : LNo) : Int := if x.kind = 1 then x.st.top + x.st.bottom + x.st.padTop + x.st.padBottom + x.st.head else if x.kind = 2 then x.line * x.words.length else x.h
def pcsN (x : LNo) : Int := if x.kind = 1 then 0 else if x.kind = 2 then x.words.length else 1
def hsN (l : List LNo) (k : Nat) : Int := ((l.take k).map hgtN).sum
def psN (l : List LNo) (k : Nat) : Int := ((l.take k).map pcsN).sum
theorem hsN_succ {l : List LNo} {k : Nat} (hk : k < l.length) : hsN l (k + 1) = hsN l k + hgtN (ndN l k) := by
  unfold hsN
  rw [List.take_succ_eq_append_getElem hk, List.map_append, List.sum_append, ndN_get hk]
  simp
theorem psN_succ {l : List LNo} {k : Nat} (hk : k < l.length) : psN l (k + 1) = psN l k + pcsN (ndN l k) := by
  unfold psN
  rw [List.take_succ_eq_append_getElem hk, List.map_append, List.sum_append, ndN_get hk]
  simp
def hall (l : List LNo) : Int := hsN l l.length
def pall (l : List LNo) : Int := psN l l.length
/-- the ends, above i, of the blocks among the first j. -/
def opE (l : List LNo) (i : Int) : Nat → List Int
  | 0 => []
  | j + 1 => opE l i j ++ if (ndN l j).kind = 1 ∧ i < j + (ndN l j).size then [(j : Int) + (ndN l j).size] else []
theorem opE_filter (l : List LNo) (i m : Int) : ∀ j, (opE l i j).filter (fun e => decide (m < e)) = opE l (max i m) j
  | 0 => rfl
  | j + 1 => by
    rw [opE, opE, List.filter_append, opE_filter l i m j]
    congr 1
    by_cases h1 : (ndN l j).kind = 1
    · by_cases h2 : i < j + (ndN l j).size
      · by_cases h3 : m < j + (ndN l j).size
        · rw [if_pos ⟨h1, h2⟩, if_pos ⟨h1, by omega⟩]; simp [h3]
        · rw [if_pos ⟨h1, h2⟩, if_neg (fun q => by have := q.2; omega)]; simp [h3]
      · rw [if_neg (fun q => h2 q.2), if_neg (fun q => by have := q.2; omega)]; rfl
    · rw [if_neg (fun q => h1 q.1), if_neg (fun q => h1 q.1)]; rfl
theorem opE_len (l : List LNo) (i : Int) : ∀ j, (opE l i j).length ≤ j
  | 0 => Nat.le_refl _
  | j + 1 => by
    have := opE_len l i j
    rw [opE, List.length_append]
    split <;> simp <;> omega
/-- how deep blocks lie within blocks, of the first so many. -/
def dpN (l : List LNo) : Nat → Int
  | 0 => 0
  | i + 1 => if (ndN l i).kind = 1 then max (dpN l i) (opE l i (i + 1)).length else dpN l i
theorem dpN_bd (l : List LNo) : ∀ k, 0 ≤ dpN l k ∧ dpN l k ≤ k
  | 0 => ⟨Int.le_refl _, Int.le_refl _⟩
  | k + 1 => by
    have := dpN_bd l k
    have := opE_len l k (k + 1)
    rw [dpN]
    split <;> omega
def chkN (l : List LNo) : Int := if isS l = false then 4 else if 16 < dpN l l.length ∨ 2000 < pall l ∨ 2000 < (l.length : Int) ∨ 1099511627776 < hall l then 2 else 0
def cutM (n : Int) : Int := min n 1099511627777
/-! what a document's node is, by its kind -/
structure Blk6 (x : LNo) : Prop where
  top : 0 ≤ x.st.top ∧ x.st.top ≤ 1099511627776
  bottom : 0 ≤ x.st.bottom ∧ x.st.bottom ≤ 1099511627776
  padTop : 0 ≤ x.st.padTop ∧ x.st.padTop ≤ 1099511627776
  padBottom : 0 ≤ x.st.padBottom ∧ x.st.padBottom ≤ 1099511627776
  inset : 0 ≤ x.st.inset ∧ x.st.inset ≤ 1099511627776
  head : 0 ≤ x.st.head ∧ x.st.head ≤ 1099511627776
  clear : 0 ≤ x.st.clear ∧ x.st.clear ≤ 3
  words : x.words = []
structure Txt6 (x : LNo) : Prop where
  line : 1 ≤ x.line ∧ x.line ≤ 1099511627776
  space : 0 ≤ x.space ∧ x.space ≤ 1099511627776
  words : ∀ w ∈ x.words, 1 ≤ w ∧ w ≤ 1099511627776
  some : 0 < x.words.length
structure Box6 (x : LNo) : Prop where
  w : 1 ≤ x.w ∧ x.w ≤ 1099511627776
  h : 1 ≤ x.h ∧ x.h ≤ 1099511627776
  words : x.words = []
theorem hasL_iff {a b : Int} {l : List Int} : hasL a b l = true ↔ ∀ n ∈ l, a ≤ n ∧ n ≤ b := by
  unfold hasL
  rw [Bool.not_eq_true', List.any_eq_false]
  simp only [offN, Bool.or_eq_true, decide_eq_true_eq]
  exact ⟨fun h n hn => by have := h n hn; omega, fun h n hn => by have := h n hn; omega⟩
theorem txtB_w {x : LNo} (h : txtB x = true) : x.words = [] := by
  simp only [txtB, Bool.and_eq_true, decide_eq_true_eq] at h
  exact List.eq_nil_of_length_eq_zero (by omega)
theorem nodB_kind {x : LNo} (h : nodB x = true) : x.kind = 1 ∨ x.kind = 2 ∨ x.kind = 3 ∨ x.kind = 4 := by
  unfold nodB at h
  split at h
  · exact .inl ‹_›
  · split at h
    · exact .inr (.inl ‹_›)
    · split at h
      · exact .inr (.inr (.inl ‹_›))
      · split at h
        · exact .inr (.inr (.inr ‹_›))
        · cases h
theorem nodB_blk {x : LNo} (h : nodB x = true) (k : x.kind = 1) : Blk6 x := by
  unfold nodB at h
  rw [if_pos k] at h
  simp only [Bool.and_eq_true, styB, hasL_iff] at h
  obtain ⟨⟨⟨⟨h1, -⟩, -⟩, -⟩, ⟨⟨⟨h5, -⟩, -⟩, -⟩, h6⟩ := h
  exact ⟨h5 _ (by simp), h5 _ (by simp), h5 _ (by simp), h5 _ (by simp), h5 _ (by simp), h5 _ (by simp), h6 _ (by simp), txtB_w h1⟩
theorem nodB_txt {x : LNo} (h : nodB x = true) (k : x.kind = 2) : Txt6 x := by
  unfold nodB at h
  rw [if_neg (by omega), if_pos k] at h
  simp only [Bool.and_eq_true, hasL_iff, decide_eq_true_eq] at h
  obtain ⟨⟨⟨⟨-, h1⟩, h2⟩, h3⟩, h4⟩ := h
  exact ⟨h1 _ (by simp), h3 _ (by simp), h2, by omega⟩
theorem nodB_mono {x : LNo} (h : nodB x = true) (k : x.kind = 3) : Box6 x := by
  unfold nodB at h
  rw [if_neg (by omega), if_neg (by omega), if_pos k] at h
  simp only [Bool.and_eq_true, hasL_iff] at h
  obtain ⟨⟨⟨-, h1⟩, -⟩, h2⟩ := h
  exact ⟨h2 _ (by simp), h2 _ (by simp), txtB_w h1⟩
theorem nodB_flt {x : LNo} (h : nodB x = true) (k : x.kind = 4) : Box6 x ∧ 1 ≤ x.side ∧ x.side ≤ 2 := by
  unfold nodB at h
  rw [if_neg (by omega), if_neg (by omega), if_neg (by omega), if_pos k] at h
  simp only [Bool.and_eq_true, hasL_iff] at h
  obtain ⟨⟨⟨-, h1⟩, h2⟩, h3⟩ := h
  exact ⟨⟨h2 _ (by simp), h2 _ (by simp), txtB_w h1⟩, h3 _ (by simp)⟩
theorem nod_at {l : List LNo} (h : isS l = true) {k : Nat} (hk : k < l.length) : nodB (ndN l k) = true := by
  rw [ndN_get hk]
  exact isG_nod l 0 _ h _ (List.getElem_mem hk)
theorem mul_nn {a b : Int} (h1 : 0 ≤ a) (h2 : 0 ≤ b) : 0 ≤ a * b := Int.mul_nonneg h1 h2
theorem hgt_nn {x : LNo} (h : nodB x = true) : 0 ≤ hgtN x := by
  unfold hgtN
  rcases nodB_kind h with k | k | k | k
  · obtain ⟨a, b, c, d, e, f, -⟩ := nodB_blk h k
    rw [if_pos k]; omega
  · obtain ⟨a, -⟩ := nodB_txt h k
    rw [if_neg (by omega), if_pos k]
    exact mul_nn (by omega) (by omega)
  · obtain ⟨-, a, -⟩ := nodB_mono h k
    rw [if_neg (by omega), if_neg (by omega)]; omega
  · obtain ⟨⟨-, a, -⟩, -⟩ := nodB_flt h k
    rw [if_neg (by omega), if_neg (by omega)]; omega
theorem pcs_nn (x : LNo) : 0 ≤ pcsN x := by
  unfold pcsN
  split
  · omega
  · split <;> omega
theorem hs_mono {l : List LNo} (h : isS l = true) : ∀ {j k : Nat}, j ≤ k → k ≤ l.length → hsN l j ≤ hsN l k := by
  intro j k hjk hk
  induction k with
  | zero => obtain rfl : j = 0 := by omega
            exact Int.le_refl _
  | succ k ih =>
    by_cases e : j = k + 1
    · subst e; exact Int.le_refl _
    · have h1 := ih (by omega) (by omega)
      have h2 := hsN_succ (l := l) (k := k) (by omega)
      have h3 := hgt_nn (nod_at h (k := k) (by omega))
      omega
theorem ps_mono {l : List LNo} : ∀ {j k : Nat}, j ≤ k → k ≤ l.length → psN l j ≤ psN l k := by
  intro j k hjk hk
  induction k with
  | zero => obtain rfl : j = 0 := by omega
            exact Int.le_refl _
  | succ k ih =>
    by_cases e : j = k + 1
    · subst e; exact Int.le_refl _
    · have h1 := ih (by omega) (by omega)
      have h2 := psN_succ (l := l) (k := k) (by omega)
      have h3 := pcs_nn (ndN l k)
      omega
theorem hsN_zero (l : List LNo) : hsN l 0 = 0 := rfl
theorem psN_zero (l : List LNo) : psN l 0 = 0 := rfl
end Go.Proofs.YtblmebjhhanoaaaGreat
/- CHAPTER 14: flow: what is laid out, in plain words; in which bounds it lies. -/
/- G -/
set_option linter.unusedSimpArgs false
set_option linter.unusedVariables false
namespace Go.Proofs.YtblmebjhhanoaaaGreat
open Go.RowKit

def spK (l : List LNo) (w : Int) (k : Nat) : LSpan := ⟨(rmR l w l.length k).x, (rmR l w l.length k).x + (rmR l w l.length k).w⟩
/-- the galley so far, and the pen. -/
structure LGs where
  a : List LAt
  f : List LFl
  p : LPen
def atP (p : LPen) : Int := p.y + p.m
def lowO (sides : Int) (f : List LFl) : LIs := mostF (lowF sides) f
def clrG (x : LNo) (s : LGs) : LPen := if (lowO x.st.clear s.f).is = true then penC s.p (lowO x.st.clear s.f).n else s.p
def entG (x : LNo) (s : LGs) : LGs := ⟨s.a, s.f, penE (clrG x s) x.st.top x.st.padTop⟩
def lvG (x : LNo) (s : LGs) : LGs := ⟨s.a, s.f, penL s.p x.st.bottom x.st.padBottom⟩
def atL (k : Nat) (H : Int) (z : LSet) : LAt := ⟨1, k, z.f, z.t, z.x, z.y, z.w, H⟩
def setG (k : Nat) (H : Int) (s : LGs) (z : LSet) : LGs := ⟨s.a ++ [atL k H z], s.f, ⟨z.y + H, 0⟩⟩
def txtG (sp : LSpan) (k : Nat) (x : LNo) (s : LGs) : LGs := (texF s.f x.words x.space x.line (atP s.p) sp).foldl (setG k x.line) s
def monY (sp : LSpan) (x : LNo) (s : LGs) : Int := romY s.f x.w x.h (atP s.p) sp
def monA (sp : LSpan) (k : Nat) (x : LNo) (s : LGs) : LAt := ⟨2, k, 0, 0, (bandF s.f (monY sp x s) x.h sp).a, monY sp x s, x.w, x.h⟩
def monG (sp : LSpan) (k : Nat) (x : LNo) (s : LGs) : LGs := ⟨s.a ++ [monA sp k x s], s.f, ⟨monY sp x s + x.h, 0⟩⟩
def newF (k : Nat) (x : LNo) (s : LGs) : LFl := ⟨k, x.side, s.a.length, 0, 0, x.w, x.h⟩
def fltG (sp : LSpan) (k : Nat) (x : LNo) (s : LGs) : LGs := ⟨s.a, putP s.f (newF k x s) (atP s.p) sp, s.p⟩
/-- one node, and all within it. -/
def nodG (l : List LNo) (w : Int) (kids : Nat → Int → LGs → LGs) (k : Nat) (s : LGs) : LGs :=
  if (ndN l k).kind = 1 then lvG (ndN l k) (kids (k + 1) (k + (ndN l k).size) (entG (ndN l k) s))
  else if (ndN l k).kind = 2 then txtG (spK l w k) k (ndN l k) s
  else if (ndN l k).kind = 3 then monG (spK l w k) k (ndN l k) s
  else fltG (spK l w k) k (ndN l k) s
def rowG (l : List LNo) (w : Int) : Nat → Nat → Int → LGs → LGs
  | 0, _, _, s => s
  | n + 1, k, e, s => if (k : Int) < e then rowG l w n (k + (ndN l k).size.toNat) e (nodG l w (rowG l w n) k s) else s
/-- in which bounds a float lies, among so many. -/
structure FlOk (B : Int) (n : Nat) (f : LFl) : Prop where
  x : 0 ≤ f.x ∧ f.x + f.w ≤ 1099511627776 * (2 + (n : Int))
  y : 0 ≤ f.y ∧ f.y + f.h ≤ B
  w : 1 ≤ f.w ∧ f.w ≤ 1099511627776
  h : 1 ≤ f.h ∧ f.h ≤ 1099511627776
  side : f.side = 1 ∨ f.side = 2
structure GsOk (l : List LNo) (B : Int) (k : Nat) (s : LGs) : Prop where
  y : 0 ≤ s.p.y
  m : 0 ≤ s.p.m
  b : s.p.y + s.p.m ≤ B
  fl : s.f.length ≤ k
  al : (s.a.length : Int) ≤ psN l k
  fs : ∀ f ∈ s.f, FlOk B s.f.length f
theorem FlOk.mono {B B' : Int} {n n' : Nat} {f : LFl} (h : FlOk B n f) (hB : B ≤ B') (hn : n ≤ n') : FlOk B' n' f := by
  obtain ⟨⟨a, b⟩, ⟨c, d⟩, e, g, i⟩ := h
  exact ⟨⟨a, by omega⟩, ⟨c, by omega⟩, e, g, i⟩
theorem GsOk.mono {l : List LNo} {B B' : Int} {k : Nat} {s : LGs} (h : GsOk l B k s) (hB : B ≤ B') : GsOk l B' k s := by
  obtain ⟨a, b, c, d, e, f⟩ := h
  exact ⟨a, b, by omega, d, e, fun x hx => (f x hx).mono hB (Nat.le_refl _)⟩
theorem GsOk.near {l : List LNo} {B : Int} {k : Nat} {s : LGs} (h : GsOk l B k s) (hB : B ≤ 1099511627776) (hk : k ≤ 60) : s.f.all nearF = true := by
  rw [List.all_eq_true]
  intro f hf
  obtain ⟨⟨a, b⟩, ⟨c, d⟩, e, g, -⟩ := h.fs f hf
  have := h.fl
  exact nearF_iff.2 ⟨⟨by omega, by omega⟩, ⟨by omega, by omega⟩, ⟨by omega, by omega⟩, ⟨by omega, by omega⟩⟩
theorem most_at {t : LFl → LIs} {l : List LFl} : (mostF t l).is = true → ∃ f ∈ l, (mostF t l).n = (t f).n := by
  refine fold_inv (P := fun o : LIs => o.is = true → ∃ f ∈ l, o.n = (t f).n) l ⟨0, false⟩ (fun h => by cases h) fun o f hf ih h => ?_
  unfold mostT at h ⊢
  split at h
  · next hc => rw [if_pos hc]; exact ⟨f, hf, rfl⟩
  · next hc => rw [if_neg hc]; exact ih h
theorem dn_at {l : List LFl} {W H : Int} {s : LSpan} : ∀ (n : Nat) (y : Int), dnP l W H s n y = y ∨ ∃ f ∈ l, dnP l W H s n y = f.y + f.h
  | 0, y => .inl rfl
  | n + 1, y => by
    rw [dnP]
    split
    · exact .inl rfl
    · next hc =>
      have hi : (nextF l y H s).is = true := by
        cases q : (nextF l y H s).is with
        | true => rfl
        | false => exact absurd (.inr q) hc
      rcases dn_at n (nextF l y H s).n with e | e
      · obtain ⟨f, hf, e2, -⟩ := next_bot hi
        exact .inr ⟨f, hf, by rw [e, e2]⟩
      · exact .inr e
theorem dn_ge {l : List LFl} {W H : Int} {s : LSpan} : ∀ (n : Nat) (y : Int), y ≤ dnP l W H s n y
  | 0, y => Int.le_refl _
  | n + 1, y => by
    rw [dnP]
    split
    · exact Int.le_refl _
    · next hc =>
      have hi : (nextF l y H s).is = true := by
        cases q : (nextF l y H s).is with
        | true => rfl
        | false => exact absurd (.inr q) hc
      obtain ⟨f, hf, e2, e3⟩ := next_bot hi
      have := dn_ge (l := l) (W := W) (H := H) (s := s) n (nextF l y H s).n
      omega
theorem rom_ge (l : List LFl) (w H y : Int) (s : LSpan) : y ≤ romY l w H y s := dn_ge _ _
theorem rom_le {l : List LFl} {w H y B : Int} {s : LSpan} (hy : y ≤ B) (hf : ∀ f ∈ l, f.y + f.h ≤ B) : romY l w H y s ≤ B := by
  rcases dn_at (l := l) (W := w) (H := H) (s := s) (cntP l y) y with e | ⟨f, h1, e⟩
  · unfold romY; rw [e]; exact hy
  · unfold romY; rw [e]; exact hf f h1
theorem from_ge (l : List LFl) (y : Int) : y ≤ fromP l y := by
  unfold fromP
  split
  · omega
  · exact Int.le_refl _
theorem from_le {l : List LFl} {y B : Int} (hy : y ≤ B) (hf : ∀ f ∈ l, f.y ≤ B) : fromP l y ≤ B := by
  unfold fromP
  split
  · next h =>
    obtain ⟨f, h1, h2⟩ := most_at h
    have e : (mostF topF l).n = f.y := h2
    have := hf f h1
    omega
  · exact hy
theorem spot_le {l : List LFl} {f : LFl} {y B : Int} {s : LSpan} (hy : y ≤ B) (h1 : ∀ f ∈ l, f.y ≤ B) (h2 : ∀ f ∈ l, f.y + f.h ≤ B) : spotY l f y s ≤ B := by
  unfold spotY
  rcases dn_at (l := l) (W := f.w) (H := f.h) (s := s) (l.length + 1) (fromP l y) with e | ⟨g, h3, e⟩
  · rw [e]; exact from_le hy h1
  · rw [e]; exact h2 g h3
theorem spot_ge (l : List LFl) (f : LFl) (y : Int) (s : LSpan) : y ≤ spotY l f y s := by
  have := from_ge l y
  have := dn_ge (l := l) (W := f.w) (H := f.h) (s := s) (l.length + 1) (fromP l y)
  unfold spotY
  omega
theorem band_lo (l : List LFl) (y H : Int) (s : LSpan) : s.a ≤ (bandF l y H s).a ∧ (bandF l y H s).b ≤ s.b := fold_mono l s
theorem band_hi {l : List LFl} {y H R : Int} {s : LSpan} (hs : s.a ≤ R) (hf : ∀ f ∈ l, f.x + f.w ≤ R) : (bandF l y H s).a ≤ R :=
  fold_inv (P := fun o : LSpan => o.a ≤ R) l s hs fun o f hf' ih => by
    unfold ofT cutF
    have := hf f hf'
    split
    · split <;> (simp only; omega)
    · exact ih
structure SpOk (s : LSpan) : Prop where
  a : 0 ≤ s.a ∧ s.a ≤ 1099511627776
  b : s.a < s.b ∧ s.b ≤ 2199023255552
theorem spK_ok {l : List LNo} {w : Int} (hi : ∀ x ∈ l, 0 ≤ x.st.inset ∧ x.st.inset ≤ 1099511627776) (hw : 1 ≤ w ∧ w ≤ 1099511627776) (k : Nat) : SpOk (spK l w k) := by
  obtain ⟨h1, h2, h3, h4⟩ := rmR_ok hi hw l.length k
  exact ⟨⟨h1, h2⟩, by unfold spK; simp only; omega, by unfold spK; simp only; omega⟩
/-- where a new float lies. -/
theorem put_ok' {l : List LFl} {f : LFl} {y B : Int} {s : LSpan} (hs : SpOk s) (hy : 0 ≤ y ∧ y ≤ B) (hl : ∀ g ∈ l, FlOk B l.length g) (hw : 1 ≤ f.w ∧ f.w ≤ 1099511627776) (hh : 1 ≤ f.h ∧ f.h ≤ 1099511627776) (hd : f.side = 1 ∨ f.side = 2) : FlOk (B + f.h) (l.length + 1) (setP l f y s) := by
  have h1 := spot_le (l := l) (f := f) (s := s) hy.2 (fun g hg => by have := (hl g hg).y; have := (hl g hg).h; omega) (fun g hg => (hl g hg).y.2)
  have h2 := spot_ge l f y s
  obtain ⟨⟨a1, a2⟩, b1, b2⟩ := hs
  have h3 := band_lo l (spotY l f y s) f.h s
  have h4 := band_hi (l := l) (y := spotY l f y s) (H := f.h) (s := s) (R := 1099511627776 * (2 + (l.length : Int))) (by omega) (fun g hg => (hl g hg).x.2)
  refine ⟨?_, ⟨by simp only [setP]; omega, by simp only [setP]; omega⟩, hw, hh, hd⟩
  simp only [setP, spotX]
  generalize bandF l (spotY l f y s) f.h s = b at *
  split <;> (constructor <;> omega)
end Go.Proofs.YtblmebjhhanoaaaGreat
/- CHAPTER 14: flow: what is laid out keeps within its bounds. -/
/- G -/
set_option linter.unusedSimpArgs false
set_option linter.unusedVariables false
namespace Go.Proofs.YtblmebjhhanoaaaGreat
open Go.RowKit

theorem setG_fold (k : Nat) (H : Int) : ∀ (L : List LSet) (s : LGs), (L.foldl (setG k H) s).a = s.a ++ L.map (atL k H) ∧ (L.foldl (setG k H) s).f = s.f
  | [], s => by simp
  | z :: L, s => by
    obtain ⟨h1, h2⟩ := setG_fold k H L (setG k H s z)
    rw [List.foldl_cons, h1, h2]
    simp [setG]
theorem tex_pen {l : List LFl} {ws : List Int} {sp H B : Int} {s : LSpan} {k : Nat} (hH : 1 ≤ H) (hf : ∀ g ∈ l, g.y + g.h ≤ B) : ∀ (n f : Nat) (y C : Int) (g : LGs), f ≤ ws.length → 0 ≤ y → y ≤ C → B ≤ C → 0 ≤ g.p.y ∧ 0 ≤ g.p.m ∧ g.p.y + g.p.m ≤ C →
    0 ≤ ((texG l ws sp H s n f y).foldl (setG k H) g).p.y ∧ 0 ≤ ((texG l ws sp H s n f y).foldl (setG k H) g).p.m ∧ ((texG l ws sp H s n f y).foldl (setG k H) g).p.y + ((texG l ws sp H s n f y).foldl (setG k H) g).p.m ≤ C + H * ((ws.length : Int) - f)
  | 0, f, y, C, g, h0, h1, h2, h3, h4 => by
    have := Int.mul_nonneg (show 0 ≤ H by omega) (show 0 ≤ (ws.length : Int) - f by omega)
    simp only [texG, List.foldl_nil]
    omega
  | n + 1, f, y, C, g, h0, h1, h2, h3, h4 => by
    have hm := Int.mul_nonneg (show 0 ≤ H by omega) (show 0 ≤ (ws.length : Int) - f by omega)
    rw [texG]
    split
    · next q =>
      obtain ⟨t, e1, e2, e3⟩ := lin_t (l := l) (sp := sp) (H := H) (y := y) (s := s) q
      rw [e1, Int.toNat_natCast, List.foldl_cons]
      have hy : (linN l ws sp H f y s).y = romY l (ws.getD f 0) H y s := rfl
      have hge := rom_ge l (ws.getD f 0) H y s
      have hle := rom_le (w := ws.getD f 0) (H := H) (s := s) (Int.le_trans h2 (Int.le_refl C)) (fun g hg => Int.le_trans (hf g hg) h3)
      have ih := tex_pen (k := k) (ws := ws) (sp := sp) (s := s) hH hf n t ((linN l ws sp H f y s).y + H) (C + H) (setG k H g (linN l ws sp H f y s)) e3 (by omega) (by omega) (by omega) ⟨by simp only [setG]; omega, by simp [setG], by simp only [setG]; omega⟩
      have h5 : H * ((ws.length : Int) - f) = H * ((ws.length : Int) - t) + H * ((t : Int) - f) := by rw [← Int.mul_add]; congr 1; omega
      have h6 : H * 1 ≤ H * ((t : Int) - f) := Int.mul_le_mul_of_nonneg_left (by omega) (by omega)
      omega
    · simp only [List.foldl_nil]
      omega
theorem clr_bd {l : List LNo} {B : Int} {k : Nat} {s : LGs} (x : LNo) (h : GsOk l B k s) : 0 ≤ (clrG x s).y ∧ 0 ≤ (clrG x s).m ∧ (clrG x s).y + (clrG x s).m ≤ B := by
  have h1 := h.y
  have h2 := h.m
  have h3 := h.b
  unfold clrG
  split
  · next q =>
    obtain ⟨f, hf, e⟩ := most_at q
    have e : (lowO x.st.clear s.f).n = f.y + f.h := e
    have h4 := (h.fs f hf).y
    have h5 := (h.fs f hf).h
    unfold penC
    split
    · simp only; omega
    · omega
  · omega
theorem ent_ok {l : List LNo} {B : Int} {k : Nat} {s : LGs} {x : LNo} (hk : k < l.length) (hx : Blk6 x) (h : GsOk l B k s) : GsOk l (B + x.st.top + x.st.padTop) (k + 1) (entG x s) := by
  obtain ⟨c1, c2, c3⟩ := clr_bd x h
  have h1 := hx.top
  have h2 := hx.padTop
  have h3 := h.fl
  have h4 := h.al
  have h5 := ps_mono (l := l) (show k ≤ k + 1 by omega) hk
  have e : 0 ≤ (entG x s).p.y ∧ 0 ≤ (entG x s).p.m ∧ (entG x s).p.y + (entG x s).p.m ≤ B + x.st.top + x.st.padTop := by
    simp only [entG, penE, penP]
    split <;> (first | omega | (simp only; omega))
  exact ⟨e.1, e.2.1, e.2.2, by simp only [entG]; omega, by simp only [entG]; omega, fun f hf => (h.fs f hf).mono (by omega) (Nat.le_refl _)⟩
theorem lv_ok {l : List LNo} {B : Int} {k : Nat} {s : LGs} {x : LNo} (hx : Blk6 x) (h : GsOk l B k s) : GsOk l (B + x.st.bottom + x.st.padBottom) k (lvG x s) := by
  have c1 := h.y
  have c2 := h.m
  have c3 := h.b
  have h1 := hx.bottom
  have h2 := hx.padBottom
  have e : 0 ≤ (lvG x s).p.y ∧ 0 ≤ (lvG x s).p.m ∧ (lvG x s).p.y + (lvG x s).p.m ≤ B + x.st.bottom + x.st.padBottom := by
    simp only [lvG, penL, penP]
    split <;> (first | omega | (simp only; omega))
  exact ⟨e.1, e.2.1, e.2.2, h.fl, h.al, fun f hf => (h.fs f hf).mono (by omega) (Nat.le_refl _)⟩
theorem txt_ok {l : List LNo} {B : Int} {k : Nat} {s : LGs} {x : LNo} {sp : LSpan} (hk : k < l.length) (e : psN l (k + 1) = psN l k + x.words.length) (hx : Txt6 x) (h : GsOk l B k s) : GsOk l (B + x.line * x.words.length) (k + 1) (txtG sp k x s) := by
  obtain ⟨f1, f2⟩ := setG_fold k x.line (texF s.f x.words x.space x.line (atP s.p) sp) s
  have hp := tex_pen (ws := x.words) (sp := x.space) (s := sp) (k := k) hx.line.1 (fun g hg => (h.fs g hg).y.2) x.words.length 0 (atP s.p) B s (Nat.zero_le _) (by have := h.y; have := h.m; unfold atP; omega) h.b (Int.le_refl _) ⟨h.y, h.m, h.b⟩
  have hl := tex_len (l := s.f) (ws := x.words) (sp := x.space) (H := x.line) (s := sp) x.words.length 0 (atP s.p)
  have h3 := h.fl
  have h4 := h.al
  have hm := Int.mul_nonneg (show 0 ≤ x.line by have := hx.line; omega) (show 0 ≤ (x.words.length : Int) by omega)
  have e0 : (x.words.length : Int) - (0 : Nat) = x.words.length := by omega
  rw [e0] at hp
  refine ⟨hp.1, hp.2.1, hp.2.2, ?_, ?_, ?_⟩
  · unfold txtG; rw [f2]; omega
  · unfold txtG; rw [f1, List.length_append, List.length_map]
    have hl2 : (texF s.f x.words x.space x.line (atP s.p) sp).length ≤ x.words.length := hl
    omega
  · unfold txtG; rw [f2]
    exact fun f hf => (h.fs f hf).mono (by omega) (Nat.le_refl _)
theorem mon_ok {l : List LNo} {B : Int} {k : Nat} {s : LGs} {x : LNo} {sp : LSpan} (e : psN l (k + 1) = psN l k + 1) (hx : Box6 x) (h : GsOk l B k s) : GsOk l (B + x.h) (k + 1) (monG sp k x s) := by
  have h0 := hx.h
  have h1 := h.y
  have h2 := h.m
  have h3 := h.fl
  have h4 := h.al
  have h5 := rom_ge s.f x.w x.h (atP s.p) sp
  have h6 := rom_le (w := x.w) (H := x.h) (s := sp) (y := atP s.p) h.b (fun g hg => (h.fs g hg).y.2)
  unfold atP at h5 h6
  refine ⟨?_, by simp [monG], ?_, ?_, ?_, fun f hf => (h.fs f hf).mono (by omega) (Nat.le_refl _)⟩
  · simp only [monG, monY, atP]; omega
  · simp only [monG, monY, atP]; omega
  · simp only [monG]; omega
  · simp only [monG, List.length_append, List.length_cons, List.length_nil]; omega
theorem flt_ok {l : List LNo} {B : Int} {k : Nat} {s : LGs} {x : LNo} {sp : LSpan} (e : psN l (k + 1) = psN l k + 1) (hx : Box6 x) (hd : 1 ≤ x.side ∧ x.side ≤ 2) (hs : SpOk sp) (h : GsOk l B k s) : GsOk l (B + x.h) (k + 1) (fltG sp k x s) := by
  have h0 := hx.h
  have h1 := h.y
  have h2 := h.m
  have h3 := h.fl
  have h4 := h.al
  have h5 := h.b
  refine ⟨h1, h2, by simp only [fltG]; omega, by simp only [fltG, putP, List.length_append, List.length_cons, List.length_nil]; omega, by simp only [fltG]; omega, fun f hf => ?_⟩
  have el : (fltG sp k x s).f.length = s.f.length + 1 := by simp [fltG, putP]
  rw [el]
  rcases List.mem_append.1 hf with hf | hf
  · exact (h.fs f hf).mono (by omega) (by omega)
  · rw [List.mem_singleton] at hf
    subst hf
    exact put_ok' (f := newF k x s) hs (by unfold atP; omega) h.fs hx.w hx.h (by unfold newF; simp only; omega)
/-- what is asked of nodes and a width. -/
structure FlwP (l : List LNo) (w : Int) : Prop where
  v : isS l = true
  len : l.length ≤ 60
  hi : hall l ≤ 1099511627776
  ps : pall l ≤ 2000
  w : 1 ≤ w ∧ w ≤ 1099511627776
theorem FlwP.sp {l : List LNo} {w : Int} (h : FlwP l w) (k : Nat) : SpOk (spK l w k) := spK_ok (isS_ins h.v) h.w k
theorem nodG_ok {l : List LNo} {w : Int} (hP : FlwP l w) {kids : Nat → Int → LGs → LGs} {k : Nat} {B : Int} {s : LGs} (hk : k < l.length) (h : GsOk l B k s)
    (hkids : ∀ B s, GsOk l B (k + 1) s → GsOk l (B + (hsN l (k + (ndN l k).size.toNat) - hsN l (k + 1))) (k + (ndN l k).size.toNat) (kids (k + 1) (k + (ndN l k).size) s)) :
    GsOk l (B + (hsN l (k + (ndN l k).size.toNat) - hsN l k)) (k + (ndN l k).size.toNat) (nodG l w kids k s) := by
  have hn := nod_at hP.v hk
  have hL := isS_lam hP.v
  have h1 := hL.pos k hk
  have h2 := hL.fin k hk
  have hs1 := hsN_succ hk
  have ps1 := psN_succ hk
  rw [← ndN_siz] at h1 h2
  have hm1 := hs_mono hP.v (show k + 1 ≤ k + (ndN l k).size.toNat by omega) (by omega)
  have hm2 := ps_mono (l := l) (show k + 1 ≤ k + (ndN l k).size.toNat by omega) (by omega)
  have up : ∀ {s' : LGs}, GsOk l (B + hgtN (ndN l k)) (k + 1) s' → GsOk l (B + (hsN l (k + (ndN l k).size.toNat) - hsN l k)) (k + (ndN l k).size.toNat) s' := fun q => by
    obtain ⟨a, b, c, d, e, f⟩ := q
    exact ⟨a, b, by omega, by omega, by omega, fun x hx => (f x hx).mono (by omega) (Nat.le_refl _)⟩
  unfold nodG
  rcases nodB_kind hn with q | q | q | q
  · rw [if_pos q]
    have hb := nodB_blk hn q
    have e1 : hgtN (ndN l k) = (ndN l k).st.top + (ndN l k).st.bottom + (ndN l k).st.padTop + (ndN l k).st.padBottom + (ndN l k).st.head := by unfold hgtN; rw [if_pos q]
    have := hb.head
    exact (lv_ok hb (hkids _ _ (ent_ok hk hb h))).mono (by omega)
  · rw [if_neg (by omega), if_pos q]
    have e1 : hgtN (ndN l k) = (ndN l k).line * (ndN l k).words.length := by unfold hgtN; rw [if_neg (by omega), if_pos q]
    have e2 : pcsN (ndN l k) = (ndN l k).words.length := by unfold pcsN; rw [if_neg (by omega), if_pos q]
    have := txt_ok (sp := spK l w k) hk (by rw [ps1, e2]) (nodB_txt hn q) h
    rw [← e1] at this
    exact up this
  · rw [if_neg (by omega), if_neg (by omega), if_pos q]
    have e1 : hgtN (ndN l k) = (ndN l k).h := by unfold hgtN; rw [if_neg (by omega), if_neg (by omega)]
    have e2 : pcsN (ndN l k) = 1 := by unfold pcsN; rw [if_neg (by omega), if_neg (by omega)]
    have := mon_ok (sp := spK l w k) (by rw [ps1, e2]) (nodB_mono hn q) h
    rw [← e1] at this
    exact up this
  · rw [if_neg (by omega), if_neg (by omega), if_neg (by omega)]
    have e1 : hgtN (ndN l k) = (ndN l k).h := by unfold hgtN; rw [if_neg (by omega), if_neg (by omega)]
    have e2 : pcsN (ndN l k) = 1 := by unfold pcsN; rw [if_neg (by omega), if_neg (by omega)]
    obtain ⟨hb, hd⟩ := nodB_flt hn q
    have := flt_ok (sp := spK l w k) (by rw [ps1, e2]) hb hd (hP.sp k) h
    rw [← e1] at this
    exact up this
theorem rowG_ok {l : List LNo} {w : Int} (hP : FlwP l w) : ∀ (n k : Nat) (e : Int) (B : Int) (s : LGs), nst l n k e → e ≤ l.length → GsOk l B k s → GsOk l (B + (hsN l e.toNat - hsN l k)) e.toNat (rowG l w n k e s)
  | 0, k, e, B, s, h, _, _ => absurd h (by simp [nst])
  | n + 1, k, e, B, s, h, he, hg => by
    obtain ⟨h1, h2⟩ := h
    rw [rowG]
    split
    · next q =>
      obtain ⟨u1, u2, u3, u4⟩ := h2 q
      rw [← ndN_siz] at u1 u2 u3 u4
      have hk : k < l.length := by omega
      have e3 : ((k : Int) + (ndN l k).size).toNat = k + (ndN l k).size.toNat := by omega
      have hn := nodG_ok hP hk hg (kids := rowG l w n) fun B s hs => by
        have := rowG_ok hP n (k + 1) (k + (ndN l k).size) B s u3 (by omega) hs
        rw [e3] at this
        exact this
      have := rowG_ok hP n (k + (ndN l k).size.toNat) e _ _ u4 he hn
      exact this.mono (by omega)
    · have e2 : e.toNat = k := by omega
      rw [e2]
      exact hg.mono (by omega)
end Go.Proofs.YtblmebjhhanoaaaGreat
/- CHAPTER 06: valid: the ends that are still ahead: slices.DeleteFunc. -/
/- G -/
/- BOOLS -/
set_option linter.unusedSimpArgs false
set_option linter.unusedVariables false
namespace Go.Proofs.YtblmebjhhanoaaaGreat
open Go.RowKit

def offE (i e : Int) : Bool := decide (e ≤ i)
def gtE (i e : Int) : Bool := !offE i e
def gtL (l : List Int) (i : Int) : List Int := l.filter (gtE i)
set_option maxRecDepth 100000 in
theorem node1_ok (e i : Int) : FnOk Tryz.prog 106 [.raw (.int .i64 e), .hdr 0] [(0, .cells 3 [.raw (.int .i64 i)])] (.raw (.bool (offE i e))) [(0, .cells 3 [.raw (.int .i64 i)])] := by
  refine fn_of_awp Tryz.func106 rfl (by kernel_rfl) (by kernel_rfl) (Nat.le_of_ble_eq_true rfl) Tryz.results106 ?_
  unfold offE
  simp only [go_sem, Bool.not_eq_true', Bool.not_eq_false']
  (refine ret2 [] (by simp only [go_sem, Bool.not_eq_true', Bool.not_eq_false']; rfl) ?_; simp only [go_sem, Bool.not_eq_true', Bool.not_eq_false'])
/-- the place of the first that is so; below 0: none is. -/
def idxE (p : Int → Bool) (l : List Int) : Int := if l.findIdx p < l.length then l.findIdx p else -1
theorem idxE_at {p : Int → Bool} {l : List Int} {k : Nat} (hk : k < l.length) (h : ∀ j (hj : j < l.length), j < k → p l[j] = false) (hp : p l[k] = true) : idxE p l = k := by
  have e : l.findIdx p = k := by
    rw [List.findIdx_eq hk]
    exact ⟨hp, fun j hj => by have := h j (by omega) hj; simpa using this⟩
  unfold idxE
  rw [if_pos (by omega), e]
theorem idxE_no {p : Int → Bool} {l : List Int} (h : ∀ j (hj : j < l.length), p l[j] = false) : idxE p l = -1 := by
  unfold idxE
  rw [if_neg]
  intro hlt
  have := List.findIdx_getElem (w := hlt)
  rw [h _ hlt] at this
  cases this
set_option maxRecDepth 100000 in
theorem indexE_ok (l : List Int) (i : Int) (hl : l.length ≤ 1000) : FnOk Tryz.prog 131 [.sl 1 (l.map cInt), .clo (.func 106) [.hdr 0]] [(0, .cells 3 [.raw (.int .i64 i)])] (.raw (.int .i64 (idxE (offE i) l))) [(0, .cells 3 [.raw (.int .i64 i)])] := by
  refine fn_of_awp Tryz.func131 rfl (by kernel_rfl) (by kernel_rfl) (Nat.le_of_ble_eq_true rfl) Tryz.results131 ?_
  simp only [go_sem, Bool.not_eq_true', Bool.not_eq_false', List.length_map]
  refine aloop2 [] (fun k : Nat => ⟨[(0, .sl 1 (l.map cInt)), (1, .clo (.func 106) [.hdr 0]), (7, .raw (.int .i64 l.length)), (8, .raw (.int .i64 k))], [(0, some (.cells 3 [.raw (.int .i64 i)]))], none⟩) (fun k => k ≤ l.length ∧ ∀ j (hj : j < l.length), j < k → offE i l[j] = false) (fun k => l.length - k) 4 0 (by simp only [go_sem, Bool.not_eq_true', Bool.not_eq_false']; rfl) (by simp only [go_sem, Bool.not_eq_true', Bool.not_eq_false']) ?_ ?_
  · exact ⟨Nat.zero_le _, fun j _ h => absurd h (Nat.not_lt_zero j)⟩
  · rintro k ⟨h1, h2⟩
    simp only [go_sem, Bool.not_eq_true', Bool.not_eq_false', List.length_map]
    refine ⟨fun h5 => ?_, fun h5 => ?_⟩
    · have hk : k < l.length := by omega
      refine ⟨by omega, ex_get hk ?_⟩
      (refine acall2 [] (node1_ok l[k] i) (by simp only [go_sem, Bool.not_eq_true', Bool.not_eq_false']; rfl) (fit_of (by simp only [go_sem, Bool.not_eq_true', Bool.not_eq_false']) (by simp only [go_sem, Bool.not_eq_true', Bool.not_eq_false']) (by simp only [go_sem, Bool.not_eq_true', Bool.not_eq_false']) (by simp only [go_sem, Bool.not_eq_true', Bool.not_eq_false']) (by simp only [go_sem, Bool.not_eq_true', Bool.not_eq_false']) (by simp only [go_sem, Bool.not_eq_true', Bool.not_eq_false']) (by simp only [go_sem, Bool.not_eq_true', Bool.not_eq_false'])) ?_; simp only [go_sem, Bool.not_eq_true', Bool.not_eq_false'])
      refine ⟨fun h6 => ?_, fun h6 => ⟨by omega, ?_⟩⟩
      · rw [idxE_at hk h2 h6]
        (refine ret2 [] (by simp only [go_sem, Bool.not_eq_true', Bool.not_eq_false']; rfl) ?_; simp only [go_sem, Bool.not_eq_true', Bool.not_eq_false'])
      · (refine loop_end [] (k + 1) (by simp only [go_sem, Bool.not_eq_true', Bool.not_eq_false']; rfl) ?_ ?_ ?_; (focus first | omega | (simp only; omega)); (focus (simp only [go_sem, Bool.not_eq_true', Bool.not_eq_false']; done)))
        refine ⟨by omega, fun j hj h7 => ?_⟩
        rcases Nat.lt_succ_iff_lt_or_eq.1 h7 with h8 | h8
        · exact h2 j hj h8
        · subst h8; exact h6
    · rw [idxE_no (fun j hj => h2 j hj (by omega))]
      (refine ret2 [] (by simp only [go_sem, Bool.not_eq_true', Bool.not_eq_false']; rfl) ?_; simp only [go_sem, Bool.not_eq_true', Bool.not_eq_false'])
structure LDelE where
  k : Nat
  mid : List Int
def kepE (l : List Int) (i : Int) (k : Nat) : List Int := (l.take k).filter (gtE i)
theorem kepE_len (l : List Int) (i : Int) (k : Nat) : (kepE l i k).length ≤ k := Nat.le_trans (List.length_filter_le _ _) (by simp; omega)
theorem kepE_succ {l : List Int} {i : Int} {k : Nat} (hk : k < l.length) : kepE l i (k + 1) = if gtE i l[k] = true then kepE l i k ++ [l[k]] else kepE l i k := by
  unfold kepE
  rw [List.take_succ_eq_append_getElem hk, List.filter_append]
  split
  · next h => simp [h]
  · next h => simp [h]
def rowE (l : List Int) (i : Int) (z : LDelE) : List Int := kepE l i z.k ++ z.mid ++ l.drop z.k
theorem rowE_get {l : List Int} {i : Int} {k : Nat} {mid : List Int} (hk : k < l.length) (h : (kepE l i k).length + mid.length = k) : (rowE l i ⟨k, mid⟩)[k]? = some l[k] := by
  unfold rowE
  rw [List.getElem?_append_right (by simp; omega), List.length_append, h, Nat.sub_self, List.getElem?_drop]
  simp [hk]
theorem rowE_keep {l : List Int} {i : Int} {k : Nat} {mid : List Int} (hk : k < l.length) (h0 : 0 < mid.length) (h : gtE i l[k] = true) : (rowE l i ⟨k, mid⟩).set (kepE l i k).length l[k] = rowE l i ⟨k + 1, mid.tail ++ [l[k]]⟩ := by
  unfold rowE
  cases mid with
  | nil => simp at h0
  | cons x mid =>
    have e1 : l.drop k = l[k] :: l.drop (k + 1) := List.drop_eq_getElem_cons hk
    rw [kepE_succ hk, if_pos h, e1]
    simp
theorem rowE_skip {l : List Int} {i : Int} {k : Nat} {mid : List Int} (hk : k < l.length) (h : ¬ gtE i l[k] = true) : rowE l i ⟨k, mid⟩ = rowE l i ⟨k + 1, mid ++ [l[k]]⟩ := by
  unfold rowE
  have e1 : l.drop k = l[k] :: l.drop (k + 1) := List.drop_eq_getElem_cons hk
  rw [kepE_succ hk, if_neg h, e1]
  simp
theorem rowE_len {l : List Int} {i : Int} {k : Nat} {mid : List Int} (hk : k ≤ l.length) (h : (kepE l i k).length + mid.length = k) : (rowE l i ⟨k, mid⟩).length = l.length := by
  unfold rowE
  simp
  omega
theorem kepE_pre {l : List Int} {i : Int} {k : Nat} (h : ∀ j (hj : j < l.length), j < k → offE i l[j] = false) : kepE l i k = l.take k := by
  unfold kepE
  rw [List.filter_eq_self]
  intro x hx
  obtain ⟨j, hj, rfl⟩ := List.getElem_of_mem hx
  simp only [List.length_take] at hj
  rw [List.getElem_take]
  unfold gtE
  rw [h j (by omega) (by omega)]
  rfl
theorem idxE_cases (p : Int → Bool) (l : List Int) : (idxE p l = -1 ∧ ∀ j (hj : j < l.length), p l[j] = false) ∨ ∃ k : Nat, idxE p l = k ∧ ∃ hk : k < l.length, p l[k] = true ∧ ∀ j (hj : j < l.length), j < k → p l[j] = false := by
  unfold idxE
  by_cases h : l.findIdx p < l.length
  · right
    rw [if_pos h]
    refine ⟨l.findIdx p, rfl, h, List.findIdx_getElem (w := h), fun j hj hlt => ?_⟩
    have := List.not_of_lt_findIdx hlt
    simpa using this
  · left
    rw [if_neg h]
    refine ⟨rfl, fun j hj => ?_⟩
    have := List.not_of_lt_findIdx (p := p) (xs := l) (i := j) (by omega)
    simpa using this
set_option maxRecDepth 100000 in
set_option maxHeartbeats 4000000 in
theorem deleteE_ok (l : List Int) (i : Int) (hl : l.length ≤ 1000) : FnOk Tryz.prog 105 [.hdr 0, .clo (.func 106) [.hdr 1]] [(0, .row 3 1 (l.map cInt)), (1, .cells 3 [.raw (.int .i64 i)])] (.hdr 8) [(8, .row 3 1 ((gtL l i).map cInt)), (1, .cells 3 [.raw (.int .i64 i)])] := by
  refine fn_of_swp Tryz.func105 rfl (by kernel_rfl) (by kernel_rfl) (Nat.le_of_ble_eq_true rfl) Tryz.results105 ?_
  (refine swp_seqW ?_; simp only [go_sem, Bool.not_eq_true', Bool.not_eq_false'])
  (refine swp_seqW ?_; simp only [go_sem, Bool.not_eq_true', Bool.not_eq_false'])
  (refine acall2 [0 ] ( indexE_ok l i hl) (by simp only [go_sem, Bool.not_eq_true', Bool.not_eq_false']; rfl) (fit_of (by simp only [go_sem, Bool.not_eq_true', Bool.not_eq_false']) (by simp only [go_sem, Bool.not_eq_true', Bool.not_eq_false']) (by simp only [go_sem, Bool.not_eq_true', Bool.not_eq_false']) (by simp only [go_sem, Bool.not_eq_true', Bool.not_eq_false']) (by simp only [go_sem, Bool.not_eq_true', Bool.not_eq_false']) (by simp only [go_sem, Bool.not_eq_true', Bool.not_eq_false']) (by simp only [go_sem, Bool.not_eq_true', Bool.not_eq_false'])) ?_; simp only [go_sem, Bool.not_eq_true', Bool.not_eq_false'])
  rcases idxE_cases (offE i) l with ⟨e0, hno⟩ | ⟨i0, e0, hi0, hp0, hb0⟩
  · rw [e0]
    have e1 : gtL l i = l := by
      have := kepE_pre (l := l) (i := i) (k := l.length) (fun j hj _ => hno j hj)
      unfold kepE at this
      rw [List.take_length] at this
      exact this
    rw [e1]
    (refine swp_lastW ?_; simp only [go_sem, Bool.not_eq_true', Bool.not_eq_false'])
    repeat' first | contradiction | intro _ | refine And.intro ?_ ?_ | refine ex_get (by omega) ?_ | (show drawB _ _ = true; kernel_rfl) | (refine ret2 [] (by simp only [go_sem, Bool.not_eq_true', Bool.not_eq_false']; rfl) ?_; simp only [go_sem, Bool.not_eq_true', Bool.not_eq_false'])
    all_goals skip
  · rw [e0]
    have ek := kepE_pre (l := l) (i := i) (k := i0) hb0
    have eks : kepE l i (i0 + 1) = l.take i0 := by
      rw [kepE_succ hi0, if_neg (by unfold gtE; rw [hp0]; decide), ek]
    have elen : (kepE l i (i0 + 1)).length = i0 := by rw [eks]; simp; omega
    have erow : rowE l i ⟨i0 + 1, [l[i0]]⟩ = l := by
      unfold rowE
      dsimp only
      rw [eks]
      simp
    (refine swp_seqW ?_; simp only [go_sem, Bool.not_eq_true', Bool.not_eq_false', List.length_map])
    refine swp_seqS ?_
    (refine swp_seqW ?_; simp only [go_sem, Bool.not_eq_true', Bool.not_eq_false'])
    refine ⟨by omega, ?_⟩
    refine swp_block ?_
    refine swp_loop2 [] (fun z : LDelE => ⟨[(0, .hdr 0), (1, .clo (.func 106) [.hdr 1]), (5, .raw (.int .i64 (kepE l i z.k).length)), (6, .raw (.int .i64 z.k))], [(0, some (.row 3 1 ((rowE l i z).map cInt))), (1, some (.cells 3 [.raw (.int .i64 i)]))], none⟩) (fun z => z.k ≤ l.length ∧ 0 < z.mid.length ∧ (kepE l i z.k).length + z.mid.length = z.k) (fun z => l.length - z.k) 4 ⟨i0 + 1, [l[i0]]⟩ (by simp only [go_sem, Bool.not_eq_true', Bool.not_eq_false']; rfl) (by simp only [go_sem, Bool.not_eq_true', Bool.not_eq_false', elen, erow]) ?_ ?_
    · exact ⟨hi0, by simp, by rw [elen]; simp⟩
    · rintro ⟨k, mid⟩ ⟨h1, h2, h3⟩
      simp only at h1 h2 h3
      have hlen := rowE_len h1 h3
      (refine swp_seqW ?_; simp only [go_sem, Bool.not_eq_true', Bool.not_eq_false', List.length_map])
      refine ⟨fun h5 => ?_, fun h5 => ?_⟩
      · have hk : k < l.length := by omega
        have hget := rowE_get hk h3
        have hK := kepE_len l i k
        (refine swp_lastW ?_; simp only [go_sem, Bool.not_eq_true', Bool.not_eq_false', List.length_map])
        refine ⟨by omega, l[k], hget, ?_⟩
        (refine acall2 [] (node1_ok l[k] i) (by simp only [go_sem, Bool.not_eq_true', Bool.not_eq_false']; rfl) (fit_of (by simp only [go_sem, Bool.not_eq_true', Bool.not_eq_false']) (by simp only [go_sem, Bool.not_eq_true', Bool.not_eq_false']) (by simp only [go_sem, Bool.not_eq_true', Bool.not_eq_false']) (by simp only [go_sem, Bool.not_eq_true', Bool.not_eq_false']) (by simp only [go_sem, Bool.not_eq_true', Bool.not_eq_false']) (by simp only [go_sem, Bool.not_eq_true', Bool.not_eq_false']) (by simp only [go_sem, Bool.not_eq_true', Bool.not_eq_false'])) ?_; simp only [go_sem, Bool.not_eq_true', Bool.not_eq_false'])
        refine ⟨fun h6 => ?_, fun h6 => ?_⟩
        · have h7 : gtE i l[k] = true := by unfold gtE; rw [h6]; rfl
          have hset := rowE_keep hk h2 h7
          have hs2 : (List.map cInt (rowE l i ⟨k, mid⟩)).set (kepE l i k).length (cInt l[k]) = List.map cInt (rowE l i ⟨k + 1, mid.tail ++ [l[k]]⟩) := by rw [← hset, List.map_set]
          simp only [cInt] at hs2
          have hks : kepE l i (k + 1) = kepE l i k ++ [l[k]] := by rw [kepE_succ hk, if_pos h7]
          have hi2 : (rowE l i ⟨k, mid⟩)[(kepE l i k).length]? = some (rowE l i ⟨k, mid⟩)[(kepE l i k).length] := List.getElem?_eq_getElem (by omega)
          refine ⟨by omega, _, hi2, ?_⟩
          refine ⟨by omega, by omega, ?_⟩
          (refine loop_end [] (⟨k + 1, mid.tail ++ [l[k]]⟩) (by simp only [go_sem, Bool.not_eq_true', Bool.not_eq_false']; rfl) ?_ ?_ ?_; (focus first | omega | (simp only; omega)); (focus (simp only [go_sem, Bool.not_eq_true', Bool.not_eq_false', hks, hs2, List.length_append, List.length_cons, List.length_nil]; done)))
          exact ⟨by show k + 1 ≤ l.length; omega, by simp, by rw [hks]; simp; omega⟩
        · have h7 : ¬ gtE i l[k] = true := by unfold gtE; rw [h6]; decide
          rw [rowE_skip hk h7]
          have hks : kepE l i (k + 1) = kepE l i k := by rw [kepE_succ hk, if_neg h7]
          refine ⟨by omega, ?_⟩
          (refine loop_end [] (⟨k + 1, mid ++ [l[k]]⟩) (by simp only [go_sem, Bool.not_eq_true', Bool.not_eq_false']; rfl) ?_ ?_ ?_; (focus first | omega | (simp only; omega)); (focus (simp only [go_sem, Bool.not_eq_true', Bool.not_eq_false', hks]; done)))
          exact ⟨by show k + 1 ≤ l.length; omega, by simp, by rw [hks]; simp; omega⟩
      · have ekl : k = l.length := by omega
        have eA : kepE l i k = gtL l i := by unfold kepE; rw [ekl, List.take_length]; rfl
        have et : List.take (kepE l i k).length (rowE l i ⟨k, mid⟩) = kepE l i k := by unfold rowE; simp
        (refine swp_lastW ?_; simp only [go_sem, Bool.not_eq_true', Bool.not_eq_false', List.length_map])
        rw [et]
        refine ⟨by omega, by omega, ?_, ?_⟩
        · simp; omega
        · have e9 : ∀ X Y : List (List PV), List.take (kepE l i k).length (List.map cInt (kepE l i k) ++ X ++ Y) = List.map cInt (gtL l i) := fun X Y => by
            rw [List.append_assoc, ← eA]
            exact List.take_left' (by simp)
          rw [e9]
          (refine ret2 [] (by simp only [go_sem, Bool.not_eq_true', Bool.not_eq_false']; rfl) ?_; simp only [go_sem, Bool.not_eq_true', Bool.not_eq_false'])
end Go.Proofs.YtblmebjhhanoaaaGreat
/- CHAPTER 06: valid: Count: one node. -/
/- G -/
/- BOOLS -/
set_option linter.unusedSimpArgs false
set_option linter.unusedVariables false
namespace Go.Proofs.YtblmebjhhanoaaaGreat
open Go.RowKit

def hghT (t h n : Int) : Int := cutM (h + cutM (n * t))
structure LCt where
  d : Int
  p : Int
  n : Int
  h : Int
deriving DecidableEq
abbrev cO (c : LCt) (i : Nat) : Nat × AO := (0, .cells 121 [.raw (.int .i64 c.d), .raw (.int .i64 c.p), .raw (.int .i64 c.n), .raw (.int .i64 c.h), .hdr i])
theorem quo_le {t x : Int} (hx : 0 < x) : t ≤ Int.tdiv 1099511627776 x ↔ x * t ≤ 1099511627776 := by
  rw [Int.tdiv_eq_ediv_of_nonneg (by omega), Int.le_ediv_iff_mul_le hx, Int.mul_comm]
theorem hgh_bd {t h n : Int} (hh : 0 ≤ h) (hn : 0 ≤ n) (ht : 0 ≤ t) : 0 ≤ hghT t h n ∧ hghT t h n ≤ 1099511627777 := by
  have := Int.mul_nonneg hn ht
  unfold hghT cutM
  omega
set_option maxRecDepth 100000 in
set_option maxHeartbeats 4000000 in
theorem high6_ok (c : LCt) (t : Int) (es ls : List Int) (ht : 0 ≤ t) (hl : ls.length ≤ 1000) (hn : ∀ x ∈ ls, 0 ≤ x ∧ x ≤ 1099511627776) (hh : 0 ≤ c.h ∧ c.h ≤ 1099511627777) :
    FnOk Tryz.prog 107 [.hdr 0, .raw (.int .i64 t), .sl 1 (ls.map cInt)] [cO c 1, (1, .row 3 1 (es.map cInt))] (.tup []) [cO ⟨c.d, c.p, c.n, ls.foldl (hghT t) c.h⟩ 8, (8, .row 3 1 (es.map cInt))] := by
  refine fn_of_awp Tryz.func107 rfl (by kernel_rfl) (by kernel_rfl) (Nat.le_of_ble_eq_true rfl) Tryz.results107 ?_
  simp only [go_sem, Bool.not_eq_true', Bool.not_eq_false', List.length_map]
  refine aloop2 [] (fun z : KX Int => ⟨[(0, .hdr 0), (1, .raw (.int .i64 t)), (9, .sl 1 (ls.map cInt)), (10, .raw (.int .i64 ls.length)), (11, .raw (.int .i64 z.k))], [((cO ⟨c.d, c.p, c.n, z.o⟩ 1).1, some (cO ⟨c.d, c.p, c.n, z.o⟩ 1).2), (1, some (.row 3 1 (es.map cInt)))], none⟩) (fun z => FInv (hghT t) c.h ls z ∧ 0 ≤ z.o ∧ z.o ≤ 1099511627777) (fun z => ls.length - z.k) 80 ⟨0, c.h⟩ (by simp only [go_sem, Bool.not_eq_true', Bool.not_eq_false']; rfl) (by simp only [go_sem, Bool.not_eq_true', Bool.not_eq_false']) ?_ ?_
  · exact ⟨fInv_first _ _ _, hh⟩
  · rintro ⟨k, o⟩ ⟨h1, h2, h3⟩
    simp only at h2 h3
    simp only [go_sem, Bool.not_eq_true', Bool.not_eq_false', List.length_map]
    refine ⟨fun h5 => ?_, fun h5 => ?_⟩
    · have hk : k < ls.length := by omega
      have hx := hn ls[k] (List.getElem_mem hk)
      have hnx := fun (o' : Int) (e : o' = hghT t o ls[k]) => fInv_next h1 hk e
      have hbd := hgh_bd h2 hx.1 ht
      refine ⟨by omega, ex_get hk ?_⟩
      generalize ls[k] = x at hx hnx hbd ⊢
      have e0 : x = 0 → hghT t o x = min o 1099511627777 := fun q => by subst q; unfold hghT cutM; rw [Int.zero_mul]; omega
      have e1 : x * t ≤ 1099511627776 → hghT t o x = min (o + x * t) 1099511627777 := fun q => by unfold hghT cutM; omega
      have e2 : 1099511627776 < x * t → hghT t o x = min (o + 1099511627777) 1099511627777 := fun q => by unfold hghT cutM; omega
      have hq := fun q : 0 < x => quo_le (t := t) q
      have hm := Int.mul_nonneg hx.1 ht
      have hz : x = 0 → x * t = 0 := fun q => by rw [q, Int.zero_mul]
      have hb1 : 0 ≤ Int.tdiv 1099511627776 x := Int.tdiv_nonneg (by omega) hx.1
      have hb2 : Int.tdiv 1099511627776 x ≤ 1099511627776 := Int.tdiv_le_self x (by omega)
      generalize Int.tdiv 1099511627776 x = v at *
      generalize x * t = y at *
      repeat' first | contradiction | intro _ | refine And.intro ?_ ?_ | refine ex_get (by omega) ?_ | (show drawB _ _ = true; kernel_rfl) | (refine ret2 [] (by simp only [go_sem, Bool.not_eq_true', Bool.not_eq_false']; rfl) ?_; simp only [go_sem, Bool.not_eq_true', Bool.not_eq_false'])
      all_goals first
        | omega
        | ((refine loop_end [] (⟨k + 1, min (o + y) 1099511627777⟩) (by simp only [go_sem, Bool.not_eq_true', Bool.not_eq_false']; rfl) ?_ ?_ ?_; (focus first | omega | (simp only; omega)); (focus (simp only [go_sem, Bool.not_eq_true', Bool.not_eq_false']; done)))
           exact ⟨hnx _ (by omega), by simp only; omega, by simp only; omega⟩)
        | ((refine loop_end [] (⟨k + 1, min (o + 1099511627777) 1099511627777⟩) (by simp only [go_sem, Bool.not_eq_true', Bool.not_eq_false']; rfl) ?_ ?_ ?_; (focus first | omega | (simp only; omega)); (focus (simp only [go_sem, Bool.not_eq_true', Bool.not_eq_false']; done)))
           exact ⟨hnx _ (by omega), by simp only; omega, by simp only; omega⟩)
        | skip
    · have e := fInv_last h1 h5
      rw [← e]
      (refine ret2 [] (by simp only [go_sem, Bool.not_eq_true', Bool.not_eq_false']; rfl) ?_; simp only [go_sem, Bool.not_eq_true', Bool.not_eq_false'])
def endT (es : List Int) (i : Nat) (x : LNo) : List Int := if x.kind = 1 then gtL es i ++ [(i : Int) + x.size] else gtL es i
def cntT (c : LCt) (es : List Int) (i : Nat) (x : LNo) : LCt := ⟨if x.kind = 1 then max c.d (endT es i x).length else c.d, c.p + pcsN x, c.n + 1, cutM (c.h + hgtN x)⟩
end Go.Proofs.YtblmebjhhanoaaaGreat
/- CHAPTER 06: valid: Count, Check. -/
/- G -/
/- BOOLS -/
set_option linter.unusedSimpArgs false
set_option linter.unusedVariables false
namespace Go.Proofs.YtblmebjhhanoaaaGreat
open Go.RowKit

def cntC (l : List LNo) (k : Nat) : LCt := ⟨dpN l k, psN l k, k, cutM (hsN l k)⟩
theorem gtL_eq (l : List Int) (i : Int) : gtL l i = l.filter (fun e => decide (i < e)) := by
  unfold gtL
  congr 1
  funext e
  unfold gtE offE
  rw [Bool.eq_iff_iff, Bool.not_eq_true', decide_eq_false_iff_not, decide_eq_true_iff]
  omega
theorem end_op {l : List LNo} {es : List Int} {k : Nat} (h1 : 1 ≤ (ndN l k).size) (he : gtL es k = opE l k k) : endT es k (ndN l k) = opE l k (k + 1) := by
  unfold endT
  rw [opE, he]
  split
  · next q => rw [if_pos ⟨q, by omega⟩]
  · next q => rw [if_neg (fun w => q w.1), List.append_nil]
theorem end_next {l : List LNo} {k : Nat} : gtL (opE l k (k + 1)) (k + 1 : Nat) = opE l (k + 1 : Nat) (k + 1) := by
  rw [gtL_eq, opE_filter]
  congr 1
  omega
def sumC (l : List LNo) : LCt := if isS l = true then cntC l l.length else ⟨0, 0, 0, 0⟩
def eC (l : List LNo) : Int := if isS l = true then 0 else 4
def aSum (l : List LNo) : AV := .tup [.agg [.raw (.int .i64 (sumC l).d), .raw (.int .i64 (sumC l).p), .raw (.int .i64 (sumC l).n), .raw (.int .i64 (sumC l).h)], .raw (.int .i64 (eC l))]
attribute [go_sem] aSum
theorem chk_no {l : List LNo} (h : isS l = false) : chkN l = 4 := if_pos h
theorem chk_lim {l : List LNo} (h : isS l = true) : chkN l = if 16 < (cntC l l.length).d ∨ 2000 < (cntC l l.length).p ∨ 2000 < (cntC l l.length).n ∨ 1099511627776 < (cntC l l.length).h then 2 else 0 := by
  unfold chkN
  rw [if_neg (by rw [h]; decide)]
  have e : 1099511627776 < hall l ↔ 1099511627776 < (cntC l l.length).h := by
    show _ ↔ 1099511627776 < cutM (hsN l l.length)
    unfold hall cutM
    omega
  simp only [e]
  rfl
end Go.Proofs.YtblmebjhhanoaaaGreat
/- CHAPTER 06: the document's answer: Count, Check. -/
/- G -/
/- BOOLS -/
set_option linter.unusedSimpArgs false
set_option linter.unusedVariables false
namespace Go.Proofs.YtblmebjhhanoaaaGreat
open Go.RowKit

set_option maxRecDepth 100000 in
theorem rplus_ok (a b : Int) (h : -4611686018427387904 ≤ a + b ∧ a + b ≤ 4611686018427387904) : FnOk Tryz.prog 97 [.raw (.int .i64 a), .raw (.int .i64 b)] [] (.raw (.int .i64 (cutM (a + b)))) [] := by
  refine fn_of_awp Tryz.func97 rfl (by kernel_rfl) (by kernel_rfl) (Nat.le_of_ble_eq_true rfl) Tryz.results97 ?_
  simp only [go_sem, Bool.not_eq_true', Bool.not_eq_false']
  repeat' first | contradiction | intro _ | refine And.intro ?_ ?_ | refine ex_get (by omega) ?_ | (show drawB _ _ = true; kernel_rfl) | (refine ret2 [] (by simp only [go_sem, Bool.not_eq_true', Bool.not_eq_false']; rfl) ?_; simp only [go_sem, Bool.not_eq_true', Bool.not_eq_false'])
  all_goals first
    | omega
    | rfl
abbrev sO (d p n h : Int) : AO := .cells 81 [.raw (.int .i64 d), .raw (.int .i64 p), .raw (.int .i64 n), .raw (.int .i64 h)]
def stC (l : List LNo) (k : Nat) (more : List (Nat × AV)) (d p h : Int) (ob : List (Nat × Option AO)) : AS := ⟨[(0, .sl 20 (l.map cNo)), (2, .hdr 8), (3, .raw (.int .i64 0)), (4, .hdr 800), (5, .raw (.int .i64 k))] ++ more, [(8, some (sO 0 0 0 0)), (800, some (sO d p l.length h))] ++ ob, none⟩
attribute [go_sem] stC
theorem op_len {l : List LNo} {i : Int} {j : Nat} : ((opE l i (j + 1)).length : Int) = (opE l i j).length + if (ndN l j).kind = 1 ∧ i < j + (ndN l j).size then 1 else 0 := by
  rw [opE, List.length_append]
  split <;> simp
theorem cut_bd {a : Int} (h : 0 ≤ a) : 0 ≤ cutM a ∧ cutM a ≤ 1099511627777 := by unfold cutM; omega
theorem dpN_zero (l : List LNo) : dpN l 0 = 0 := rfl
theorem cut_zero : cutM 0 = 0 := rfl
theorem opE_zero (l : List LNo) (i : Int) : (opE l i 0).length = 0 := rfl
set_option maxRecDepth 100000 in
set_option maxHeartbeats 8000000 in
theorem rcount6_ok (l : List LNo) (hl : l.length ≤ 900) (hw : ∀ x ∈ l, x.words.length ≤ 9223372036854775807) (hp : pall l ≤ 9223372036854775807) : FnOk Tryz.prog 65 [.sl 20 (l.map cNo)] [] (aSum l) [] := by
  refine fn_of_swp Tryz.func65 rfl (by kernel_rfl) (by kernel_rfl) (Nat.le_of_ble_eq_true rfl) Tryz.results65 ?_
  (refine swp_seqW ?_; simp only [go_sem, Bool.not_eq_true', Bool.not_eq_false'])
  (refine swp_seqW ?_; simp only [go_sem, Bool.not_eq_true', Bool.not_eq_false'])
  (refine acall2 [] (isR2_ok l (by omega) hw) (by simp only [go_sem, Bool.not_eq_true', Bool.not_eq_false']; rfl) (fit_of (by simp only [go_sem, Bool.not_eq_true', Bool.not_eq_false']) (by simp only [go_sem, Bool.not_eq_true', Bool.not_eq_false']) (by simp only [go_sem, Bool.not_eq_true', Bool.not_eq_false']) (by simp only [go_sem, Bool.not_eq_true', Bool.not_eq_false']) (by simp only [go_sem, Bool.not_eq_true', Bool.not_eq_false']) (by simp only [go_sem, Bool.not_eq_true', Bool.not_eq_false']) (by simp only [go_sem, Bool.not_eq_true', Bool.not_eq_false'])) ?_; simp only [go_sem, Bool.not_eq_true', Bool.not_eq_false'])
  refine ⟨fun hv => ?_, fun hv => ?_⟩
  · have e1 : sumC l = ⟨0, 0, 0, 0⟩ := by unfold sumC; rw [hv]; rfl
    have e2 : eC l = 4 := by unfold eC; rw [hv]; rfl
    simp only [aSum, e1, e2]
    (refine ret2 [] (by simp only [go_sem, Bool.not_eq_true', Bool.not_eq_false']; rfl) ?_; simp only [go_sem, Bool.not_eq_true', Bool.not_eq_false'])
  have e1 : sumC l = cntC l l.length := by unfold sumC; rw [hv]; rfl
  have e2 : eC l = 0 := by unfold eC; rw [hv]; rfl
  simp only [aSum, e1, e2]
  have hpos := isS_sizes hv
  (refine swp_seqW ?_; simp only [go_sem, Bool.not_eq_true', Bool.not_eq_false', List.length_map])
  refine swp_cutS (fun _ : Unit => stC l l.length [] (dpN l l.length) (psN l l.length) (cutM (hsN l l.length)) []) (fun _ => True) 120 ?_ ?_
  · (refine swp_seqW ?_; simp only [go_sem, Bool.not_eq_true', Bool.not_eq_false'])
    refine swp_block ?_
    refine swp_loop2 [] (fun k : Nat => stC l k [] (dpN l k) (psN l k) (cutM (hsN l k)) []) (fun k => k ≤ l.length) (fun k => l.length - k) 120 0 (by simp only [go_sem, Bool.not_eq_true', Bool.not_eq_false']; rfl) (by simp only [go_sem, Bool.not_eq_true', Bool.not_eq_false', dpN_zero, psN_zero, hsN_zero, cut_zero]) ?_ ?_
    · exact Nat.zero_le _
    rintro k h1
    (refine swp_seqW ?_; simp only [go_sem, Bool.not_eq_true', Bool.not_eq_false', List.length_map])
    refine ⟨fun h5 => ?_, fun h5 => ?_⟩
    · have hk : k < l.length := by omega
      have hn := nod_at hv hk
      have hg := hgt_nn hn
      have hsz := hpos l[k] (List.getElem_mem hk)
      have hwk := hw l[k] (List.getElem_mem hk)
      have hps := ps_mono (l := l) (show k + 1 ≤ l.length by omega) (Nat.le_refl _)
      have hps0 := ps_mono (l := l) (show 0 ≤ k by omega) (show k ≤ l.length by omega)
      have hps1 := psN_succ hk
      have hh0 := hs_mono hv (show 0 ≤ k by omega) (show k ≤ l.length by omega)
      have hh1 := hsN_succ hk
      have hdb := dpN_bd l k
      have hdd : dpN l (k + 1) = if (ndN l k).kind = 1 then max (dpN l k) (opE l k (k + 1)).length else dpN l k := rfl
      have hol := opE_len l k (k + 1)
      rw [psN_zero] at hps0
      rw [hsN_zero] at hh0
      have hcb := cut_bd hh0
      unfold pall at hp
      refine swp_seqS ?_
      refine swp_block ?_
      (refine swp_seqW ?_; simp only [go_sem, Bool.not_eq_true', Bool.not_eq_false'])
      refine ⟨by omega, ex_get hk ?_⟩
      rw [← ndN_get hk] at hsz hwk ⊢
      rcases nodB_kind hn with q | q | q | q
      · have hb := nodB_blk hn q
        have e1 : hgtN (ndN l k) = (ndN l k).st.top + (ndN l k).st.bottom + (ndN l k).st.padTop + (ndN l k).st.padBottom + (ndN l k).st.head := by unfold hgtN; rw [if_pos q]
        have e2 : pcsN (ndN l k) = 0 := by unfold pcsN; rw [if_pos q]
        rw [if_pos q] at hdd
        generalize hX : ndN l k = x at *
        refine swp_seqS ?_
        (refine swp_seqW ?_; simp only [go_sem, Bool.not_eq_true', Bool.not_eq_false'])
        (refine swp_condW ?_; simp only [go_sem, Bool.not_eq_true', Bool.not_eq_false'])
        refine ⟨fun _ => ?_, fun w => absurd q w⟩
        (refine swp_seqW ?_; simp only [go_sem, Bool.not_eq_true', Bool.not_eq_false'])
        refine swp_cutS (fun _ : Unit => stC l k [(6, .hdr 900), (7, .raw (.int .i64 (opE l k (k + 1)).length))] (dpN l k) (psN l k) (cutM (hsN l k)) [(900, some (.cells 56 (lNo x)))]) (fun _ => True) 120 ?_ ?_
        · (refine swp_seqW ?_; simp only [go_sem, Bool.not_eq_true', Bool.not_eq_false'])
          refine swp_block ?_
          refine swp_loop2 [] (fun j : Nat => stC l k [(6, .hdr 900), (7, .raw (.int .i64 (opE l k j).length)), (8, .raw (.int .i64 j))] (dpN l k) (psN l k) (cutM (hsN l k)) [(900, some (.cells 56 (lNo x)))]) (fun j => j ≤ k + 1) (fun j => k + 1 - j) 120 0 (by simp only [go_sem, Bool.not_eq_true', Bool.not_eq_false']; rfl) (by simp only [go_sem, Bool.not_eq_true', Bool.not_eq_false', opE_zero]) ?_ ?_
          · exact Nat.zero_le _
          intro j hj
          (refine swp_seqW ?_; simp only [go_sem, Bool.not_eq_true', Bool.not_eq_false'])
          refine ⟨fun h6 => ?_, fun h6 => ?_⟩
          · have hjl : j < l.length := by omega
            have hoj := op_len (l := l) (i := k) (j := j)
            have hob := opE_len l k j
            have hsj := hpos l[j] (List.getElem_mem hjl)
            rw [← ndN_get hjl] at hsj
            refine swp_seqS ?_
            refine swp_block ?_
            (refine swp_seqW ?_; simp only [go_sem, Bool.not_eq_true', Bool.not_eq_false', List.length_map])
            repeat' first | contradiction | intro _ | refine And.intro ?_ ?_ | refine ex_get (by omega) ?_ | (show drawB _ _ = true; kernel_rfl) | (refine ret2 [] (by simp only [go_sem, Bool.not_eq_true', Bool.not_eq_false']; rfl) ?_; simp only [go_sem, Bool.not_eq_true', Bool.not_eq_false'])
            all_goals try omega
            all_goals rw [← ndN_get hjl] at *
            all_goals try omega
            · (refine swp_condW ?_; simp only [go_sem, Bool.not_eq_true', Bool.not_eq_false'])
              refine ⟨fun w => ?_, fun w => ?_⟩
              · rw [if_pos ⟨by assumption, w⟩] at hoj
                (refine swp_lastW ?_; simp only [go_sem, Bool.not_eq_true', Bool.not_eq_false'])
                refine ⟨by omega, ?_⟩
                (refine swp_lastW ?_; simp only [go_sem, Bool.not_eq_true', Bool.not_eq_false'])
                refine ⟨by omega, ?_⟩
                (refine loop_end [] (j + 1) (by simp only [go_sem, Bool.not_eq_true', Bool.not_eq_false']; rfl) ?_ ?_ ?_; (focus first | omega | (simp only; omega)); (focus (simp only [go_sem, Bool.not_eq_true', Bool.not_eq_false', hoj]; done)))
                omega
              · rw [if_neg (fun z => w z.2), Int.add_zero] at hoj
                (refine swp_lastW ?_; simp only [go_sem, Bool.not_eq_true', Bool.not_eq_false'])
                (refine swp_lastW ?_; simp only [go_sem, Bool.not_eq_true', Bool.not_eq_false'])
                refine ⟨by omega, ?_⟩
                (refine loop_end [] (j + 1) (by simp only [go_sem, Bool.not_eq_true', Bool.not_eq_false']; rfl) ?_ ?_ ?_; (focus first | omega | (simp only; omega)); (focus (simp only [go_sem, Bool.not_eq_true', Bool.not_eq_false', hoj]; done)))
                omega
            · rw [if_neg (fun z => absurd z.1 (by assumption)), Int.add_zero] at hoj
              (refine swp_condW ?_; simp only [go_sem, Bool.not_eq_true', Bool.not_eq_false'])
              (refine swp_lastW ?_; simp only [go_sem, Bool.not_eq_true', Bool.not_eq_false'])
              (refine swp_lastW ?_; simp only [go_sem, Bool.not_eq_true', Bool.not_eq_false'])
              refine ⟨by omega, ?_⟩
              (refine loop_end [] (j + 1) (by simp only [go_sem, Bool.not_eq_true', Bool.not_eq_false']; rfl) ?_ ?_ ?_; (focus first | omega | (simp only; omega)); (focus (simp only [go_sem, Bool.not_eq_true', Bool.not_eq_false', hoj]; done)))
              omega
          · obtain rfl : j = k + 1 := by omega
            (refine cut_end [] (()) (by simp only [go_sem, Bool.not_eq_true', Bool.not_eq_false']; rfl) ?_ ?_; (focus (simp only [go_sem, Bool.not_eq_true', Bool.not_eq_false']; done)))
            trivial
        rintro - -
        (refine swp_seqW ?_; simp only [go_sem, Bool.not_eq_true', Bool.not_eq_false'])
        obtain ⟨p1, p2, p3, p4, p5, p6, -⟩ := hb
        have b1 := cut_bd (a := cutM (hsN l k) + x.st.top) (by omega)
        have b2 := cut_bd (a := cutM (cutM (hsN l k) + x.st.top) + x.st.bottom) (by omega)
        have b3 := cut_bd (a := cutM (cutM (cutM (hsN l k) + x.st.top) + x.st.bottom) + x.st.padTop) (by omega)
        have b4 := cut_bd (a := cutM (cutM (cutM (cutM (hsN l k) + x.st.top) + x.st.bottom) + x.st.padTop) + x.st.padBottom) (by omega)
        have eh : cutM (cutM (cutM (cutM (cutM (cutM (hsN l k) + x.st.top) + x.st.bottom) + x.st.padTop) + x.st.padBottom) + x.st.head) = cutM (hsN l (k + 1)) := by
          rw [hh1, e1]
          unfold cutM
          omega
        (refine swp_lastW ?_; simp only [go_sem, Bool.not_eq_true', Bool.not_eq_false'])
        (refine acall2 [] (rplus_ok (cutM (hsN l k)) x.st.top ⟨by omega, by omega⟩) (by simp only [go_sem, Bool.not_eq_true', Bool.not_eq_false']; rfl) (fit_of (by simp only [go_sem, Bool.not_eq_true', Bool.not_eq_false']) (by simp only [go_sem, Bool.not_eq_true', Bool.not_eq_false']) (by simp only [go_sem, Bool.not_eq_true', Bool.not_eq_false']) (by simp only [go_sem, Bool.not_eq_true', Bool.not_eq_false']) (by simp only [go_sem, Bool.not_eq_true', Bool.not_eq_false']) (by simp only [go_sem, Bool.not_eq_true', Bool.not_eq_false']) (by simp only [go_sem, Bool.not_eq_true', Bool.not_eq_false'])) ?_; simp only [go_sem, Bool.not_eq_true', Bool.not_eq_false'])
        (refine acall2 [] (rplus_ok (cutM (cutM (hsN l k) + x.st.top)) x.st.bottom ⟨by omega, by omega⟩) (by simp only [go_sem, Bool.not_eq_true', Bool.not_eq_false']; rfl) (fit_of (by simp only [go_sem, Bool.not_eq_true', Bool.not_eq_false']) (by simp only [go_sem, Bool.not_eq_true', Bool.not_eq_false']) (by simp only [go_sem, Bool.not_eq_true', Bool.not_eq_false']) (by simp only [go_sem, Bool.not_eq_true', Bool.not_eq_false']) (by simp only [go_sem, Bool.not_eq_true', Bool.not_eq_false']) (by simp only [go_sem, Bool.not_eq_true', Bool.not_eq_false']) (by simp only [go_sem, Bool.not_eq_true', Bool.not_eq_false'])) ?_; simp only [go_sem, Bool.not_eq_true', Bool.not_eq_false'])
        (refine acall2 [] (rplus_ok (cutM (cutM (cutM (hsN l k) + x.st.top) + x.st.bottom)) x.st.padTop ⟨by omega, by omega⟩) (by simp only [go_sem, Bool.not_eq_true', Bool.not_eq_false']; rfl) (fit_of (by simp only [go_sem, Bool.not_eq_true', Bool.not_eq_false']) (by simp only [go_sem, Bool.not_eq_true', Bool.not_eq_false']) (by simp only [go_sem, Bool.not_eq_true', Bool.not_eq_false']) (by simp only [go_sem, Bool.not_eq_true', Bool.not_eq_false']) (by simp only [go_sem, Bool.not_eq_true', Bool.not_eq_false']) (by simp only [go_sem, Bool.not_eq_true', Bool.not_eq_false']) (by simp only [go_sem, Bool.not_eq_true', Bool.not_eq_false'])) ?_; simp only [go_sem, Bool.not_eq_true', Bool.not_eq_false'])
        (refine acall2 [] (rplus_ok (cutM (cutM (cutM (cutM (hsN l k) + x.st.top) + x.st.bottom) + x.st.padTop)) x.st.padBottom ⟨by omega, by omega⟩) (by simp only [go_sem, Bool.not_eq_true', Bool.not_eq_false']; rfl) (fit_of (by simp only [go_sem, Bool.not_eq_true', Bool.not_eq_false']) (by simp only [go_sem, Bool.not_eq_true', Bool.not_eq_false']) (by simp only [go_sem, Bool.not_eq_true', Bool.not_eq_false']) (by simp only [go_sem, Bool.not_eq_true', Bool.not_eq_false']) (by simp only [go_sem, Bool.not_eq_true', Bool.not_eq_false']) (by simp only [go_sem, Bool.not_eq_true', Bool.not_eq_false']) (by simp only [go_sem, Bool.not_eq_true', Bool.not_eq_false'])) ?_; simp only [go_sem, Bool.not_eq_true', Bool.not_eq_false'])
        (refine acall2 [] (rplus_ok (cutM (cutM (cutM (cutM (cutM (hsN l k) + x.st.top) + x.st.bottom) + x.st.padTop) + x.st.padBottom)) x.st.head ⟨by omega, by omega⟩) (by simp only [go_sem, Bool.not_eq_true', Bool.not_eq_false']; rfl) (fit_of (by simp only [go_sem, Bool.not_eq_true', Bool.not_eq_false']) (by simp only [go_sem, Bool.not_eq_true', Bool.not_eq_false']) (by simp only [go_sem, Bool.not_eq_true', Bool.not_eq_false']) (by simp only [go_sem, Bool.not_eq_true', Bool.not_eq_false']) (by simp only [go_sem, Bool.not_eq_true', Bool.not_eq_false']) (by simp only [go_sem, Bool.not_eq_true', Bool.not_eq_false']) (by simp only [go_sem, Bool.not_eq_true', Bool.not_eq_false'])) ?_; simp only [go_sem, Bool.not_eq_true', Bool.not_eq_false'])
        rw [eh]
        (refine ⟨(show drawB _ _ = true by kernel_rfl), ?_⟩)
        refine swp_seqS ?_
        (refine swp_seqW ?_; simp only [go_sem, Bool.not_eq_true', Bool.not_eq_false'])
        (refine swp_condW ?_; simp only [go_sem, Bool.not_eq_true', Bool.not_eq_false'])
        refine ⟨fun w => by omega, fun _ => ?_⟩
        (refine swp_lastW ?_; simp only [go_sem, Bool.not_eq_true', Bool.not_eq_false'])
        (refine swp_seqW ?_; simp only [go_sem, Bool.not_eq_true', Bool.not_eq_false'])
        (refine swp_condW ?_; simp only [go_sem, Bool.not_eq_true', Bool.not_eq_false'])
        refine ⟨fun w => by omega, fun _ => ?_⟩
        (refine swp_lastW ?_; simp only [go_sem, Bool.not_eq_true', Bool.not_eq_false'])
        (refine swp_lastW ?_; simp only [go_sem, Bool.not_eq_true', Bool.not_eq_false'])
        refine ⟨by omega, ?_⟩
        have eq : psN l (k + 1) = psN l k := by omega
        (refine loop_end [] (k + 1) (by simp only [go_sem, Bool.not_eq_true', Bool.not_eq_false']; rfl) ?_ ?_ ?_; (focus first | omega | (simp only; omega)); (focus (simp only [go_sem, Bool.not_eq_true', Bool.not_eq_false', hdd, eq]; done)))
        omega
      · have hb := nodB_txt hn q
        have e1 : hgtN (ndN l k) = (ndN l k).line * (ndN l k).words.length := by unfold hgtN; rw [if_neg (by omega), if_pos q]
        have e2 : pcsN (ndN l k) = (ndN l k).words.length := by unfold pcsN; rw [if_neg (by omega), if_pos q]
        rw [if_neg (by omega)] at hdd
        generalize hX : ndN l k = x at *
        rw [e2] at hps1
        refine swp_seqS ?_
        (refine swp_seqW ?_; simp only [go_sem, Bool.not_eq_true', Bool.not_eq_false'])
        (refine swp_condW ?_; simp only [go_sem, Bool.not_eq_true', Bool.not_eq_false'])
        refine ⟨fun w => by omega, fun _ => ?_⟩
        (refine swp_lastW ?_; simp only [go_sem, Bool.not_eq_true', Bool.not_eq_false'])
        refine swp_seqS ?_
        (refine swp_seqW ?_; simp only [go_sem, Bool.not_eq_true', Bool.not_eq_false'])
        (refine swp_condW ?_; simp only [go_sem, Bool.not_eq_true', Bool.not_eq_false'])
        refine ⟨fun _ => ?_, fun w => absurd q w⟩
        (refine swp_seqW ?_; simp only [go_sem, Bool.not_eq_true', Bool.not_eq_false', List.length_map])
        refine ⟨⟨by omega, by omega⟩, ?_⟩
        rw [← hps1]
        (refine swp_seqW ?_; simp only [go_sem, Bool.not_eq_true', Bool.not_eq_false'])
        refine swp_block ?_
        have em0 : cutM (hsN l k + x.line * 0) = cutM (hsN l k) := by rw [Int.mul_zero, Int.add_zero]
        refine swp_loop2 [] (fun j : Nat => stC l k [(6, .hdr 900), (9, .raw (.int .i64 j))] (dpN l k) (psN l (k + 1)) (cutM (hsN l k + x.line * (j : Int))) [(900, some (.cells 56 (lNo x)))]) (fun j => j ≤ x.words.length) (fun j => x.words.length - j) 120 0 (by simp only [go_sem, Bool.not_eq_true', Bool.not_eq_false']; rfl) (by simp only [go_sem, Bool.not_eq_true', Bool.not_eq_false', em0]) ?_ ?_
        · exact Nat.zero_le _
        intro j hj
        have hln := hb.line
        have hm := Int.mul_nonneg (show 0 ≤ x.line by omega) (show 0 ≤ (j : Int) by omega)
        have hj1 : x.line * ((j : Int) + 1) = x.line * j + x.line := by rw [Int.mul_add, Int.mul_one]
        have hcj := cut_bd (a := hsN l k + x.line * (j : Int)) (by omega)
        (refine swp_seqW ?_; simp only [go_sem, Bool.not_eq_true', Bool.not_eq_false', List.length_map])
        refine ⟨fun h6 => ?_, fun h6 => ?_⟩
        · have ej : cutM (cutM (hsN l k + x.line * (j : Int)) + x.line) = cutM (hsN l k + x.line * ((j : Int) + 1)) := by
            rw [hj1]
            unfold cutM
            omega
          refine swp_seqS ?_
          refine swp_block ?_
          (refine swp_lastW ?_; simp only [go_sem, Bool.not_eq_true', Bool.not_eq_false'])
          (refine acall2 [] (rplus_ok (cutM (hsN l k + x.line * (j : Int))) x.line ⟨by omega, by omega⟩) (by simp only [go_sem, Bool.not_eq_true', Bool.not_eq_false']; rfl) (fit_of (by simp only [go_sem, Bool.not_eq_true', Bool.not_eq_false']) (by simp only [go_sem, Bool.not_eq_true', Bool.not_eq_false']) (by simp only [go_sem, Bool.not_eq_true', Bool.not_eq_false']) (by simp only [go_sem, Bool.not_eq_true', Bool.not_eq_false']) (by simp only [go_sem, Bool.not_eq_true', Bool.not_eq_false']) (by simp only [go_sem, Bool.not_eq_true', Bool.not_eq_false']) (by simp only [go_sem, Bool.not_eq_true', Bool.not_eq_false'])) ?_; simp only [go_sem, Bool.not_eq_true', Bool.not_eq_false'])
          rw [ej]
          (refine swp_lastW ?_; simp only [go_sem, Bool.not_eq_true', Bool.not_eq_false'])
          refine ⟨by omega, ?_⟩
          (refine loop_end [] (j + 1) (by simp only [go_sem, Bool.not_eq_true', Bool.not_eq_false']; rfl) ?_ ?_ ?_; (focus first | omega | (simp only; omega)); (focus (simp only [go_sem, Bool.not_eq_true', Bool.not_eq_false']; done)))
          omega
        · obtain rfl : j = x.words.length := by omega
          rw [← e1, ← hh1]
          (refine swp_seqW ?_; simp only [go_sem, Bool.not_eq_true', Bool.not_eq_false'])
          (refine swp_condW ?_; simp only [go_sem, Bool.not_eq_true', Bool.not_eq_false'])
          refine ⟨fun w => by omega, fun _ => ?_⟩
          (refine swp_lastW ?_; simp only [go_sem, Bool.not_eq_true', Bool.not_eq_false'])
          (refine swp_lastW ?_; simp only [go_sem, Bool.not_eq_true', Bool.not_eq_false'])
          refine ⟨by omega, ?_⟩
          (refine loop_end [] (k + 1) (by simp only [go_sem, Bool.not_eq_true', Bool.not_eq_false']; rfl) ?_ ?_ ?_; (focus first | omega | (simp only; omega)); (focus (simp only [go_sem, Bool.not_eq_true', Bool.not_eq_false', hdd]; done)))
          omega
      all_goals
        have hb : Box6 (ndN l k) := by first | exact nodB_mono hn q | exact (nodB_flt hn q).1
        have e1 : hgtN (ndN l k) = (ndN l k).h := by unfold hgtN; rw [if_neg (by omega), if_neg (by omega)]
        have e2 : pcsN (ndN l k) = 1 := by unfold pcsN; rw [if_neg (by omega), if_neg (by omega)]
        rw [if_neg (by omega)] at hdd
        generalize hX : ndN l k = x at *
        rw [e2] at hps1
        have hxh := hb.h
        have eh : cutM (cutM (hsN l k) + x.h) = cutM (hsN l (k + 1)) := by
          rw [hh1, e1]
          unfold cutM
          omega
        refine swp_seqS ?_
        (refine swp_seqW ?_; simp only [go_sem, Bool.not_eq_true', Bool.not_eq_false'])
        (refine swp_condW ?_; simp only [go_sem, Bool.not_eq_true', Bool.not_eq_false'])
        refine ⟨fun w => by omega, fun _ => ?_⟩
        (refine swp_lastW ?_; simp only [go_sem, Bool.not_eq_true', Bool.not_eq_false'])
        refine swp_seqS ?_
        (refine swp_seqW ?_; simp only [go_sem, Bool.not_eq_true', Bool.not_eq_false'])
        (refine swp_condW ?_; simp only [go_sem, Bool.not_eq_true', Bool.not_eq_false'])
        refine ⟨fun w => by omega, fun _ => ?_⟩
        (refine swp_lastW ?_; simp only [go_sem, Bool.not_eq_true', Bool.not_eq_false'])
        (refine swp_seqW ?_; simp only [go_sem, Bool.not_eq_true', Bool.not_eq_false'])
        (refine swp_condW ?_; simp only [go_sem, Bool.not_eq_true', Bool.not_eq_false'])
        refine ⟨fun _ => ?_, fun w => by omega⟩
        (refine swp_seqW ?_; simp only [go_sem, Bool.not_eq_true', Bool.not_eq_false'])
        refine ⟨⟨by omega, by omega⟩, ?_⟩
        rw [← hps1]
        (refine swp_lastW ?_; simp only [go_sem, Bool.not_eq_true', Bool.not_eq_false'])
        (refine acall2 [] (rplus_ok (cutM (hsN l k)) x.h ⟨by omega, by omega⟩) (by simp only [go_sem, Bool.not_eq_true', Bool.not_eq_false']; rfl) (fit_of (by simp only [go_sem, Bool.not_eq_true', Bool.not_eq_false']) (by simp only [go_sem, Bool.not_eq_true', Bool.not_eq_false']) (by simp only [go_sem, Bool.not_eq_true', Bool.not_eq_false']) (by simp only [go_sem, Bool.not_eq_true', Bool.not_eq_false']) (by simp only [go_sem, Bool.not_eq_true', Bool.not_eq_false']) (by simp only [go_sem, Bool.not_eq_true', Bool.not_eq_false']) (by simp only [go_sem, Bool.not_eq_true', Bool.not_eq_false'])) ?_; simp only [go_sem, Bool.not_eq_true', Bool.not_eq_false'])
        rw [eh]
        (refine swp_lastW ?_; simp only [go_sem, Bool.not_eq_true', Bool.not_eq_false'])
        refine ⟨by omega, ?_⟩
        (refine loop_end [] (k + 1) (by simp only [go_sem, Bool.not_eq_true', Bool.not_eq_false']; rfl) ?_ ?_ ?_; (focus first | omega | (simp only; omega)); (focus (simp only [go_sem, Bool.not_eq_true', Bool.not_eq_false', hdd]; done)))
        omega
    · obtain rfl : k = l.length := by omega
      (refine cut_end [] (()) (by simp only [go_sem, Bool.not_eq_true', Bool.not_eq_false']; rfl) ?_ ?_; (focus (simp only [go_sem, Bool.not_eq_true', Bool.not_eq_false']; done)))
      trivial
  rintro - -
  (refine swp_lastW ?_; simp only [go_sem, Bool.not_eq_true', Bool.not_eq_false'])
  (refine ret2 [] (by simp only [go_sem, Bool.not_eq_true', Bool.not_eq_false', cntC]; rfl) ?_; simp only [go_sem, Bool.not_eq_true', Bool.not_eq_false', cntC])
set_option maxRecDepth 100000 in
set_option maxHeartbeats 8000000 in
theorem rcheck6_ok (l : List LNo) (hl : l.length ≤ 900) (hw : ∀ x ∈ l, x.words.length ≤ 9223372036854775807) (hp : pall l ≤ 9223372036854775807) : FnOk Tryz.prog 28 [.sl 20 (l.map cNo)] [] (.raw (.int .i64 (chkN l))) [] := by
  refine fn_of_swp Tryz.func28 rfl (by kernel_rfl) (by kernel_rfl) (Nat.le_of_ble_eq_true rfl) Tryz.results28 ?_
  (refine swp_seqW ?_; simp only [go_sem, Bool.not_eq_true', Bool.not_eq_false'])
  (refine swp_seqW ?_; simp only [go_sem, Bool.not_eq_true', Bool.not_eq_false'])
  (refine acall2 [] (rcount6_ok l hl hw hp) (by simp only [go_sem, Bool.not_eq_true', Bool.not_eq_false']; rfl) (fit_of (by simp only [go_sem, Bool.not_eq_true', Bool.not_eq_false']) (by simp only [go_sem, Bool.not_eq_true', Bool.not_eq_false']) (by simp only [go_sem, Bool.not_eq_true', Bool.not_eq_false']) (by simp only [go_sem, Bool.not_eq_true', Bool.not_eq_false']) (by simp only [go_sem, Bool.not_eq_true', Bool.not_eq_false']) (by simp only [go_sem, Bool.not_eq_true', Bool.not_eq_false']) (by simp only [go_sem, Bool.not_eq_true', Bool.not_eq_false'])) ?_; simp only [go_sem, Bool.not_eq_true', Bool.not_eq_false'])
  (refine swp_seqW ?_; simp only [go_sem, Bool.not_eq_true', Bool.not_eq_false'])
  rcases hv : isS l with _ | _
  · have e2 : eC l = 4 := by unfold eC; rw [hv]; rfl
    rw [e2, chk_no hv]
    exact ⟨fun _ => rfl, fun w => absurd w (by decide)⟩
  have e1 : sumC l = cntC l l.length := by unfold sumC; rw [hv]; rfl
  have e2 : eC l = 0 := by unfold eC; rw [hv]; rfl
  rw [e1, e2, chk_lim hv]
  generalize cntC l l.length = c
  refine ⟨fun w => absurd rfl w, fun _ => ?_⟩
  (refine swp_lastW ?_; simp only [go_sem, Bool.not_eq_true', Bool.not_eq_false'])
  repeat' first | contradiction | intro _ | refine And.intro ?_ ?_ | refine ex_get (by omega) ?_ | (show drawB _ _ = true; kernel_rfl) | (refine ret2 [] (by simp only [go_sem, Bool.not_eq_true', Bool.not_eq_false']; rfl) ?_; simp only [go_sem, Bool.not_eq_true', Bool.not_eq_false'])
  all_goals first
    | (rw [if_pos (by omega)]; done)
    | (rw [if_neg (by omega)]; done)
    | skip
end Go.Proofs.YtblmebjhhanoaaaGreat
/- CHAPTER 14: the document's answer: one node. -/
/- G -/
/- BOOLS -/
set_option linter.unusedSimpArgs false
set_option linter.unusedVariables false
namespace Go.Proofs.YtblmebjhhanoaaaGreat
open Go.RowKit

abbrev rowA (s : LGs) : AO := .row 47 8 (s.a.map cAt)
abbrev rowF (s : LGs) : AO := .row 62 7 (s.f.map cFl)
abbrev stO (p : LPen) (i j : Nat) : AO := .cells 70 [.hdr i, .hdr j, .raw (.int .i64 0), .raw (.int .i64 p.y), .raw (.int .i64 p.m)]
def aGs (s : LGs) (i j : Nat) : AV := .agg [.hdr i, .hdr j, .raw (.int .i64 0), .raw (.int .i64 s.p.y), .raw (.int .i64 s.p.m)]
attribute [go_sem] aGs
theorem GsOk.at {l : List LNo} {B : Int} {k : Nat} {s : LGs} (h : GsOk l B k s) (hB : B ≤ 1099511627776) : 0 ≤ atP s.p ∧ atP s.p ≤ 1099511627776 := by
  have := h.y
  have := h.m
  have := h.b
  unfold atP
  omega
theorem GsOk.lin {l : List LNo} {B : Int} {k : Nat} {s : LGs} (h : GsOk l B k s) (hB : B ≤ 1099511627776) (hk : k ≤ 60) {H : Int} {sp : LSpan} (hH : 0 ≤ H ∧ H ≤ 1099511627776) (hs : SpOk sp) : LinOk s.f H sp :=
  ⟨by have := h.fl; omega, h.near hB hk, by omega, by obtain ⟨a, b⟩ := hs; omega⟩
theorem GsOk.pla {l : List LNo} {B : Int} {k : Nat} {s : LGs} (h : GsOk l B k s) (hB : B ≤ 1099511627776) (hk : k ≤ 60) {x : LNo} {n : Nat} {sp : LSpan} (hx : Box6 x) (hs : SpOk sp) : PlaOk s.f (newF n x s) (atP s.p) sp := by
  have h1 := hx.w
  have h2 := hx.h
  have h3 := h.at hB
  obtain ⟨a, b⟩ := hs
  exact ⟨by have := h.fl; omega, h.near hB hk, nearF_iff.2 ⟨by simp only [newF]; omega, by simp only [newF]; omega, by simp only [newF]; omega, by simp only [newF]; omega⟩, by omega, by omega⟩
theorem wor_ok {l : List LNo} {w : Int} (hP : FlwP l w) {k : Nat} (hk : k < l.length) {x : LNo} (e : ndN l k = x) (hx : Txt6 x) (q : x.kind = 2) : WorOk x.words x.space := by
  have h1 := psN_succ hk
  have h2 := ps_mono (l := l) (show 0 ≤ k by omega) (by omega)
  have h3 := ps_mono (l := l) (show k + 1 ≤ l.length by omega) (Nat.le_refl _)
  have h4 := hP.ps
  have h5 : pcsN x = x.words.length := by unfold pcsN; rw [if_neg (by omega), if_pos q]
  rw [e, h5] at h1
  rw [psN_zero] at h2
  unfold pall at h4
  have h6 := hx.space
  refine ⟨by omega, ?_, by omega⟩
  rw [List.all_eq_true]
  intro y hy
  have := hx.words y hy
  simp only [nr9, decide_eq_true_eq]
  omega
theorem nod_next {l : List LNo} {w : Int} (hP : FlwP l w) {g k : Nat} {B : Int} {s : LGs} (hk : k < l.length) (hn : nst l g (k + 1) (k + (ndN l k).size)) (h : GsOk l B k s) : GsOk l (B + (hsN l (k + (ndN l k).size.toNat) - hsN l k)) (k + (ndN l k).size.toNat) (nodG l w (rowG l w g) k s) := by
  have hL := isS_lam hP.v
  have h1 := hL.pos k hk
  have h2 := hL.fin k hk
  rw [← ndN_siz] at h1 h2
  refine nodG_ok hP hk h fun B s hs => ?_
  have := rowG_ok hP g (k + 1) (k + (ndN l k).size) B s hn (by omega) hs
  have e3 : ((k : Int) + (ndN l k).size).toNat = k + (ndN l k).size.toNat := by omega
  rw [e3] at this
  exact this
theorem rmR_ok' {l : List LNo} {w : Int} (hP : FlwP l w) (k : Nat) : okR (rmR l w l.length k) := rmR_ok (isS_ins hP.v) hP.w l.length k
theorem tex_all {l : List LFl} {ws : List Int} {sp H B : Int} {s : LSpan} (hH : 1 ≤ H) (hf : ∀ g ∈ l, g.y + g.h ≤ B) : ∀ (n f : Nat) (y C : Int), f ≤ ws.length → y ≤ C → B ≤ C → ∀ z ∈ texG l ws sp H s n f y, y ≤ z.y ∧ z.y + H ≤ C + H * ((ws.length : Int) - f)
  | 0, f, y, C, h0, h2, h3, z, hz => by
    rw [texG] at hz
    cases hz
  | n + 1, f, y, C, h0, h2, h3, z, hz => by
    rw [texG] at hz
    split at hz
    · next q =>
      obtain ⟨t, e1, e2, e3⟩ := lin_t (l := l) (sp := sp) (H := H) (y := y) (s := s) q
      rw [e1, Int.toNat_natCast] at hz
      have hy : (linN l ws sp H f y s).y = romY l (ws.getD f 0) H y s := rfl
      have hge := rom_ge l (ws.getD f 0) H y s
      have hle := rom_le (w := ws.getD f 0) (H := H) (s := s) (Int.le_trans h2 (Int.le_refl C)) (fun g hg => Int.le_trans (hf g hg) h3)
      have h5 : H * ((ws.length : Int) - f) = H * ((ws.length : Int) - t) + H * ((t : Int) - f) := by rw [← Int.mul_add]; congr 1; omega
      have h6 : H * 1 ≤ H * ((t : Int) - f) := Int.mul_le_mul_of_nonneg_left (by omega) (by omega)
      have h7 := Int.mul_nonneg (show 0 ≤ H by omega) (show 0 ≤ (ws.length : Int) - t by omega)
      rcases List.mem_cons.1 hz with rfl | hz
      · omega
      · have ih := tex_all (s := s) hH hf n t ((linN l ws sp H f y s).y + H) (C + H) e3 (by omega) (by omega) z hz
        omega
    · cases hz
theorem take_setG {k : Nat} {H : Int} {T : List LSet} {s : LGs} {i : Nat} (hi : i < T.length) : (T.take (i + 1)).foldl (setG k H) s = setG k H ((T.take i).foldl (setG k H) s) T[i] := by
  rw [List.take_succ_eq_append_getElem hi, List.foldl_append]
  rfl
def stR (l : List LNo) (w : Int) (k : Nat) (y : Int) (s : LGs) (more : List (Nat × AV)) (ob : List (Nat × Option AO)) : AS :=
  ⟨[(1, .sl 20 (l.map cNo)), (2, .raw (.int .i64 k)), (3, .raw (.int .i64 w)), (4, .hdr 800), (8, .hdr 801), (9, .hdr 802), (11, .hdr 803), (12, .raw (.int .i64 y))] ++ more,
   [(800, some (stO s.p 804 805)), (804, some (rowA s)), (805, some (rowF s)), (801, some (stO ⟨0, 0⟩ 806 807)), (802, some (.cells 56 (lNo (ndN l k)))), (803, some (.cells 112 [.raw (.int .i64 (spK l w k).a), .raw (.int .i64 (spK l w k).b)]))] ++ ob, none⟩
attribute [go_sem] stR
theorem spK_a (l : List LNo) (w : Int) (k : Nat) : (spK l w k).a = (rmR l w l.length k).x := rfl
theorem spK_b (l : List LNo) (w : Int) (k : Nat) : (spK l w k).b = (rmR l w l.length k).x + (rmR l w l.length k).w := rfl
set_option maxRecDepth 100000 in
set_option maxHeartbeats 8000000 in
theorem rone14_ok {l : List LNo} {w : Int} (hP : FlwP l w) : ∀ (F g : Nat), g ≤ F → ∀ (k : Nat) (s : LGs) (B : Int), k < l.length → nst l g (k + 1) (k + (ndN l k).size) → GsOk l B k s → B + (hall l - hsN l k) ≤ 1099511627776 →
    FnOk Tryz.prog 29 [aGs s 0 1, .sl 20 (l.map cNo), .raw (.int .i64 k), .raw (.int .i64 w)] [(0, rowA s), (1, rowF s)] (aGs (nodG l w (rowG l w g) k s) 8 9) [(8, rowA (nodG l w (rowG l w g) k s)), (9, rowF (nodG l w (rowG l w g) k s))]
  | 0, g, hg, k, s, B, hk, hn, hs, hB => by
    obtain rfl : g = 0 := by omega
    exact absurd hn (by simp [nst])
  | F + 1, g, hg, k, s, B, hk, hn, hs, hB => by
    have hnb := nod_at hP.v hk
    have hlen := hP.len
    have hrm := rmR_ok' hP k
    have hsp := hP.sp k
    have hat := hs.at (show B ≤ 1099511627776 by have := hs_mono hP.v (show k ≤ l.length by omega) (Nat.le_refl _); unfold hall at hB; omega)
    have hB1 : B ≤ 1099511627776 := by have := hs_mono hP.v (show k ≤ l.length by omega) (Nat.le_refl _); unfold hall at hB; omega
    refine fn_of_swp Tryz.func29 rfl (by kernel_rfl) (by kernel_rfl) (Nat.le_of_ble_eq_true rfl) Tryz.results29 ?_
    (refine swp_seqW ?_; simp only [go_sem, Bool.not_eq_true', Bool.not_eq_false'])
    (refine swp_seqW ?_; simp only [go_sem, Bool.not_eq_true', Bool.not_eq_false'])
    refine ⟨by omega, ex_get hk ?_⟩
    rw [← ndN_get hk]
    (refine swp_seqW ?_; simp only [go_sem, Bool.not_eq_true', Bool.not_eq_false'])
    (refine acall2 [] (room8r_ok l w (by omega) (isS_ins hP.v) hP.w l.length k hk hk) (by simp only [go_sem, Bool.not_eq_true', Bool.not_eq_false']; rfl) (fit_of (by simp only [go_sem, Bool.not_eq_true', Bool.not_eq_false']) (by simp only [go_sem, Bool.not_eq_true', Bool.not_eq_false']) (by simp only [go_sem, Bool.not_eq_true', Bool.not_eq_false']) (by simp only [go_sem, Bool.not_eq_true', Bool.not_eq_false']) (by simp only [go_sem, Bool.not_eq_true', Bool.not_eq_false']) (by simp only [go_sem, Bool.not_eq_true', Bool.not_eq_false']) (by simp only [go_sem, Bool.not_eq_true', Bool.not_eq_false'])) ?_; simp only [go_sem, Bool.not_eq_true', Bool.not_eq_false'])
    (refine swp_seqW ?_; simp only [go_sem, Bool.not_eq_true', Bool.not_eq_false'])
    obtain ⟨r1, r2, r3, r4⟩ := hrm
    refine ⟨by omega, ?_⟩
    refine swp_cutS (fun _ : Unit => stR l w k (atP s.p) s [] []) (fun _ => True) 120 ?_ ?_
    · (refine swp_lastW ?_; simp only [go_sem, Bool.not_eq_true', Bool.not_eq_false'])
      refine ⟨by have := hs.y; have := hs.m; have := hs.b; omega, ?_⟩
      (refine cut_end [] (()) (by simp only [go_sem, Bool.not_eq_true', Bool.not_eq_false']; rfl) ?_ ?_; (focus (simp only [go_sem, Bool.not_eq_true', Bool.not_eq_false', atP, spK_a, spK_b]; done)))
      trivial
    rintro - -
    have hkd : nodG l w (rowG l w g) k s = if (ndN l k).kind = 1 then lvG (ndN l k) (rowG l w g (k + 1) (k + (ndN l k).size) (entG (ndN l k) s)) else if (ndN l k).kind = 2 then txtG (spK l w k) k (ndN l k) s else if (ndN l k).kind = 3 then monG (spK l w k) k (ndN l k) s else fltG (spK l w k) k (ndN l k) s := rfl
    have hne := hs.near hB1 (show k ≤ 60 by omega)
    have hfl := hs.fl
    rcases nodB_kind hnb with q | q | q | q
    · rw [if_pos q] at hkd
      have hb := nodB_blk hnb q
      have hclr := clr_bd (ndN l k) hs
      have hent := ent_ok hk hb hs
      have hh1 := hsN_succ hk
      have e1 : hgtN (ndN l k) = (ndN l k).st.top + (ndN l k).st.bottom + (ndN l k).st.padTop + (ndN l k).st.padBottom + (ndN l k).st.head := by unfold hgtN; rw [if_pos q]
      have hclt : (lowO (ndN l k).st.clear s.f).is = true → clrG (ndN l k) s = penC s.p (lowO (ndN l k).st.clear s.f).n := fun w => if_pos w
      have hclf : ¬ (lowO (ndN l k).st.clear s.f).is = true → clrG (ndN l k) s = s.p := fun w => if_neg w
      have hlo : (lowO (ndN l k).st.clear s.f).is = true → 0 ≤ (lowO (ndN l k).st.clear s.f).n ∧ (lowO (ndN l k).st.clear s.f).n ≤ B := fun w => by
        obtain ⟨f, hf, e⟩ := most_at w
        have e : (lowO (ndN l k).st.clear s.f).n = f.y + f.h := e
        have h4 := (hs.fs f hf).y
        have h5 := (hs.fs f hf).h
        omega
      refine swp_seqS ?_
      (refine swp_seqW ?_; simp only [go_sem, Bool.not_eq_true', Bool.not_eq_false'])
      (refine swp_condW ?_; simp only [go_sem, Bool.not_eq_true', Bool.not_eq_false'])
      refine ⟨fun _ => ?_, fun w => absurd q w⟩
      (refine swp_seqW ?_; simp only [go_sem, Bool.not_eq_true', Bool.not_eq_false'])
      have hlc : FnOk Tryz.prog 67 [.sl 7 (s.f.map cFl), .raw (.int .i64 (ndN l k).st.clear)] [] (aIs (lowO (ndN l k).st.clear s.f)) [] := rlow_ok s.f (ndN l k).st.clear (by omega) hne
      (refine acall2 [805 ] ( hlc) (by simp only [go_sem, Bool.not_eq_true', Bool.not_eq_false']; rfl) (fit_of (by simp only [go_sem, Bool.not_eq_true', Bool.not_eq_false']) (by simp only [go_sem, Bool.not_eq_true', Bool.not_eq_false']) (by simp only [go_sem, Bool.not_eq_true', Bool.not_eq_false']) (by simp only [go_sem, Bool.not_eq_true', Bool.not_eq_false']) (by simp only [go_sem, Bool.not_eq_true', Bool.not_eq_false']) (by simp only [go_sem, Bool.not_eq_true', Bool.not_eq_false']) (by simp only [go_sem, Bool.not_eq_true', Bool.not_eq_false'])) ?_; simp only [go_sem, Bool.not_eq_true', Bool.not_eq_false'])
      refine swp_cutS (fun _ : Unit => stR l w k (atP s.p) ⟨s.a, s.f, clrG (ndN l k) s⟩ [] []) (fun _ => True) 120 ?_ ?_
      · (refine swp_seqW ?_; simp only [go_sem, Bool.not_eq_true', Bool.not_eq_false'])
        (refine swp_condW ?_; simp only [go_sem, Bool.not_eq_true', Bool.not_eq_false'])
        refine ⟨fun hi => ?_, fun hi => ?_⟩
        · have hi : (lowO (ndN l k).st.clear s.f).is = true := hi
          rw [hclt hi]
          have := hlo hi
          have hy := hs.y
          have hm := hs.m
          have hb := hs.b
          (refine swp_lastW ?_; simp only [go_sem, Bool.not_eq_true', Bool.not_eq_false'])
          (refine acall2 [] (rpclear_ok s.p (lowO (ndN l k).st.clear s.f).n ⟨by omega, by omega, by omega, by omega⟩) (by simp only [go_sem, Bool.not_eq_true', Bool.not_eq_false']; rfl) (fit_of (by simp only [go_sem, Bool.not_eq_true', Bool.not_eq_false']) (by simp only [go_sem, Bool.not_eq_true', Bool.not_eq_false']) (by simp only [go_sem, Bool.not_eq_true', Bool.not_eq_false']) (by simp only [go_sem, Bool.not_eq_true', Bool.not_eq_false']) (by simp only [go_sem, Bool.not_eq_true', Bool.not_eq_false']) (by simp only [go_sem, Bool.not_eq_true', Bool.not_eq_false']) (by simp only [go_sem, Bool.not_eq_true', Bool.not_eq_false'])) ?_; simp only [go_sem, Bool.not_eq_true', Bool.not_eq_false'])
          (refine cut_end [] (()) (by simp only [go_sem, Bool.not_eq_true', Bool.not_eq_false']; rfl) ?_ ?_; (focus (simp only [go_sem, Bool.not_eq_true', Bool.not_eq_false']; done)))
          trivial
        · have hi : (lowO (ndN l k).st.clear s.f).is = false := hi
          rw [hclf (by rw [hi]; decide)]
          (refine swp_lastW ?_; simp only [go_sem, Bool.not_eq_true', Bool.not_eq_false'])
          (refine cut_end [] (()) (by simp only [go_sem, Bool.not_eq_true', Bool.not_eq_false']; rfl) ?_ ?_; (focus (simp only [go_sem, Bool.not_eq_true', Bool.not_eq_false']; done)))
          trivial
      rintro - -
      (refine swp_seqW ?_; simp only [go_sem, Bool.not_eq_true', Bool.not_eq_false'])
      (refine acall2 [] (rpenter_ok (clrG (ndN l k) s) (ndN l k).st.top (ndN l k).st.padTop ⟨by omega, by omega, by have := hb.top; omega, by have := hb.padTop; omega⟩) (by simp only [go_sem, Bool.not_eq_true', Bool.not_eq_false']; rfl) (fit_of (by simp only [go_sem, Bool.not_eq_true', Bool.not_eq_false']) (by simp only [go_sem, Bool.not_eq_true', Bool.not_eq_false']) (by simp only [go_sem, Bool.not_eq_true', Bool.not_eq_false']) (by simp only [go_sem, Bool.not_eq_true', Bool.not_eq_false']) (by simp only [go_sem, Bool.not_eq_true', Bool.not_eq_false']) (by simp only [go_sem, Bool.not_eq_true', Bool.not_eq_false']) (by simp only [go_sem, Bool.not_eq_true', Bool.not_eq_false'])) ?_; simp only [go_sem, Bool.not_eq_true', Bool.not_eq_false'])
      have eent : entG (ndN l k) s = ⟨s.a, s.f, penE (clrG (ndN l k) s) (ndN l k).st.top (ndN l k).st.padTop⟩ := rfl
      have ersz := isS_lam hP.v
      have hL1 := ersz.pos k hk
      have hL2 := ersz.fin k hk
      rw [← ndN_siz] at hL1 hL2
      have hmono := hs_mono hP.v (show k + (ndN l k).size.toNat ≤ l.length by omega) (Nat.le_refl _)
      have hmono0 := hs_mono hP.v (show k + 1 ≤ k + (ndN l k).size.toNat by omega) (by omega)
      have hhd := hb.head
      have hbo := hb.bottom
      have hpb := hb.padBottom
      unfold hall at hB
      refine swp_cutS (fun _ : Unit => stR l w k (atP s.p) (rowG l w g (k + 1) (k + (ndN l k).size) (entG (ndN l k) s)) [] []) (fun _ => True) 120 ?_ ?_
      · (refine swp_seqW ?_; simp only [go_sem, Bool.not_eq_true', Bool.not_eq_false'])
        refine ⟨by omega, ?_⟩
        refine swp_block ?_
        refine swp_loop2 [] (fun z : KY LGs => stR l w k (atP s.p) z.o [(15, .raw (.int .i64 z.k))] []) (fun z => k < z.k ∧ (z.k : Int) ≤ k + (ndN l k).size ∧ GsOk l (B + (ndN l k).st.top + (ndN l k).st.padTop + (hsN l z.k - hsN l (k + 1))) z.k z.o ∧ ∃ g', g' ≤ g ∧ nst l g' z.k (k + (ndN l k).size) ∧ rowG l w g' z.k (k + (ndN l k).size) z.o = rowG l w g (k + 1) (k + (ndN l k).size) (entG (ndN l k) s)) (fun z => l.length - z.k) 120 ⟨k + 1, entG (ndN l k) s⟩ (by simp only [go_sem, Bool.not_eq_true', Bool.not_eq_false']; rfl) (by simp only [go_sem, Bool.not_eq_true', Bool.not_eq_false', eent]) ?_ ?_
        · exact ⟨by simp only; omega, by simp only; omega, by have := hent.mono (B' := B + (ndN l k).st.top + (ndN l k).st.padTop + (hsN l (k + 1) - hsN l (k + 1))) (by omega); exact this, g, Nat.le_refl _, hn, rfl⟩
        rintro ⟨kk, z⟩ ⟨z1, z2, z3, g', z4, z5, z6⟩
        simp only at z1 z2 z3 z4 z5 z6
        (refine swp_seqW ?_; simp only [go_sem, Bool.not_eq_true', Bool.not_eq_false'])
        refine ⟨⟨by omega, by omega⟩, ?_⟩
        refine ⟨fun h5 => ?_, fun h5 => ?_⟩
        · obtain ⟨m, rfl⟩ : ∃ m, g' = m + 1 := by
            cases g' with
            | zero => exact absurd z5 (by simp [nst])
            | succ m => exact ⟨m, rfl⟩
          obtain ⟨u1, u2, u3, u4⟩ := z5.2 h5
          rw [← ndN_siz] at u1 u2 u3 u4
          have hkk : kk < l.length := by omega
          rw [rowG, if_pos h5] at z6
          have hm1 := hs_mono hP.v (show kk ≤ l.length by omega) (Nat.le_refl _)
          have hih := rone14_ok hP F m (by omega) kk z _ hkk u3 z3 (by unfold hall; omega)
          have hnx := nod_next hP hkk u3 z3
          generalize nodG l w (rowG l w m) kk z = z' at hih hnx z6
          have hsz := ndN_get hkk
          obtain ⟨sz, hsz2⟩ : ∃ sz : Nat, (ndN l kk).size = sz := ⟨(ndN l kk).size.toNat, by omega⟩
          rw [hsz2] at u1 u2 u3 u4 z6 hnx
          rw [Int.toNat_natCast] at u4 z6 hnx
          refine swp_seqS ?_
          refine swp_block ?_
          (refine swp_lastW ?_; simp only [go_sem, Bool.not_eq_true', Bool.not_eq_false'])
          (refine acall2 [] (hih) (by simp only [go_sem, Bool.not_eq_true', Bool.not_eq_false']; rfl) (fit_of (by simp only [go_sem, Bool.not_eq_true', Bool.not_eq_false']) (by simp only [go_sem, Bool.not_eq_true', Bool.not_eq_false']) (by simp only [go_sem, Bool.not_eq_true', Bool.not_eq_false']) (by simp only [go_sem, Bool.not_eq_true', Bool.not_eq_false']) (by simp only [go_sem, Bool.not_eq_true', Bool.not_eq_false']) (by simp only [go_sem, Bool.not_eq_true', Bool.not_eq_false']) (by simp only [go_sem, Bool.not_eq_true', Bool.not_eq_false'])) ?_; simp only [go_sem, Bool.not_eq_true', Bool.not_eq_false'])
          (refine swp_lastW ?_; simp only [go_sem, Bool.not_eq_true', Bool.not_eq_false'])
          refine ⟨by omega, ex_get hkk ?_⟩
          rw [← ndN_get hkk, hsz2]
          refine ⟨⟨by omega, by omega⟩, ?_⟩
          (refine loop_end [] (⟨kk + sz, z'⟩) (by simp only [go_sem, Bool.not_eq_true', Bool.not_eq_false']; rfl) ?_ ?_ ?_; (focus first | omega | (simp only; omega)); (focus (simp only [go_sem, Bool.not_eq_true', Bool.not_eq_false']; done)))
          exact ⟨by simp only; omega, by simp only; omega, hnx.mono (by show _ ≤ B + _ + _ + (hsN l (kk + sz) - hsN l (k + 1)); omega), m, by omega, u4, z6⟩
        · have e5 : rowG l w g' kk (k + (ndN l k).size) z = z := by
            cases g' with
            | zero => rfl
            | succ m => rw [rowG, if_neg h5]
          rw [← z6, e5]
          (refine cut_end [] (()) (by simp only [go_sem, Bool.not_eq_true', Bool.not_eq_false']; rfl) ?_ ?_; (focus (simp only [go_sem, Bool.not_eq_true', Bool.not_eq_false']; done)))
          trivial
      rintro - -
      have hrw := rowG_ok hP g (k + 1) (k + (ndN l k).size) _ _ hn (by omega) hent
      have e3 : ((k : Int) + (ndN l k).size).toNat = k + (ndN l k).size.toNat := by omega
      rw [e3] at hrw
      rw [hkd]
      have elv : lvG (ndN l k) (rowG l w g (k + 1) (k + (ndN l k).size) (entG (ndN l k) s)) = ⟨(rowG l w g (k + 1) (k + (ndN l k).size) (entG (ndN l k) s)).a, (rowG l w g (k + 1) (k + (ndN l k).size) (entG (ndN l k) s)).f, penL (rowG l w g (k + 1) (k + (ndN l k).size) (entG (ndN l k) s)).p (ndN l k).st.bottom (ndN l k).st.padBottom⟩ := rfl
      rw [elv]
      generalize rowG l w g (k + 1) (k + (ndN l k).size) (entG (ndN l k) s) = z at hrw ⊢
      have y1 := hrw.y
      have y2 := hrw.m
      have y3 := hrw.b
      (refine swp_lastW ?_; simp only [go_sem, Bool.not_eq_true', Bool.not_eq_false'])
      (refine acall2 [] (rpleave_ok z.p (ndN l k).st.bottom (ndN l k).st.padBottom ⟨by omega, by omega, by omega, by omega⟩) (by simp only [go_sem, Bool.not_eq_true', Bool.not_eq_false']; rfl) (fit_of (by simp only [go_sem, Bool.not_eq_true', Bool.not_eq_false']) (by simp only [go_sem, Bool.not_eq_true', Bool.not_eq_false']) (by simp only [go_sem, Bool.not_eq_true', Bool.not_eq_false']) (by simp only [go_sem, Bool.not_eq_true', Bool.not_eq_false']) (by simp only [go_sem, Bool.not_eq_true', Bool.not_eq_false']) (by simp only [go_sem, Bool.not_eq_true', Bool.not_eq_false']) (by simp only [go_sem, Bool.not_eq_true', Bool.not_eq_false'])) ?_; simp only [go_sem, Bool.not_eq_true', Bool.not_eq_false'])
      refine swp_seqS ?_
      (refine swp_seqW ?_; simp only [go_sem, Bool.not_eq_true', Bool.not_eq_false'])
      (refine swp_condW ?_; simp only [go_sem, Bool.not_eq_true', Bool.not_eq_false'])
      refine ⟨fun w => by omega, fun _ => ?_⟩
      (refine swp_lastW ?_; simp only [go_sem, Bool.not_eq_true', Bool.not_eq_false'])
      refine swp_seqS ?_
      (refine swp_seqW ?_; simp only [go_sem, Bool.not_eq_true', Bool.not_eq_false'])
      (refine swp_condW ?_; simp only [go_sem, Bool.not_eq_true', Bool.not_eq_false'])
      refine ⟨fun w => by omega, fun _ => ?_⟩
      (refine swp_lastW ?_; simp only [go_sem, Bool.not_eq_true', Bool.not_eq_false'])
      refine swp_seqS ?_
      (refine swp_seqW ?_; simp only [go_sem, Bool.not_eq_true', Bool.not_eq_false'])
      (refine swp_condW ?_; simp only [go_sem, Bool.not_eq_true', Bool.not_eq_false'])
      refine ⟨fun w => by omega, fun _ => ?_⟩
      (refine swp_lastW ?_; simp only [go_sem, Bool.not_eq_true', Bool.not_eq_false'])
      (refine swp_lastW ?_; simp only [go_sem, Bool.not_eq_true', Bool.not_eq_false'])
      (refine ret2 [] (by simp only [go_sem, Bool.not_eq_true', Bool.not_eq_false']; rfl) ?_; simp only [go_sem, Bool.not_eq_true', Bool.not_eq_false'])
    · rw [if_neg (by omega), if_pos q] at hkd
      have hb := nodB_txt hnb q
      have hln := hb.line
      have hwo := wor_ok hP hk rfl hb q
      have hh1 := hsN_succ hk
      have e1 : hgtN (ndN l k) = (ndN l k).line * (ndN l k).words.length := by unfold hgtN; rw [if_neg (by omega), if_pos q]
      have hmono := hs_mono hP.v (show k + 1 ≤ l.length by omega) (Nat.le_refl _)
      have hta := tex_all (ws := (ndN l k).words) (sp := (ndN l k).space) (s := spK l w k) hln.1 (fun g hg => (hs.fs g hg).y.2) (ndN l k).words.length 0 (atP s.p) B (Nat.zero_le _) hs.b (Int.le_refl _)
      have e0 : ((ndN l k).words.length : Int) - (0 : Nat) = (ndN l k).words.length := by omega
      rw [e0, ← e1] at hta
      unfold hall at hB
      have hal := hs.al
      have hps := ps_mono (l := l) (show k ≤ l.length by omega) (Nat.le_refl _)
      have hpa := hP.ps
      have hwl := hwo.len
      unfold pall at hpa
      have htl : (texF s.f (ndN l k).words (ndN l k).space (ndN l k).line (atP s.p) (spK l w k)).length ≤ (ndN l k).words.length := tex_len _ _ _
      have htx := rtext12_ok s.f (ndN l k).words (ndN l k).space (ndN l k).line (atP s.p) (spK l w k) (hs.lin hB1 (by omega) ⟨by omega, by omega⟩ hsp) hwo ⟨by omega, by omega⟩ ⟨by omega, by omega⟩
      have etx : txtG (spK l w k) k (ndN l k) s = (texF s.f (ndN l k).words (ndN l k).space (ndN l k).line (atP s.p) (spK l w k)).foldl (setG k (ndN l k).line) s := rfl
      rw [hkd, etx]
      have hta : ∀ z ∈ texF s.f (ndN l k).words (ndN l k).space (ndN l k).line (atP s.p) (spK l w k), atP s.p ≤ z.y ∧ z.y + (ndN l k).line ≤ B + hgtN (ndN l k) := hta
      generalize texF s.f (ndN l k).words (ndN l k).space (ndN l k).line (atP s.p) (spK l w k) = T at *
      refine swp_seqS ?_
      (refine swp_seqW ?_; simp only [go_sem, Bool.not_eq_true', Bool.not_eq_false'])
      (refine swp_condW ?_; simp only [go_sem, Bool.not_eq_true', Bool.not_eq_false'])
      refine ⟨fun w => by omega, fun _ => ?_⟩
      (refine swp_lastW ?_; simp only [go_sem, Bool.not_eq_true', Bool.not_eq_false'])
      refine swp_cutS (fun _ : Unit => stR l w k (atP s.p) (T.foldl (setG k (ndN l k).line) s) [] []) (fun _ => True) 120 ?_ ?_
      · (refine swp_seqW ?_; simp only [go_sem, Bool.not_eq_true', Bool.not_eq_false'])
        (refine swp_condW ?_; simp only [go_sem, Bool.not_eq_true', Bool.not_eq_false'])
        refine ⟨fun _ => ?_, fun w => absurd q w⟩
        (refine swp_seqW ?_; simp only [go_sem, Bool.not_eq_true', Bool.not_eq_false'])
        (refine acall2 [805 ] ( htx) (by simp only [go_sem, Bool.not_eq_true', Bool.not_eq_false']; rfl) (fit_of (by simp only [go_sem, Bool.not_eq_true', Bool.not_eq_false']) (by simp only [go_sem, Bool.not_eq_true', Bool.not_eq_false']) (by simp only [go_sem, Bool.not_eq_true', Bool.not_eq_false']) (by simp only [go_sem, Bool.not_eq_true', Bool.not_eq_false']) (by simp only [go_sem, Bool.not_eq_true', Bool.not_eq_false']) (by simp only [go_sem, Bool.not_eq_true', Bool.not_eq_false']) (by simp only [go_sem, Bool.not_eq_true', Bool.not_eq_false'])) ?_; simp only [go_sem, Bool.not_eq_true', Bool.not_eq_false'])
        (refine swp_seqW ?_; simp only [go_sem, Bool.not_eq_true', Bool.not_eq_false'])
        refine swp_block ?_
        refine swp_loop2 [] (fun i : Nat => stR l w k (atP s.p) ((T.take i).foldl (setG k (ndN l k).line) s) [(16, .hdr 808), (17, .raw (.int .i64 i))] [(808, some (.row 116 5 (T.map cSet)))]) (fun i => i ≤ T.length) (fun i => T.length - i) 120 0 (by simp only [go_sem, Bool.not_eq_true', Bool.not_eq_false']; rfl) (by simp only [go_sem, Bool.not_eq_true', Bool.not_eq_false', List.take_zero, List.foldl_nil]) ?_ ?_
        · exact Nat.zero_le _
        intro i hi
        have hfo := setG_fold k (ndN l k).line (T.take i) s
        (refine swp_seqW ?_; simp only [go_sem, Bool.not_eq_true', Bool.not_eq_false', List.length_map])
        refine ⟨fun h5 => ?_, fun h5 => ?_⟩
        · have hit : i < T.length := by omega
          have hst := take_setG (k := k) (H := (ndN l k).line) (s := s) hit
          have hti := hta T[i] (List.getElem_mem hit)
          generalize hZ : T[i] = z at hst hti
          have hal2 : ((T.take i).foldl (setG k (ndN l k).line) s).a.length ≤ 4000 := by rw [hfo.1, List.length_append, List.length_map, List.length_take]; omega
          generalize (T.take i).foldl (setG k (ndN l k).line) s = s2 at hst hal2 ⊢
          have em : List.map cAt s2.a ++ [[PV.raw (.int .i64 1), PV.raw (.int .i64 k), PV.raw (.int .i64 z.f), PV.raw (.int .i64 z.t), PV.raw (.int .i64 z.x), PV.raw (.int .i64 z.y), PV.raw (.int .i64 z.w), PV.raw (.int .i64 (ndN l k).line)]] = List.map cAt (s2.a ++ [atL k (ndN l k).line z]) := by simp [cAt, atL]
          refine swp_seqS ?_
          refine swp_block ?_
          (refine swp_seqW ?_; simp only [go_sem, Bool.not_eq_true', Bool.not_eq_false', List.length_map])
          refine ⟨by omega, ex_get hit ?_⟩
          rw [hZ]
          (refine swp_seqW ?_; simp only [go_sem, Bool.not_eq_true', Bool.not_eq_false', List.length_map])
          refine ⟨⟨by omega, by omega⟩, ?_⟩
          rw [em]
          have hst : List.foldl (setG k (ndN l k).line) s (List.take (i + 1) T) = ⟨s2.a ++ [atL k (ndN l k).line z], s2.f, ⟨z.y + (ndN l k).line, 0⟩⟩ := hst
          (refine swp_lastW ?_; simp only [go_sem, Bool.not_eq_true', Bool.not_eq_false'])
          refine ⟨⟨by omega, by omega⟩, ?_⟩
          (refine swp_lastW ?_; simp only [go_sem, Bool.not_eq_true', Bool.not_eq_false'])
          refine ⟨by omega, ?_⟩
          (refine loop_end [] (i + 1) (by simp only [go_sem, Bool.not_eq_true', Bool.not_eq_false']; rfl) ?_ ?_ ?_; (focus first | omega | (simp only; omega)); (focus (simp only [go_sem, Bool.not_eq_true', Bool.not_eq_false', hst]; done)))
          omega
        · obtain rfl : i = T.length := by omega
          rw [List.take_length]
          (refine cut_end [] (()) (by simp only [go_sem, Bool.not_eq_true', Bool.not_eq_false']; rfl) ?_ ?_; (focus (simp only [go_sem, Bool.not_eq_true', Bool.not_eq_false']; done)))
          trivial
      rintro - -
      refine swp_seqS ?_
      (refine swp_seqW ?_; simp only [go_sem, Bool.not_eq_true', Bool.not_eq_false'])
      (refine swp_condW ?_; simp only [go_sem, Bool.not_eq_true', Bool.not_eq_false'])
      refine ⟨fun w => by omega, fun _ => ?_⟩
      (refine swp_lastW ?_; simp only [go_sem, Bool.not_eq_true', Bool.not_eq_false'])
      refine swp_seqS ?_
      (refine swp_seqW ?_; simp only [go_sem, Bool.not_eq_true', Bool.not_eq_false'])
      (refine swp_condW ?_; simp only [go_sem, Bool.not_eq_true', Bool.not_eq_false'])
      refine ⟨fun w => by omega, fun _ => ?_⟩
      (refine swp_lastW ?_; simp only [go_sem, Bool.not_eq_true', Bool.not_eq_false'])
      (refine swp_lastW ?_; simp only [go_sem, Bool.not_eq_true', Bool.not_eq_false'])
      (refine ret2 [] (by simp only [go_sem, Bool.not_eq_true', Bool.not_eq_false']; rfl) ?_; simp only [go_sem, Bool.not_eq_true', Bool.not_eq_false'])
    · rw [if_neg (by omega), if_neg (by omega), if_pos q] at hkd
      have hb := nodB_mono hnb q
      have hxh := hb.h
      have hh1 := hsN_succ hk
      have e1 : hgtN (ndN l k) = (ndN l k).h := by unfold hgtN; rw [if_neg (by omega), if_neg (by omega)]
      have hmono := hs_mono hP.v (show k + 1 ≤ l.length by omega) (Nat.le_refl _)
      unfold hall at hB
      have hal := hs.al
      have hps := ps_mono (l := l) (show k ≤ l.length by omega) (Nat.le_refl _)
      have hpa := hP.ps
      unfold pall at hpa
      have hro := rroom12_ok s.f (ndN l k).w (ndN l k).h (spK l w k) (hs.lin hB1 (by omega) ⟨by omega, by omega⟩ hsp) (cntP s.f (atP s.p) + 1) (atP s.p) (Nat.lt_succ_self _) ⟨by omega, by omega⟩
      have hy1 := rom_ge s.f (ndN l k).w (ndN l k).h (atP s.p) (spK l w k)
      have hy2 := rom_le (w := (ndN l k).w) (H := (ndN l k).h) (s := spK l w k) (y := atP s.p) hs.b (fun g hg => (hs.fs g hg).y.2)
      have emo : monG (spK l w k) k (ndN l k) s = ⟨s.a ++ [⟨2, k, 0, 0, (bandF s.f (romY s.f (ndN l k).w (ndN l k).h (atP s.p) (spK l w k)) (ndN l k).h (spK l w k)).a, romY s.f (ndN l k).w (ndN l k).h (atP s.p) (spK l w k), (ndN l k).w, (ndN l k).h⟩], s.f, ⟨romY s.f (ndN l k).w (ndN l k).h (atP s.p) (spK l w k) + (ndN l k).h, 0⟩⟩ := rfl
      rw [hkd, emo]
      unfold aRoo at hro
      generalize romY s.f (ndN l k).w (ndN l k).h (atP s.p) (spK l w k) = Y at *
      generalize bandF s.f Y (ndN l k).h (spK l w k) = bd at *
      have em : List.map cAt s.a ++ [[PV.raw (.int .i64 2), PV.raw (.int .i64 k), PV.raw (.int .i64 0), PV.raw (.int .i64 0), PV.raw (.int .i64 bd.a), PV.raw (.int .i64 Y), PV.raw (.int .i64 (ndN l k).w), PV.raw (.int .i64 (ndN l k).h)]] = List.map cAt (s.a ++ [⟨2, k, 0, 0, bd.a, Y, (ndN l k).w, (ndN l k).h⟩]) := by simp [cAt]
      refine swp_seqS ?_
      (refine swp_seqW ?_; simp only [go_sem, Bool.not_eq_true', Bool.not_eq_false'])
      (refine swp_condW ?_; simp only [go_sem, Bool.not_eq_true', Bool.not_eq_false'])
      refine ⟨fun w => by omega, fun _ => ?_⟩
      (refine swp_lastW ?_; simp only [go_sem, Bool.not_eq_true', Bool.not_eq_false'])
      refine swp_seqS ?_
      (refine swp_seqW ?_; simp only [go_sem, Bool.not_eq_true', Bool.not_eq_false'])
      (refine swp_condW ?_; simp only [go_sem, Bool.not_eq_true', Bool.not_eq_false'])
      refine ⟨fun w => by omega, fun _ => ?_⟩
      (refine swp_lastW ?_; simp only [go_sem, Bool.not_eq_true', Bool.not_eq_false'])
      refine swp_seqS ?_
      (refine swp_seqW ?_; simp only [go_sem, Bool.not_eq_true', Bool.not_eq_false'])
      (refine swp_condW ?_; simp only [go_sem, Bool.not_eq_true', Bool.not_eq_false'])
      refine ⟨fun _ => ?_, fun w => absurd q w⟩
      (refine swp_seqW ?_; simp only [go_sem, Bool.not_eq_true', Bool.not_eq_false'])
      (refine acall2 [805 ] ( hro) (by simp only [go_sem, Bool.not_eq_true', Bool.not_eq_false']; rfl) (fit_of (by simp only [go_sem, Bool.not_eq_true', Bool.not_eq_false']) (by simp only [go_sem, Bool.not_eq_true', Bool.not_eq_false']) (by simp only [go_sem, Bool.not_eq_true', Bool.not_eq_false']) (by simp only [go_sem, Bool.not_eq_true', Bool.not_eq_false']) (by simp only [go_sem, Bool.not_eq_true', Bool.not_eq_false']) (by simp only [go_sem, Bool.not_eq_true', Bool.not_eq_false']) (by simp only [go_sem, Bool.not_eq_true', Bool.not_eq_false'])) ?_; simp only [go_sem, Bool.not_eq_true', Bool.not_eq_false'])
      (refine swp_seqW ?_; simp only [go_sem, Bool.not_eq_true', Bool.not_eq_false', List.length_map])
      refine ⟨⟨by omega, by omega⟩, ?_⟩
      rw [em]
      (refine swp_lastW ?_; simp only [go_sem, Bool.not_eq_true', Bool.not_eq_false'])
      refine ⟨⟨by omega, by omega⟩, ?_⟩
      refine swp_seqS ?_
      (refine swp_seqW ?_; simp only [go_sem, Bool.not_eq_true', Bool.not_eq_false'])
      (refine swp_condW ?_; simp only [go_sem, Bool.not_eq_true', Bool.not_eq_false'])
      refine ⟨fun w => by omega, fun _ => ?_⟩
      (refine swp_lastW ?_; simp only [go_sem, Bool.not_eq_true', Bool.not_eq_false'])
      (refine swp_lastW ?_; simp only [go_sem, Bool.not_eq_true', Bool.not_eq_false'])
      (refine ret2 [] (by simp only [go_sem, Bool.not_eq_true', Bool.not_eq_false']; rfl) ?_; simp only [go_sem, Bool.not_eq_true', Bool.not_eq_false'])
    · rw [if_neg (by omega), if_neg (by omega), if_neg (by omega)] at hkd
      obtain ⟨hb, hsd⟩ := nodB_flt hnb q
      have hal := hs.al
      have hps := ps_mono (l := l) (show k ≤ l.length by omega) (Nat.le_refl _)
      have hpa := hP.ps
      unfold pall at hpa
      have hpu := rput11_ok s.f (newF k (ndN l k) s) (atP s.p) (spK l w k) (hs.pla hB1 (by omega) hb hsp)
      have efl : fltG (spK l w k) k (ndN l k) s = ⟨s.a, putP s.f (newF k (ndN l k) s) (atP s.p) (spK l w k), s.p⟩ := rfl
      rw [hkd, efl]
      generalize putP s.f (newF k (ndN l k) s) (atP s.p) (spK l w k) = f2 at hpu ⊢
      have enf : newF k (ndN l k) s = ⟨k, (ndN l k).side, s.a.length, 0, 0, (ndN l k).w, (ndN l k).h⟩ := rfl
      rw [enf] at hpu
      refine swp_seqS ?_
      (refine swp_seqW ?_; simp only [go_sem, Bool.not_eq_true', Bool.not_eq_false'])
      (refine swp_condW ?_; simp only [go_sem, Bool.not_eq_true', Bool.not_eq_false'])
      refine ⟨fun w => by omega, fun _ => ?_⟩
      (refine swp_lastW ?_; simp only [go_sem, Bool.not_eq_true', Bool.not_eq_false'])
      refine swp_seqS ?_
      (refine swp_seqW ?_; simp only [go_sem, Bool.not_eq_true', Bool.not_eq_false'])
      (refine swp_condW ?_; simp only [go_sem, Bool.not_eq_true', Bool.not_eq_false'])
      refine ⟨fun w => by omega, fun _ => ?_⟩
      (refine swp_lastW ?_; simp only [go_sem, Bool.not_eq_true', Bool.not_eq_false'])
      refine swp_seqS ?_
      (refine swp_seqW ?_; simp only [go_sem, Bool.not_eq_true', Bool.not_eq_false'])
      (refine swp_condW ?_; simp only [go_sem, Bool.not_eq_true', Bool.not_eq_false'])
      refine ⟨fun w => by omega, fun _ => ?_⟩
      (refine swp_lastW ?_; simp only [go_sem, Bool.not_eq_true', Bool.not_eq_false'])
      refine swp_seqS ?_
      (refine swp_seqW ?_; simp only [go_sem, Bool.not_eq_true', Bool.not_eq_false'])
      (refine swp_condW ?_; simp only [go_sem, Bool.not_eq_true', Bool.not_eq_false'])
      refine ⟨fun _ => ?_, fun w => absurd q w⟩
      (refine swp_seqW ?_; simp only [go_sem, Bool.not_eq_true', Bool.not_eq_false', List.length_map])
      (refine swp_lastW ?_; simp only [go_sem, Bool.not_eq_true', Bool.not_eq_false'])
      (refine acall2 [805 ] ( hpu) (by simp only [go_sem, Bool.not_eq_true', Bool.not_eq_false']; rfl) (fit_of (by simp only [go_sem, Bool.not_eq_true', Bool.not_eq_false']) (by simp only [go_sem, Bool.not_eq_true', Bool.not_eq_false']) (by simp only [go_sem, Bool.not_eq_true', Bool.not_eq_false']) (by simp only [go_sem, Bool.not_eq_true', Bool.not_eq_false']) (by simp only [go_sem, Bool.not_eq_true', Bool.not_eq_false']) (by simp only [go_sem, Bool.not_eq_true', Bool.not_eq_false']) (by simp only [go_sem, Bool.not_eq_true', Bool.not_eq_false'])) ?_; simp only [go_sem, Bool.not_eq_true', Bool.not_eq_false'])
      (refine swp_lastW ?_; simp only [go_sem, Bool.not_eq_true', Bool.not_eq_false'])
      (refine ret2 [] (by simp only [go_sem, Bool.not_eq_true', Bool.not_eq_false']; rfl) ?_; simp only [go_sem, Bool.not_eq_true', Bool.not_eq_false'])
end Go.Proofs.YtblmebjhhanoaaaGreat
/- CHAPTER 14: the document's answer: the galley. -/
/- G -/
/- BOOLS -/
set_option linter.unusedSimpArgs false
set_option linter.unusedVariables false
namespace Go.Proofs.YtblmebjhhanoaaaGreat
open Go.RowKit

structure LGal where
  a : List LAt
  f : List LFl
  h : Int
def endF (n : Nat) (f : LFl) : LFl := ⟨f.node, f.side, if (n : Int) ≤ f.anchor then max ((n : Int) - 1) 0 else f.anchor, f.x, f.y, f.w, f.h⟩
def hgtS (b : Int) (fs : List LFl) : Int := fs.foldl (fun h f => max h (f.y + f.h)) b
def endG (s : LGs) : LGal := ⟨s.a, s.f.map (endF s.a.length), hgtS (atP s.p) s.f⟩
def allS (l : List LNo) (w : Int) : LGs := rowG l w (l.length + 1) 0 l.length ⟨[], [], ⟨0, 0⟩⟩
def errG (l : List LNo) (w : Int) : Int := if 1 ≤ w ∧ w ≤ 1099511627776 then chkN l else 4
def resG (l : List LNo) (w : Int) : LGal := if errG l w = 0 then endG (allS l w) else ⟨[], [], 0⟩
def aGal (g : LGal) (i j : Nat) : AV := .agg [.hdr i, .hdr j, .raw (.int .i64 g.h)]
attribute [go_sem] aGal
theorem errG_ok {l : List LNo} {w : Int} (hl : l.length ≤ 60) (h : errG l w = 0) : FlwP l w := by
  unfold errG at h
  split at h
  · next q =>
    unfold chkN at h
    split at h
    · cases h
    · next hv =>
      split at h
      · cases h
      · next hc => exact ⟨by simpa using hv, hl, by omega, by omega, q⟩
  · cases h
theorem gs_zero (l : List LNo) : GsOk l 0 0 ⟨[], [], ⟨0, 0⟩⟩ := ⟨Int.le_refl _, Int.le_refl _, Int.le_refl _, Nat.le_refl _, Int.le_refl _, fun f hf => by cases hf⟩
theorem allS_ok {l : List LNo} {w : Int} (hP : FlwP l w) : GsOk l (hall l) l.length (allS l w) := by
  have := rowG_ok hP (l.length + 1) 0 l.length 0 ⟨[], [], ⟨0, 0⟩⟩ (isS_nst hP.v) (Int.le_refl _) (gs_zero l)
  rw [Int.toNat_natCast, hsN_zero] at this
  exact this.mono (by unfold hall; omega)
def flE (n : Nat) (fs : List LFl) (i : Nat) : List LFl := (fs.take i).map (endF n) ++ fs.drop i
theorem flE_len {n : Nat} {fs : List LFl} {i : Nat} : (flE n fs i).length = fs.length := by
  unfold flE
  simp
  omega
theorem flE_get {n : Nat} {fs : List LFl} {i : Nat} (hi : i < fs.length) : (flE n fs i)[i]? = some fs[i] := by
  unfold flE
  rw [List.getElem?_append_right (by simp; omega), List.length_map, List.length_take, List.getElem?_drop]
  have : i + (i - min i fs.length) = i := by omega
  rw [this, List.getElem?_eq_getElem hi]
theorem flE_set {n : Nat} {fs : List LFl} {i : Nat} (hi : i < fs.length) : (flE n fs i).set i (endF n fs[i]) = flE n fs (i + 1) := by
  unfold flE
  rw [List.drop_eq_getElem_cons hi, List.take_succ_eq_append_getElem hi, List.set_append_right _ _ (by simp; omega)]
  have : i - (List.map (endF n) (List.take i fs)).length = 0 := by simp; omega
  rw [this, List.set_cons_zero, List.map_append, List.append_assoc]
  rfl
theorem hgtS_bd {B : Int} : ∀ (fs : List LFl) (b : Int), 0 ≤ b ∧ b ≤ B → (∀ f ∈ fs, 0 ≤ f.y + f.h ∧ f.y + f.h ≤ B) → 0 ≤ hgtS b fs ∧ hgtS b fs ≤ B
  | [], b, h, _ => h
  | f :: fs, b, h, hf => by
    have := hf f List.mem_cons_self
    exact hgtS_bd fs (max b (f.y + f.h)) (by omega) fun g hg => hf g (List.mem_cons_of_mem _ hg)
theorem hgtS_step {b : Int} {fs : List LFl} {i : Nat} (hi : i < fs.length) : hgtS b (fs.take (i + 1)) = max (hgtS b (fs.take i)) (fs[i].y + fs[i].h) := by
  unfold hgtS
  rw [List.take_succ_eq_append_getElem hi, List.foldl_append]
  rfl
theorem flE_zero (n : Nat) (fs : List LFl) : flE n fs 0 = fs := rfl
theorem hgtS_zero (p : LPen) : hgtS (p.y + p.m) [] = p.y + p.m := rfl
theorem flE_all (n : Nat) (fs : List LFl) : flE n fs fs.length = fs.map (endF n) := by
  unfold flE
  rw [List.take_length, List.drop_length, List.append_nil]
abbrev stH (h : Int) (p : LPen) (i j : Nat) : AO := .cells 70 [.hdr i, .hdr j, .raw (.int .i64 h), .raw (.int .i64 p.y), .raw (.int .i64 p.m)]
set_option maxRecDepth 100000 in
set_option maxHeartbeats 8000000 in
theorem rof14_ok (l : List LNo) (w : Int) (hl : l.length ≤ 60) (hw : ∀ x ∈ l, x.words.length ≤ 9223372036854775807) (hp : pall l ≤ 9223372036854775807) :
    FnOk Tryz.prog 9 [.sl 20 (l.map cNo), .raw (.int .i64 w)] [] (.tup [aGal (resG l w) 8 9, .raw (.int .i64 (errG l w))]) [(8, .row 47 8 ((resG l w).a.map cAt)), (9, .row 62 7 ((resG l w).f.map cFl))] := by
  refine fn_of_swp Tryz.func9 rfl (by kernel_rfl) (by kernel_rfl) (Nat.le_of_ble_eq_true rfl) Tryz.results9 ?_
  (refine swp_seqW ?_; simp only [go_sem, Bool.not_eq_true', Bool.not_eq_false'])
  (refine swp_seqW ?_; simp only [go_sem, Bool.not_eq_true', Bool.not_eq_false'])
  by_cases hw1 : 1 ≤ w ∧ w ≤ 1099511627776
  rotate_left
  · have e1 : errG l w = 4 := if_neg hw1
    have e2 : resG l w = ⟨[], [], 0⟩ := by unfold resG; rw [e1]; rfl
    rw [e1, e2]
    repeat' first | contradiction | intro _ | refine And.intro ?_ ?_ | refine ex_get (by omega) ?_ | (show drawB _ _ = true; kernel_rfl) | (refine ret2 [] (by simp only [go_sem, Bool.not_eq_true', Bool.not_eq_false', List.map_nil]; rfl) ?_; simp only [go_sem, Bool.not_eq_true', Bool.not_eq_false', List.map_nil])
    all_goals first
      | omega
      | skip
  have e1 : errG l w = chkN l := if_pos hw1
  refine ⟨fun _ => ⟨fun q => by omega, fun _ => ?_⟩, fun q => by omega⟩
  (refine swp_seqW ?_; simp only [go_sem, Bool.not_eq_true', Bool.not_eq_false'])
  (refine acall2 [] (rcheck6_ok l (by omega) hw hp) (by simp only [go_sem, Bool.not_eq_true', Bool.not_eq_false']; rfl) (fit_of (by simp only [go_sem, Bool.not_eq_true', Bool.not_eq_false']) (by simp only [go_sem, Bool.not_eq_true', Bool.not_eq_false']) (by simp only [go_sem, Bool.not_eq_true', Bool.not_eq_false']) (by simp only [go_sem, Bool.not_eq_true', Bool.not_eq_false']) (by simp only [go_sem, Bool.not_eq_true', Bool.not_eq_false']) (by simp only [go_sem, Bool.not_eq_true', Bool.not_eq_false']) (by simp only [go_sem, Bool.not_eq_true', Bool.not_eq_false'])) ?_; simp only [go_sem, Bool.not_eq_true', Bool.not_eq_false'])
  rw [e1]
  refine ⟨fun hc => ?_, fun hc => ?_⟩
  · have e2 : resG l w = ⟨[], [], 0⟩ := by unfold resG; rw [e1, if_neg hc]
    rw [e2]
    (refine ret2 [] (by simp only [go_sem, Bool.not_eq_true', Bool.not_eq_false']; rfl) ?_; simp only [go_sem, Bool.not_eq_true', Bool.not_eq_false'])
  have hP := errG_ok hl (by rw [e1]; exact hc)
  have e2 : resG l w = endG (allS l w) := by unfold resG; rw [e1, if_pos hc]
  rw [e2, hc]
  have hA := allS_ok hP
  have hH := hP.hi
  have hpp := hP.ps
  unfold pall at hpp
  (refine swp_seqW ?_; simp only [go_sem, Bool.not_eq_true', Bool.not_eq_false'])
  refine swp_cutS (fun _ : Unit => ⟨[(4, .hdr 800), (5, .raw (.int .i64 0)), (7, .hdr 803)], [(800, some (.cells 28 [.hdr 801, .hdr 802, .raw (.int .i64 0)])), (803, some (stH 0 (allS l w).p 804 805)), (804, some (rowA (allS l w))), (805, some (rowF (allS l w)))], none⟩) (fun _ => True) 120 ?_ ?_
  · (refine swp_seqW ?_; simp only [go_sem, Bool.not_eq_true', Bool.not_eq_false'])
    refine swp_block ?_
    refine swp_loop2 [] (fun z : KY LGs => ⟨[(0, .sl 20 (l.map cNo)), (1, .raw (.int .i64 w)), (4, .hdr 800), (5, .raw (.int .i64 0)), (7, .hdr 803), (8, .raw (.int .i64 z.k))], [(800, some (.cells 28 [.hdr 801, .hdr 802, .raw (.int .i64 0)])), (803, some (stH 0 z.o.p 804 805)), (804, some (rowA z.o)), (805, some (rowF z.o))], none⟩) (fun z => (z.k : Int) ≤ l.length ∧ GsOk l (hsN l z.k) z.k z.o ∧ ∃ g', nst l g' z.k l.length ∧ rowG l w g' z.k l.length z.o = allS l w) (fun z => l.length - z.k) 120 ⟨0, ⟨[], [], ⟨0, 0⟩⟩⟩ (by simp only [go_sem, Bool.not_eq_true', Bool.not_eq_false']; rfl) (by simp only [go_sem, Bool.not_eq_true', Bool.not_eq_false', List.map_nil]) ?_ ?_
    · exact ⟨by simp only; omega, gs_zero l, l.length + 1, isS_nst hP.v, rfl⟩
    rintro ⟨kk, z⟩ ⟨z2, z3, g', z5, z6⟩
    simp only at z2 z3 z5 z6
    (refine swp_seqW ?_; simp only [go_sem, Bool.not_eq_true', Bool.not_eq_false', List.length_map])
    refine ⟨fun h5 => ?_, fun h5 => ?_⟩
    · obtain ⟨m, rfl⟩ : ∃ m, g' = m + 1 := by
        cases g' with
        | zero => exact absurd z5 (by simp [nst])
        | succ m => exact ⟨m, rfl⟩
      obtain ⟨u1, u2, u3, u4⟩ := z5.2 h5
      rw [← ndN_siz] at u1 u2 u3 u4
      have hkk : kk < l.length := by omega
      rw [rowG, if_pos h5] at z6
      have hm1 := hs_mono hP.v (show kk ≤ l.length by omega) (Nat.le_refl _)
      have hih := rone14_ok hP m m (Nat.le_refl _) kk z _ hkk u3 z3 (by omega)
      have hnx := nod_next hP hkk u3 z3
      generalize nodG l w (rowG l w m) kk z = z' at hih hnx z6
      obtain ⟨sz, hsz2⟩ : ∃ sz : Nat, (ndN l kk).size = sz := ⟨(ndN l kk).size.toNat, by omega⟩
      rw [hsz2] at u1 u2 u3 u4 z6 hnx
      rw [Int.toNat_natCast] at u4 z6 hnx
      refine swp_seqS ?_
      refine swp_block ?_
      (refine swp_lastW ?_; simp only [go_sem, Bool.not_eq_true', Bool.not_eq_false'])
      (refine acall2 [] (hih) (by simp only [go_sem, Bool.not_eq_true', Bool.not_eq_false']; rfl) (fit_of (by simp only [go_sem, Bool.not_eq_true', Bool.not_eq_false']) (by simp only [go_sem, Bool.not_eq_true', Bool.not_eq_false']) (by simp only [go_sem, Bool.not_eq_true', Bool.not_eq_false']) (by simp only [go_sem, Bool.not_eq_true', Bool.not_eq_false']) (by simp only [go_sem, Bool.not_eq_true', Bool.not_eq_false']) (by simp only [go_sem, Bool.not_eq_true', Bool.not_eq_false']) (by simp only [go_sem, Bool.not_eq_true', Bool.not_eq_false'])) ?_; simp only [go_sem, Bool.not_eq_true', Bool.not_eq_false'])
      (refine swp_lastW ?_; simp only [go_sem, Bool.not_eq_true', Bool.not_eq_false'])
      refine ⟨by omega, ex_get hkk ?_⟩
      rw [← ndN_get hkk, hsz2]
      refine ⟨⟨by omega, by omega⟩, ?_⟩
      (refine loop_end [] (⟨kk + sz, z'⟩) (by simp only [go_sem, Bool.not_eq_true', Bool.not_eq_false']; rfl) ?_ ?_ ?_; (focus first | omega | (simp only; omega)); (focus (simp only [go_sem, Bool.not_eq_true', Bool.not_eq_false']; done)))
      exact ⟨by simp only; omega, hnx.mono (by show _ ≤ hsN l (kk + sz); omega), m, u4, z6⟩
    · have e5 : rowG l w g' kk l.length z = z := by
        cases g' with
        | zero => rfl
        | succ m => rw [rowG, if_neg h5]
      rw [← z6, e5]
      (refine cut_end [] (()) (by simp only [go_sem, Bool.not_eq_true', Bool.not_eq_false']; rfl) ?_ ?_; (focus (simp only [go_sem, Bool.not_eq_true', Bool.not_eq_false']; done)))
      trivial
  rintro - -
  have hy := hA.y
  have hm := hA.m
  have hb := hA.b
  have hfl := hA.fl
  have hal := hA.al
  have hfs := hA.fs
  unfold endG
  generalize allS l w = s at *
  (refine swp_seqW ?_; simp only [go_sem, Bool.not_eq_true', Bool.not_eq_false'])
  refine ⟨by unfold hall at *; omega, ?_⟩
  unfold atP
  have hfs2 : ∀ f ∈ s.f, 0 ≤ f.y + f.h ∧ f.y + f.h ≤ 1099511627776 := fun f hf => by
    have h1 := (hfs f hf).y
    have h2 := (hfs f hf).h
    omega
  clear hfs
  refine swp_cutS (fun _ : Unit => ⟨[(4, .hdr 800), (5, .raw (.int .i64 0)), (7, .hdr 803)], [(800, some (.cells 28 [.hdr 801, .hdr 802, .raw (.int .i64 0)])), (803, some (stH (hgtS (s.p.y + s.p.m) s.f) s.p 804 805)), (804, some (rowA s)), (805, some (.row 62 7 ((s.f.map (endF s.a.length)).map cFl)))], none⟩) (fun _ => True) 120 ?_ ?_
  · (refine swp_seqW ?_; simp only [go_sem, Bool.not_eq_true', Bool.not_eq_false'])
    refine swp_block ?_
    refine swp_loop2 [] (fun i : Nat => ⟨[(4, .hdr 800), (5, .raw (.int .i64 0)), (7, .hdr 803), (9, .raw (.int .i64 i))], [(800, some (.cells 28 [.hdr 801, .hdr 802, .raw (.int .i64 0)])), (803, some (stH (hgtS (s.p.y + s.p.m) (s.f.take i)) s.p 804 805)), (804, some (rowA s)), (805, some (.row 62 7 ((flE s.a.length s.f i).map cFl)))], none⟩) (fun i => i ≤ s.f.length) (fun i => s.f.length - i) 120 0 (by simp only [go_sem, Bool.not_eq_true', Bool.not_eq_false']; rfl) (by simp only [go_sem, Bool.not_eq_true', Bool.not_eq_false', List.take_zero, flE_zero, hgtS_zero]) ?_ ?_
    · exact Nat.zero_le _
    intro i hi
    have hln := @flE_len s.a.length s.f i
    (refine swp_seqW ?_; simp only [go_sem, Bool.not_eq_true', Bool.not_eq_false', List.length_map])
    refine ⟨fun h5 => ?_, fun h5 => ?_⟩
    · have hii : i < s.f.length := by omega
      have hg := flE_get (n := s.a.length) hii
      have hst := flE_set (n := s.a.length) hii
      have hh := hgtS_step (b := s.p.y + s.p.m) hii
      have hb2 := hgtS_bd (B := 1099511627776) (s.f.take i) (s.p.y + s.p.m) ⟨by omega, by unfold hall at *; omega⟩ (fun f hf => hfs2 f (List.mem_of_mem_take hf))
      have hfi := hfs2 _ (List.getElem_mem hii)
      generalize hE : flE s.a.length s.f i = E at *
      have eS : ∀ f', endF s.a.length s.f[i] = f' → (E.map cFl).set i (cFl f') = (flE s.a.length s.f (i + 1)).map cFl := fun f' e => by rw [← e, ← hst, List.map_set]
      generalize s.f[i] = f at *
      refine swp_seqS ?_
      refine swp_block ?_
      (refine swp_seqW ?_; simp only [go_sem, Bool.not_eq_true', Bool.not_eq_false', List.length_map])
      refine ⟨by omega, f, hg, ?_⟩
      (refine swp_seqW ?_; simp only [go_sem, Bool.not_eq_true', Bool.not_eq_false', List.length_map])
      refine ⟨⟨by omega, by omega⟩, ?_⟩
      rw [← hh]
      (refine swp_seqW ?_; simp only [go_sem, Bool.not_eq_true', Bool.not_eq_false', List.length_map])
      (refine swp_condW ?_; simp only [go_sem, Bool.not_eq_true', Bool.not_eq_false'])
      refine ⟨fun hq => ?_, fun hq => ?_⟩
      · have ef : endF s.a.length f = ⟨f.node, f.side, max ((s.a.length : Int) - 1) 0, f.x, f.y, f.w, f.h⟩ := by unfold endF; rw [if_pos hq]
        have e := eS _ ef
        simp only [cFl] at e
        (refine swp_lastW ?_; simp only [go_sem, Bool.not_eq_true', Bool.not_eq_false', List.length_map])
        refine ⟨⟨by omega, by omega⟩, ⟨by omega, by omega⟩, f, hg, ?_⟩
        (refine swp_lastW ?_; simp only [go_sem, Bool.not_eq_true', Bool.not_eq_false'])
        refine ⟨by omega, ?_⟩
        (refine loop_end [] (i + 1) (by simp only [go_sem, Bool.not_eq_true', Bool.not_eq_false']; rfl) ?_ ?_ ?_; (focus first | omega | (simp only; omega)); (focus (simp only [go_sem, Bool.not_eq_true', Bool.not_eq_false', e]; done)))
        omega
      · have ef : endF s.a.length f = f := by unfold endF; rw [if_neg (by omega)]
        have e := eS _ ef
        have hsm : (E.map cFl).set i (cFl f) = E.map cFl := by
          obtain ⟨hlt, he⟩ := List.getElem?_eq_some_iff.1 hg
          rw [← List.map_set, ← he, List.set_getElem_self hlt]
        rw [hsm] at e
        (refine swp_lastW ?_; simp only [go_sem, Bool.not_eq_true', Bool.not_eq_false'])
        (refine swp_lastW ?_; simp only [go_sem, Bool.not_eq_true', Bool.not_eq_false'])
        refine ⟨by omega, ?_⟩
        (refine loop_end [] (i + 1) (by simp only [go_sem, Bool.not_eq_true', Bool.not_eq_false']; rfl) ?_ ?_ ?_; (focus first | omega | (simp only; omega)); (focus (simp only [go_sem, Bool.not_eq_true', Bool.not_eq_false', e]; done)))
        omega
    · obtain rfl : i = s.f.length := by omega
      rw [List.take_length, flE_all]
      (refine cut_end [] (()) (by simp only [go_sem, Bool.not_eq_true', Bool.not_eq_false']; rfl) ?_ ?_; (focus (simp only [go_sem, Bool.not_eq_true', Bool.not_eq_false']; done)))
      trivial
  rintro - -
  (refine swp_lastW ?_; simp only [go_sem, Bool.not_eq_true', Bool.not_eq_false'])
  (refine ret2 [] (by simp only [go_sem, Bool.not_eq_true', Bool.not_eq_false']; rfl) ?_; simp only [go_sem, Bool.not_eq_true', Bool.not_eq_false'])
end Go.Proofs.YtblmebjhhanoaaaGreat
/- CHAPTER 14: flow: what each node's step keeps, all keep; what stands where, node by node. -/
/- G -/
set_option linter.unusedSimpArgs false
set_option linter.unusedVariables false
namespace Go.Proofs.YtblmebjhhanoaaaGreat
open Go.RowKit

theorem isG_nodk : ∀ (l : List LNo) (i : Nat) (st : List Int), isG l i st = true → ∀ x ∈ l, nodB x = true ∧ ¬(x.kind ≠ 1 ∧ 1 < x.size)
  | [], _, _, _, x, hx => by cases hx
  | y :: l, i, st, h, x, hx => by
    rw [isG] at h
    simp only [Bool.and_eq_true, Bool.not_eq_true', Bool.and_eq_false_iff, decide_eq_true_eq, decide_eq_false_iff_not] at h
    obtain ⟨⟨⟨⟨u1, u2⟩, u3⟩, u4⟩, u5⟩ := h
    rcases List.mem_cons.1 hx with e | q
    · subst e
      exact ⟨u1, fun w => u4.elim (fun z => z w.1) (fun z => z w.2)⟩
    · exact isG_nodk l _ _ u5 x q
theorem leaf_siz {l : List LNo} (hv : isS l = true) {k : Nat} (hk : k < l.length) (q : (ndN l k).kind ≠ 1) : (ndN l k).size = 1 := by
  have h1 := (isG_nodk l 0 _ hv l[k] (List.getElem_mem hk)).2
  have h2 := isS_sizes hv l[k] (List.getElem_mem hk)
  rw [ndN_get hk] at q ⊢
  have : ¬ 1 < l[k].size := fun w => h1 ⟨q, w⟩
  omega
/-- a property that each node's step hands on. -/
structure StepP (l : List LNo) (w : Int) (P : Nat → LGs → Prop) : Prop where
  ent : ∀ k s B, k < l.length → (ndN l k).kind = 1 → GsOk l B k s → B ≤ 1099511627776 → P k s → P (k + 1) (entG (ndN l k) s)
  lv : ∀ k e s B, k < l.length → (ndN l k).kind = 1 → GsOk l B e s → B ≤ 1099511627776 → P e s → P e (lvG (ndN l k) s)
  txt : ∀ k s B, k < l.length → (ndN l k).kind = 2 → GsOk l B k s → B ≤ 1099511627776 → P k s → P (k + 1) (txtG (spK l w k) k (ndN l k) s)
  mon : ∀ k s B, k < l.length → (ndN l k).kind = 3 → GsOk l B k s → B ≤ 1099511627776 → P k s → P (k + 1) (monG (spK l w k) k (ndN l k) s)
  flt : ∀ k s B, k < l.length → (ndN l k).kind = 4 → GsOk l B k s → B ≤ 1099511627776 → P k s → P (k + 1) (fltG (spK l w k) k (ndN l k) s)
theorem row_ind {l : List LNo} {w : Int} (hP : FlwP l w) {P : Nat → LGs → Prop} (hS : StepP l w P) : ∀ (n k : Nat) (e B : Int) (s : LGs), nst l n k e → e ≤ l.length → GsOk l B k s → B + (hall l - hsN l k) ≤ 1099511627776 → P k s → P e.toNat (rowG l w n k e s)
  | 0, k, e, B, s, h, _, _, _, _ => absurd h (by simp [nst])
  | n + 1, k, e, B, s, h, he, hg, hB, hp => by
    obtain ⟨h1, h2⟩ := h
    rw [rowG]
    split
    · next q =>
      obtain ⟨u1, u2, u3, u4⟩ := h2 q
      rw [← ndN_siz] at u1 u2 u3 u4
      have hk : k < l.length := by omega
      have e3 : ((k : Int) + (ndN l k).size).toNat = k + (ndN l k).size.toNat := by omega
      have hnb := nod_at hP.v hk
      have hs1 := hsN_succ hk
      have hm0 := hs_mono hP.v (show k ≤ l.length by omega) (Nat.le_refl _)
      have hm1 := hs_mono hP.v (show k + 1 ≤ k + (ndN l k).size.toNat by omega) (by omega)
      have hm2 := hs_mono hP.v (show k + (ndN l k).size.toNat ≤ l.length by omega) (Nat.le_refl _)
      unfold hall at hB
      have hB1 : B ≤ 1099511627776 := by omega
      have hnx := nod_next hP hk u3 hg
      have hN : P (k + (ndN l k).size.toNat) (nodG l w (rowG l w n) k s) := by
        unfold nodG
        rcases nodB_kind hnb with q | q | q | q
        · rw [if_pos q]
          have hb := nodB_blk hnb q
          have e1 : hgtN (ndN l k) = (ndN l k).st.top + (ndN l k).st.bottom + (ndN l k).st.padTop + (ndN l k).st.padBottom + (ndN l k).st.head := by unfold hgtN; rw [if_pos q]
          have hhd := hb.head
          have hbo := hb.bottom
          have hpb := hb.padBottom
          have hent := ent_ok hk hb hg
          have hr := row_ind hP hS n (k + 1) (k + (ndN l k).size) _ _ u3 (by omega) hent (by unfold hall; omega) (hS.ent k s B hk q hg hB1 hp)
          have hro := rowG_ok hP n (k + 1) (k + (ndN l k).size) _ _ u3 (by omega) hent
          rw [e3] at hr hro
          exact hS.lv k _ _ _ hk q hro (by omega) hr
        · rw [if_neg (by omega), if_pos q, leaf_siz hP.v hk (by omega)]
          exact hS.txt k s B hk q hg hB1 hp
        · rw [if_neg (by omega), if_neg (by omega), if_pos q, leaf_siz hP.v hk (by omega)]
          exact hS.mon k s B hk q hg hB1 hp
        · rw [if_neg (by omega), if_neg (by omega), if_neg (by omega), leaf_siz hP.v hk (by omega)]
          exact hS.flt k s B hk q hg hB1 hp
      exact row_ind hP hS n (k + (ndN l k).size.toNat) e _ _ u4 he hnx (by unfold hall; omega) hN
    · have e2 : e.toNat = k := by omega
      rw [e2]
      exact hp
theorem all_ind {l : List LNo} {w : Int} (hP : FlwP l w) {P : Nat → LGs → Prop} (hS : StepP l w P) (h0 : P 0 ⟨[], [], ⟨0, 0⟩⟩) : P l.length (allS l w) := by
  have := row_ind hP hS (l.length + 1) 0 l.length 0 ⟨[], [], ⟨0, 0⟩⟩ (isS_nst hP.v) (Int.le_refl _) (gs_zero l) (by have := hP.hi; rw [hsN_zero]; omega) h0
  rw [Int.toNat_natCast] at this
  exact this
/-! the pen never goes up -/
theorem ent_ge (x : LNo) (s : LGs) (hx : Blk6 x) : atP s.p ≤ atP (entG x s).p := by
  have h1 := hx.top
  have h2 := hx.padTop
  have hc : atP s.p ≤ atP (clrG x s) := by
    unfold clrG penC atP
    split
    · split
      · simp only; omega
      · exact Int.le_refl _
    · exact Int.le_refl _
  unfold atP at hc ⊢
  simp only [entG, penE, penP]
  split <;> (first | omega | (simp only; omega))
theorem lv_ge (x : LNo) (s : LGs) (hx : Blk6 x) (hm : 0 ≤ s.p.m) : atP s.p ≤ atP (lvG x s).p := by
  have h1 := hx.bottom
  have h2 := hx.padBottom
  unfold atP
  simp only [lvG, penL, penP]
  split <;> (first | omega | (simp only; omega))
theorem top_ge {l : List LFl} : ∀ (o : LIs), (∀ g ∈ l, g.y ≤ (l.foldl (mostT topF) o).n) ∧ (o.is = true → (l.foldl (mostT topF) o).is = true ∧ o.n ≤ (l.foldl (mostT topF) o).n) ∧ (l ≠ [] → (l.foldl (mostT topF) o).is = true) := by
  induction l with
  | nil => exact fun o => ⟨fun g hg => (by cases hg), fun h => ⟨h, Int.le_refl _⟩, fun h => absurd rfl h⟩
  | cons f l ih =>
    intro o
    rw [List.foldl_cons]
    have key : (mostT topF o f).is = true ∧ f.y ≤ (mostT topF o f).n ∧ (o.is = true → o.n ≤ (mostT topF o f).n) := by
      unfold mostT
      split
      · next h => exact ⟨rfl, Int.le_refl _, fun q => Int.le_of_lt (h.2 q)⟩
      · next h =>
        have h1 : o.is = true := by
          cases q : o.is with
          | true => rfl
          | false => exact absurd ⟨rfl, fun w => by rw [q] at w; cases w⟩ h
        refine ⟨h1, ?_, fun _ => Int.le_refl _⟩
        exact Int.not_lt.1 fun q => h ⟨rfl, fun _ => q⟩
    obtain ⟨i1, i2, -⟩ := ih (mostT topF o f)
    obtain ⟨i3, i4⟩ := i2 key.1
    refine ⟨fun g hg => ?_, fun h => ⟨i3, by have := key.2.2 h; omega⟩, fun _ => i3⟩
    rcases List.mem_cons.1 hg with rfl | hg
    · have := key.2.1; omega
    · exact i1 g hg
theorem spot_tops (l : List LFl) (f : LFl) (y : Int) (s : LSpan) : ∀ g ∈ l, g.y ≤ spotY l f y s := by
  intro g hg
  have h1 := (top_ge (l := l) ⟨0, false⟩).1 g hg
  have h2 := (top_ge (l := l) ⟨0, false⟩).2.2 (by intro e; subst e; cases hg)
  have h3 : fromP l y = max y (mostF topF l).n := from_t h2
  have h4 := dn_ge (l := l) (W := f.w) (H := f.h) (s := s) (l.length + 1) (fromP l y)
  have h5 : g.y ≤ (mostF topF l).n := h1
  unfold spotY
  omega
/-! anchors -/
def AncP (_ : Nat) (s : LGs) : Prop := ∀ f ∈ s.f, 0 ≤ f.anchor ∧ f.anchor ≤ s.a.length
theorem anc_step (l : List LNo) (w : Int) : StepP l w AncP where
  ent := fun _ _ _ _ _ _ _ h => h
  lv := fun _ _ _ _ _ _ _ _ h => h
  txt := fun k s B _ _ _ _ h => by
    obtain ⟨f1, f2⟩ := setG_fold k (ndN l k).line (texF s.f (ndN l k).words (ndN l k).space (ndN l k).line (atP s.p) (spK l w k)) s
    intro f hf
    unfold txtG at hf ⊢
    rw [f2] at hf
    rw [f1, List.length_append]
    have := h f hf
    omega
  mon := fun k s B _ _ _ _ h => fun f hf => by
    have := h f hf
    simp only [monG, List.length_append, List.length_cons, List.length_nil]
    omega
  flt := fun k s B _ _ _ _ h => fun f hf => by
    rcases List.mem_append.1 hf with hf | hf
    · exact h f hf
    · rw [List.mem_singleton] at hf
      subst hf
      simp only [fltG, setP, newF]
      omega
/-! what stands where -/
/-- lines that have a text's words, from one on. -/
def LinC (x : LNo) (k : Nat) : Nat → List LAt → Prop
  | f, [] => f = x.words.length
  | f, a :: L => a.kind = 1 ∧ a.node = k ∧ a.fr = f ∧ a.h = x.line ∧ ∃ t : Nat, a.to = t ∧ f < t ∧ t ≤ x.words.length ∧ a.w = wideN x.space (seg x.words f t) ∧ LinC x k t L
/-- a node's atoms. -/
def SegC (x : LNo) (k : Nat) (L : List LAt) : Prop :=
  if x.kind = 2 then LinC x k 0 L else if x.kind = 3 then ∃ a : LAt, L = [a] ∧ a.kind = 2 ∧ a.node = k ∧ a.w = x.w ∧ a.h = x.h else L = []
/-- atoms one below the other, from one height on, up to another one. -/
def RiseP : Int → List LAt → Int → Prop
  | lo, [], hi => lo ≤ hi
  | lo, a :: L, hi => lo ≤ a.y ∧ 0 ≤ a.h ∧ RiseP (a.y + a.h) L hi
theorem RiseP.up {L : List LAt} : ∀ {lo hi hi' : Int}, RiseP lo L hi → hi ≤ hi' → RiseP lo L hi' := by
  induction L with
  | nil => exact fun h q => Int.le_trans h q
  | cons a L ih => exact fun h q => ⟨h.1, h.2.1, ih h.2.2 q⟩
theorem RiseP.app {L M : List LAt} : ∀ {lo mid hi : Int}, RiseP lo L mid → RiseP mid M hi → RiseP lo (L ++ M) hi := by
  induction L with
  | nil =>
    intro lo mid hi h1 h2
    cases M with
    | nil => exact Int.le_trans h1 h2
    | cons a M => exact ⟨Int.le_trans h1 h2.1, h2.2⟩
  | cons a L ih => exact fun h1 h2 => ⟨h1.1, h1.2.1, ih h1.2.2 h2⟩
theorem tex_once {l : List LFl} {x : LNo} {k : Nat} {sp : LSpan} (hH : 1 ≤ x.line) : ∀ (n f : Nat) (y : Int) (g : LGs), f ≤ x.words.length → x.words.length ≤ f + n → atP g.p = y →
    LinC x k f ((texG l x.words x.space x.line sp n f y).map (atL k x.line)) ∧ RiseP y ((texG l x.words x.space x.line sp n f y).map (atL k x.line)) (atP ((texG l x.words x.space x.line sp n f y).foldl (setG k x.line) g).p)
  | 0, f, y, g, h1, h2, h3 => ⟨show f = _ by omega, show y ≤ _ by rw [texG, List.foldl_nil]; omega⟩
  | n + 1, f, y, g, h1, h2, h3 => by
    rw [texG]
    split
    · next q =>
      obtain ⟨t, e1, e2, e3⟩ := lin_t (l := l) (sp := x.space) (H := x.line) (y := y) (s := sp) q
      have hge := rom_ge l (x.words.getD f 0) x.line y sp
      have hw : (linN l x.words x.space x.line f y sp).w = wideN x.space (seg x.words f t) := by
        have e4 : ((takeT x.words x.space (lenS (bandF l (romY l (x.words.getD f 0) x.line y sp) x.line sp)) f : Nat) : Int) = (t : Int) := e1
        have e5 : takeT x.words x.space (lenS (bandF l (romY l (x.words.getD f 0) x.line y sp) x.line sp)) f = t := by omega
        show wideN x.space (seg x.words f (takeT x.words x.space (lenS (bandF l (romY l (x.words.getD f 0) x.line y sp) x.line sp)) f)) = _
        rw [e5]
      have ih := tex_once (l := l) (x := x) (k := k) (sp := sp) hH n t ((linN l x.words x.space x.line f y sp).y + x.line) (setG k x.line g (linN l x.words x.space x.line f y sp)) e3 (by omega) (by simp [setG, atP])
      rw [e1, Int.toNat_natCast, List.map_cons, List.foldl_cons]
      refine ⟨⟨rfl, rfl, rfl, rfl, t, e1, e2, e3, hw, ih.1⟩, ⟨hge, by show 0 ≤ x.line; omega, ih.2⟩⟩
    · next q => exact ⟨show f = _ by omega, show y ≤ _ by rw [List.foldl_nil]; omega⟩
def nA (ss : List (List LAt)) (j : Nat) : Nat := (ss.take j).flatten.length
def nF (l : List LNo) : Nat → Nat
  | 0 => 0
  | j + 1 => if (ndN l j).kind = 4 then nF l j + 1 else nF l j
structure FltC (x : LNo) (j : Nat) (n : Nat) (f : LFl) : Prop where
  node : f.node = j
  side : f.side = x.side
  w : f.w = x.w
  h : f.h = x.h
  anchor : f.anchor = n
structure OncQ (l : List LNo) (ss : List (List LAt)) (i : Nat) (s : LGs) : Prop where
  len : ss.length = i
  flat : s.a = ss.flatten
  seg : ∀ j (h : j < ss.length), SegC (ndN l j) j ss[j]
  rise : RiseP 0 s.a (atP s.p)
  fl : s.f.length = nF l i
  flt : ∀ j, j < i → (ndN l j).kind = 4 → ∃ f, s.f[nF l j]? = some f ∧ FltC (ndN l j) j (nA ss j) f
  fy : ∀ q a b, s.f[q]? = some a → s.f[q + 1]? = some b → a.y ≤ b.y
def OncP (l : List LNo) (i : Nat) (s : LGs) : Prop := ∃ ss, OncQ l ss i s
theorem nA_app {ss : List (List LAt)} {L : List LAt} {j : Nat} (h : j ≤ ss.length) : nA (ss ++ [L]) j = nA ss j := by
  unfold nA
  rw [List.take_append_of_le_length h]
theorem nF_no {l : List LNo} {k : Nat} (q : (ndN l k).kind ≠ 4) : nF l (k + 1) = nF l k := if_neg q
/-- a node's atoms are added, no float. -/
theorem onc_add {l : List LNo} {k : Nat} {s s' : LGs} {L : List LAt} (h : OncP l k s) (q : (ndN l k).kind ≠ 4) (ha : s'.a = s.a ++ L) (hf : s'.f = s.f) (hseg : SegC (ndN l k) k L) (hr : RiseP (atP s.p) L (atP s'.p)) : OncP l (k + 1) s' := by
  obtain ⟨ss, h⟩ := h
  have hl := h.len
  refine ⟨ss ++ [L], ⟨by simp [hl], by rw [ha, h.flat]; simp, fun j hj => ?_, by rw [ha]; exact h.rise.app hr, by rw [hf, h.fl, nF_no q], fun j hj hk => ?_, by rw [hf]; exact h.fy⟩⟩
  · rw [List.length_append, List.length_cons, List.length_nil] at hj
    by_cases e : j < ss.length
    · rw [List.getElem_append_left e]
      exact h.seg j e
    · obtain rfl : j = ss.length := by omega
      rw [List.getElem_append_right (Nat.le_refl _)]
      simp only [Nat.sub_self, List.getElem_cons_zero]
      rw [hl]
      exact hseg
  · by_cases e : j = k
    · subst e; exact absurd hk q
    · rw [hf, nA_app (by omega)]
      exact h.flt j (by omega) hk
theorem seg_blk {x : LNo} {k : Nat} (q : x.kind = 1 ∨ x.kind = 4) : SegC x k [] := by
  unfold SegC
  rw [if_neg (by omega), if_neg (by omega)]
theorem onc_step {l : List LNo} {w : Int} (hP : FlwP l w) : StepP l w (OncP l) where
  ent := fun k s B hk q hg _ h => by
    have hb := nodB_blk (nod_at hP.v hk) q
    exact onc_add h (by omega) (L := []) (by simp [entG]) rfl (seg_blk (.inl q)) (ent_ge _ s hb)
  lv := fun k e s B hk q hg _ h => by
    have hb := nodB_blk (nod_at hP.v hk) q
    obtain ⟨ss, h⟩ := h
    exact ⟨ss, ⟨h.len, h.flat, h.seg, h.rise.up (lv_ge _ s hb hg.m), h.fl, h.flt, h.fy⟩⟩
  txt := fun k s B hk q hg _ h => by
    have hb := nodB_txt (nod_at hP.v hk) q
    obtain ⟨f1, f2⟩ := setG_fold k (ndN l k).line (texF s.f (ndN l k).words (ndN l k).space (ndN l k).line (atP s.p) (spK l w k)) s
    obtain ⟨t1, t2⟩ := tex_once (l := s.f) (x := ndN l k) (k := k) (sp := spK l w k) hb.line.1 (ndN l k).words.length 0 (atP s.p) s (Nat.zero_le _) (by omega) rfl
    exact onc_add h (by omega) f1 f2 (by unfold SegC; rw [if_pos q]; exact t1) t2
  mon := fun k s B hk q hg _ h => by
    have hb := nodB_mono (nod_at hP.v hk) q
    have h1 := rom_ge s.f (ndN l k).w (ndN l k).h (atP s.p) (spK l w k)
    refine onc_add h (by omega) (L := [monA (spK l w k) k (ndN l k) s]) rfl rfl (by unfold SegC; rw [if_neg (by omega), if_pos q]; exact ⟨_, rfl, rfl, rfl, rfl, rfl⟩) ⟨h1, by show 0 ≤ (ndN l k).h; have := hb.h; omega, ?_⟩
    show monY (spK l w k) (ndN l k) s + (ndN l k).h ≤ atP ⟨monY (spK l w k) (ndN l k) s + (ndN l k).h, 0⟩
    simp [atP]
  flt := fun k s B hk q hg _ h => by
    obtain ⟨ss, h⟩ := h
    have hl := h.len
    have eF : nF l (k + 1) = nF l k + 1 := if_pos q
    have eA : nA ss k = s.a.length := by
      unfold nA
      rw [← hl, List.take_length, ← h.flat]
    refine ⟨ss ++ [[]], ⟨by simp [hl], by show s.a = _; rw [h.flat]; simp, fun j hj => ?_, h.rise, by simp [fltG, putP, eF, h.fl], fun j hj hk => ?_, fun i x y hi hi2 => ?_⟩⟩
    · rw [List.length_append, List.length_cons, List.length_nil] at hj
      by_cases e : j < ss.length
      · rw [List.getElem_append_left e]
        exact h.seg j e
      · obtain rfl : j = ss.length := by omega
        rw [List.getElem_append_right (Nat.le_refl _)]
        simp only [Nat.sub_self, List.getElem_cons_zero]
        rw [hl]
        exact seg_blk (.inr q)
    · rw [nA_app (by omega)]
      by_cases e : j = k
      · subst e
        refine ⟨setP s.f (newF j (ndN l j) s) (atP s.p) (spK l w j), ?_, ⟨rfl, rfl, rfl, rfl, ?_⟩⟩
        · show (putP s.f _ _ _)[nF l j]? = _
          unfold putP
          rw [← h.fl, List.getElem?_append_right (Nat.le_refl _), Nat.sub_self]
          rfl
        · show (s.a.length : Int) = _
          rw [eA]
      · obtain ⟨f, h1, h2⟩ := h.flt j (by omega) hk
        refine ⟨f, ?_, h2⟩
        show (putP s.f _ _ _)[nF l j]? = _
        unfold putP
        rw [List.getElem?_append_left (List.getElem?_eq_some_iff.1 h1).1]
        exact h1
    · have hi : (putP s.f (newF k (ndN l k) s) (atP s.p) (spK l w k))[i]? = some x := hi
      have hi2 : (putP s.f (newF k (ndN l k) s) (atP s.p) (spK l w k))[i + 1]? = some y := hi2
      unfold putP at hi hi2
      by_cases e : i + 1 < s.f.length
      · rw [List.getElem?_append_left (by omega)] at hi
        rw [List.getElem?_append_left e] at hi2
        exact h.fy i x y hi hi2
      · have hlt := (List.getElem?_eq_some_iff.1 hi2).1
        rw [List.length_append, List.length_cons, List.length_nil] at hlt
        rw [List.getElem?_append_left (by omega)] at hi
        rw [List.getElem?_append_right (by omega), show i + 1 - s.f.length = 0 by omega] at hi2
        have hi2 : setP s.f (newF k (ndN l k) s) (atP s.p) (spK l w k) = y := by simpa using hi2
        rw [← hi2]
        exact spot_tops _ _ _ _ _ (List.mem_of_getElem? hi)
theorem onc_zero (l : List LNo) : OncP l 0 ⟨[], [], ⟨0, 0⟩⟩ := ⟨[], ⟨rfl, rfl, fun j h => absurd h (Nat.not_lt_zero _), Int.le_refl _, rfl, fun j h => absurd h (Nat.not_lt_zero _), fun q a b h => by simp at h⟩⟩
theorem onc_all {l : List LNo} {w : Int} (hP : FlwP l w) : OncP l l.length (allS l w) := all_ind hP (onc_step hP) (onc_zero l)
theorem anc_all {l : List LNo} {w : Int} (hP : FlwP l w) : AncP l.length (allS l w) := all_ind hP (anc_step l w) fun f hf => by cases hf
end Go.Proofs.YtblmebjhhanoaaaGreat
/- CHAPTER 14: what a galley holds, node by node. -/
/- G -/
set_option linter.unusedSimpArgs false
set_option linter.unusedVariables false
namespace Go.Proofs.YtblmebjhhanoaaaGreat
open Go.RowKit

theorem hgtS_ge : ∀ (fs : List LFl) (b : Int), b ≤ hgtS b fs ∧ ∀ f ∈ fs, f.y + f.h ≤ hgtS b fs
  | [], b => ⟨Int.le_refl _, fun f hf => by cases hf⟩
  | g :: fs, b => by
    obtain ⟨h1, h2⟩ := hgtS_ge fs (max b (g.y + g.h))
    have e : hgtS b (g :: fs) = hgtS (max b (g.y + g.h)) fs := rfl
    rw [e]
    refine ⟨by omega, fun f hf => ?_⟩
    rcases List.mem_cons.1 hf with rfl | hf
    · omega
    · exact h2 f hf
theorem nA_zero (ss : List (List LAt)) : nA ss 0 = 0 := rfl
theorem nA_succ {ss : List (List LAt)} {i : Nat} (h : i < ss.length) : nA ss (i + 1) = nA ss i + ss[i].length := by
  unfold nA
  rw [List.take_succ_eq_append_getElem h, List.flatten_append, List.length_append]
  simp
theorem nA_all (ss : List (List LAt)) : nA ss ss.length = ss.flatten.length := by
  unfold nA
  rw [List.take_length]
theorem flat_at {ss : List (List LAt)} {i q : Nat} (h : i < ss.length) (hq : q < ss[i].length) : ss.flatten[nA ss i + q]? = some ss[i][q] := by
  have e : ss.flatten = (ss.take i).flatten ++ (ss[i] ++ (ss.drop (i + 1)).flatten) := by
    have e0 : ss = ss.take i ++ (ss[i] :: ss.drop (i + 1)) := by rw [← List.drop_eq_getElem_cons h, List.take_append_drop]
    exact (congrArg List.flatten e0).trans (by rw [List.flatten_append, List.flatten_cons])
  unfold nA
  rw [e, List.getElem?_append_right (by omega), Nat.add_sub_cancel_left, List.getElem?_append_left hq, List.getElem?_eq_getElem hq]
structure OnF (l : List LNo) (j n : Nat) (H : Int) (f : LFl) : Prop where
  node : f.node = j
  side : f.side = (ndN l j).side
  w : f.w = (ndN l j).w
  h : f.h = (ndN l j).h
  anchor : 0 ≤ f.anchor ∧ f.anchor ≤ n
  y : 0 ≤ f.y ∧ f.y + f.h ≤ H
/-- what a galley holds. -/
structure OnG (l : List LNo) (ss : List (List LAt)) (g : LGal) : Prop where
  len : ss.length = l.length
  flat : g.a = ss.flatten
  seg : ∀ j (h : j < ss.length), SegC (ndN l j) j ss[j]
  rise : RiseP 0 g.a g.h
  fl : g.f.length = nF l l.length
  flt : ∀ j, j < l.length → (ndN l j).kind = 4 → ∃ f, g.f[nF l j]? = some f ∧ OnF l j (nA ss j) g.h f
  fy : ∀ q a b, g.f[q]? = some a → g.f[q + 1]? = some b → a.y ≤ b.y
theorem nA_mono {ss : List (List LAt)} {i : Nat} : nA ss i ≤ ss.flatten.length := by
  have : ss.flatten = (ss.take i).flatten ++ (ss.drop i).flatten := by rw [← List.flatten_append, List.take_append_drop]
  unfold nA
  rw [this, List.length_append]
  omega
theorem res_once {l : List LNo} {w : Int} (hl : l.length ≤ 60) (h : errG l w = 0) : ∃ ss, OnG l ss (resG l w) := by
  have hP := errG_ok hl h
  obtain ⟨ss, hO⟩ := onc_all hP
  have hA := allS_ok hP
  have e : resG l w = endG (allS l w) := by unfold resG; rw [if_pos h]
  rw [e]
  have hge := hgtS_ge (allS l w).f (atP (allS l w).p)
  refine ⟨ss, ⟨hO.len, hO.flat, hO.seg, hO.rise.up hge.1, by simp [endG, hO.fl], fun j hj hk => ?_, fun q a b ha hb => ?_⟩⟩
  · obtain ⟨f, h1, h2⟩ := hO.flt j hj hk
    have hmem := List.mem_of_getElem? h1
    have hfs := hA.fs f hmem
    refine ⟨endF (allS l w).a.length f, ?_, ⟨h2.node, h2.side, h2.w, h2.h, ?_, hfs.y.1, hge.2 f hmem⟩⟩
    · simp [endG, h1]
    · have := h2.anchor
      simp only [endF]
      split <;> omega
  · simp only [endG, List.getElem?_map, Option.map_eq_some_iff] at ha hb
    obtain ⟨a', h1, rfl⟩ := ha
    obtain ⟨b', h2, rfl⟩ := hb
    exact hO.fy q a' b' h1 h2
theorem res_len {l : List LNo} {w : Int} (hl : l.length ≤ 60) : (resG l w).a.length ≤ 2000 ∧ (resG l w).f.length ≤ 60 ∧ 0 ≤ (resG l w).h ∧ (resG l w).h ≤ 1099511627776 := by
  unfold resG
  split
  · next q =>
    have hP := errG_ok hl q
    have hA := allS_ok hP
    have h2 := hA.al
    have h3 := hA.fl
    have h4 := hP.ps
    have h5 := hP.hi
    have h6 := hA.y
    have h7 := hA.m
    have h8 := hA.b
    have h9 := hgtS_bd (B := 1099511627776) (allS l w).f (atP (allS l w).p) (by unfold atP; omega) (fun f hf => by
      have := (hA.fs f hf).y
      have := (hA.fs f hf).h
      omega)
    unfold pall at h4
    simp only [endG, List.length_map]
    omega
  · simp
end Go.Proofs.YtblmebjhhanoaaaGreat
