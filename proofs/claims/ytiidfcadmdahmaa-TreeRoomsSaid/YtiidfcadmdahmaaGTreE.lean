/- CHAPTER 08: tree: Rooms (under way). -/
/- G -/
import Derived.Test.YtiidfcadmdahmaaGTreD
/- BOOLS -/
set_option linter.unusedSimpArgs false
set_option linter.unusedVariables false
namespace Go.Proofs.Ytiidfcadmdahmaa
open Go.RowKit

structure LRm where
  x : Int
  w : Int
deriving DecidableEq
def cRm (r : LRm) : List PV := [.raw (.int .i64 r.x), .raw (.int .i64 r.w)]
attribute [go_sem] cRm
def insN (l : List LNo) (k : Nat) : Int := match l[k]? with | some x => x.st.inset | none => 0
theorem insN_get {l : List LNo} {k : Nat} (hk : k < l.length) : insN l k = l[k].st.inset := by unfold insN; rw [List.getElem?_eq_getElem hk]
def inR (l : List LNo) (k : Nat) (r : LRm) : LRm := ⟨min (r.x + insN l k) 1099511627776, max (r.w - 2 * insN l k) 1⟩
def putS (l : List LNo) : Nat → Nat → Int → LRm → List LRm
  | 0, _, _, _ => []
  | f + 1, k, e, r => if (k : Int) < e then r :: (putS l f (k + 1) (k + sizN l k) (inR l k r) ++ putS l f (k + (sizN l k).toNat) e r) else []
def okR (r : LRm) : Prop := 0 ≤ r.x ∧ r.x ≤ 1099511627776 ∧ 1 ≤ r.w ∧ r.w ≤ 1099511627776
abbrev putO (l : List LNo) (i : Nat) : List (Nat × AO) := [(0, .cells 22 [.sl 20 (l.map cNo)]), (1, .cells 30 [.hdr i]), (2, .cells 72 [.clo (.func 48) [.hdr 0, .hdr 1, .hdr 2]])]
def nst (l : List LNo) : Nat → Nat → Int → Prop
  | 0, _, _ => False
  | f + 1, k, e => (k : Int) ≤ e ∧ ((k : Int) < e → 1 ≤ sizN l k ∧ k + sizN l k ≤ e ∧ nst l f (k + 1) (k + sizN l k) ∧ nst l f (k + (sizN l k).toNat) e)
theorem putS_len (l : List LNo) : ∀ (f k : Nat) (e : Int) (r : LRm), nst l f k e → ((putS l f k e r).length : Int) = e - k
  | 0, k, e, r, h => absurd h (by simp [nst])
  | f + 1, k, e, r, h => by
    obtain ⟨h1, h2⟩ := h
    rw [putS]
    split
    · next q =>
      obtain ⟨u1, u2, u3, u4⟩ := h2 q
      have e1 := putS_len l f (k + 1) (k + sizN l k) (inR l k r) u3
      have e2 := putS_len l f (k + (sizN l k).toNat) e r u4
      simp only [List.length_cons, List.length_append]
      omega
    · simp only [List.length_nil]; omega
theorem nst_le (l : List LNo) {f k : Nat} {e : Int} (h : nst l f k e) : (k : Int) ≤ e := by
  cases f with
  | zero => exact absurd h (by simp [nst])
  | succ f => exact h.1
structure LPt where
  k : Nat
  acc : List LRm
set_option maxRecDepth 100000 in
set_option maxHeartbeats 4000000 in
theorem put8_ok (l : List LNo) (hl : l.length ≤ 1000) (hi : ∀ x ∈ l, 0 ≤ x.st.inset ∧ x.st.inset ≤ 1099511627776) : ∀ (F f : Nat), f ≤ F → ∀ (k : Nat) (e : Int) (r : LRm) (acc : List LRm), okR r → e ≤ l.length → nst l f k e → acc.length ≤ k → 
    FnOk Try.prog 48 [.raw (.int .i64 k), .raw (.int .i64 e), .agg [.raw (.int .i64 r.x), .raw (.int .i64 r.w)], .hdr 0, .hdr 1, .hdr 2] [(0, .cells 22 [.sl 20 (l.map cNo)]), (1, .cells 30 [.hdr 3]), (2, .cells 72 [.clo (.func 48) [.hdr 0, .hdr 1, .hdr 2]]), (3, .row 37 2 (acc.map cRm))] (.tup []) [(0, .cells 22 [.sl 20 (l.map cNo)]), (1, .cells 30 [.hdr 8]), (2, .cells 72 [.clo (.func 48) [.hdr 0, .hdr 1, .hdr 2]]), (8, .row 37 2 ((acc ++ putS l f k e r).map cRm))]
  | 0, f, hf, k, e, r, acc, h1, h2, h3, h5 => by
    obtain rfl : f = 0 := by omega
    exact absurd h3 (by simp [nst])
  | F + 1, f, hf, k, e, r, acc, h1, h2, h3, h5 => by
    refine fn_of_swp Try.func48 rfl (by kernel_rfl) (by kernel_rfl) (Nat.le_of_ble_eq_true rfl) Try.results48 ?_
    (refine swp_seqW ?_; simp only [go_sem, Nat.reduceAdd, Nat.reduceMul, Nat.reduceSub, Nat.reduceEqDiff, Nat.reduceDiv, Nat.reduceLT, Nat.reduceLeDiff, reduceCtorEq, decide_true, Int.natCast_add, Int.cast_ofNat_Int, Bool.not_eq_true', Bool.not_eq_false'])
    (refine swp_seqW ?_; simp only [go_sem, Nat.reduceAdd, Nat.reduceMul, Nat.reduceSub, Nat.reduceEqDiff, Nat.reduceDiv, Nat.reduceLT, Nat.reduceLeDiff, reduceCtorEq, decide_true, Int.natCast_add, Int.cast_ofNat_Int, Bool.not_eq_true', Bool.not_eq_false'])
    refine swp_block ?_
    refine swp_loop2 [] (fun z : LPt => ⟨[(1, .raw (.int .i64 e)), (3, .hdr 0), (4, .hdr 1), (5, .hdr 2), (8, .hdr 8), (9, .raw (.int .i64 z.k))], [(1, some (.cells 30 [.hdr 16])), (8, some (.cells 37 [.raw (.int .i64 r.x), .raw (.int .i64 r.w)])), (0, some (.cells 22 [.sl 20 (l.map cNo)])), (2, some (.cells 72 [.clo (.func 48) [.hdr 0, .hdr 1, .hdr 2]])), (16, some (.row 37 2 (z.acc.map cRm)))], none⟩) (fun z => ∃ g, g ≤ f ∧ nst l g z.k e ∧ z.acc ++ putS l g z.k e r = acc ++ putS l f k e r ∧ z.acc.length ≤ z.k) (fun z => l.length - z.k) 4 ⟨k, acc⟩ (by simp only [go_sem, Nat.reduceAdd, Nat.reduceMul, Nat.reduceSub, Nat.reduceEqDiff, Nat.reduceDiv, Nat.reduceLT, Nat.reduceLeDiff, reduceCtorEq, decide_true, Int.natCast_add, Int.cast_ofNat_Int, Bool.not_eq_true', Bool.not_eq_false']; rfl) (by simp only [go_sem, Nat.reduceAdd, Nat.reduceMul, Nat.reduceSub, Nat.reduceEqDiff, Nat.reduceDiv, Nat.reduceLT, Nat.reduceLeDiff, reduceCtorEq, decide_true, Int.natCast_add, Int.cast_ofNat_Int, Bool.not_eq_true', Bool.not_eq_false']) ?_ ?_
    · exact ⟨f, Nat.le_refl _, h3, rfl, h5⟩
    · rintro ⟨kk, ac⟩ ⟨g, g1, g2, g3, g4⟩
      simp only at g1 g2 g3 g4
      obtain ⟨g, rfl⟩ : ∃ g', g = g' + 1 := by
        cases g with
        | zero => exact absurd g2 (by simp [nst])
        | succ g => exact ⟨g, rfl⟩
      (refine swp_seqW ?_; simp only [go_sem, Nat.reduceAdd, Nat.reduceMul, Nat.reduceSub, Nat.reduceEqDiff, Nat.reduceDiv, Nat.reduceLT, Nat.reduceLeDiff, reduceCtorEq, decide_true, Int.natCast_add, Int.cast_ofNat_Int, Bool.not_eq_true', Bool.not_eq_false'])
      refine ⟨fun q => ?_, fun q => ?_⟩
      · obtain ⟨u1, u2, u3, u4⟩ := g2.2 q
        have hk : kk < l.length := by omega
        have hin := hi l[kk] (List.getElem_mem hk)
        have hsz := sizN_get hk
        have hii := insN_get hk
        obtain ⟨m, hm⟩ : ∃ m : Nat, sizN l kk = m := ⟨(sizN l kk).toNat, by omega⟩
        have e1 := putS_len l g (kk + 1) (kk + sizN l kk) (inR l kk r) u3
        rw [putS, if_pos q] at g3
        refine swp_seqS ?_
        refine swp_block ?_
        (refine swp_seqW ?_; simp only [go_sem, Nat.reduceAdd, Nat.reduceMul, Nat.reduceSub, Nat.reduceEqDiff, Nat.reduceDiv, Nat.reduceLT, Nat.reduceLeDiff, reduceCtorEq, decide_true, Int.natCast_add, Int.cast_ofNat_Int, Bool.not_eq_true', Bool.not_eq_false'])
        refine ⟨⟨by omega, by omega⟩, ?_⟩
        (refine swp_seqW ?_; simp only [go_sem, Nat.reduceAdd, Nat.reduceMul, Nat.reduceSub, Nat.reduceEqDiff, Nat.reduceDiv, Nat.reduceLT, Nat.reduceLeDiff, reduceCtorEq, decide_true, Int.natCast_add, Int.cast_ofNat_Int, Bool.not_eq_true', Bool.not_eq_false'])
        refine ⟨⟨by omega, by omega⟩, l[kk], List.getElem?_eq_getElem hk, ?_⟩
        (refine swp_lastW ?_; simp only [go_sem, Nat.reduceAdd, Nat.reduceMul, Nat.reduceSub, Nat.reduceEqDiff, Nat.reduceDiv, Nat.reduceLT, Nat.reduceLeDiff, reduceCtorEq, decide_true, Int.natCast_add, Int.cast_ofNat_Int, Bool.not_eq_true', Bool.not_eq_false'])
        have er : inR l kk r = ⟨min (r.x + l[kk].st.inset) 1099511627776, max (r.w - 2 * l[kk].st.inset) 1⟩ := by unfold inR; rw [hii]
        obtain ⟨o1, o2, o3, o4⟩ := h1
        rw [er] at e1 g3
        rw [hsz] at e1 u1 u2 u3 u4 g3 hm
        refine ⟨by omega, ⟨by omega, by omega⟩, l[kk], List.getElem?_eq_getElem hk, by omega, by omega, by omega, by omega, ?_⟩
        have em : ac.map cRm ++ [[PV.raw (.int .i64 r.x), PV.raw (.int .i64 r.w)]] = (ac ++ [r]).map cRm := by simp [cRm]
        rw [em]
        (refine acall2 [] (put8_ok l hl hi F g (by omega) (kk + 1) (kk + l[kk].size) ⟨min (r.x + l[kk].st.inset) 1099511627776, max (r.w - 2 * l[kk].st.inset) 1⟩ (ac ++ [r]) ⟨by simp only; omega, by simp only; omega, by simp only; omega, by simp only; omega⟩ (by omega) u3 (by simp; omega)) (by simp only [go_sem, Nat.reduceAdd, Nat.reduceMul, Nat.reduceSub, Nat.reduceEqDiff, Nat.reduceDiv, Nat.reduceLT, Nat.reduceLeDiff, reduceCtorEq, decide_true, Int.natCast_add, Int.cast_ofNat_Int, Bool.not_eq_true', Bool.not_eq_false']; rfl) (fit_of (by simp only [go_sem, Nat.reduceAdd, Nat.reduceMul, Nat.reduceSub, Nat.reduceEqDiff, Nat.reduceDiv, Nat.reduceLT, Nat.reduceLeDiff, reduceCtorEq, decide_true, Int.natCast_add, Int.cast_ofNat_Int, Bool.not_eq_true', Bool.not_eq_false']) (by simp only [go_sem, Nat.reduceAdd, Nat.reduceMul, Nat.reduceSub, Nat.reduceEqDiff, Nat.reduceDiv, Nat.reduceLT, Nat.reduceLeDiff, reduceCtorEq, decide_true, Int.natCast_add, Int.cast_ofNat_Int, Bool.not_eq_true', Bool.not_eq_false']) (by simp only [go_sem, Nat.reduceAdd, Nat.reduceMul, Nat.reduceSub, Nat.reduceEqDiff, Nat.reduceDiv, Nat.reduceLT, Nat.reduceLeDiff, reduceCtorEq, decide_true, Int.natCast_add, Int.cast_ofNat_Int, Bool.not_eq_true', Bool.not_eq_false']) (by simp only [go_sem, Nat.reduceAdd, Nat.reduceMul, Nat.reduceSub, Nat.reduceEqDiff, Nat.reduceDiv, Nat.reduceLT, Nat.reduceLeDiff, reduceCtorEq, decide_true, Int.natCast_add, Int.cast_ofNat_Int, Bool.not_eq_true', Bool.not_eq_false']) (by simp only [go_sem, Nat.reduceAdd, Nat.reduceMul, Nat.reduceSub, Nat.reduceEqDiff, Nat.reduceDiv, Nat.reduceLT, Nat.reduceLeDiff, reduceCtorEq, decide_true, Int.natCast_add, Int.cast_ofNat_Int, Bool.not_eq_true', Bool.not_eq_false']) (by simp only [go_sem, Nat.reduceAdd, Nat.reduceMul, Nat.reduceSub, Nat.reduceEqDiff, Nat.reduceDiv, Nat.reduceLT, Nat.reduceLeDiff, reduceCtorEq, decide_true, Int.natCast_add, Int.cast_ofNat_Int, Bool.not_eq_true', Bool.not_eq_false']) (by simp only [go_sem, Nat.reduceAdd, Nat.reduceMul, Nat.reduceSub, Nat.reduceEqDiff, Nat.reduceDiv, Nat.reduceLT, Nat.reduceLeDiff, reduceCtorEq, decide_true, Int.natCast_add, Int.cast_ofNat_Int, Bool.not_eq_true', Bool.not_eq_false'])) ?_; simp only [go_sem, Nat.reduceAdd, Nat.reduceMul, Nat.reduceSub, Nat.reduceEqDiff, Nat.reduceDiv, Nat.reduceLT, Nat.reduceLeDiff, reduceCtorEq, decide_true, Int.natCast_add, Int.cast_ofNat_Int, Bool.not_eq_true', Bool.not_eq_false'])
        refine ⟨(by show drawB _ _ = true; kernel_rfl), ?_⟩
        (refine swp_lastW ?_; simp only [go_sem, Nat.reduceAdd, Nat.reduceMul, Nat.reduceSub, Nat.reduceEqDiff, Nat.reduceDiv, Nat.reduceLT, Nat.reduceLeDiff, reduceCtorEq, decide_true, Int.natCast_add, Int.cast_ofNat_Int, Bool.not_eq_true', Bool.not_eq_false'])
        refine ⟨⟨by omega, by omega⟩, l[kk], List.getElem?_eq_getElem hk, by omega, ?_⟩
        rw [hm] at g3 e1 u1 u2 u4 ⊢
        simp only [Int.toNat_natCast] at g3 u4
        generalize putS l g (kk + 1) (kk + (m : Int)) _ = pp at g3 e1 ⊢
        have e5 : (ac ++ [r] ++ pp).length = ac.length + 1 + pp.length := by simp; omega
        (refine loop_end [] (⟨kk + m, ac ++ [r] ++ pp⟩) (by simp only [go_sem, Nat.reduceAdd, Nat.reduceMul, Nat.reduceSub, Nat.reduceEqDiff, Nat.reduceDiv, Nat.reduceLT, Nat.reduceLeDiff, reduceCtorEq, decide_true, Int.natCast_add, Int.cast_ofNat_Int, Bool.not_eq_true', Bool.not_eq_false']; rfl) ?_ ?_ ?_; (focus first | omega | (simp only; omega)); (focus (simp only [go_sem, Nat.reduceAdd, Nat.reduceMul, Nat.reduceSub, Nat.reduceEqDiff, Nat.reduceDiv, Nat.reduceLT, Nat.reduceLeDiff, reduceCtorEq, decide_true, Int.natCast_add, Int.cast_ofNat_Int, Bool.not_eq_true', Bool.not_eq_false']; done)))
        exact ⟨g, by omega, u4, by rw [← g3]; simp, by simp only; omega⟩
      · rw [← g3, putS, if_neg q, List.append_nil]
        (refine ret2 [] (by simp only [go_sem, Nat.reduceAdd, Nat.reduceMul, Nat.reduceSub, Nat.reduceEqDiff, Nat.reduceDiv, Nat.reduceLT, Nat.reduceLeDiff, reduceCtorEq, decide_true, Int.natCast_add, Int.cast_ofNat_Int, Bool.not_eq_true', Bool.not_eq_false']; rfl) ?_; simp only [go_sem, Nat.reduceAdd, Nat.reduceMul, Nat.reduceSub, Nat.reduceEqDiff, Nat.reduceDiv, Nat.reduceLT, Nat.reduceLeDiff, reduceCtorEq, decide_true, Int.natCast_add, Int.cast_ofNat_Int, Bool.not_eq_true', Bool.not_eq_false'])
end Go.Proofs.Ytiidfcadmdahmaa
