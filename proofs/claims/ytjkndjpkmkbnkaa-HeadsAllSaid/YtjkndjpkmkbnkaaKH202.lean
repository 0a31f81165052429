/- CONTRACTS of the functions, and plain laws, joined out of: GScrE GScrF GKinG GKinH GKinI GKinJ GKinK GKinL GHeaC GHeaD GHeaE GHeaF. -/
import Derived.Test.YtjkndjpkmkbnkaaKH201
/- THE SCRIPT'S READER: one node, nodes. -/
/- G -/
/- BOOLS -/
/- GET get_tk -/
set_option linter.unusedSimpArgs false
set_option linter.unusedVariables false
namespace Go.Proofs.Ytjkndjpkmkbnkaa
open Go.RowKit

set_option maxRecDepth 100000 in
set_option maxHeartbeats 4000000 in
theorem one5_ok (rec : Nat → Option (List LNo × Nat)) (l : List LTk) (hrec : ∀ k r, k ≤ l.length → rec k = some r → FnOk Try.prog 48 [.sl 4 (l.map cTk), .raw (.int .i64 k)] [] (aGot r) []) (k : Nat) (r : List LNo × Nat) (hl : l.length ≤ 1000) (hk : k ≤ l.length) (h : oneS rec l k = some r) : FnOk Try.prog 70 [.sl 4 (l.map cTk), .raw (.int .i64 k)] [] (aGot r) [] := by
  refine fn_of_swp Try.func70 rfl (by kernel_rfl) (by kernel_rfl) (Nat.le_of_ble_eq_true rfl) Try.results70 ?_
  unfold oneS at h
  (refine swp_seqW ?_; simp only [go_sem, Bool.not_eq_true', Bool.not_eq_false'])
  (refine swp_seqW ?_; simp only [go_sem, Bool.not_eq_true', Bool.not_eq_false'])
  (refine acall2 [] (sign5_ok l k 91 hl) (by simp only [go_sem, Bool.not_eq_true', Bool.not_eq_false']; rfl) (fit_of (by simp only [go_sem, Bool.not_eq_true', Bool.not_eq_false']) (by simp only [go_sem, Bool.not_eq_true', Bool.not_eq_false']) (by simp only [go_sem, Bool.not_eq_true', Bool.not_eq_false']) (by simp only [go_sem, Bool.not_eq_true', Bool.not_eq_false']) (by simp only [go_sem, Bool.not_eq_true', Bool.not_eq_false']) (by simp only [go_sem, Bool.not_eq_true', Bool.not_eq_false']) (by simp only [go_sem, Bool.not_eq_true', Bool.not_eq_false'])) ?_; simp only [go_sem, Bool.not_eq_true', Bool.not_eq_false'])
  refine ⟨fun h1 => ?_, fun h1 => ?_⟩
  · rw [if_pos h1] at h
    (refine acall2 [] (block5_ok rec l hrec k r hl h) (by simp only [go_sem, Bool.not_eq_true', Bool.not_eq_false']; rfl) (fit_of (by simp only [go_sem, Bool.not_eq_true', Bool.not_eq_false']) (by simp only [go_sem, Bool.not_eq_true', Bool.not_eq_false']) (by simp only [go_sem, Bool.not_eq_true', Bool.not_eq_false']) (by simp only [go_sem, Bool.not_eq_true', Bool.not_eq_false']) (by simp only [go_sem, Bool.not_eq_true', Bool.not_eq_false']) (by simp only [go_sem, Bool.not_eq_true', Bool.not_eq_false']) (by simp only [go_sem, Bool.not_eq_true', Bool.not_eq_false'])) ?_; simp only [go_sem, Bool.not_eq_true', Bool.not_eq_false'])
    (refine ret2 [] (by simp only [go_sem, Bool.not_eq_true', Bool.not_eq_false']; rfl) ?_; simp only [go_sem, Bool.not_eq_true', Bool.not_eq_false'])
  rw [if_neg (by rw [h1]; decide)] at h
  (refine swp_seqW ?_; simp only [go_sem, Bool.not_eq_true', Bool.not_eq_false'])
  (refine acall2 [] (sign5_ok l k 40 hl) (by simp only [go_sem, Bool.not_eq_true', Bool.not_eq_false']; rfl) (fit_of (by simp only [go_sem, Bool.not_eq_true', Bool.not_eq_false']) (by simp only [go_sem, Bool.not_eq_true', Bool.not_eq_false']) (by simp only [go_sem, Bool.not_eq_true', Bool.not_eq_false']) (by simp only [go_sem, Bool.not_eq_true', Bool.not_eq_false']) (by simp only [go_sem, Bool.not_eq_true', Bool.not_eq_false']) (by simp only [go_sem, Bool.not_eq_true', Bool.not_eq_false']) (by simp only [go_sem, Bool.not_eq_true', Bool.not_eq_false'])) ?_; simp only [go_sem, Bool.not_eq_true', Bool.not_eq_false'])
  refine ⟨fun h2 => ?_, fun h2 => ?_⟩
  · rw [if_pos h2] at h
    (refine acall2 [] (text5_ok l k r hl h) (by simp only [go_sem, Bool.not_eq_true', Bool.not_eq_false']; rfl) (fit_of (by simp only [go_sem, Bool.not_eq_true', Bool.not_eq_false']) (by simp only [go_sem, Bool.not_eq_true', Bool.not_eq_false']) (by simp only [go_sem, Bool.not_eq_true', Bool.not_eq_false']) (by simp only [go_sem, Bool.not_eq_true', Bool.not_eq_false']) (by simp only [go_sem, Bool.not_eq_true', Bool.not_eq_false']) (by simp only [go_sem, Bool.not_eq_true', Bool.not_eq_false']) (by simp only [go_sem, Bool.not_eq_true', Bool.not_eq_false'])) ?_; simp only [go_sem, Bool.not_eq_true', Bool.not_eq_false'])
    (refine ret2 [] (by simp only [go_sem, Bool.not_eq_true', Bool.not_eq_false']; rfl) ?_; simp only [go_sem, Bool.not_eq_true', Bool.not_eq_false'])
  rw [if_neg (by rw [h2]; decide)] at h
  (refine swp_seqW ?_; simp only [go_sem, Bool.not_eq_true', Bool.not_eq_false'])
  (refine acall2 [] (sign5_ok l k 123 hl) (by simp only [go_sem, Bool.not_eq_true', Bool.not_eq_false']; rfl) (fit_of (by simp only [go_sem, Bool.not_eq_true', Bool.not_eq_false']) (by simp only [go_sem, Bool.not_eq_true', Bool.not_eq_false']) (by simp only [go_sem, Bool.not_eq_true', Bool.not_eq_false']) (by simp only [go_sem, Bool.not_eq_true', Bool.not_eq_false']) (by simp only [go_sem, Bool.not_eq_true', Bool.not_eq_false']) (by simp only [go_sem, Bool.not_eq_true', Bool.not_eq_false']) (by simp only [go_sem, Bool.not_eq_true', Bool.not_eq_false'])) ?_; simp only [go_sem, Bool.not_eq_true', Bool.not_eq_false'])
  refine ⟨fun h3 => ?_, fun h3 => ?_⟩
  · rw [if_pos h3] at h
    refine ⟨by omega, ?_⟩
    (refine acallF2 [112 ] [] ( box5_ok l (k + 1) ⟨3, 1, sty0, 0, 0, [], 0, 0, 0⟩ 125 r hl h) (by simp only [go_sem, Bool.not_eq_true', Bool.not_eq_false']; rfl) (fit_of (by simp only [go_sem, Bool.not_eq_true', Bool.not_eq_false']) (by simp only [go_sem, Bool.not_eq_true', Bool.not_eq_false']) (by simp only [go_sem, Bool.not_eq_true', Bool.not_eq_false']) (by simp only [go_sem, Bool.not_eq_true', Bool.not_eq_false']) (by simp only [go_sem, Bool.not_eq_true', Bool.not_eq_false']) (by simp only [go_sem, Bool.not_eq_true', Bool.not_eq_false']) (by simp only [go_sem, Bool.not_eq_true', Bool.not_eq_false'])) ?_; simp only [go_sem, Bool.not_eq_true', Bool.not_eq_false'])
    (refine ret2 [] (by simp only [go_sem, Bool.not_eq_true', Bool.not_eq_false']; rfl) ?_; simp only [go_sem, Bool.not_eq_true', Bool.not_eq_false'])
  rw [if_neg (by rw [h3]; decide)] at h
  (refine swp_seqW ?_; simp only [go_sem, Bool.not_eq_true', Bool.not_eq_false'])
  refine ⟨by omega, ?_⟩
  (refine acall2 [] (sign5_ok l (k + 1) 76 hl) (by simp only [go_sem, Bool.not_eq_true', Bool.not_eq_false']; rfl) (fit_of (by simp only [go_sem, Bool.not_eq_true', Bool.not_eq_false']) (by simp only [go_sem, Bool.not_eq_true', Bool.not_eq_false']) (by simp only [go_sem, Bool.not_eq_true', Bool.not_eq_false']) (by simp only [go_sem, Bool.not_eq_true', Bool.not_eq_false']) (by simp only [go_sem, Bool.not_eq_true', Bool.not_eq_false']) (by simp only [go_sem, Bool.not_eq_true', Bool.not_eq_false']) (by simp only [go_sem, Bool.not_eq_true', Bool.not_eq_false'])) ?_; simp only [go_sem, Bool.not_eq_true', Bool.not_eq_false'])
  refine ⟨fun h4 => ?_, fun h4 => ?_⟩
  · rw [if_pos h4] at h
    refine ⟨by omega, ?_⟩
    (refine acallF2 [144 ] [] ( box5_ok l (k + 2) ⟨4, 1, sty0, 0, 0, [], 1, 0, 0⟩ 62 r hl h) (by simp only [go_sem, Bool.not_eq_true', Bool.not_eq_false']; rfl) (fit_of (by simp only [go_sem, Bool.not_eq_true', Bool.not_eq_false']) (by simp only [go_sem, Bool.not_eq_true', Bool.not_eq_false']) (by simp only [go_sem, Bool.not_eq_true', Bool.not_eq_false']) (by simp only [go_sem, Bool.not_eq_true', Bool.not_eq_false']) (by simp only [go_sem, Bool.not_eq_true', Bool.not_eq_false']) (by simp only [go_sem, Bool.not_eq_true', Bool.not_eq_false']) (by simp only [go_sem, Bool.not_eq_true', Bool.not_eq_false'])) ?_; simp only [go_sem, Bool.not_eq_true', Bool.not_eq_false'])
    (refine ret2 [] (by simp only [go_sem, Bool.not_eq_true', Bool.not_eq_false']; rfl) ?_; simp only [go_sem, Bool.not_eq_true', Bool.not_eq_false'])
  rw [if_neg (by rw [h4]; decide)] at h
  (refine swp_seqW ?_; simp only [go_sem, Bool.not_eq_true', Bool.not_eq_false'])
  refine ⟨by omega, ?_⟩
  (refine acall2 [] (sign5_ok l (k + 1) 82 hl) (by simp only [go_sem, Bool.not_eq_true', Bool.not_eq_false']; rfl) (fit_of (by simp only [go_sem, Bool.not_eq_true', Bool.not_eq_false']) (by simp only [go_sem, Bool.not_eq_true', Bool.not_eq_false']) (by simp only [go_sem, Bool.not_eq_true', Bool.not_eq_false']) (by simp only [go_sem, Bool.not_eq_true', Bool.not_eq_false']) (by simp only [go_sem, Bool.not_eq_true', Bool.not_eq_false']) (by simp only [go_sem, Bool.not_eq_true', Bool.not_eq_false']) (by simp only [go_sem, Bool.not_eq_true', Bool.not_eq_false'])) ?_; simp only [go_sem, Bool.not_eq_true', Bool.not_eq_false'])
  refine ⟨fun h5 => ?_, fun h5 => ?_⟩
  · rw [if_pos h5] at h
    refine ⟨by omega, ?_⟩
    (refine acallF2 [176 ] [] ( box5_ok l (k + 2) ⟨4, 1, sty0, 0, 0, [], 2, 0, 0⟩ 62 r hl h) (by simp only [go_sem, Bool.not_eq_true', Bool.not_eq_false']; rfl) (fit_of (by simp only [go_sem, Bool.not_eq_true', Bool.not_eq_false']) (by simp only [go_sem, Bool.not_eq_true', Bool.not_eq_false']) (by simp only [go_sem, Bool.not_eq_true', Bool.not_eq_false']) (by simp only [go_sem, Bool.not_eq_true', Bool.not_eq_false']) (by simp only [go_sem, Bool.not_eq_true', Bool.not_eq_false']) (by simp only [go_sem, Bool.not_eq_true', Bool.not_eq_false']) (by simp only [go_sem, Bool.not_eq_true', Bool.not_eq_false'])) ?_; simp only [go_sem, Bool.not_eq_true', Bool.not_eq_false'])
    (refine ret2 [] (by simp only [go_sem, Bool.not_eq_true', Bool.not_eq_false']; rfl) ?_; simp only [go_sem, Bool.not_eq_true', Bool.not_eq_false'])
  rw [if_neg (by rw [h5]; decide)] at h
  cases h
theorem nodesG_len (rec : Nat → Option (List LNo × Nat)) (l : List LTk) : ∀ g k r, nodesG rec l g k = some r → r.1.length < 1000
  | 0, k, r, h => by cases h
  | g + 1, k, r, h => by
    rw [nodesG] at h
    split at h
    case isFalse => cases h
    split at h
    case isFalse =>
      injection h with h
      subst h
      exact Nat.zero_lt_succ _
    split at h
    case h_2 => cases h
    split at h
    case isFalse => cases h
    split at h
    case h_2 => cases h
    split at h
    case isFalse => cases h
    next hh =>
    injection h with h
    subst h
    simp only [List.length_append]
    exact hh
structure LNd where
  k : Nat
  acc : List LNo
set_option maxRecDepth 100000 in
set_option maxHeartbeats 4000000 in
theorem nodesG_ok (rec : Nat → Option (List LNo × Nat)) (l : List LTk) (hrec : ∀ k r, k ≤ l.length → rec k = some r → FnOk Try.prog 48 [.sl 4 (l.map cTk), .raw (.int .i64 k)] [] (aGot r) []) (g k : Nat) (r : List LNo × Nat) (hl : l.length ≤ 1000) (hk : k ≤ l.length) (h : nodesG rec l g k = some r) : FnOk Try.prog 48 [.sl 4 (l.map cTk), .raw (.int .i64 k)] [] (aGot r) [] := by
  have hlen := nodesG_len rec l g k r h
  refine fn_of_swp Try.func48 rfl (by kernel_rfl) (by kernel_rfl) (Nat.le_of_ble_eq_true rfl) Try.results48 ?_
  (refine swp_seqW ?_; simp only [go_sem, Bool.not_eq_true', Bool.not_eq_false'])
  (refine swp_seqW ?_; simp only [go_sem, Bool.not_eq_true', Bool.not_eq_false'])
  refine swp_cutS (fun z : LNd => ⟨[(4, .hdr 8), (5, .hdr 16)], [(8, some (.cells 90 [.hdr 9, .raw (.int .i64 0), .raw (.int .i64 0)])), (9, some (.row 37 20 [])), (16, some (.cells 90 [.hdr 17, .raw (.int .i64 z.k), .raw (.int .i64 0)])), (17, some (.row 37 20 (z.acc.map cNo)))], none⟩) (fun z => (z.acc, z.k) = r) 4 ?_ ?_
  · refine swp_block ?_
    refine swp_loop2 [] (fun z : LNd => ⟨[(0, .sl 4 (l.map cTk)), (4, .hdr 8), (5, .hdr 16)], [(8, some (.cells 90 [.hdr 9, .raw (.int .i64 0), .raw (.int .i64 0)])), (9, some (.row 37 20 [])), (16, some (.cells 90 [.hdr 17, .raw (.int .i64 z.k), .raw (.int .i64 0)])), (17, some (.row 37 20 (z.acc.map cNo)))], none⟩) (fun z => z.k ≤ l.length ∧ ∃ f q, nodesG rec l f z.k = some q ∧ (z.acc ++ q.1, q.2) = r) (fun z => l.length - z.k) 40 ⟨k, []⟩ (by simp only [go_sem, Bool.not_eq_true', Bool.not_eq_false']; rfl) (by simp only [go_sem, Bool.not_eq_true', Bool.not_eq_false']) ?_ ?_
    · exact ⟨hk, g, r, h, rfl⟩
    · rintro ⟨kk, acc⟩ ⟨q1, f, q, q2, q3⟩
      simp only at q1 q2 q3
      obtain ⟨f, rfl⟩ : ∃ f', f = f' + 1 := by
        cases f with
        | zero => cases q2
        | succ g => exact ⟨g, rfl⟩
      rw [nodesG, if_pos q1] at q2
      (refine swp_seqW ?_; simp only [go_sem, Bool.not_eq_true', Bool.not_eq_false'])
      (refine acall2 [] (sign5_ok l kk 91 hl) (by simp only [go_sem, Bool.not_eq_true', Bool.not_eq_false']; rfl) (fit_of (by simp only [go_sem, Bool.not_eq_true', Bool.not_eq_false']) (by simp only [go_sem, Bool.not_eq_true', Bool.not_eq_false']) (by simp only [go_sem, Bool.not_eq_true', Bool.not_eq_false']) (by simp only [go_sem, Bool.not_eq_true', Bool.not_eq_false']) (by simp only [go_sem, Bool.not_eq_true', Bool.not_eq_false']) (by simp only [go_sem, Bool.not_eq_true', Bool.not_eq_false']) (by simp only [go_sem, Bool.not_eq_true', Bool.not_eq_false'])) ?_; simp only [go_sem, Bool.not_eq_true', Bool.not_eq_false'])
      refine ⟨fun c1 => ?_, fun c1 => ?_⟩
      (refine acall2 [] (sign5_ok l kk 40 hl) (by simp only [go_sem, Bool.not_eq_true', Bool.not_eq_false']; rfl) (fit_of (by simp only [go_sem, Bool.not_eq_true', Bool.not_eq_false']) (by simp only [go_sem, Bool.not_eq_true', Bool.not_eq_false']) (by simp only [go_sem, Bool.not_eq_true', Bool.not_eq_false']) (by simp only [go_sem, Bool.not_eq_true', Bool.not_eq_false']) (by simp only [go_sem, Bool.not_eq_true', Bool.not_eq_false']) (by simp only [go_sem, Bool.not_eq_true', Bool.not_eq_false']) (by simp only [go_sem, Bool.not_eq_true', Bool.not_eq_false'])) ?_; simp only [go_sem, Bool.not_eq_true', Bool.not_eq_false'])
      refine ⟨fun c2 => ?_, fun c2 => ?_⟩
      (refine acall2 [] (sign5_ok l kk 123 hl) (by simp only [go_sem, Bool.not_eq_true', Bool.not_eq_false']; rfl) (fit_of (by simp only [go_sem, Bool.not_eq_true', Bool.not_eq_false']) (by simp only [go_sem, Bool.not_eq_true', Bool.not_eq_false']) (by simp only [go_sem, Bool.not_eq_true', Bool.not_eq_false']) (by simp only [go_sem, Bool.not_eq_true', Bool.not_eq_false']) (by simp only [go_sem, Bool.not_eq_true', Bool.not_eq_false']) (by simp only [go_sem, Bool.not_eq_true', Bool.not_eq_false']) (by simp only [go_sem, Bool.not_eq_true', Bool.not_eq_false'])) ?_; simp only [go_sem, Bool.not_eq_true', Bool.not_eq_false'])
      refine ⟨fun c3 => ?_, fun c3 => ?_⟩
      (refine acall2 [] (sign5_ok l kk 60 hl) (by simp only [go_sem, Bool.not_eq_true', Bool.not_eq_false']; rfl) (fit_of (by simp only [go_sem, Bool.not_eq_true', Bool.not_eq_false']) (by simp only [go_sem, Bool.not_eq_true', Bool.not_eq_false']) (by simp only [go_sem, Bool.not_eq_true', Bool.not_eq_false']) (by simp only [go_sem, Bool.not_eq_true', Bool.not_eq_false']) (by simp only [go_sem, Bool.not_eq_true', Bool.not_eq_false']) (by simp only [go_sem, Bool.not_eq_true', Bool.not_eq_false']) (by simp only [go_sem, Bool.not_eq_true', Bool.not_eq_false'])) ?_; simp only [go_sem, Bool.not_eq_true', Bool.not_eq_false'])
      refine ⟨fun c4 => ?_, fun c4 => ?_⟩
      rotate_left
      · rw [if_neg (by simp [startB, c1, c2, c3, c4])] at q2
        injection q2 with q2
        subst q2
        (refine cut_end [] (⟨kk, acc⟩) (by simp only [go_sem, Bool.not_eq_true', Bool.not_eq_false']; rfl) ?_ ?_; (focus (simp only [go_sem, Bool.not_eq_true', Bool.not_eq_false']; done)))
        rw [← q3]; simp
      all_goals (have hs : startB l kk = true := by simp [startB, *])
      all_goals
        rw [if_pos hs] at q2
        split at q2
        case h_2 => cases q2
        next ns k1 hone =>
        split at q2
        case isFalse => cases q2
        next hk1 =>
        split at q2
        case h_2 => cases q2
        next rr k2 hrest =>
        split at q2
        case isFalse => cases q2
        next hh =>
        injection q2 with q2
        subst q2
        subst q3
        simp only [List.length_append] at hlen
        refine swp_block ?_
        (refine swp_seqW ?_; simp only [go_sem, Bool.not_eq_true', Bool.not_eq_false'])
        (refine acall2 [] (one5_ok rec l hrec kk (ns, k1) hl q1 hone) (by simp only [go_sem, Bool.not_eq_true', Bool.not_eq_false']; rfl) (fit_of (by simp only [go_sem, Bool.not_eq_true', Bool.not_eq_false']) (by simp only [go_sem, Bool.not_eq_true', Bool.not_eq_false']) (by simp only [go_sem, Bool.not_eq_true', Bool.not_eq_false']) (by simp only [go_sem, Bool.not_eq_true', Bool.not_eq_false']) (by simp only [go_sem, Bool.not_eq_true', Bool.not_eq_false']) (by simp only [go_sem, Bool.not_eq_true', Bool.not_eq_false']) (by simp only [go_sem, Bool.not_eq_true', Bool.not_eq_false'])) ?_; simp only [go_sem, Bool.not_eq_true', Bool.not_eq_false'])
        (refine swp_lastW ?_; simp only [go_sem, Bool.not_eq_true', Bool.not_eq_false', Int.reduceToNat, Int.reduceLT, Int.reduceLE, Int.reduceEq, Int.reduceAdd, Int.reduceSub, Int.reduceMul, Int.reduceNeg, Int.reduceNe, decide_false, Int.cast_ofNat_Int, kSet, List.getElem?_cons_succ, List.getElem?_cons_zero, List.set_cons_succ, List.set_cons_zero, exists_eq_left', forall_const, true_implies, List.length_map])
        refine ⟨⟨by omega, by omega⟩, ?_⟩
        have hb : k1 ≤ l.length := by
          cases f with
          | zero => cases hrest
          | succ f =>
            rw [nodesG] at hrest
            split at hrest
            case isFalse => cases hrest
            next hb => exact hb
        (refine loop_end [] (⟨k1, acc ++ ns⟩) (by simp only [go_sem, Bool.not_eq_true', Bool.not_eq_false']; rfl) ?_ ?_ ?_; (focus first | omega | (simp only; omega)); (focus (simp only [go_sem, Bool.not_eq_true', Bool.not_eq_false', List.map_append]; done)))
        exact ⟨hb, f, (rr, k2), hrest, by simp⟩
  rintro ⟨kk, acc⟩ hr
  subst hr
  (refine swp_lastW ?_; simp only [go_sem, Bool.not_eq_true', Bool.not_eq_false'])
  (refine ret2 [17] (by simp only [go_sem, Bool.not_eq_true', Bool.not_eq_false']; rfl) ?_; simp only [go_sem, Bool.not_eq_true', Bool.not_eq_false'])
end Go.Proofs.Ytjkndjpkmkbnkaa
/- THE SCRIPT'S READER: the whole. -/
/- G -/
/- BOOLS -/
set_option linter.unusedSimpArgs false
set_option linter.unusedVariables false
namespace Go.Proofs.Ytjkndjpkmkbnkaa
open Go.RowKit

theorem nodes5_ok (l : List LTk) (hl : l.length ≤ 1000) : ∀ (f k : Nat) (r : List LNo × Nat), k ≤ l.length → nodesS l f k = some r → FnOk Try.prog 48 [.sl 4 (l.map cTk), .raw (.int .i64 k)] [] (aGot r) []
  | 0, _, _, _, h => by cases h
  | f + 1, k, r, hk, h => nodesG_ok (nodesS l f) l (nodes5_ok l hl f) (l.length + 1) k r hl hk h
set_option maxRecDepth 100000 in
set_option maxHeartbeats 4000000 in
theorem of5_ok (s : ByteArray) (l : List LTk) (ns : List LNo) (ha : ascii s) (hs : s.size ≤ 1000) (h1 : tokS s (s.size + 1) 0 = some l) (hl : l.length ≤ 1000) (h2 : nodesS l (l.length + 1) 0 = some (ns, l.length)) : FnOk Try.prog 27 [.raw (.string s)] [] (.tup [.sl 20 (ns.map cNo), .raw (.int .i64 0), .raw (.int .i64 0)]) [] := by
  have hn : FnOk Try.prog 48 [.sl 4 (l.map cTk), .raw (.int .i64 0)] [] (aGot (ns, l.length)) [] := nodes5_ok l hl (l.length + 1) 0 (ns, l.length) (Nat.zero_le _) h2
  refine fn_of_awp Try.func27 rfl (by kernel_rfl) (by kernel_rfl) (Nat.le_of_ble_eq_true rfl) Try.results27 ?_
  simp only [go_sem, Bool.not_eq_true', Bool.not_eq_false']
  (refine acall2 [] (tok4_ok s l ha hs h1) (by simp only [go_sem, Bool.not_eq_true', Bool.not_eq_false']; rfl) (fit_of (by simp only [go_sem, Bool.not_eq_true', Bool.not_eq_false']) (by simp only [go_sem, Bool.not_eq_true', Bool.not_eq_false']) (by simp only [go_sem, Bool.not_eq_true', Bool.not_eq_false']) (by simp only [go_sem, Bool.not_eq_true', Bool.not_eq_false']) (by simp only [go_sem, Bool.not_eq_true', Bool.not_eq_false']) (by simp only [go_sem, Bool.not_eq_true', Bool.not_eq_false']) (by simp only [go_sem, Bool.not_eq_true', Bool.not_eq_false'])) ?_; simp only [go_sem, Bool.not_eq_true', Bool.not_eq_false', Int.reduceToNat, Int.reduceLT, Int.reduceLE, Int.reduceEq, Int.reduceAdd, Int.reduceSub, Int.reduceMul, Int.reduceNeg, Int.reduceNe, decide_false, Int.cast_ofNat_Int, kSet, List.getElem?_cons_succ, List.getElem?_cons_zero, List.set_cons_succ, List.set_cons_zero, exists_eq_left', forall_const, true_implies])
  (refine acallF2 [40 ] [] ( hn) (by simp only [go_sem, Bool.not_eq_true', Bool.not_eq_false']; rfl) (fit_of (by simp only [go_sem, Bool.not_eq_true', Bool.not_eq_false']) (by simp only [go_sem, Bool.not_eq_true', Bool.not_eq_false']) (by simp only [go_sem, Bool.not_eq_true', Bool.not_eq_false']) (by simp only [go_sem, Bool.not_eq_true', Bool.not_eq_false']) (by simp only [go_sem, Bool.not_eq_true', Bool.not_eq_false']) (by simp only [go_sem, Bool.not_eq_true', Bool.not_eq_false']) (by simp only [go_sem, Bool.not_eq_true', Bool.not_eq_false'])) ?_; simp only [go_sem, Bool.not_eq_true', Bool.not_eq_false', Int.reduceToNat, Int.reduceLT, Int.reduceLE, Int.reduceEq, Int.reduceAdd, Int.reduceSub, Int.reduceMul, Int.reduceNeg, Int.reduceNe, decide_false, Int.cast_ofNat_Int, kSet, List.getElem?_cons_succ, List.getElem?_cons_zero, List.set_cons_succ, List.set_cons_zero, exists_eq_left', forall_const, true_implies, List.length_map])
  refine ⟨fun q => absurd q (by omega), fun _ => ?_⟩
  (refine ret2 [] (by simp only [go_sem, Bool.not_eq_true', Bool.not_eq_false']; rfl) ?_; simp only [go_sem, Bool.not_eq_true', Bool.not_eq_false'])
def asciiB (s : ByteArray) : Bool := (List.range s.size).all (fun q => decide (byteAt s q ≤ 127))
theorem ascii_of (s : ByteArray) (h : asciiB s = true) : ascii s := fun q hq => of_decide_eq_true (List.all_eq_true.1 h q (List.mem_range.2 hq))
def rdS (s : ByteArray) : Option (List LNo) :=
  if asciiB s = true ∧ s.size ≤ 1000 then match tokS s (s.size + 1) 0 with
    | some l => if l.length ≤ 1000 then match nodesS l (l.length + 1) 0 with
      | some (ns, k) => if k = l.length then some ns else none
      | none => none
      else none
    | none => none
  else none
set_option maxRecDepth 100000 in
theorem rdS_ok (s : ByteArray) (ns : List LNo) (h : rdS s = some ns) : FnOk Try.prog 27 [.raw (.string s)] [] (.tup [.sl 20 (ns.map cNo), .raw (.int .i64 0), .raw (.int .i64 0)]) [] := by
  unfold rdS at h
  split at h
  case isFalse => cases h
  next ha =>
  split at h
  case h_2 => cases h
  next l h1 =>
  split at h
  case isFalse => cases h
  next hl =>
  split at h
  case h_2 => cases h
  next q k h2 =>
  split at h
  case isFalse => cases h
  next hk =>
  injection h with h
  subst h
  subst hk
  exact of5_ok s l q (ascii_of s ha.1) ha.2 h1 hl h2
def scr08 : ByteArray := { data := #[91, 105, 53, 32, 40, 49, 48, 32, 50, 32, 51, 48, 41, 91, 105, 54, 48, 32, 123, 51, 32, 52, 125, 93, 93, 123, 49, 32, 49, 125] }
def nds08 : List LNo := [⟨1, 4, ⟨0, 0, 0, 0, 5, 2, 2, 0, 0, 0, 0, 0⟩, 0, 0, [], 0, 0, 0⟩, ⟨2, 1, sty0, 10, 2, [30], 0, 0, 0⟩, ⟨1, 2, ⟨0, 0, 0, 0, 60, 2, 2, 0, 0, 0, 0, 0⟩, 0, 0, [], 0, 0, 0⟩, ⟨3, 1, sty0, 0, 0, [], 0, 3, 4⟩, ⟨3, 1, sty0, 0, 0, [], 0, 1, 1⟩]
theorem rd08 : rdS scr08 = some nds08 := by kernel_rfl
end Go.Proofs.Ytjkndjpkmkbnkaa
/- CHAPTER 16: rows that may be: plainly; the document's answer. -/
/- G -/
/- BOOLS -/
set_option linter.unusedSimpArgs false
set_option linter.unusedVariables false
namespace Go.Proofs.Ytjkndjpkmkbnkaa
open Go.RowKit

theorem tm_take : ∀ (r : List Int) (i : Int), r.take (tmG r i) = List.replicate (tmG r i) i
  | [], _ => by simp [tmG]
  | y :: r, i => by
    rw [tmG]
    split
    · next q => rw [List.take_succ_cons, List.replicate_succ, tm_take r i, q]
    · simp
theorem tm_count (r : List Int) (i v : Int) : r.count v = (if v = i then tmG r i else 0) + (r.drop (tmG r i)).count v := by
  conv => lhs; rw [← List.take_append_drop (tmG r i) r, List.count_append, tm_take]
  congr 1
  rw [List.count_replicate]
  by_cases q : v = i
  · subst q; simp
  · rw [if_neg q, if_neg (by simp; exact fun z => q z.symm)]
theorem drop_ge : ∀ (r : List Int) (i : Int), r.Pairwise (· ≤ ·) → (∀ x ∈ r, i ≤ x) → ∀ x ∈ r.drop (tmG r i), i + 1 ≤ x
  | [], i, _, _, x, hx => by simp [tmG] at hx
  | y :: r, i, hp, hg, x, hx => by
    rw [List.pairwise_cons] at hp
    rw [tmG] at hx
    split at hx
    · rw [List.drop_succ_cons] at hx
      exact drop_ge r i hp.2 (fun z hz => hg z (List.mem_cons_of_mem _ hz)) x hx
    · next q =>
      have := hg y List.mem_cons_self
      rw [List.drop_zero] at hx
      rcases List.mem_cons.1 hx with e | e
      · omega
      · have := hp.1 x e; omega
theorem pair_app {a b : List Int} (ha : a.Pairwise (· ≤ ·)) (hb : b.Pairwise (· ≤ ·)) (h : ∀ x ∈ a, ∀ y ∈ b, x ≤ y) : (a ++ b).Pairwise (· ≤ ·) := List.pairwise_append.2 ⟨ha, hb, h⟩
theorem mayG_sorted : ∀ (l : List LNo) (i : Nat) (r : List Int), mayG l i r = true → r.Pairwise (· ≤ ·)
  | [], i, r, h => by
    rw [mayG, decide_eq_true_eq] at h
    rw [List.eq_nil_of_length_eq_zero h]; exact List.Pairwise.nil
  | y :: l, i, r, h => by
    rw [mayG, Bool.and_eq_true] at h
    have ih := mayG_sorted l (i + 1) _ h.2
    have hr := mayG_ran l (i + 1) _ h.2
    rw [← List.take_append_drop (tmG r i) r]
    refine pair_app ?_ ih fun x hx z hz => ?_
    · rw [tm_take]
      exact List.pairwise_replicate.2 (.inr (Int.le_refl _))
    · rw [tm_take] at hx
      have := List.eq_of_mem_replicate hx
      have := hr z hz
      omega
theorem mayG_cnt : ∀ (l : List LNo) (i : Nat) (r : List Int), mayG l i r = true → ∀ j (hj : j < l.length), okT l[j] (r.count ((i + j : Nat) : Int)) = true
  | [], i, r, h, j, hj => absurd hj (Nat.not_lt_zero _)
  | y :: l, i, r, h, j, hj => by
    rw [mayG, Bool.and_eq_true] at h
    have hr := mayG_ran l (i + 1) _ h.2
    rw [tm_count r i]
    cases j with
    | zero =>
      have : (r.drop (tmG r i)).count ((i + 0 : Nat) : Int) = 0 := List.count_eq_zero.2 fun hm => by have := hr _ hm; omega
      rw [this, if_pos (by omega)]
      exact h.1
    | succ j =>
      rw [if_neg (by omega), Nat.zero_add, show i + (j + 1) = i + 1 + j by omega]
      exact mayG_cnt l (i + 1) _ h.2 j (by simpa using hj)
theorem mayG_of : ∀ (l : List LNo) (i : Nat) (r : List Int), r.Pairwise (· ≤ ·) → (∀ x ∈ r, (i : Int) ≤ x ∧ x < i + l.length) → (∀ j (hj : j < l.length), okT l[j] (r.count ((i + j : Nat) : Int)) = true) → mayG l i r = true
  | [], i, r, _, h, _ => by
    cases r with
    | nil => rfl
    | cons x r => have := h x List.mem_cons_self; simp only [List.length_nil] at this; omega
  | y :: l, i, r, hp, h, hc => by
    have hd := drop_ge r i hp (fun x hx => (h x hx).1)
    have h0 := hc 0 (by simp)
    rw [tm_count r i, if_pos (by omega), List.count_eq_zero.2 (fun hm => by have := hd _ hm; omega)] at h0
    rw [mayG, Bool.and_eq_true]
    refine ⟨h0, mayG_of l (i + 1) _ (hp.drop) (fun x hx => ⟨by have := hd x hx; omega, ?_⟩) fun j hj => ?_⟩
    · have := (h x (List.mem_of_mem_drop hx)).2
      simp only [List.length_cons] at this
      omega
    · have := hc (j + 1) (by simpa using hj)
      rw [tm_count r i, if_neg (by omega), Nat.zero_add, show i + (j + 1) = i + 1 + j by omega] at this
      exact this
/-- a row that may be. -/
structure RowP (l : List LNo) (of : List Int) : Prop where
  has : ∀ k (h : k < of.length), 0 ≤ of[k] ∧ of[k] < l.length
  kind : ∀ k (h : k < of.length), kinN l of[k].toNat = 2 ∨ kinN l of[k].toNat = 3
  le : ∀ j k (h1 : j < of.length) (h2 : k < of.length), j < k → of[j] ≤ of[k]
  cnt : ∀ j (h : j < l.length), okT l[j] (of.count (j : Int)) = true
theorem chk_row {l : List LNo} {of : List Int} (h : chkB l of = true) : RowP l of := by
  rw [chkB, Bool.and_eq_true] at h
  have h1 := mayG_ran l 0 of h.2
  have h2 := mayG_sorted l 0 of h.2
  have h3 : ∀ j (hj : j < l.length), okT l[j] (of.count (j : Int)) = true := fun j hj => by
    have := mayG_cnt l 0 of h.2 j hj
    rwa [Nat.zero_add] at this
  have h4 : ∀ k (h : k < of.length), 0 ≤ of[k] ∧ of[k] < l.length := fun k hk => by have := h1 _ (List.getElem_mem hk); omega
  refine ⟨h4, fun k hk => ?_, fun j k a b hjk => List.pairwise_iff_getElem.1 h2 j k a b hjk, h3⟩
  have h5 := h4 k hk
  have h6 : of[k].toNat < l.length := by omega
  have h7 := h3 _ h6
  have h8 : 0 < of.count ((of[k].toNat : Nat) : Int) := by
    rw [List.count_pos_iff, Int.toNat_of_nonneg h5.1]
    exact List.getElem_mem hk
  rw [kinN_get h6]
  unfold okT at h7
  split at h7
  · left; assumption
  · split at h7
    · right; assumption
    · rw [decide_eq_true_eq] at h7; omega
theorem row_chk {l : List LNo} {of : List Int} (hv : isS l = true) (h : RowP l of) : chkB l of = true := by
  rw [chkB, Bool.and_eq_true]
  refine ⟨hv, mayG_of l 0 of (List.pairwise_iff_getElem.2 fun i j a b hij => h.le i j a b hij) (fun x hx => ?_) fun j hj => ?_⟩
  · obtain ⟨k, hk, rfl⟩ := List.getElem_of_mem hx
    have := h.has k hk
    omega
  · have := h.cnt j hj
    rwa [Nat.zero_add]
theorem row_of {l : List LNo} {of : List Int} (h1 : ∀ k (h : k < of.length), 0 ≤ of[k] ∧ of[k] < l.length) (h2 : ∀ k (h : k < of.length), kinN l of[k].toNat = 2 ∨ kinN l of[k].toNat = 3) (h3 : ∀ k (h : k + 1 < of.length), of[k]'(by omega) ≤ of[k + 1])
    (h4 : ∀ j (h : j < l.length), (l[j].kind = 2 → 1 ≤ of.count (j : Int) ∧ of.count (j : Int) ≤ l[j].words.length) ∧ (l[j].kind = 3 → of.count (j : Int) = 1)) : RowP l of := by
  refine ⟨h1, h2, ?_, fun j hj => ?_⟩
  · intro j k
    induction k with
    | zero => intro _ _ h; exact absurd h (Nat.not_lt_zero _)
    | succ k ih =>
      intro a b hjk
      have := h3 k b
      by_cases q : j = k
      · subst q; exact this
      · have := ih a (by omega) (by omega)
        omega
  · unfold okT
    have h := h4 j hj
    split
    · next q => have := h.1 q; simp [this.1, this.2]
    · next q =>
      split
      · next q3 => simp [h.2 q3]
      · next q3 =>
        rw [decide_eq_true_eq, List.count_eq_zero]
        intro hm
        obtain ⟨k, hk, e⟩ := List.getElem_of_mem hm
        have := h2 k hk
        rw [e, Int.toNat_natCast, kinN_get hj] at this
        omega
end Go.Proofs.Ytjkndjpkmkbnkaa
/- CHAPTER 16: the document's answer: Check. -/
/- G -/
/- BOOLS -/
set_option linter.unusedSimpArgs false
set_option linter.unusedVariables false
namespace Go.Proofs.Ytjkndjpkmkbnkaa
open Go.RowKit

end Go.Proofs.Ytjkndjpkmkbnkaa
/- CHAPTER 16: the document's answer: Holds, At, Held, Same. -/
/- G -/
/- BOOLS -/
set_option linter.unusedSimpArgs false
set_option linter.unusedVariables false
namespace Go.Proofs.Ytjkndjpkmkbnkaa
open Go.RowKit

def fltR (p : Nat → Bool) (n : Nat) : List Int := ((List.range n).filter p).map (fun i : Nat => (i : Int))
theorem fltR_zero (p : Nat → Bool) : fltR p 0 = [] := by simp [fltR]
theorem fltR_succ (p : Nat → Bool) (k : Nat) : fltR p (k + 1) = if p k = true then fltR p k ++ [(k : Int)] else fltR p k := by
  unfold fltR
  rw [List.range_succ, List.filter_append, List.map_append]
  split
  · next h => simp [h]
  · next h => simp [h]
theorem fltR_len (p : Nat → Bool) (k : Nat) : (fltR p k).length ≤ k := by
  unfold fltR
  rw [List.length_map]
  have := List.length_filter_le p (List.range k)
  rw [List.length_range] at this
  exact this
def blkB (l : List LNo) (i : Nat) : Bool := decide (kinN l i = 1)
def kinR (l : List LNo) (of : List Int) (k : Int) (n : Nat) : LKin := ⟨(fltR (fun i => blkB l i && (hldK l of i (k - 1) && !hldK l of i k)) n).reverse, fltR (fun i => blkB l i && (hldK l of i k && !hldK l of i (k - 1))) n, (fltR (fun i => blkB l i && (hldK l of i (k - 1) && hldK l of i k)) n).reverse, txtK of k⟩
structure LZk where
  k : Nat
  e : List Int
  b : List Int
  d : List Int
end Go.Proofs.Ytjkndjpkmkbnkaa
/- CHAPTER 16: the plain law: the program's kin are the answer's; the answer's Held. -/
/- G -/
/- BOOLS -/
set_option linter.unusedSimpArgs false
set_option linter.unusedVariables false
namespace Go.Proofs.Ytjkndjpkmkbnkaa
open Go.RowKit

theorem fltR_congr {p q : Nat → Bool} {n : Nat} (h : ∀ i, i < n → p i = q i) : fltR p n = fltR q n := by
  unfold fltR
  rw [List.filter_congr fun i hi => h i (List.mem_range.1 hi)]
theorem fltR_tail {q : Nat → Bool} {x : Nat} : ∀ {n : Nat}, x ≤ n → (∀ i, x ≤ i → i < n → q i = false) → fltR q n = fltR q x
  | 0, hx, _ => by rw [show x = 0 by omega]
  | n + 1, hx, h => by
    by_cases e : x = n + 1
    · rw [e]
    · rw [fltR_succ, h n (by omega) (by omega)]
      simp only [Bool.false_eq_true, if_false]
      exact fltR_tail (by omega) fun i a b => h i a (by omega)
theorem abvD_flt (l : List LNo) (a : Int) : ∀ k, abvD l a k = (fltR (fun i => decide (a < i + sizN l i)) k).reverse
  | 0 => by simp [abvD, fltR_zero]
  | k + 1 => by
    rw [abvD, fltR_succ, abvD_flt l a k]
    by_cases h : a < k + sizN l k
    · rw [if_pos h, if_pos (by rw [decide_eq_true_eq]; exact h), List.reverse_append]; rfl
    · rw [if_neg h, if_neg (by rw [decide_eq_true_eq]; exact h)]
theorem leaf_siz {l : List LNo} (h : isS l = true) {i : Nat} (hi : i < l.length) (h1 : 1 < sizN l i) : kinN l i = 1 := by
  have := isG_leaf l 0 _ h l[i] (List.getElem_mem hi)
  rw [sizN_get hi] at h1
  rw [kinN_get hi]
  unfold leafB at this
  simp only [Bool.not_eq_true', Bool.and_eq_false_iff, decide_eq_false_iff_not] at this
  omega
theorem abv_flt {l : List LNo} (h : isS l = true) {x : Nat} (hx : x < l.length) (hk : kinN l x ≠ 1) : abvN l x = (fltR (fun i => blkB l i && holN l i x) l.length).reverse := by
  have h2 : hasN l x = true := hasN_iff.2 (by omega)
  rw [abv_eq h, abvR, if_pos h2, Int.toNat_natCast, abvD_flt]
  congr 1
  rw [fltR_tail (q := fun i => blkB l i && holN l i x) (x := x) (n := l.length) (by omega) (fun i h3 h4 => ?_)]
  · refine fltR_congr fun i hi => ?_
    have e := holN_eq (l := l) (a := i) (b := x) (by omega) h2
    rw [e, ← sizN_get (by omega : i < l.length)]
    by_cases q : (x : Int) < i + sizN l i
    · have := leaf_siz h (by omega : i < l.length) (by omega)
      have e3 : (i : Int) ≤ x := by omega
      simp [blkB, this, q, e3]
    · simp [q]
  · by_cases q : i = x
    · subst q; simp [blkB, hk]
    · have e := holN_eq (l := l) (a := i) (b := x) h4 h2
      have : ¬ ((i : Int) ≤ x) := by omega
      rw [e]
      simp [this]
theorem filter_fltR (q : Int → Bool) (p : Nat → Bool) (n : Nat) : (fltR p n).filter q = fltR (fun i => p i && q i) n := by
  unfold fltR
  rw [List.filter_map, List.filter_filter]
  congr 1
  exact List.filter_congr fun i _ => by simp [Bool.and_comm]
theorem cho_flt {l : List LNo} {of : List Int} (hv : isS l = true) (hr : RowP l of) (a : Int) (q : Int → Bool) : choS l of a q = (fltR (fun i => blkB l i && (hldK l of i a && q i)) l.length).reverse := by
  unfold choS
  split
  · next h =>
    have hk : a.toNat < of.length := by omega
    have e : of.getD a.toNat 0 = of[a.toNat] := by simp [List.getD_eq_getElem?_getD, hk]
    have h1 := hr.has _ hk
    have h2 := hr.kind _ hk
    have h3 : ∀ i : Nat, hldK l of i a = holN l i of[a.toNat] := fun i => by
      unfold hldK
      rw [e]
      have a1 : (0 : Int) ≤ a := h.1
      have a2 : a < of.length := h.2
      simp [a1, a2]
    rw [e]
    obtain ⟨x, hx⟩ : ∃ x : Nat, of[a.toNat] = x := ⟨of[a.toNat].toNat, by omega⟩
    rw [hx] at h1 h2 h3 ⊢
    rw [Int.toNat_natCast] at h2
    rw [abv_flt hv (by omega) (by omega), List.filter_reverse, filter_fltR]
    congr 1
    exact fltR_congr fun i _ => by rw [h3, Bool.and_assoc]
  · next h =>
    have : ∀ i : Nat, hldK l of i a = false := fun i => by
      simp only [hldK, Bool.and_eq_false_iff, decide_eq_false_iff_not]; omega
    rw [fltR_tail (x := 0) (Nat.zero_le _) fun i _ _ => by rw [this]; simp, fltR_zero]; rfl
theorem kin_eq {l : List LNo} {of : List Int} (hv : isS l = true) (hr : RowP l of) (k : Int) : kinS l of k = kinR l of k l.length := by
  unfold kinS kinR
  rw [cho_flt hv hr, cho_flt hv hr, cho_flt hv hr, List.reverse_reverse]
  congr 2
  exact fltR_congr fun i _ => by rw [Bool.and_comm (hldK l of i k)]
theorem whl_is {q : Int → Bool} : ∀ {r : List Int} {m : Nat}, m ≤ r.length → (∀ j (h : j < r.length), j < m → q r[j] = true) → (∀ h : m < r.length, q r[m] = false) → whl q r = m
  | [], m, h, _, _ => by simp at h; rw [h]; rfl
  | x :: r, 0, _, _, h => by
    have := h (by simp)
    rw [whl, if_neg]
    simp only [List.getElem_cons_zero] at this
    rw [this]; decide
  | x :: r, m + 1, h, h1, h2 => by
    have e := h1 0 (by simp) (by omega)
    rw [whl, if_pos (by simpa using e), whl_is (by simpa using h) (fun j hj hm => by have := h1 (j + 1) (by simpa using hj) (by omega); simpa using this) (fun hm => by have := h2 (by simpa using hm); simpa using this)]
/-- what is held, from a place on. -/
def HelP (q : Int → Bool) (of : List Int) (i : Nat) (f t : Int) : Prop :=
  ((∀ j (h : j < of.length), i ≤ j → q of[j] = false) ∧ f = 0 ∧ t = 0) ∨
  ∃ a b : Nat, f = a ∧ t = b ∧ i ≤ a ∧ a < b ∧ b ≤ of.length ∧ (∀ h : a < of.length, q of[a] = true) ∧ (∀ h : b - 1 < of.length, q of[b - 1] = true) ∧ (∀ j (h : j < of.length), i ≤ j → j < a → q of[j] = false) ∧ (∀ j (h : j < of.length), b ≤ j → q of[j] = false)
theorem hel_held {l : List LNo} {of : List Int} (hr : RowP l of) {b : Nat} (hb : b < l.length) {f t : Int} (h : HelP (holN l b) of 0 f t) : heldS l of b = (f, t) := by
  unfold heldS
  rcases h with ⟨h1, rfl, rfl⟩ | ⟨a, c, rfl, rfl, h1, h2, h3, h4, h5, h6, h7⟩
  · rw [idxI_no fun j hj => h1 j hj (Nat.zero_le _)]; rfl
  · have ha : a < of.length := by omega
    rw [idxI_at ha (fun j hj hlt => h6 j hj (Nat.zero_le _) hlt) (h4 ha), if_neg (by omega), Int.toNat_natCast]
    have hhas : ∀ j (h : j < of.length), hasN l of[j] = true := fun j h => hasN_iff.2 (hr.has j h)
    have q1 := h4 ha
    have q2 := h5 (by omega)
    rw [holN_eq hb (hhas _ _), Bool.and_eq_true, decide_eq_true_eq, decide_eq_true_eq] at q1 q2
    have e : whl (holN l b) (of.drop a) = c - a := by
      refine whl_is (by rw [List.length_drop]; omega) (fun j hj hlt => ?_) (fun hj => ?_)
      · rw [List.length_drop] at hj
        rw [List.getElem_drop, holN_eq hb (hhas _ _), Bool.and_eq_true, decide_eq_true_eq, decide_eq_true_eq]
        have m1 : of[a] ≤ of[a + j]'(by omega) := by
          by_cases z : j = 0
          · subst z; exact Int.le_refl _
          · exact hr.le a (a + j) ha (by omega) (by omega)
        have m2 : of[a + j]'(by omega) ≤ of[c - 1]'(by omega) := by
          by_cases z : a + j = c - 1
          · simp only [z]; exact Int.le_refl _
          · exact hr.le (a + j) (c - 1) (by omega) (by omega) (by omega)
        omega
      · rw [List.length_drop] at hj
        rw [List.getElem_drop]
        have : a + (c - a) = c := by omega
        simp only [this]
        exact h7 c (by omega) (Nat.le_refl _)
    rw [e]
    congr 1
    omega
structure LHe where
  n : Nat
  f : Int
  t : Int
end Go.Proofs.Ytjkndjpkmkbnkaa
/- CHAPTER 16: the laws' own functions; the chapter's examples. -/
/- G -/
/- BOOLS -/
set_option linter.unusedSimpArgs false
set_option linter.unusedVariables false
namespace Go.Proofs.Ytjkndjpkmkbnkaa
open Go.RowKit

def vst2 (l : List LNo) (of : List Int) : Bool := decide (60 < l.length) || (decide (200 < of.length) || l.any (fun x => decide (100 < x.words.length)))
theorem vst2_no {l : List LNo} {of : List Int} (h : vst2 l of = false) : l.length ≤ 60 ∧ of.length ≤ 200 ∧ ∀ x ∈ l, x.words.length ≤ 100 := by
  simp only [vst2, Bool.or_eq_false_iff, decide_eq_false_iff_not, List.any_eq_false, decide_eq_true_eq] at h
  exact ⟨by omega, by omega, fun x hx => by have := h.2.2 x hx; omega⟩
end Go.Proofs.Ytjkndjpkmkbnkaa
/- CHAPTER 16: the chapter's examples. -/
/- G -/
/- BOOLS -/
set_option linter.unusedSimpArgs false
set_option linter.unusedVariables false
namespace Go.Proofs.Ytjkndjpkmkbnkaa
open Go.RowKit

theorem hw_of {l : List LNo} (h : l.all (fun x => decide (x.words.length ≤ 100)) = true) : ∀ x ∈ l, x.words.length ≤ 9223372036854775807 := fun x hx => by
  have := of_decide_eq_true (List.all_eq_true.1 h x hx)
  omega
def sKin (x : LKin) : AV := .agg [.sl 1 (x.ends.map cInt), .sl 1 (x.begins.map cInt), .sl 1 (x.both.map cInt), .raw (.int .i64 x.text)]
attribute [go_sem] sKin
theorem kinA_len (l : List LNo) (of : List Int) (k : Int) : (kinA l of k).ends.length ≤ l.length ∧ (kinA l of k).begins.length ≤ l.length ∧ (kinA l of k).both.length ≤ l.length := by
  unfold kinA
  split
  · next h =>
    rw [kinG, Bool.and_eq_true] at h
    have hv := (chk_has h.1).1
    unfold kinS
    simp only [List.length_reverse]
    exact ⟨choS_len _ _ _ _ hv, choS_len _ _ _ _ hv, choS_len _ _ _ _ hv⟩
  · simp [kin0]
def scr16 : ByteArray := { data := #[91, 32, 40, 49, 32, 48, 32, 53, 32, 53, 41, 32, 91, 32, 123, 49, 32, 49, 125, 32, 93, 32, 93, 32, 123, 50, 32, 50, 125] }
def nds16 : List LNo := [⟨1, 4, sty2, 0, 0, [], 0, 0, 0⟩, ⟨2, 1, sty0, 1, 0, [5, 5], 0, 0, 0⟩, ⟨1, 2, sty2, 0, 0, [], 0, 0, 0⟩, ⟨3, 1, sty0, 0, 0, [], 0, 1, 1⟩, ⟨3, 1, sty0, 0, 0, [], 0, 2, 2⟩]
theorem rd16 : rdS scr16 = some nds16 := by kernel_rfl
theorem of16 : FnOk Try.prog 27 [.raw (.string { data := #[91, 32, 40, 49, 32, 48, 32, 53, 32, 53, 41, 32, 91, 32, 123, 49, 32, 49, 125, 32, 93, 32, 93, 32, 123, 50, 32, 50, 125] })] [] (.tup [.sl 20 (nds16.map cNo), .raw (.int .i64 0), .raw (.int .i64 0)]) [] := rdS_ok scr16 nds16 rd16
theorem w16 : ∀ x ∈ nds16, x.words.length ≤ 9223372036854775807 := hw_of (by kernel_rfl)
theorem y3 {a b c : List Int} (h : (Nat.ble a.length 1000 && Nat.ble b.length 1000 && Nat.ble c.length 1000) = true) : a.length ≤ 1000 ∧ b.length ≤ 1000 ∧ c.length ≤ 1000 := by
  simp only [Bool.and_eq_true] at h
  exact ⟨Nat.le_of_ble_eq_true h.1.1, Nat.le_of_ble_eq_true h.1.2, Nat.le_of_ble_eq_true h.2⟩
end Go.Proofs.Ytjkndjpkmkbnkaa
/- CHAPTER 20: the examples; the law HeadsStay. -/
/- G -/
/- BOOLS -/
set_option linter.unusedSimpArgs false
set_option linter.unusedVariables false
namespace Go.Proofs.Ytjkndjpkmkbnkaa
open Go.RowKit

def scr20 : ByteArray := { data := #[91, 104, 51, 48, 91, 104, 53, 48, 91, 104, 49, 48, 123, 50, 48, 32, 56, 125, 93, 93, 123, 53, 32, 53, 125, 93] }
def nds20 : List LNo := [⟨1, 5, ⟨0, 0, 0, 0, 0, 2, 2, 30, 0, 0, 0, 0⟩, 0, 0, [], 0, 0, 0⟩, ⟨1, 3, ⟨0, 0, 0, 0, 0, 2, 2, 50, 0, 0, 0, 0⟩, 0, 0, [], 0, 0, 0⟩, ⟨1, 2, ⟨0, 0, 0, 0, 0, 2, 2, 10, 0, 0, 0, 0⟩, 0, 0, [], 0, 0, 0⟩, ⟨3, 1, sty0, 0, 0, [], 0, 20, 8⟩, ⟨3, 1, sty0, 0, 0, [], 0, 5, 5⟩]
theorem rd20 : rdS scr20 = some nds20 := by kernel_rfl
theorem of20 : FnOk Try.prog 27 [.raw (.string { data := #[91, 104, 51, 48, 91, 104, 53, 48, 91, 104, 49, 48, 123, 50, 48, 32, 56, 125, 93, 93, 123, 53, 32, 53, 125, 93] })] [] (.tup [.sl 20 (nds20.map cNo), .raw (.int .i64 0), .raw (.int .i64 0)]) [] := rdS_ok scr20 nds20 rd20
theorem w20 : ∀ x ∈ nds20, x.words.length ≤ 9223372036854775807 := hw_of (by kernel_rfl)

set_option maxRecDepth 100000 in
set_option maxHeartbeats 4000000 in
theorem stays20_ok (l : List LNo) (a h : Int) (z : LRs) (hl : l.length ≤ 1000) (hw : ∀ x ∈ l, x.words.length ≤ 9223372036854775807) (hz : z.hs.length ≤ 1000) (e : ofH l a h = z) : FnOk Try.prog 28 [.sl 20 (l.map cNo), .raw (.int .i64 a), .raw (.int .i64 h), .raw (.int .i64 z.hi), .raw (.int .i64 z.bo), .sl 1 (z.hs.map cInt)] [] (.raw (.bool true)) [] := by
  refine fn_of_awp Try.func28 rfl (by kernel_rfl) (by kernel_rfl) (Nat.le_of_ble_eq_true rfl) Try.results28 ?_
  simp only [go_sem, Bool.not_eq_true', Bool.not_eq_false']
  (refine acall2 [] (ofH_ok l a h hl hw) (by simp only [go_sem, Bool.not_eq_true', Bool.not_eq_false']; rfl) (fit_of (by simp only [go_sem, Bool.not_eq_true', Bool.not_eq_false']) (by simp only [go_sem, Bool.not_eq_true', Bool.not_eq_false']) (by simp only [go_sem, Bool.not_eq_true', Bool.not_eq_false']) (by simp only [go_sem, Bool.not_eq_true', Bool.not_eq_false']) (by simp only [go_sem, Bool.not_eq_true', Bool.not_eq_false']) (by simp only [go_sem, Bool.not_eq_true', Bool.not_eq_false']) (by simp only [go_sem, Bool.not_eq_true', Bool.not_eq_false'])) ?_; simp only [go_sem, Bool.not_eq_true', Bool.not_eq_false'])
  rw [e]
  (refine acallF2 [40 ] [] ( rsame20_ok z hz) (by simp only [go_sem, Bool.not_eq_true', Bool.not_eq_false']; rfl) (fit_of (by simp only [go_sem, Bool.not_eq_true', Bool.not_eq_false']) (by simp only [go_sem, Bool.not_eq_true', Bool.not_eq_false']) (by simp only [go_sem, Bool.not_eq_true', Bool.not_eq_false']) (by simp only [go_sem, Bool.not_eq_true', Bool.not_eq_false']) (by simp only [go_sem, Bool.not_eq_true', Bool.not_eq_false']) (by simp only [go_sem, Bool.not_eq_true', Bool.not_eq_false']) (by simp only [go_sem, Bool.not_eq_true', Bool.not_eq_false'])) ?_; simp only [go_sem, Bool.not_eq_true', Bool.not_eq_false'])
theorem st20 (a h : Int) (z : LRs) (e : decide (ofH nds20 a h = z) = true) (hz : decide (z.hs.length ≤ 1000) = true) : FnOk Try.prog 28 [.sl 20 (nds20.map cNo), .raw (.int .i64 a), .raw (.int .i64 h), .raw (.int .i64 z.hi), .raw (.int .i64 z.bo), .sl 1 (z.hs.map cInt)] [] (.raw (.bool true)) [] := stays20_ok nds20 a h z (Nat.le_of_ble_eq_true rfl) w20 (of_decide_eq_true hz) (of_decide_eq_true e)
theorem le20 (h r : Int) (e : decide (leaH nds20 h = r) = true) : FnOk Try.prog 12 [.sl 20 (nds20.map cNo), .raw (.int .i64 h)] [] (.raw (.int .i64 r)) [] := by
  have := leaH_ok nds20 h (Nat.le_of_ble_eq_true rfl) w20
  rw [of_decide_eq_true e] at this
  exact this
set_option maxRecDepth 100000 in
set_option maxHeartbeats 8000000 in
theorem awake20_ok : FnOk Try.prog 8 [] [] (.raw (.bool true)) [] := by
  refine fn_of_awp Try.func8 rfl (by kernel_rfl) (by kernel_rfl) (Nat.le_of_ble_eq_true rfl) Try.results8 ?_
  simp only [go_sem, Bool.not_eq_true', Bool.not_eq_false']
  (refine acall2 [] (of20) (by simp only [go_sem, Bool.not_eq_true', Bool.not_eq_false']; rfl) (fit_of (by simp only [go_sem, Bool.not_eq_true', Bool.not_eq_false']) (by simp only [go_sem, Bool.not_eq_true', Bool.not_eq_false']) (by simp only [go_sem, Bool.not_eq_true', Bool.not_eq_false']) (by simp only [go_sem, Bool.not_eq_true', Bool.not_eq_false']) (by simp only [go_sem, Bool.not_eq_true', Bool.not_eq_false']) (by simp only [go_sem, Bool.not_eq_true', Bool.not_eq_false']) (by simp only [go_sem, Bool.not_eq_true', Bool.not_eq_false'])) ?_; simp only [go_sem, Bool.not_eq_true', Bool.not_eq_false'])
  (refine acallF2 [88 ] [] ( st20 3 100 ⟨[0, 1, 2], 90, 10⟩ (by kernel_rfl) (by kernel_rfl)) (by simp only [go_sem, Bool.not_eq_true', Bool.not_eq_false']; rfl) (fit_of (by simp only [go_sem, Bool.not_eq_true', Bool.not_eq_false']) (by simp only [go_sem, Bool.not_eq_true', Bool.not_eq_false']) (by simp only [go_sem, Bool.not_eq_true', Bool.not_eq_false']) (by simp only [go_sem, Bool.not_eq_true', Bool.not_eq_false']) (by simp only [go_sem, Bool.not_eq_true', Bool.not_eq_false']) (by simp only [go_sem, Bool.not_eq_true', Bool.not_eq_false']) (by simp only [go_sem, Bool.not_eq_true', Bool.not_eq_false'])) ?_; simp only [go_sem, Bool.not_eq_true', Bool.not_eq_false', Int.reduceToNat, Int.reduceLT, Int.reduceLE, Int.reduceEq, Int.reduceAdd, Int.reduceSub, Int.reduceMul, Int.reduceNeg, Int.reduceNe, decide_false, Int.cast_ofNat_Int, kSet, List.getElem?_cons_succ, List.getElem?_cons_zero, List.set_cons_succ, List.set_cons_zero, exists_eq_left', forall_const, true_implies, List.map])
  (refine acallF2 [120 ] [] ( st20 3 90 ⟨[0, 1], 80, 10⟩ (by kernel_rfl) (by kernel_rfl)) (by simp only [go_sem, Bool.not_eq_true', Bool.not_eq_false']; rfl) (fit_of (by simp only [go_sem, Bool.not_eq_true', Bool.not_eq_false']) (by simp only [go_sem, Bool.not_eq_true', Bool.not_eq_false']) (by simp only [go_sem, Bool.not_eq_true', Bool.not_eq_false']) (by simp only [go_sem, Bool.not_eq_true', Bool.not_eq_false']) (by simp only [go_sem, Bool.not_eq_true', Bool.not_eq_false']) (by simp only [go_sem, Bool.not_eq_true', Bool.not_eq_false']) (by simp only [go_sem, Bool.not_eq_true', Bool.not_eq_false'])) ?_; simp only [go_sem, Bool.not_eq_true', Bool.not_eq_false', Int.reduceToNat, Int.reduceLT, Int.reduceLE, Int.reduceEq, Int.reduceAdd, Int.reduceSub, Int.reduceMul, Int.reduceNeg, Int.reduceNe, decide_false, Int.cast_ofNat_Int, kSet, List.getElem?_cons_succ, List.getElem?_cons_zero, List.set_cons_succ, List.set_cons_zero, exists_eq_left', forall_const, true_implies, List.map])
  (refine acallF2 [160 ] [] ( st20 3 80 ⟨[0, 2], 40, 40⟩ (by kernel_rfl) (by kernel_rfl)) (by simp only [go_sem, Bool.not_eq_true', Bool.not_eq_false']; rfl) (fit_of (by simp only [go_sem, Bool.not_eq_true', Bool.not_eq_false']) (by simp only [go_sem, Bool.not_eq_true', Bool.not_eq_false']) (by simp only [go_sem, Bool.not_eq_true', Bool.not_eq_false']) (by simp only [go_sem, Bool.not_eq_true', Bool.not_eq_false']) (by simp only [go_sem, Bool.not_eq_true', Bool.not_eq_false']) (by simp only [go_sem, Bool.not_eq_true', Bool.not_eq_false']) (by simp only [go_sem, Bool.not_eq_true', Bool.not_eq_false'])) ?_; simp only [go_sem, Bool.not_eq_true', Bool.not_eq_false', Int.reduceToNat, Int.reduceLT, Int.reduceLE, Int.reduceEq, Int.reduceAdd, Int.reduceSub, Int.reduceMul, Int.reduceNeg, Int.reduceNe, decide_false, Int.cast_ofNat_Int, kSet, List.getElem?_cons_succ, List.getElem?_cons_zero, List.set_cons_succ, List.set_cons_zero, exists_eq_left', forall_const, true_implies, List.map])
  (refine acall2 [] (st20 4 30 ⟨[], 0, 30⟩ (by kernel_rfl) (by kernel_rfl)) (by simp only [go_sem, Bool.not_eq_true', Bool.not_eq_false']; rfl) (fit_of (by simp only [go_sem, Bool.not_eq_true', Bool.not_eq_false']) (by simp only [go_sem, Bool.not_eq_true', Bool.not_eq_false']) (by simp only [go_sem, Bool.not_eq_true', Bool.not_eq_false']) (by simp only [go_sem, Bool.not_eq_true', Bool.not_eq_false']) (by simp only [go_sem, Bool.not_eq_true', Bool.not_eq_false']) (by simp only [go_sem, Bool.not_eq_true', Bool.not_eq_false']) (by simp only [go_sem, Bool.not_eq_true', Bool.not_eq_false'])) ?_; simp only [go_sem, Bool.not_eq_true', Bool.not_eq_false', Int.reduceToNat, Int.reduceLT, Int.reduceLE, Int.reduceEq, Int.reduceAdd, Int.reduceSub, Int.reduceMul, Int.reduceNeg, Int.reduceNe, decide_false, Int.cast_ofNat_Int, kSet, List.getElem?_cons_succ, List.getElem?_cons_zero, List.set_cons_succ, List.set_cons_zero, exists_eq_left', forall_const, true_implies, List.map])
  (refine acall2 [] (st20 0 9 ⟨[], 0, 9⟩ (by kernel_rfl) (by kernel_rfl)) (by simp only [go_sem, Bool.not_eq_true', Bool.not_eq_false']; rfl) (fit_of (by simp only [go_sem, Bool.not_eq_true', Bool.not_eq_false']) (by simp only [go_sem, Bool.not_eq_true', Bool.not_eq_false']) (by simp only [go_sem, Bool.not_eq_true', Bool.not_eq_false']) (by simp only [go_sem, Bool.not_eq_true', Bool.not_eq_false']) (by simp only [go_sem, Bool.not_eq_true', Bool.not_eq_false']) (by simp only [go_sem, Bool.not_eq_true', Bool.not_eq_false']) (by simp only [go_sem, Bool.not_eq_true', Bool.not_eq_false'])) ?_; simp only [go_sem, Bool.not_eq_true', Bool.not_eq_false', Int.reduceToNat, Int.reduceLT, Int.reduceLE, Int.reduceEq, Int.reduceAdd, Int.reduceSub, Int.reduceMul, Int.reduceNeg, Int.reduceNe, decide_false, Int.cast_ofNat_Int, kSet, List.getElem?_cons_succ, List.getElem?_cons_zero, List.set_cons_succ, List.set_cons_zero, exists_eq_left', forall_const, true_implies, List.map])
  (refine acall2 [] (le20 100 10 (by kernel_rfl)) (by simp only [go_sem, Bool.not_eq_true', Bool.not_eq_false']; rfl) (fit_of (by simp only [go_sem, Bool.not_eq_true', Bool.not_eq_false']) (by simp only [go_sem, Bool.not_eq_true', Bool.not_eq_false']) (by simp only [go_sem, Bool.not_eq_true', Bool.not_eq_false']) (by simp only [go_sem, Bool.not_eq_true', Bool.not_eq_false']) (by simp only [go_sem, Bool.not_eq_true', Bool.not_eq_false']) (by simp only [go_sem, Bool.not_eq_true', Bool.not_eq_false']) (by simp only [go_sem, Bool.not_eq_true', Bool.not_eq_false'])) ?_; simp only [go_sem, Bool.not_eq_true', Bool.not_eq_false', Int.reduceToNat, Int.reduceLT, Int.reduceLE, Int.reduceEq, Int.reduceAdd, Int.reduceSub, Int.reduceMul, Int.reduceNeg, Int.reduceNe, decide_false, Int.cast_ofNat_Int, kSet, List.getElem?_cons_succ, List.getElem?_cons_zero, List.set_cons_succ, List.set_cons_zero, exists_eq_left', forall_const, true_implies, List.map])
  (refine acall2 [] (le20 80 40 (by kernel_rfl)) (by simp only [go_sem, Bool.not_eq_true', Bool.not_eq_false']; rfl) (fit_of (by simp only [go_sem, Bool.not_eq_true', Bool.not_eq_false']) (by simp only [go_sem, Bool.not_eq_true', Bool.not_eq_false']) (by simp only [go_sem, Bool.not_eq_true', Bool.not_eq_false']) (by simp only [go_sem, Bool.not_eq_true', Bool.not_eq_false']) (by simp only [go_sem, Bool.not_eq_true', Bool.not_eq_false']) (by simp only [go_sem, Bool.not_eq_true', Bool.not_eq_false']) (by simp only [go_sem, Bool.not_eq_true', Bool.not_eq_false'])) ?_; simp only [go_sem, Bool.not_eq_true', Bool.not_eq_false', Int.reduceToNat, Int.reduceLT, Int.reduceLE, Int.reduceEq, Int.reduceAdd, Int.reduceSub, Int.reduceMul, Int.reduceNeg, Int.reduceNe, decide_false, Int.cast_ofNat_Int, kSet, List.getElem?_cons_succ, List.getElem?_cons_zero, List.set_cons_succ, List.set_cons_zero, exists_eq_left', forall_const, true_implies, List.map])
set_option maxRecDepth 100000 in
set_option maxHeartbeats 8000000 in
theorem headsStay_ok (l : List LNo) (a h : Int) (hi : l.length ≤ 9223372036854775807 ∧ ∀ x ∈ l, x.words.length ≤ 9223372036854775807) : FnOk Try.prog 3 [.sl 20 (l.map cNo), .raw (.int .i64 a), .raw (.int .i64 h)] [] (.raw (.bool true)) [] := by
  obtain ⟨-, hw⟩ := hi
  refine fn_of_swp Try.func3 rfl (by kernel_rfl) (by kernel_rfl) (Nat.le_of_ble_eq_true rfl) Try.results3 ?_
  (refine swp_seqW ?_; simp only [go_sem, Bool.not_eq_true', Bool.not_eq_false'])
  (refine swp_seqW ?_; simp only [go_sem, Bool.not_eq_true', Bool.not_eq_false', List.length_map])
  refine ⟨fun h1 => ?_, fun h1 => ?_⟩
  · (refine acall2 [] (awake20_ok) (by simp only [go_sem, Bool.not_eq_true', Bool.not_eq_false']; rfl) (fit_of (by simp only [go_sem, Bool.not_eq_true', Bool.not_eq_false']) (by simp only [go_sem, Bool.not_eq_true', Bool.not_eq_false']) (by simp only [go_sem, Bool.not_eq_true', Bool.not_eq_false']) (by simp only [go_sem, Bool.not_eq_true', Bool.not_eq_false']) (by simp only [go_sem, Bool.not_eq_true', Bool.not_eq_false']) (by simp only [go_sem, Bool.not_eq_true', Bool.not_eq_false']) (by simp only [go_sem, Bool.not_eq_true', Bool.not_eq_false'])) ?_; simp only [go_sem, Bool.not_eq_true', Bool.not_eq_false'])
  have hl : l.length ≤ 1000 := by omega
  refine swp_cutS (fun _ : Unit => ⟨[(0, .sl 20 (l.map cNo)), (1, .raw (.int .i64 a)), (2, .raw (.int .i64 h)), (7, .sl 20 (l.map cNo))], [], none⟩) (fun _ => True) 3 ?_ ?_
  · (refine swp_lastW ?_; simp only [go_sem, Bool.not_eq_true', Bool.not_eq_false', List.length_map])
    refine ⟨⟨by omega, by omega⟩, ?_⟩
    (refine cut_end [56 ] ( ()) (by simp only [go_sem, Bool.not_eq_true', Bool.not_eq_false']; rfl) ?_ ?_; (focus (simp only [go_sem, Bool.not_eq_true', Bool.not_eq_false']; done)))
    trivial
  rintro - -
  have hz : (ofH l a h).hs.length ≤ 1000 := by
    unfold ofH
    split
    · next q =>
      have hm := mayH_iff.1 q.1
      have := (res_b (a := a) hm.2 hm.1).len
      omega
    · simp
  (refine swp_lastW ?_; simp only [go_sem, Bool.not_eq_true', Bool.not_eq_false'])
  (refine acall2 [] (ofH_ok l a h hl hw) (by simp only [go_sem, Bool.not_eq_true', Bool.not_eq_false']; rfl) (fit_of (by simp only [go_sem, Bool.not_eq_true', Bool.not_eq_false']) (by simp only [go_sem, Bool.not_eq_true', Bool.not_eq_false']) (by simp only [go_sem, Bool.not_eq_true', Bool.not_eq_false']) (by simp only [go_sem, Bool.not_eq_true', Bool.not_eq_false']) (by simp only [go_sem, Bool.not_eq_true', Bool.not_eq_false']) (by simp only [go_sem, Bool.not_eq_true', Bool.not_eq_false']) (by simp only [go_sem, Bool.not_eq_true', Bool.not_eq_false'])) ?_; simp only [go_sem, Bool.not_eq_true', Bool.not_eq_false'])
  (refine acall2 [] (rof20_ok l a h hl hw) (by simp only [go_sem, Bool.not_eq_true', Bool.not_eq_false']; rfl) (fit_of (by simp only [go_sem, Bool.not_eq_true', Bool.not_eq_false']) (by simp only [go_sem, Bool.not_eq_true', Bool.not_eq_false']) (by simp only [go_sem, Bool.not_eq_true', Bool.not_eq_false']) (by simp only [go_sem, Bool.not_eq_true', Bool.not_eq_false']) (by simp only [go_sem, Bool.not_eq_true', Bool.not_eq_false']) (by simp only [go_sem, Bool.not_eq_true', Bool.not_eq_false']) (by simp only [go_sem, Bool.not_eq_true', Bool.not_eq_false'])) ?_; simp only [go_sem, Bool.not_eq_true', Bool.not_eq_false'])
  (refine acallF2 [48, 80 ] [] ( rsame20_ok (ofH l a h) hz) (by simp only [go_sem, Bool.not_eq_true', Bool.not_eq_false']; rfl) (fit_of (by simp only [go_sem, Bool.not_eq_true', Bool.not_eq_false']) (by simp only [go_sem, Bool.not_eq_true', Bool.not_eq_false']) (by simp only [go_sem, Bool.not_eq_true', Bool.not_eq_false']) (by simp only [go_sem, Bool.not_eq_true', Bool.not_eq_false']) (by simp only [go_sem, Bool.not_eq_true', Bool.not_eq_false']) (by simp only [go_sem, Bool.not_eq_true', Bool.not_eq_false']) (by simp only [go_sem, Bool.not_eq_true', Bool.not_eq_false'])) ?_; simp only [go_sem, Bool.not_eq_true', Bool.not_eq_false'])
  (refine acall2 [] (leaH_ok l h hl hw) (by simp only [go_sem, Bool.not_eq_true', Bool.not_eq_false']; rfl) (fit_of (by simp only [go_sem, Bool.not_eq_true', Bool.not_eq_false']) (by simp only [go_sem, Bool.not_eq_true', Bool.not_eq_false']) (by simp only [go_sem, Bool.not_eq_true', Bool.not_eq_false']) (by simp only [go_sem, Bool.not_eq_true', Bool.not_eq_false']) (by simp only [go_sem, Bool.not_eq_true', Bool.not_eq_false']) (by simp only [go_sem, Bool.not_eq_true', Bool.not_eq_false']) (by simp only [go_sem, Bool.not_eq_true', Bool.not_eq_false'])) ?_; simp only [go_sem, Bool.not_eq_true', Bool.not_eq_false'])
  (refine acall2 [] (rleast20_ok l h hl hw) (by simp only [go_sem, Bool.not_eq_true', Bool.not_eq_false']; rfl) (fit_of (by simp only [go_sem, Bool.not_eq_true', Bool.not_eq_false']) (by simp only [go_sem, Bool.not_eq_true', Bool.not_eq_false']) (by simp only [go_sem, Bool.not_eq_true', Bool.not_eq_false']) (by simp only [go_sem, Bool.not_eq_true', Bool.not_eq_false']) (by simp only [go_sem, Bool.not_eq_true', Bool.not_eq_false']) (by simp only [go_sem, Bool.not_eq_true', Bool.not_eq_false']) (by simp only [go_sem, Bool.not_eq_true', Bool.not_eq_false'])) ?_; simp only [go_sem, Bool.not_eq_true', Bool.not_eq_false'])
  (refine acall2 [] (same5_ok l hl hw) (by simp only [go_sem, Bool.not_eq_true', Bool.not_eq_false']; rfl) (fit_of (by simp only [go_sem, Bool.not_eq_true', Bool.not_eq_false']) (by simp only [go_sem, Bool.not_eq_true', Bool.not_eq_false']) (by simp only [go_sem, Bool.not_eq_true', Bool.not_eq_false']) (by simp only [go_sem, Bool.not_eq_true', Bool.not_eq_false']) (by simp only [go_sem, Bool.not_eq_true', Bool.not_eq_false']) (by simp only [go_sem, Bool.not_eq_true', Bool.not_eq_false']) (by simp only [go_sem, Bool.not_eq_true', Bool.not_eq_false'])) ?_; simp only [go_sem, Bool.not_eq_true', Bool.not_eq_false'])
  (refine acall2 [] (awake20_ok) (by simp only [go_sem, Bool.not_eq_true', Bool.not_eq_false']; rfl) (fit_of (by simp only [go_sem, Bool.not_eq_true', Bool.not_eq_false']) (by simp only [go_sem, Bool.not_eq_true', Bool.not_eq_false']) (by simp only [go_sem, Bool.not_eq_true', Bool.not_eq_false']) (by simp only [go_sem, Bool.not_eq_true', Bool.not_eq_false']) (by simp only [go_sem, Bool.not_eq_true', Bool.not_eq_false']) (by simp only [go_sem, Bool.not_eq_true', Bool.not_eq_false']) (by simp only [go_sem, Bool.not_eq_true', Bool.not_eq_false'])) ?_; simp only [go_sem, Bool.not_eq_true', Bool.not_eq_false'])
end Go.Proofs.Ytjkndjpkmkbnkaa
/- CHAPTER 20: the plain laws of HeadsWhole and HeadsAll. -/
/- G -/
/- BOOLS -/
set_option linter.unusedSimpArgs false
set_option linter.unusedVariables false
namespace Go.Proofs.Ytjkndjpkmkbnkaa
open Go.RowKit

theorem abvD_desc (l : List LNo) (a : Int) : ∀ k, (abvD l a k).Pairwise (fun x y => y < x)
  | 0 => List.Pairwise.nil
  | k + 1 => by
    have ih := abvD_desc l a k
    rw [abvD]
    split
    · refine List.Pairwise.cons (fun y hy => ?_) ih
      obtain ⟨b, rfl, h, -⟩ := (abvD_mem l a k y).1 hy
      omega
    · exact ih
theorem abvN_desc {l : List LNo} (hv : isS l = true) (a : Int) : (abvN l a).Pairwise (fun x y => y < x) := by
  rw [abv_eq hv, abvR]
  split
  · exact abvD_desc l a _
  · exact List.Pairwise.nil
theorem fold_hs (l : List LNo) : ∀ (xs : List Int) (z : LRs), ∃ t, (xs.foldl (takS l) z).hs = z.hs ++ t ∧ ∀ y ∈ t, y ∈ xs
  | [], z => ⟨[], by simp, by simp⟩
  | x :: xs, z => by
    obtain ⟨t, h1, h2⟩ := fold_hs l xs (takS l z x)
    rw [List.foldl_cons, h1]
    by_cases q : hedN l x < 1 ∨ z.bo - hedN l x < 1
    · have e : takS l z x = z := if_pos q
      rw [e]
      exact ⟨t, rfl, fun y hy => List.mem_cons_of_mem _ (h2 y hy)⟩
    · have e : takS l z x = ⟨z.hs ++ [x], z.hi + hedN l x, z.bo - hedN l x⟩ := if_neg q
      rw [e]
      refine ⟨x :: t, by simp, fun y hy => ?_⟩
      rcases List.mem_cons.1 hy with rfl | hy
      · exact List.mem_cons_self
      · exact List.mem_cons_of_mem _ (h2 y hy)
structure StpW (l : List LNo) (z Z : LRs) (a : Int) : Prop where
  yes : ¬ hedN l a < 1 → ¬ z.bo - hedN l a < 1 → takS l z a = ⟨z.hs ++ [a], z.hi + hedN l a, z.bo - hedN l a⟩ ∧ z.hs.length < Z.hs.length ∧ ∀ h : z.hs.length < Z.hs.length, Z.hs[z.hs.length] = a
  no : hedN l a < 1 ∨ z.bo - hedN l a < 1 → takS l z a = z ∧ ∀ h : z.hs.length < Z.hs.length, Z.hs[z.hs.length] ≠ a
theorem stp_w {l : List LNo} {r : List Int} {z Z : LRs} {m : Nat} (hm : m < r.length) (hd : r.Pairwise (fun x y => y < x)) (h : (r.reverse.drop (r.length - (m + 1))).foldl (takS l) z = Z) : StpW l z Z r[m] := by
  have e3 := fold_take l r z m hm
  rw [show r.length - 1 - m = r.length - (m + 1) by omega, h] at e3
  obtain ⟨t, h1, h2⟩ := fold_hs l (r.reverse.drop (r.length - m)) (takS l z r[m])
  rw [← e3] at h1
  have hlt : ∀ y ∈ t, r[m] < y := fun y hy => by
    have := h2 y hy
    rw [List.drop_reverse, show r.length - (r.length - m) = m by omega, List.mem_reverse] at this
    obtain ⟨i, hi, rfl⟩ := List.getElem_of_mem this
    rw [List.getElem_take]
    rw [List.length_take] at hi
    exact List.pairwise_iff_getElem.1 hd i m (by omega) hm (by omega)
  constructor
  · intro q1 q2
    have e : takS l z r[m] = ⟨z.hs ++ [r[m]], z.hi + hedN l r[m], z.bo - hedN l r[m]⟩ := if_neg (by omega)
    rw [e] at h1
    simp only at h1
    rw [List.append_assoc] at h1
    refine ⟨e, by rw [h1]; simp, fun hh => ?_⟩
    simp only [h1]
    simp
  · intro q
    have e : takS l z r[m] = z := if_pos q
    rw [e] at h1
    refine ⟨e, fun hh => ?_⟩
    simp only [h1]
    rw [List.getElem_append_right (Nat.le_refl _)]
    have hl : z.hs.length - z.hs.length < t.length := by rw [h1, List.length_append] at hh; omega
    have := hlt _ (List.getElem_mem hl)
    omega
theorem leaF_le {l : List LNo} {h : Int} {i : Nat} (hk : kinN l i = 2 ∨ kinN l i = 3) : ∀ k, i < k → leaF l h k ≤ (resS l i h).bo
  | 0, q => absurd q (Nat.not_lt_zero _)
  | k + 1, q => by
    rw [leaF]
    rcases Nat.lt_succ_iff_lt_or_eq.1 q with q2 | q2
    · have := leaF_le (h := h) hk k q2
      split <;> omega
    · subst q2
      rw [if_pos hk]
      omega
theorem leaF_ge {l : List LNo} {h : Int} (hv : isS l = true) (hh : 1 ≤ h ∧ h ≤ 1099511627776) : ∀ k, 1 ≤ leaF l h k ∧ leaF l h k ≤ h
  | 0 => ⟨hh.1, Int.le_refl _⟩
  | k + 1 => by
    have := leaF_ge hv hh k
    have hb := (res_b (a := k) hv hh).bo
    rw [leaF]
    split <;> omega
theorem fold_one {l : List LNo} : ∀ xs : List Int, xs.foldl (takS l) ⟨[], 0, 1⟩ = ⟨[], 0, 1⟩
  | [] => rfl
  | x :: xs => by
    have e : takS l ⟨[], 0, 1⟩ x = ⟨[], 0, 1⟩ := if_pos (by simp only; omega)
    rw [List.foldl_cons, e, fold_one xs]
def sumH (l : List LNo) : Nat → Int
  | 0 => 0
  | k + 1 => sumH l k + hedN l k
def sumL (l : List LNo) : List Int → Int
  | [] => 0
  | x :: xs => hedN l x + sumL l xs
theorem sumH_ran {l : List LNo} (hv : isS l = true) : ∀ k : Nat, 0 ≤ sumH l k ∧ sumH l k ≤ k * 1099511627776
  | 0 => by simp [sumH]
  | k + 1 => by
    have := sumH_ran hv k
    have := hed_ran hv k
    rw [sumH]
    omega
theorem sumD_le {l : List LNo} (hv : isS l = true) (a : Int) : ∀ k, sumL l (abvD l a k) ≤ sumH l k
  | 0 => Int.le_refl _
  | k + 1 => by
    have ih := sumD_le hv a k
    have := hed_ran hv k
    rw [abvD, sumH]
    split
    · rw [sumL]; omega
    · omega
theorem sumL_app (l : List LNo) : ∀ xs ys : List Int, sumL l (xs ++ ys) = sumL l xs + sumL l ys
  | [], ys => by simp [sumL]
  | x :: xs, ys => by rw [List.cons_append, sumL, sumL, sumL_app l xs ys]; omega
theorem sumL_rev (l : List LNo) : ∀ xs : List Int, sumL l xs.reverse = sumL l xs
  | [] => rfl
  | x :: xs => by rw [List.reverse_cons, sumL_app, sumL_rev l xs, sumL, sumL, sumL]; omega
theorem sumN_le {l : List LNo} (hv : isS l = true) (a : Int) : sumL l (abvN l a) ≤ sumH l l.length := by
  rw [abv_eq hv, abvR]
  split
  · next q =>
    have h1 := sumD_le hv a a.toNat
    have h2 := hasN_iff.1 q
    have : ∀ d k, sumH l k ≤ sumH l (k + d) := fun d k => by
      induction d with
      | zero => exact Int.le_refl _
      | succ d ih =>
        have := hed_ran hv (k + d : Nat)
        rw [← Nat.add_assoc, sumH]
        omega
    have h3 := this (l.length - a.toNat) a.toNat
    rw [show a.toNat + (l.length - a.toNat) = l.length by omega] at h3
    omega
  · exact (sumH_ran hv _).1
theorem sumL_nn {l : List LNo} (hv : isS l = true) : ∀ xs : List Int, 0 ≤ sumL l xs
  | [] => Int.le_refl _
  | x :: xs => by have := hed_ran hv x; have := sumL_nn hv xs; rw [sumL]; omega
theorem fold_all {l : List LNo} (hv : isS l = true) : ∀ (xs : List Int) (z : LRs), sumL l xs + 1 ≤ z.bo → (xs.foldl (takS l) z).hs.length = z.hs.length + (xs.filter (fun x => decide (0 < hedN l x))).length
  | [], z, _ => by simp
  | x :: xs, z, h => by
    have h0 := hed_ran hv x
    have hn := sumL_nn hv xs
    rw [sumL] at h
    rw [List.foldl_cons]
    by_cases q : 0 < hedN l x
    · have e : takS l z x = ⟨z.hs ++ [x], z.hi + hedN l x, z.bo - hedN l x⟩ := if_neg (by omega)
      rw [fold_all hv xs _ (by rw [e]; simp only; omega), e, List.filter_cons_of_pos (by simpa using q)]
      simp only [List.length_append, List.length_cons, List.length_nil]
      omega
    · have e : takS l z x = z := if_pos (by omega)
      rw [e, fold_all hv xs z (by omega), List.filter_cons_of_neg (by simpa using q)]
theorem all_law {l : List LNo} (hv : isS l = true) (a h : Int) (hh : sumH l l.length + 1 ≤ h) : (resS l a h).hs.length = ((abvN l a).filter (fun x => decide (0 < hedN l x))).length := by
  unfold resS
  have h1 := sumN_le hv a
  rw [fold_all hv _ _ (by rw [sumL_rev]; simp only; omega), List.filter_reverse, List.length_reverse]
  simp
theorem one_law (l : List LNo) (a : Int) : resS l a 1 = ⟨[], 0, 1⟩ := fold_one _
theorem lea_one {l : List LNo} (hv : isS l = true) : leaH l 1 = 1 := by
  have hm : mayH l 1 = true := mayH_iff.2 ⟨by omega, hv⟩
  unfold leaH
  rw [if_pos hm]
  have := leaF_ge (h := 1) hv (by omega) l.length
  omega
end Go.Proofs.Ytjkndjpkmkbnkaa
/- CHAPTER 20: the law HeadsWhole. -/
/- G -/
/- BOOLS -/
set_option linter.unusedSimpArgs false
set_option linter.unusedVariables false
namespace Go.Proofs.Ytjkndjpkmkbnkaa
open Go.RowKit

def stW (l : List LNo) (a h : Int) (Z : LRs) (t : List (Nat × AV)) : AS := ⟨t ++ [(0, .sl 20 (l.map cNo)), (1, .raw (.int .i64 a)), (2, .raw (.int .i64 h)), (7, .hdr 800)], [(800, some (.cells 27 [.sl 1 (Z.hs.map cInt), .raw (.int .i64 Z.hi), .raw (.int .i64 Z.bo)]))], none⟩
attribute [go_sem] stW
set_option maxRecDepth 100000 in
set_option maxHeartbeats 8000000 in
theorem headsWhole_ok (l : List LNo) (a h : Int) (hi : l.length ≤ 9223372036854775807 ∧ ∀ x ∈ l, x.words.length ≤ 9223372036854775807) : FnOk Try.prog 4 [.sl 20 (l.map cNo), .raw (.int .i64 a), .raw (.int .i64 h)] [] (.raw (.bool true)) [] := by
  obtain ⟨-, hw⟩ := hi
  refine fn_of_swp Try.func4 rfl (by kernel_rfl) (by kernel_rfl) (Nat.le_of_ble_eq_true rfl) Try.results4 ?_
  (refine swp_seqW ?_; simp only [go_sem, Bool.not_eq_true', Bool.not_eq_false'])
  (refine swp_seqW ?_; simp only [go_sem, Bool.not_eq_true', Bool.not_eq_false', List.length_map])
  refine ⟨fun h1 => ?_, fun h1 => ?_⟩
  · (refine acall2 [] (awake20_ok) (by simp only [go_sem, Bool.not_eq_true', Bool.not_eq_false']; rfl) (fit_of (by simp only [go_sem, Bool.not_eq_true', Bool.not_eq_false']) (by simp only [go_sem, Bool.not_eq_true', Bool.not_eq_false']) (by simp only [go_sem, Bool.not_eq_true', Bool.not_eq_false']) (by simp only [go_sem, Bool.not_eq_true', Bool.not_eq_false']) (by simp only [go_sem, Bool.not_eq_true', Bool.not_eq_false']) (by simp only [go_sem, Bool.not_eq_true', Bool.not_eq_false']) (by simp only [go_sem, Bool.not_eq_true', Bool.not_eq_false'])) ?_; simp only [go_sem, Bool.not_eq_true', Bool.not_eq_false'])
  have hl : l.length ≤ 1000 := by omega
  refine swp_cutS (fun _ : Unit => stW l a h (ofH l a h) []) (fun _ => True) 120 ?_ ?_
  · (refine swp_lastW ?_; simp only [go_sem, Bool.not_eq_true', Bool.not_eq_false'])
    (refine acall2 [] (ofH_ok l a h hl hw) (by simp only [go_sem, Bool.not_eq_true', Bool.not_eq_false']; rfl) (fit_of (by simp only [go_sem, Bool.not_eq_true', Bool.not_eq_false']) (by simp only [go_sem, Bool.not_eq_true', Bool.not_eq_false']) (by simp only [go_sem, Bool.not_eq_true', Bool.not_eq_false']) (by simp only [go_sem, Bool.not_eq_true', Bool.not_eq_false']) (by simp only [go_sem, Bool.not_eq_true', Bool.not_eq_false']) (by simp only [go_sem, Bool.not_eq_true', Bool.not_eq_false']) (by simp only [go_sem, Bool.not_eq_true', Bool.not_eq_false'])) ?_; simp only [go_sem, Bool.not_eq_true', Bool.not_eq_false'])
    (refine cut_end [64 ] ( ()) (by simp only [go_sem, Bool.not_eq_true', Bool.not_eq_false']; rfl) ?_ ?_; (focus (simp only [go_sem, Bool.not_eq_true', Bool.not_eq_false']; done)))
    trivial
  rintro - -
  (refine swp_seqW ?_; simp only [go_sem, Bool.not_eq_true', Bool.not_eq_false'])
  (refine acall2 [] (is6_ok l hl hw) (by simp only [go_sem, Bool.not_eq_true', Bool.not_eq_false']; rfl) (fit_of (by simp only [go_sem, Bool.not_eq_true', Bool.not_eq_false']) (by simp only [go_sem, Bool.not_eq_true', Bool.not_eq_false']) (by simp only [go_sem, Bool.not_eq_true', Bool.not_eq_false']) (by simp only [go_sem, Bool.not_eq_true', Bool.not_eq_false']) (by simp only [go_sem, Bool.not_eq_true', Bool.not_eq_false']) (by simp only [go_sem, Bool.not_eq_true', Bool.not_eq_false']) (by simp only [go_sem, Bool.not_eq_true', Bool.not_eq_false'])) ?_; simp only [go_sem, Bool.not_eq_true', Bool.not_eq_false'])
  by_cases hq : mayH l h = true ∧ 0 ≤ a ∧ a < l.length
  rotate_left
  · have e : ofH l a h = ⟨[], 0, 0⟩ := if_neg hq
    rw [e]
    simp only [mayH_iff] at hq
    rcases hv : isS l with _ | _
    · repeat' first | contradiction | intro _ | refine And.intro ?_ ?_ | refine ex_get (by omega) ?_ | (show drawB _ _ = true; kernel_rfl) | (refine ret2 [] (by simp only [go_sem, Bool.not_eq_true', Bool.not_eq_false', List.length_map]; rfl) ?_; simp only [go_sem, Bool.not_eq_true', Bool.not_eq_false', List.length_map]) | (refine acall2 [] (awake20_ok) (by simp only [go_sem, Bool.not_eq_true', Bool.not_eq_false']; rfl) (fit_of (by simp only [go_sem, Bool.not_eq_true', Bool.not_eq_false']) (by simp only [go_sem, Bool.not_eq_true', Bool.not_eq_false']) (by simp only [go_sem, Bool.not_eq_true', Bool.not_eq_false']) (by simp only [go_sem, Bool.not_eq_true', Bool.not_eq_false']) (by simp only [go_sem, Bool.not_eq_true', Bool.not_eq_false']) (by simp only [go_sem, Bool.not_eq_true', Bool.not_eq_false']) (by simp only [go_sem, Bool.not_eq_true', Bool.not_eq_false'])) ?_; simp only [go_sem, Bool.not_eq_true', Bool.not_eq_false', List.length_map])
      all_goals first
        | omega
        | contradiction
        | (simp at *; done)
        | skip
    · simp only [hv, and_true] at hq
      repeat' first | contradiction | intro _ | refine And.intro ?_ ?_ | refine ex_get (by omega) ?_ | (show drawB _ _ = true; kernel_rfl) | (refine ret2 [] (by simp only [go_sem, Bool.not_eq_true', Bool.not_eq_false', List.length_map]; rfl) ?_; simp only [go_sem, Bool.not_eq_true', Bool.not_eq_false', List.length_map]) | (refine acall2 [] (awake20_ok) (by simp only [go_sem, Bool.not_eq_true', Bool.not_eq_false']; rfl) (fit_of (by simp only [go_sem, Bool.not_eq_true', Bool.not_eq_false']) (by simp only [go_sem, Bool.not_eq_true', Bool.not_eq_false']) (by simp only [go_sem, Bool.not_eq_true', Bool.not_eq_false']) (by simp only [go_sem, Bool.not_eq_true', Bool.not_eq_false']) (by simp only [go_sem, Bool.not_eq_true', Bool.not_eq_false']) (by simp only [go_sem, Bool.not_eq_true', Bool.not_eq_false']) (by simp only [go_sem, Bool.not_eq_true', Bool.not_eq_false'])) ?_; simp only [go_sem, Bool.not_eq_true', Bool.not_eq_false', List.length_map])
      all_goals first
        | omega
        | contradiction
        | (simp at *; done)
        | skip
  have e : ofH l a h = resS l a h := if_pos hq
  obtain ⟨q1, q2, q3⟩ := hq
  obtain ⟨hh, hv⟩ := mayH_iff.1 q1
  rw [e, hv]
  have hrb := res_b (a := a) hv hh
  have hle : leaH l h = leaF l h l.length := by unfold leaH; rw [if_pos q1]
  have hlg := leaF_ge hv hh l.length
  have hll := fun (q : kinN l a.toNat = 2 ∨ kinN l a.toNat = 3) => leaF_le (h := h) q l.length (by omega)
  have hae : ((a.toNat : Nat) : Int) = a := by omega
  rw [hae, ← hle] at hll
  rw [← hle] at hlg
  have hds := abvN_desc hv a
  have hhas : ∀ x ∈ abvN l a, hasN l x = true := fun x hx => abv_has hv hx
  have hlen := abvN_len l a hv
  have hab := above9_ok l a hl hw
  rw [docN_eq20 hv] at hab
  have er : (abvN l a).reverse.foldl (takS l) ⟨[], 0, h⟩ = resS l a h := rfl
  generalize resS l a h = Z at *
  generalize abvN l a = r at *
  repeat' first | contradiction | intro _ | refine And.intro ?_ ?_ | refine ex_get (by omega) ?_ | (show drawB _ _ = true; kernel_rfl) | (refine ret2 [] (by simp only [go_sem, Bool.not_eq_true', Bool.not_eq_false', List.length_map]; rfl) ?_; simp only [go_sem, Bool.not_eq_true', Bool.not_eq_false', List.length_map])
  all_goals first
    | omega
    | skip
  (refine swp_seqW ?_; simp only [go_sem, Bool.not_eq_true', Bool.not_eq_false'])
  have := hrb.sum
  have := hrb.bo
  have := hrb.hi
  have := hrb.lo
  repeat' first | contradiction | intro _ | refine And.intro ?_ ?_ | refine ex_get (by omega) ?_ | (show drawB _ _ = true; kernel_rfl) | (refine ret2 [] (by simp only [go_sem, Bool.not_eq_true', Bool.not_eq_false']; rfl) ?_; simp only [go_sem, Bool.not_eq_true', Bool.not_eq_false'])
  all_goals first
    | omega
    | skip
  refine swp_cutS (fun _ : Unit => stW l a h Z [(8, .sl 1 (r.map cInt))]) (fun _ => True) 160 ?_ ?_
  · (refine swp_lastW ?_; simp only [go_sem, Bool.not_eq_true', Bool.not_eq_false'])
    (refine acall2 [] (hab) (by simp only [go_sem, Bool.not_eq_true', Bool.not_eq_false']; rfl) (fit_of (by simp only [go_sem, Bool.not_eq_true', Bool.not_eq_false']) (by simp only [go_sem, Bool.not_eq_true', Bool.not_eq_false']) (by simp only [go_sem, Bool.not_eq_true', Bool.not_eq_false']) (by simp only [go_sem, Bool.not_eq_true', Bool.not_eq_false']) (by simp only [go_sem, Bool.not_eq_true', Bool.not_eq_false']) (by simp only [go_sem, Bool.not_eq_true', Bool.not_eq_false']) (by simp only [go_sem, Bool.not_eq_true', Bool.not_eq_false'])) ?_; simp only [go_sem, Bool.not_eq_true', Bool.not_eq_false'])
    (refine cut_end [1240 ] ( ()) (by simp only [go_sem, Bool.not_eq_true', Bool.not_eq_false']; rfl) ?_ ?_; (focus (simp only [go_sem, Bool.not_eq_true', Bool.not_eq_false']; done)))
    trivial
  rintro - -
  (refine swp_seqW ?_; simp only [go_sem, Bool.not_eq_true', Bool.not_eq_false'])
  refine swp_cutS (fun _ : Unit => stW l a h Z [(9, .raw (.int .i64 Z.bo)), (10, .raw (.int .i64 Z.hs.length))]) (fun _ => True) 170 ?_ ?_
  · (refine swp_seqW ?_; simp only [go_sem, Bool.not_eq_true', Bool.not_eq_false', List.length_map])
    refine ⟨by omega, ?_⟩
    refine swp_block ?_
    refine swp_loop2 [] (fun z : KY LRs => stW l a h Z [(8, .sl 1 (r.map cInt)), (9, .raw (.int .i64 z.o.bo)), (10, .raw (.int .i64 z.o.hs.length)), (11, .raw (.int .i64 ((z.k : Int) - 1)))]) (fun z => z.k ≤ r.length ∧ ResB h (r.length - z.k) z.o ∧ (r.reverse.drop (r.length - z.k)).foldl (takS l) z.o = Z) (fun z => z.k) 170 ⟨r.length, ⟨[], 0, h⟩⟩ (by simp only [go_sem, Bool.not_eq_true', Bool.not_eq_false']; rfl) (by simp only [go_sem, Bool.not_eq_true', Bool.not_eq_false']) ?_ ?_
    · exact ⟨Nat.le_refl _, ⟨by simp, by simp, by simp only; omega, by simp only; omega, by simp⟩, by simp [er]⟩
    · rintro ⟨k, z⟩ ⟨k1, k2, k3⟩
      simp only at k1 k2 k3
      rcases k with _ | m
      · rw [Nat.sub_zero, ← List.length_reverse, List.drop_length] at k3
        obtain rfl : z = Z := k3
        (refine swp_lastW ?_; simp only [go_sem, Bool.not_eq_true', Bool.not_eq_false', Int.natCast_zero])
        repeat' first | contradiction | intro _ | refine And.intro ?_ ?_ | refine ex_get (by omega) ?_ | (show drawB _ _ = true; kernel_rfl) | (refine ret2 [] (by simp only [go_sem, Bool.not_eq_true', Bool.not_eq_false']; rfl) ?_; simp only [go_sem, Bool.not_eq_true', Bool.not_eq_false'])
        all_goals first
          | omega
          | ((refine cut_end [] (()) (by simp only [go_sem, Bool.not_eq_true', Bool.not_eq_false']; rfl) ?_ ?_; (focus (simp only [go_sem, Bool.not_eq_true', Bool.not_eq_false']; done)))
             trivial)
          | skip
      · have hm : m < r.length := by omega
        have hma := hhas r[m] (List.getElem_mem hm)
        have hx := hasN_iff.1 hma
        have hst := stp_w hm hds k3
        have e3 := fold_take l r z m hm
        rw [show r.length - 1 - m = r.length - (m + 1) by omega, k3] at e3
        have hb := tak_b hv k2 r[m]
        rw [show r.length - (m + 1) + 1 = r.length - m by omega] at hb
        have hZl := hrb.len
        have hzl := k2.len
        (refine swp_lastW ?_; simp only [go_sem, Bool.not_eq_true', Bool.not_eq_false', List.length_map, Int.add_sub_cancel])
        have hn : r[m].toNat < l.length := by omega
        obtain ⟨y1, y2⟩ := hst
        have hhd := hed_ran hv r[m]
        have hne : hedN l r[m] = l[r[m].toNat].st.head := by unfold hedN; rw [List.getElem?_eq_getElem hn]
        rw [hne] at y1 y2 hhd
        have b1 := k2.bo
        have b2 := k2.sum
        have b3 := k2.lo
        have b4 := k2.hi
        clear k3 er hds hab hhas k2
        by_cases hc : l[r[m].toNat].st.head < 1 ∨ z.bo - l[r[m].toNat].st.head < 1
        · obtain ⟨w1, w2⟩ := y2 hc
          rw [w1] at hb e3
          clear y1 y2
          repeat' first | contradiction | intro _ | refine And.intro ?_ ?_ | refine ex_get (by omega) ?_ | (show drawB _ _ = true; kernel_rfl) | (refine ret2 [] (by simp only [go_sem, Bool.not_eq_true', Bool.not_eq_false']; rfl) ?_; simp only [go_sem, Bool.not_eq_true', Bool.not_eq_false'])
          all_goals first
            | omega
            | (exfalso
               exact w2 (by omega) (by assumption))
            | ((refine loop_end [] (⟨m, z⟩) (by simp only [go_sem, Bool.not_eq_true', Bool.not_eq_false']; rfl) ?_ ?_ ?_; (focus first | omega | (simp only; omega)); (focus (simp only [go_sem, Bool.not_eq_true', Bool.not_eq_false', Int.add_sub_cancel]; done)))
               exact ⟨by simp only; omega, hb, e3.symm⟩)
            | skip
        · obtain ⟨w1, w2, w3⟩ := y1 (by omega) (by omega)
          rw [w1] at hb e3
          have w4 := w3 w2
          clear y1 y2 w3
          repeat' first | contradiction | intro _ | refine And.intro ?_ ?_ | refine ex_get (by omega) ?_ | (show drawB _ _ = true; kernel_rfl) | (refine ret2 [] (by simp only [go_sem, Bool.not_eq_true', Bool.not_eq_false']; rfl) ?_; simp only [go_sem, Bool.not_eq_true', Bool.not_eq_false'])
          all_goals first
            | omega
            | ((refine loop_end [] (⟨m, ⟨z.hs ++ [r[m]], z.hi + l[r[m].toNat].st.head, z.bo - l[r[m].toNat].st.head⟩⟩) (by simp only [go_sem, Bool.not_eq_true', Bool.not_eq_false']; rfl) ?_ ?_ ?_; (focus first | omega | (simp only; omega)); (focus (simp only [go_sem, Bool.not_eq_true', Bool.not_eq_false', Int.add_sub_cancel, List.length_append, List.length_cons, List.length_nil]; done)))
               exact ⟨by simp only; omega, hb, e3.symm⟩)
            | skip
  rintro - -
  (refine swp_seqW ?_; simp only [go_sem, Bool.not_eq_true', Bool.not_eq_false'])
  refine ⟨by omega, ex_get (by omega) ?_⟩
  have hkk : kinN l a.toNat = l[a.toNat].kind := kinN_get (by omega)
  rw [hkk] at hll
  (refine swp_lastW ?_; simp only [go_sem, Bool.not_eq_true', Bool.not_eq_false'])
  repeat' first | contradiction | intro _ | refine And.intro ?_ ?_ | refine ex_get (by omega) ?_ | (show drawB _ _ = true; kernel_rfl) | (refine ret2 [] (by simp only [go_sem, Bool.not_eq_true', Bool.not_eq_false']; rfl) ?_; simp only [go_sem, Bool.not_eq_true', Bool.not_eq_false']) | (refine acall2 [] (leaH_ok l h hl hw) (by simp only [go_sem, Bool.not_eq_true', Bool.not_eq_false']; rfl) (fit_of (by simp only [go_sem, Bool.not_eq_true', Bool.not_eq_false']) (by simp only [go_sem, Bool.not_eq_true', Bool.not_eq_false']) (by simp only [go_sem, Bool.not_eq_true', Bool.not_eq_false']) (by simp only [go_sem, Bool.not_eq_true', Bool.not_eq_false']) (by simp only [go_sem, Bool.not_eq_true', Bool.not_eq_false']) (by simp only [go_sem, Bool.not_eq_true', Bool.not_eq_false']) (by simp only [go_sem, Bool.not_eq_true', Bool.not_eq_false'])) ?_; simp only [go_sem, Bool.not_eq_true', Bool.not_eq_false']) | (refine acall2 [] (awake20_ok) (by simp only [go_sem, Bool.not_eq_true', Bool.not_eq_false']; rfl) (fit_of (by simp only [go_sem, Bool.not_eq_true', Bool.not_eq_false']) (by simp only [go_sem, Bool.not_eq_true', Bool.not_eq_false']) (by simp only [go_sem, Bool.not_eq_true', Bool.not_eq_false']) (by simp only [go_sem, Bool.not_eq_true', Bool.not_eq_false']) (by simp only [go_sem, Bool.not_eq_true', Bool.not_eq_false']) (by simp only [go_sem, Bool.not_eq_true', Bool.not_eq_false']) (by simp only [go_sem, Bool.not_eq_true', Bool.not_eq_false'])) ?_; simp only [go_sem, Bool.not_eq_true', Bool.not_eq_false'])
  all_goals first
    | omega
    | skip
end Go.Proofs.Ytjkndjpkmkbnkaa
/- CHAPTER 20: the law HeadsAll. -/
/- G -/
/- BOOLS -/
set_option linter.unusedSimpArgs false
set_option linter.unusedVariables false
namespace Go.Proofs.Ytjkndjpkmkbnkaa
open Go.RowKit

set_option maxRecDepth 100000 in
set_option maxHeartbeats 8000000 in
theorem headsAll_ok (l : List LNo) (a more : Int) (hi : l.length ≤ 9223372036854775807 ∧ ∀ x ∈ l, x.words.length ≤ 9223372036854775807) : FnOk Try.prog 5 [.sl 20 (l.map cNo), .raw (.int .i64 a), .raw (.int .i64 more)] [] (.raw (.bool true)) [] := by
  obtain ⟨-, hw⟩ := hi
  refine fn_of_swp Try.func5 rfl (by kernel_rfl) (by kernel_rfl) (Nat.le_of_ble_eq_true rfl) Try.results5 ?_
  (refine swp_seqW ?_; simp only [go_sem, Bool.not_eq_true', Bool.not_eq_false'])
  refine swp_cutS (fun _ : Unit => ⟨[(0, .sl 20 (l.map cNo)), (1, .raw (.int .i64 a)), (2, .raw (.int .i64 more))], [], none⟩) (fun _ => l.length ≤ 100 ∧ isS l = true ∧ (0 ≤ a ∧ a < l.length) ∧ 0 ≤ more ∧ more ≤ 1073741824) 3 ?_ ?_
  · (refine swp_lastW ?_; simp only [go_sem, Bool.not_eq_true', Bool.not_eq_false', List.length_map])
    repeat' first | contradiction | intro _ | refine And.intro ?_ ?_ | refine ex_get (by omega) ?_ | (show drawB _ _ = true; kernel_rfl) | (refine ret2 [] (by simp only [go_sem, Bool.not_eq_true', Bool.not_eq_false', List.length_map]; rfl) ?_; simp only [go_sem, Bool.not_eq_true', Bool.not_eq_false', List.length_map]) | (refine acall2 [] (is6_ok l (by omega) hw) (by simp only [go_sem, Bool.not_eq_true', Bool.not_eq_false']; rfl) (fit_of (by simp only [go_sem, Bool.not_eq_true', Bool.not_eq_false']) (by simp only [go_sem, Bool.not_eq_true', Bool.not_eq_false']) (by simp only [go_sem, Bool.not_eq_true', Bool.not_eq_false']) (by simp only [go_sem, Bool.not_eq_true', Bool.not_eq_false']) (by simp only [go_sem, Bool.not_eq_true', Bool.not_eq_false']) (by simp only [go_sem, Bool.not_eq_true', Bool.not_eq_false']) (by simp only [go_sem, Bool.not_eq_true', Bool.not_eq_false'])) ?_; simp only [go_sem, Bool.not_eq_true', Bool.not_eq_false', List.length_map]) | (refine acall2 [] (awake20_ok) (by simp only [go_sem, Bool.not_eq_true', Bool.not_eq_false']; rfl) (fit_of (by simp only [go_sem, Bool.not_eq_true', Bool.not_eq_false']) (by simp only [go_sem, Bool.not_eq_true', Bool.not_eq_false']) (by simp only [go_sem, Bool.not_eq_true', Bool.not_eq_false']) (by simp only [go_sem, Bool.not_eq_true', Bool.not_eq_false']) (by simp only [go_sem, Bool.not_eq_true', Bool.not_eq_false']) (by simp only [go_sem, Bool.not_eq_true', Bool.not_eq_false']) (by simp only [go_sem, Bool.not_eq_true', Bool.not_eq_false'])) ?_; simp only [go_sem, Bool.not_eq_true', Bool.not_eq_false', List.length_map])
    all_goals first
      | omega
      | ((refine cut_end [] (()) (by simp only [go_sem, Bool.not_eq_true', Bool.not_eq_false']; rfl) ?_ ?_; (focus (simp only [go_sem, Bool.not_eq_true', Bool.not_eq_false']; done)))
         exact ⟨by omega, by assumption, by omega, by omega, by omega⟩)
      | skip
  rintro - ⟨hl, hv, ha, hm, hm2⟩
  have hl1 : l.length ≤ 1000 := by omega
  have hsr := sumH_ran hv l.length
  (refine swp_seqW ?_; simp only [go_sem, Bool.not_eq_true', Bool.not_eq_false'])
  refine swp_cutS (fun _ : Unit => ⟨[(0, .sl 20 (l.map cNo)), (1, .raw (.int .i64 a)), (2, .raw (.int .i64 more)), (7, .raw (.int .i64 (1 + sumH l l.length)))], [], none⟩) (fun _ => True) 3 ?_ ?_
  · (refine swp_seqW ?_; simp only [go_sem, Bool.not_eq_true', Bool.not_eq_false'])
    refine swp_block ?_
    refine swp_loop2 [] (fun z : KY Int => ⟨[(0, .sl 20 (l.map cNo)), (1, .raw (.int .i64 a)), (2, .raw (.int .i64 more)), (7, .raw (.int .i64 z.o)), (8, .raw (.int .i64 z.k))], [], none⟩) (fun z => z.k ≤ l.length ∧ z.o = 1 + sumH l z.k) (fun z => l.length - z.k) 10 ⟨0, 1⟩ (by simp only [go_sem, Bool.not_eq_true', Bool.not_eq_false']; rfl) (by simp only [go_sem, Bool.not_eq_true', Bool.not_eq_false']) ?_ ?_
    · exact ⟨Nat.zero_le _, rfl⟩
    · rintro ⟨k, o⟩ ⟨k1, k2⟩
      simp only at k1 k2
      have hs := sumH_ran hv k
      (refine swp_lastW ?_; simp only [go_sem, Bool.not_eq_true', Bool.not_eq_false', List.length_map])
      refine ⟨fun h5 => ?_, fun h5 => ?_⟩
      · have hk : k < l.length := by omega
        have hd := hed_ran hv k
        have e1 : sumH l (k + 1) = sumH l k + l[k].st.head := by rw [sumH, hedN_get hk]
        rw [hedN_get hk] at hd
        refine ⟨by omega, ex_get hk ?_⟩
        repeat' first | contradiction | intro _ | refine And.intro ?_ ?_ | refine ex_get (by omega) ?_ | (show drawB _ _ = true; kernel_rfl) | (refine ret2 [] (by simp only [go_sem, Bool.not_eq_true', Bool.not_eq_false']; rfl) ?_; simp only [go_sem, Bool.not_eq_true', Bool.not_eq_false'])
        all_goals first
          | omega
          | ((refine loop_end [] (⟨k + 1, o + l[k].st.head⟩) (by simp only [go_sem, Bool.not_eq_true', Bool.not_eq_false']; rfl) ?_ ?_ ?_; (focus first | omega | (simp only; omega)); (focus (simp only [go_sem, Bool.not_eq_true', Bool.not_eq_false']; done)))
             exact ⟨hk, by show o + l[k].st.head = 1 + sumH l (k + 1); omega⟩)
          | skip
      · obtain rfl : k = l.length := by omega
        rw [k2]
        (refine cut_end [] (()) (by simp only [go_sem, Bool.not_eq_true', Bool.not_eq_false']; rfl) ?_ ?_; (focus (simp only [go_sem, Bool.not_eq_true', Bool.not_eq_false']; done)))
        trivial
  rintro - -
  have hof := ofH_ok l a 1 hl1 hw
  have hm1 : mayH l 1 = true := mayH_iff.2 ⟨by omega, hv⟩
  have e1 : ofH l a 1 = ⟨[], 0, 1⟩ := by unfold ofH; rw [if_pos ⟨hm1, ha.1, ha.2⟩]; exact one_law l a
  rw [e1] at hof
  have hle := leaH_ok l 1 hl1 hw
  rw [lea_one hv] at hle
  refine swp_cutS (fun _ : Unit => ⟨[(0, .sl 20 (l.map cNo)), (1, .raw (.int .i64 a)), (2, .raw (.int .i64 more)), (7, .raw (.int .i64 (1 + sumH l l.length)))], [], none⟩) (fun _ => True) 3 ?_ ?_
  · (refine swp_seqW ?_; simp only [go_sem, Bool.not_eq_true', Bool.not_eq_false'])
    (refine acall2 [] (hof) (by simp only [go_sem, Bool.not_eq_true', Bool.not_eq_false']; rfl) (fit_of (by simp only [go_sem, Bool.not_eq_true', Bool.not_eq_false']) (by simp only [go_sem, Bool.not_eq_true', Bool.not_eq_false']) (by simp only [go_sem, Bool.not_eq_true', Bool.not_eq_false']) (by simp only [go_sem, Bool.not_eq_true', Bool.not_eq_false']) (by simp only [go_sem, Bool.not_eq_true', Bool.not_eq_false']) (by simp only [go_sem, Bool.not_eq_true', Bool.not_eq_false']) (by simp only [go_sem, Bool.not_eq_true', Bool.not_eq_false'])) ?_; simp only [go_sem, Bool.not_eq_true', Bool.not_eq_false', List.map])
    (refine swp_lastW ?_; simp only [go_sem, Bool.not_eq_true', Bool.not_eq_false', List.length_nil])
    repeat' first | contradiction | intro _ | refine And.intro ?_ ?_ | refine ex_get (by omega) ?_ | (show drawB _ _ = true; kernel_rfl) | (refine ret2 [] (by simp only [go_sem, Bool.not_eq_true', Bool.not_eq_false', List.length_nil, Int.natCast_zero]; rfl) ?_; simp only [go_sem, Bool.not_eq_true', Bool.not_eq_false', List.length_nil, Int.natCast_zero]) | (refine acall2 [] (hle) (by simp only [go_sem, Bool.not_eq_true', Bool.not_eq_false']; rfl) (fit_of (by simp only [go_sem, Bool.not_eq_true', Bool.not_eq_false']) (by simp only [go_sem, Bool.not_eq_true', Bool.not_eq_false']) (by simp only [go_sem, Bool.not_eq_true', Bool.not_eq_false']) (by simp only [go_sem, Bool.not_eq_true', Bool.not_eq_false']) (by simp only [go_sem, Bool.not_eq_true', Bool.not_eq_false']) (by simp only [go_sem, Bool.not_eq_true', Bool.not_eq_false']) (by simp only [go_sem, Bool.not_eq_true', Bool.not_eq_false'])) ?_; simp only [go_sem, Bool.not_eq_true', Bool.not_eq_false', List.length_nil, Int.natCast_zero])
    all_goals first
      | omega
      | ((refine cut_end [] (()) (by simp only [go_sem, Bool.not_eq_true', Bool.not_eq_false']; rfl) ?_ ?_; (focus (simp only [go_sem, Bool.not_eq_true', Bool.not_eq_false']; done)))
         trivial)
      | skip
  rintro - -
  (refine swp_seqW ?_; simp only [go_sem, Bool.not_eq_true', Bool.not_eq_false'])
  refine ⟨by omega, fun q => ?_, fun q => ?_⟩
  · (refine acall2 [] (awake20_ok) (by simp only [go_sem, Bool.not_eq_true', Bool.not_eq_false']; rfl) (fit_of (by simp only [go_sem, Bool.not_eq_true', Bool.not_eq_false']) (by simp only [go_sem, Bool.not_eq_true', Bool.not_eq_false']) (by simp only [go_sem, Bool.not_eq_true', Bool.not_eq_false']) (by simp only [go_sem, Bool.not_eq_true', Bool.not_eq_false']) (by simp only [go_sem, Bool.not_eq_true', Bool.not_eq_false']) (by simp only [go_sem, Bool.not_eq_true', Bool.not_eq_false']) (by simp only [go_sem, Bool.not_eq_true', Bool.not_eq_false'])) ?_; simp only [go_sem, Bool.not_eq_true', Bool.not_eq_false'])
  have hmm : mayH l (1 + sumH l l.length + more) = true := mayH_iff.2 ⟨by omega, hv⟩
  have hof2 := ofH_ok l a (1 + sumH l l.length + more) hl1 hw
  have e2 : ofH l a (1 + sumH l l.length + more) = resS l a (1 + sumH l l.length + more) := if_pos ⟨hmm, ha.1, ha.2⟩
  rw [e2] at hof2
  have hal := all_law hv a (1 + sumH l l.length + more) (by omega)
  have hrb := res_b (a := a) (h := 1 + sumH l l.length + more) hv (by omega)
  have hab := above9_ok l a hl1 hw
  rw [docN_eq20 hv] at hab
  have hhas : ∀ x ∈ abvN l a, hasN l x = true := fun x hx => abv_has hv hx
  have hlen := abvN_len l a hv
  generalize resS l a (1 + sumH l l.length + more) = Z at *
  generalize abvN l a = r at *
  refine swp_cutS (fun _ : Unit => ⟨[(0, .sl 20 (l.map cNo)), (1, .raw (.int .i64 a)), (10, .hdr 800)], [(800, some (.cells 27 [.sl 1 (Z.hs.map cInt), .raw (.int .i64 Z.hi), .raw (.int .i64 Z.bo)]))], none⟩) (fun _ => True) 120 ?_ ?_
  · (refine swp_lastW ?_; simp only [go_sem, Bool.not_eq_true', Bool.not_eq_false'])
    refine ⟨by omega, ?_⟩
    (refine acall2 [] (hof2) (by simp only [go_sem, Bool.not_eq_true', Bool.not_eq_false']; rfl) (fit_of (by simp only [go_sem, Bool.not_eq_true', Bool.not_eq_false']) (by simp only [go_sem, Bool.not_eq_true', Bool.not_eq_false']) (by simp only [go_sem, Bool.not_eq_true', Bool.not_eq_false']) (by simp only [go_sem, Bool.not_eq_true', Bool.not_eq_false']) (by simp only [go_sem, Bool.not_eq_true', Bool.not_eq_false']) (by simp only [go_sem, Bool.not_eq_true', Bool.not_eq_false']) (by simp only [go_sem, Bool.not_eq_true', Bool.not_eq_false'])) ?_; simp only [go_sem, Bool.not_eq_true', Bool.not_eq_false'])
    (refine cut_end [96 ] ( ()) (by simp only [go_sem, Bool.not_eq_true', Bool.not_eq_false']; rfl) ?_ ?_; (focus (simp only [go_sem, Bool.not_eq_true', Bool.not_eq_false']; done)))
    trivial
  rintro - -
  refine swp_cutS (fun _ : Unit => ⟨[(0, .sl 20 (l.map cNo)), (10, .hdr 800), (11, .sl 1 (r.map cInt))], [(800, some (.cells 27 [.sl 1 (Z.hs.map cInt), .raw (.int .i64 Z.hi), .raw (.int .i64 Z.bo)]))], none⟩) (fun _ => True) 140 ?_ ?_
  · (refine swp_lastW ?_; simp only [go_sem, Bool.not_eq_true', Bool.not_eq_false'])
    (refine acall2 [] (hab) (by simp only [go_sem, Bool.not_eq_true', Bool.not_eq_false']; rfl) (fit_of (by simp only [go_sem, Bool.not_eq_true', Bool.not_eq_false']) (by simp only [go_sem, Bool.not_eq_true', Bool.not_eq_false']) (by simp only [go_sem, Bool.not_eq_true', Bool.not_eq_false']) (by simp only [go_sem, Bool.not_eq_true', Bool.not_eq_false']) (by simp only [go_sem, Bool.not_eq_true', Bool.not_eq_false']) (by simp only [go_sem, Bool.not_eq_true', Bool.not_eq_false']) (by simp only [go_sem, Bool.not_eq_true', Bool.not_eq_false'])) ?_; simp only [go_sem, Bool.not_eq_true', Bool.not_eq_false'])
    (refine cut_end [976 ] ( ()) (by simp only [go_sem, Bool.not_eq_true', Bool.not_eq_false']; rfl) ?_ ?_; (focus (simp only [go_sem, Bool.not_eq_true', Bool.not_eq_false']; done)))
    trivial
  rintro - -
  (refine swp_seqW ?_; simp only [go_sem, Bool.not_eq_true', Bool.not_eq_false'])
  refine swp_cutS (fun n : Nat => ⟨[(10, .hdr 800), (12, .raw (.int .i64 n))], [(800, some (.cells 27 [.sl 1 (Z.hs.map cInt), .raw (.int .i64 Z.hi), .raw (.int .i64 Z.bo)]))], none⟩) (fun n => n = Z.hs.length) 140 ?_ ?_
  · (refine swp_seqW ?_; simp only [go_sem, Bool.not_eq_true', Bool.not_eq_false'])
    refine swp_block ?_
    refine swp_loop2 [] (fun z : KY Nat => ⟨[(0, .sl 20 (l.map cNo)), (10, .hdr 800), (11, .sl 1 (r.map cInt)), (12, .raw (.int .i64 z.o)), (13, .raw (.int .i64 z.k))], [(800, some (.cells 27 [.sl 1 (Z.hs.map cInt), .raw (.int .i64 Z.hi), .raw (.int .i64 Z.bo)]))], none⟩) (fun z => z.k ≤ r.length ∧ z.o ≤ z.k ∧ z.o = ((r.take z.k).filter (fun x => decide (0 < hedN l x))).length) (fun z => r.length - z.k) 140 ⟨0, 0⟩ (by simp only [go_sem, Bool.not_eq_true', Bool.not_eq_false']; rfl) (by simp only [go_sem, Bool.not_eq_true', Bool.not_eq_false']) ?_ ?_
    · exact ⟨Nat.zero_le _, Nat.le_refl _, by simp⟩
    · rintro ⟨k, o⟩ ⟨k1, k0, k2⟩
      simp only at k1 k0 k2
      (refine swp_lastW ?_; simp only [go_sem, Bool.not_eq_true', Bool.not_eq_false', List.length_map])
      refine ⟨fun h5 => ?_, fun h5 => ?_⟩
      · have hk : k < r.length := by omega
        have hx := hasN_iff.1 (hhas r[k] (List.getElem_mem hk))
        have hn : r[k].toNat < l.length := by omega
        have hne : hedN l r[k] = l[r[k].toNat].st.head := by unfold hedN; rw [List.getElem?_eq_getElem hn]
        have e3 : ((r.take (k + 1)).filter (fun x => decide (0 < hedN l x))).length = o + if 0 < l[r[k].toNat].st.head then 1 else 0 := by
          rw [List.take_succ_eq_append_getElem hk, List.filter_append, List.length_append, ← k2]
          by_cases q : 0 < l[r[k].toNat].st.head
          · rw [if_pos q, List.filter_cons_of_pos (by simp [hne, q])]; rfl
          · rw [if_neg q, List.filter_cons_of_neg (by simp only [hne, decide_eq_true_eq]; exact q)]; rfl
        have ho : o ≤ 1000 := by omega
        clear k2 hal hab hhas
        repeat' first | contradiction | intro _ | refine And.intro ?_ ?_ | refine ex_get (by omega) ?_ | (show drawB _ _ = true; kernel_rfl) | (refine ret2 [] (by simp only [go_sem, Bool.not_eq_true', Bool.not_eq_false']; rfl) ?_; simp only [go_sem, Bool.not_eq_true', Bool.not_eq_false'])
        all_goals first
          | omega
          | ((refine loop_end [] (⟨k + 1, o⟩) (by simp only [go_sem, Bool.not_eq_true', Bool.not_eq_false']; rfl) ?_ ?_ ?_; (focus first | omega | (simp only; omega)); (focus (simp only [go_sem, Bool.not_eq_true', Bool.not_eq_false']; done)))
             exact ⟨hk, by simp only; omega, by rw [e3, if_neg (by omega)]; rfl⟩)
          | ((refine loop_end [] (⟨k + 1, o + 1⟩) (by simp only [go_sem, Bool.not_eq_true', Bool.not_eq_false']; rfl) ?_ ?_ ?_; (focus first | omega | (simp only; omega)); (focus (simp only [go_sem, Bool.not_eq_true', Bool.not_eq_false']; done)))
             exact ⟨hk, by simp only; omega, by rw [e3, if_pos (by omega)]⟩)
          | skip
      · rw [List.take_of_length_le (by omega), ← hal] at k2
        (refine cut_end [] (o) (by simp only [go_sem, Bool.not_eq_true', Bool.not_eq_false']; rfl) ?_ ?_; (focus (simp only [go_sem, Bool.not_eq_true', Bool.not_eq_false']; done)))
        exact k2
  rintro n rfl
  (refine swp_lastW ?_; simp only [go_sem, Bool.not_eq_true', Bool.not_eq_false', List.length_map])
  repeat' first | contradiction | intro _ | refine And.intro ?_ ?_ | refine ex_get (by omega) ?_ | (show drawB _ _ = true; kernel_rfl) | (refine ret2 [] (by simp only [go_sem, Bool.not_eq_true', Bool.not_eq_false']; rfl) ?_; simp only [go_sem, Bool.not_eq_true', Bool.not_eq_false']) | (refine acall2 [] (awake20_ok) (by simp only [go_sem, Bool.not_eq_true', Bool.not_eq_false']; rfl) (fit_of (by simp only [go_sem, Bool.not_eq_true', Bool.not_eq_false']) (by simp only [go_sem, Bool.not_eq_true', Bool.not_eq_false']) (by simp only [go_sem, Bool.not_eq_true', Bool.not_eq_false']) (by simp only [go_sem, Bool.not_eq_true', Bool.not_eq_false']) (by simp only [go_sem, Bool.not_eq_true', Bool.not_eq_false']) (by simp only [go_sem, Bool.not_eq_true', Bool.not_eq_false']) (by simp only [go_sem, Bool.not_eq_true', Bool.not_eq_false'])) ?_; simp only [go_sem, Bool.not_eq_true', Bool.not_eq_false'])
  all_goals first
    | omega
    | skip
end Go.Proofs.Ytjkndjpkmkbnkaa
