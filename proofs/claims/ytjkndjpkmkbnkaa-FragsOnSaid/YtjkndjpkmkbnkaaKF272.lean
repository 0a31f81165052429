/- CONTRACTS of the functions, and plain laws, joined out of: GScrE GScrF GKinK GKinL GKinN GFraA G16 GFraB GFraC GFraD PagO GFraE GFraF GFraG GFraH GFraI GFraJ. -/
import Derived.Test.YtjkndjpkmkbnkaaKF271
/- THE SCRIPT'S READER: one node, nodes. -/
/- G -/
/- BOOLS -/
/- GET get_tk -/
set_option linter.unusedSimpArgs false
set_option linter.unusedVariables false
namespace Go.Proofs.Ytjkndjpkmkbnkaa
open Go.RowKit

set_option maxRecDepth 100000 in
set_option maxHeartbeats 4000000 in
theorem one5_ok (rec : Nat → Option (List LNo × Nat)) (l : List LTk) (hrec : ∀ k r, k ≤ l.length → rec k = some r → FnOk Try.prog 48 [.sl 4 (l.map cTk), .raw (.int .i64 k)] [] (aGot r) []) (k : Nat) (r : List LNo × Nat) (hl : l.length ≤ 1000) (hk : k ≤ l.length) (h : oneS rec l k = some r) : FnOk Try.prog 70 [.sl 4 (l.map cTk), .raw (.int .i64 k)] [] (aGot r) [] := by
  refine fn_of_swp Try.func70 rfl (by kernel_rfl) (by kernel_rfl) (Nat.le_of_ble_eq_true rfl) Try.results70 ?_
  unfold oneS at h
  (refine swp_seqW ?_; simp only [go_sem, Bool.not_eq_true', Bool.not_eq_false'])
  (refine swp_seqW ?_; simp only [go_sem, Bool.not_eq_true', Bool.not_eq_false'])
  (refine acall2 [] (sign5_ok l k 91 hl) (by simp only [go_sem, Bool.not_eq_true', Bool.not_eq_false']; rfl) (fit_of (by simp only [go_sem, Bool.not_eq_true', Bool.not_eq_false']) (by simp only [go_sem, Bool.not_eq_true', Bool.not_eq_false']) (by simp only [go_sem, Bool.not_eq_true', Bool.not_eq_false']) (by simp only [go_sem, Bool.not_eq_true', Bool.not_eq_false']) (by simp only [go_sem, Bool.not_eq_true', Bool.not_eq_false']) (by simp only [go_sem, Bool.not_eq_true', Bool.not_eq_false']) (by simp only [go_sem, Bool.not_eq_true', Bool.not_eq_false'])) ?_; simp only [go_sem, Bool.not_eq_true', Bool.not_eq_false'])
  refine ⟨fun h1 => ?_, fun h1 => ?_⟩
  · rw [if_pos h1] at h
    (refine acall2 [] (block5_ok rec l hrec k r hl h) (by simp only [go_sem, Bool.not_eq_true', Bool.not_eq_false']; rfl) (fit_of (by simp only [go_sem, Bool.not_eq_true', Bool.not_eq_false']) (by simp only [go_sem, Bool.not_eq_true', Bool.not_eq_false']) (by simp only [go_sem, Bool.not_eq_true', Bool.not_eq_false']) (by simp only [go_sem, Bool.not_eq_true', Bool.not_eq_false']) (by simp only [go_sem, Bool.not_eq_true', Bool.not_eq_false']) (by simp only [go_sem, Bool.not_eq_true', Bool.not_eq_false']) (by simp only [go_sem, Bool.not_eq_true', Bool.not_eq_false'])) ?_; simp only [go_sem, Bool.not_eq_true', Bool.not_eq_false'])
    (refine ret2 [] (by simp only [go_sem, Bool.not_eq_true', Bool.not_eq_false']; rfl) ?_; simp only [go_sem, Bool.not_eq_true', Bool.not_eq_false'])
  rw [if_neg (by rw [h1]; decide)] at h
  (refine swp_seqW ?_; simp only [go_sem, Bool.not_eq_true', Bool.not_eq_false'])
  (refine acall2 [] (sign5_ok l k 40 hl) (by simp only [go_sem, Bool.not_eq_true', Bool.not_eq_false']; rfl) (fit_of (by simp only [go_sem, Bool.not_eq_true', Bool.not_eq_false']) (by simp only [go_sem, Bool.not_eq_true', Bool.not_eq_false']) (by simp only [go_sem, Bool.not_eq_true', Bool.not_eq_false']) (by simp only [go_sem, Bool.not_eq_true', Bool.not_eq_false']) (by simp only [go_sem, Bool.not_eq_true', Bool.not_eq_false']) (by simp only [go_sem, Bool.not_eq_true', Bool.not_eq_false']) (by simp only [go_sem, Bool.not_eq_true', Bool.not_eq_false'])) ?_; simp only [go_sem, Bool.not_eq_true', Bool.not_eq_false'])
  refine ⟨fun h2 => ?_, fun h2 => ?_⟩
  · rw [if_pos h2] at h
    (refine acall2 [] (text5_ok l k r hl h) (by simp only [go_sem, Bool.not_eq_true', Bool.not_eq_false']; rfl) (fit_of (by simp only [go_sem, Bool.not_eq_true', Bool.not_eq_false']) (by simp only [go_sem, Bool.not_eq_true', Bool.not_eq_false']) (by simp only [go_sem, Bool.not_eq_true', Bool.not_eq_false']) (by simp only [go_sem, Bool.not_eq_true', Bool.not_eq_false']) (by simp only [go_sem, Bool.not_eq_true', Bool.not_eq_false']) (by simp only [go_sem, Bool.not_eq_true', Bool.not_eq_false']) (by simp only [go_sem, Bool.not_eq_true', Bool.not_eq_false'])) ?_; simp only [go_sem, Bool.not_eq_true', Bool.not_eq_false'])
    (refine ret2 [] (by simp only [go_sem, Bool.not_eq_true', Bool.not_eq_false']; rfl) ?_; simp only [go_sem, Bool.not_eq_true', Bool.not_eq_false'])
  rw [if_neg (by rw [h2]; decide)] at h
  (refine swp_seqW ?_; simp only [go_sem, Bool.not_eq_true', Bool.not_eq_false'])
  (refine acall2 [] (sign5_ok l k 123 hl) (by simp only [go_sem, Bool.not_eq_true', Bool.not_eq_false']; rfl) (fit_of (by simp only [go_sem, Bool.not_eq_true', Bool.not_eq_false']) (by simp only [go_sem, Bool.not_eq_true', Bool.not_eq_false']) (by simp only [go_sem, Bool.not_eq_true', Bool.not_eq_false']) (by simp only [go_sem, Bool.not_eq_true', Bool.not_eq_false']) (by simp only [go_sem, Bool.not_eq_true', Bool.not_eq_false']) (by simp only [go_sem, Bool.not_eq_true', Bool.not_eq_false']) (by simp only [go_sem, Bool.not_eq_true', Bool.not_eq_false'])) ?_; simp only [go_sem, Bool.not_eq_true', Bool.not_eq_false'])
  refine ⟨fun h3 => ?_, fun h3 => ?_⟩
  · rw [if_pos h3] at h
    refine ⟨by omega, ?_⟩
    (refine acallF2 [112 ] [] ( box5_ok l (k + 1) ⟨3, 1, sty0, 0, 0, [], 0, 0, 0⟩ 125 r hl h) (by simp only [go_sem, Bool.not_eq_true', Bool.not_eq_false']; rfl) (fit_of (by simp only [go_sem, Bool.not_eq_true', Bool.not_eq_false']) (by simp only [go_sem, Bool.not_eq_true', Bool.not_eq_false']) (by simp only [go_sem, Bool.not_eq_true', Bool.not_eq_false']) (by simp only [go_sem, Bool.not_eq_true', Bool.not_eq_false']) (by simp only [go_sem, Bool.not_eq_true', Bool.not_eq_false']) (by simp only [go_sem, Bool.not_eq_true', Bool.not_eq_false']) (by simp only [go_sem, Bool.not_eq_true', Bool.not_eq_false'])) ?_; simp only [go_sem, Bool.not_eq_true', Bool.not_eq_false'])
    (refine ret2 [] (by simp only [go_sem, Bool.not_eq_true', Bool.not_eq_false']; rfl) ?_; simp only [go_sem, Bool.not_eq_true', Bool.not_eq_false'])
  rw [if_neg (by rw [h3]; decide)] at h
  (refine swp_seqW ?_; simp only [go_sem, Bool.not_eq_true', Bool.not_eq_false'])
  refine ⟨by omega, ?_⟩
  (refine acall2 [] (sign5_ok l (k + 1) 76 hl) (by simp only [go_sem, Bool.not_eq_true', Bool.not_eq_false']; rfl) (fit_of (by simp only [go_sem, Bool.not_eq_true', Bool.not_eq_false']) (by simp only [go_sem, Bool.not_eq_true', Bool.not_eq_false']) (by simp only [go_sem, Bool.not_eq_true', Bool.not_eq_false']) (by simp only [go_sem, Bool.not_eq_true', Bool.not_eq_false']) (by simp only [go_sem, Bool.not_eq_true', Bool.not_eq_false']) (by simp only [go_sem, Bool.not_eq_true', Bool.not_eq_false']) (by simp only [go_sem, Bool.not_eq_true', Bool.not_eq_false'])) ?_; simp only [go_sem, Bool.not_eq_true', Bool.not_eq_false'])
  refine ⟨fun h4 => ?_, fun h4 => ?_⟩
  · rw [if_pos h4] at h
    refine ⟨by omega, ?_⟩
    (refine acallF2 [144 ] [] ( box5_ok l (k + 2) ⟨4, 1, sty0, 0, 0, [], 1, 0, 0⟩ 62 r hl h) (by simp only [go_sem, Bool.not_eq_true', Bool.not_eq_false']; rfl) (fit_of (by simp only [go_sem, Bool.not_eq_true', Bool.not_eq_false']) (by simp only [go_sem, Bool.not_eq_true', Bool.not_eq_false']) (by simp only [go_sem, Bool.not_eq_true', Bool.not_eq_false']) (by simp only [go_sem, Bool.not_eq_true', Bool.not_eq_false']) (by simp only [go_sem, Bool.not_eq_true', Bool.not_eq_false']) (by simp only [go_sem, Bool.not_eq_true', Bool.not_eq_false']) (by simp only [go_sem, Bool.not_eq_true', Bool.not_eq_false'])) ?_; simp only [go_sem, Bool.not_eq_true', Bool.not_eq_false'])
    (refine ret2 [] (by simp only [go_sem, Bool.not_eq_true', Bool.not_eq_false']; rfl) ?_; simp only [go_sem, Bool.not_eq_true', Bool.not_eq_false'])
  rw [if_neg (by rw [h4]; decide)] at h
  (refine swp_seqW ?_; simp only [go_sem, Bool.not_eq_true', Bool.not_eq_false'])
  refine ⟨by omega, ?_⟩
  (refine acall2 [] (sign5_ok l (k + 1) 82 hl) (by simp only [go_sem, Bool.not_eq_true', Bool.not_eq_false']; rfl) (fit_of (by simp only [go_sem, Bool.not_eq_true', Bool.not_eq_false']) (by simp only [go_sem, Bool.not_eq_true', Bool.not_eq_false']) (by simp only [go_sem, Bool.not_eq_true', Bool.not_eq_false']) (by simp only [go_sem, Bool.not_eq_true', Bool.not_eq_false']) (by simp only [go_sem, Bool.not_eq_true', Bool.not_eq_false']) (by simp only [go_sem, Bool.not_eq_true', Bool.not_eq_false']) (by simp only [go_sem, Bool.not_eq_true', Bool.not_eq_false'])) ?_; simp only [go_sem, Bool.not_eq_true', Bool.not_eq_false'])
  refine ⟨fun h5 => ?_, fun h5 => ?_⟩
  · rw [if_pos h5] at h
    refine ⟨by omega, ?_⟩
    (refine acallF2 [176 ] [] ( box5_ok l (k + 2) ⟨4, 1, sty0, 0, 0, [], 2, 0, 0⟩ 62 r hl h) (by simp only [go_sem, Bool.not_eq_true', Bool.not_eq_false']; rfl) (fit_of (by simp only [go_sem, Bool.not_eq_true', Bool.not_eq_false']) (by simp only [go_sem, Bool.not_eq_true', Bool.not_eq_false']) (by simp only [go_sem, Bool.not_eq_true', Bool.not_eq_false']) (by simp only [go_sem, Bool.not_eq_true', Bool.not_eq_false']) (by simp only [go_sem, Bool.not_eq_true', Bool.not_eq_false']) (by simp only [go_sem, Bool.not_eq_true', Bool.not_eq_false']) (by simp only [go_sem, Bool.not_eq_true', Bool.not_eq_false'])) ?_; simp only [go_sem, Bool.not_eq_true', Bool.not_eq_false'])
    (refine ret2 [] (by simp only [go_sem, Bool.not_eq_true', Bool.not_eq_false']; rfl) ?_; simp only [go_sem, Bool.not_eq_true', Bool.not_eq_false'])
  rw [if_neg (by rw [h5]; decide)] at h
  cases h
theorem nodesG_len (rec : Nat → Option (List LNo × Nat)) (l : List LTk) : ∀ g k r, nodesG rec l g k = some r → r.1.length < 1000
  | 0, k, r, h => by cases h
  | g + 1, k, r, h => by
    rw [nodesG] at h
    split at h
    case isFalse => cases h
    split at h
    case isFalse =>
      injection h with h
      subst h
      exact Nat.zero_lt_succ _
    split at h
    case h_2 => cases h
    split at h
    case isFalse => cases h
    split at h
    case h_2 => cases h
    split at h
    case isFalse => cases h
    next hh =>
    injection h with h
    subst h
    simp only [List.length_append]
    exact hh
structure LNd where
  k : Nat
  acc : List LNo
set_option maxRecDepth 100000 in
set_option maxHeartbeats 4000000 in
theorem nodesG_ok (rec : Nat → Option (List LNo × Nat)) (l : List LTk) (hrec : ∀ k r, k ≤ l.length → rec k = some r → FnOk Try.prog 48 [.sl 4 (l.map cTk), .raw (.int .i64 k)] [] (aGot r) []) (g k : Nat) (r : List LNo × Nat) (hl : l.length ≤ 1000) (hk : k ≤ l.length) (h : nodesG rec l g k = some r) : FnOk Try.prog 48 [.sl 4 (l.map cTk), .raw (.int .i64 k)] [] (aGot r) [] := by
  have hlen := nodesG_len rec l g k r h
  refine fn_of_swp Try.func48 rfl (by kernel_rfl) (by kernel_rfl) (Nat.le_of_ble_eq_true rfl) Try.results48 ?_
  (refine swp_seqW ?_; simp only [go_sem, Bool.not_eq_true', Bool.not_eq_false'])
  (refine swp_seqW ?_; simp only [go_sem, Bool.not_eq_true', Bool.not_eq_false'])
  refine swp_cutS (fun z : LNd => ⟨[(4, .hdr 8), (5, .hdr 16)], [(8, some (.cells 90 [.hdr 9, .raw (.int .i64 0), .raw (.int .i64 0)])), (9, some (.row 37 20 [])), (16, some (.cells 90 [.hdr 17, .raw (.int .i64 z.k), .raw (.int .i64 0)])), (17, some (.row 37 20 (z.acc.map cNo)))], none⟩) (fun z => (z.acc, z.k) = r) 4 ?_ ?_
  · refine swp_block ?_
    refine swp_loop2 [] (fun z : LNd => ⟨[(0, .sl 4 (l.map cTk)), (4, .hdr 8), (5, .hdr 16)], [(8, some (.cells 90 [.hdr 9, .raw (.int .i64 0), .raw (.int .i64 0)])), (9, some (.row 37 20 [])), (16, some (.cells 90 [.hdr 17, .raw (.int .i64 z.k), .raw (.int .i64 0)])), (17, some (.row 37 20 (z.acc.map cNo)))], none⟩) (fun z => z.k ≤ l.length ∧ ∃ f q, nodesG rec l f z.k = some q ∧ (z.acc ++ q.1, q.2) = r) (fun z => l.length - z.k) 40 ⟨k, []⟩ (by simp only [go_sem, Bool.not_eq_true', Bool.not_eq_false']; rfl) (by simp only [go_sem, Bool.not_eq_true', Bool.not_eq_false']) ?_ ?_
    · exact ⟨hk, g, r, h, rfl⟩
    · rintro ⟨kk, acc⟩ ⟨q1, f, q, q2, q3⟩
      simp only at q1 q2 q3
      obtain ⟨f, rfl⟩ : ∃ f', f = f' + 1 := by
        cases f with
        | zero => cases q2
        | succ g => exact ⟨g, rfl⟩
      rw [nodesG, if_pos q1] at q2
      (refine swp_seqW ?_; simp only [go_sem, Bool.not_eq_true', Bool.not_eq_false'])
      (refine acall2 [] (sign5_ok l kk 91 hl) (by simp only [go_sem, Bool.not_eq_true', Bool.not_eq_false']; rfl) (fit_of (by simp only [go_sem, Bool.not_eq_true', Bool.not_eq_false']) (by simp only [go_sem, Bool.not_eq_true', Bool.not_eq_false']) (by simp only [go_sem, Bool.not_eq_true', Bool.not_eq_false']) (by simp only [go_sem, Bool.not_eq_true', Bool.not_eq_false']) (by simp only [go_sem, Bool.not_eq_true', Bool.not_eq_false']) (by simp only [go_sem, Bool.not_eq_true', Bool.not_eq_false']) (by simp only [go_sem, Bool.not_eq_true', Bool.not_eq_false'])) ?_; simp only [go_sem, Bool.not_eq_true', Bool.not_eq_false'])
      refine ⟨fun c1 => ?_, fun c1 => ?_⟩
      (refine acall2 [] (sign5_ok l kk 40 hl) (by simp only [go_sem, Bool.not_eq_true', Bool.not_eq_false']; rfl) (fit_of (by simp only [go_sem, Bool.not_eq_true', Bool.not_eq_false']) (by simp only [go_sem, Bool.not_eq_true', Bool.not_eq_false']) (by simp only [go_sem, Bool.not_eq_true', Bool.not_eq_false']) (by simp only [go_sem, Bool.not_eq_true', Bool.not_eq_false']) (by simp only [go_sem, Bool.not_eq_true', Bool.not_eq_false']) (by simp only [go_sem, Bool.not_eq_true', Bool.not_eq_false']) (by simp only [go_sem, Bool.not_eq_true', Bool.not_eq_false'])) ?_; simp only [go_sem, Bool.not_eq_true', Bool.not_eq_false'])
      refine ⟨fun c2 => ?_, fun c2 => ?_⟩
      (refine acall2 [] (sign5_ok l kk 123 hl) (by simp only [go_sem, Bool.not_eq_true', Bool.not_eq_false']; rfl) (fit_of (by simp only [go_sem, Bool.not_eq_true', Bool.not_eq_false']) (by simp only [go_sem, Bool.not_eq_true', Bool.not_eq_false']) (by simp only [go_sem, Bool.not_eq_true', Bool.not_eq_false']) (by simp only [go_sem, Bool.not_eq_true', Bool.not_eq_false']) (by simp only [go_sem, Bool.not_eq_true', Bool.not_eq_false']) (by simp only [go_sem, Bool.not_eq_true', Bool.not_eq_false']) (by simp only [go_sem, Bool.not_eq_true', Bool.not_eq_false'])) ?_; simp only [go_sem, Bool.not_eq_true', Bool.not_eq_false'])
      refine ⟨fun c3 => ?_, fun c3 => ?_⟩
      (refine acall2 [] (sign5_ok l kk 60 hl) (by simp only [go_sem, Bool.not_eq_true', Bool.not_eq_false']; rfl) (fit_of (by simp only [go_sem, Bool.not_eq_true', Bool.not_eq_false']) (by simp only [go_sem, Bool.not_eq_true', Bool.not_eq_false']) (by simp only [go_sem, Bool.not_eq_true', Bool.not_eq_false']) (by simp only [go_sem, Bool.not_eq_true', Bool.not_eq_false']) (by simp only [go_sem, Bool.not_eq_true', Bool.not_eq_false']) (by simp only [go_sem, Bool.not_eq_true', Bool.not_eq_false']) (by simp only [go_sem, Bool.not_eq_true', Bool.not_eq_false'])) ?_; simp only [go_sem, Bool.not_eq_true', Bool.not_eq_false'])
      refine ⟨fun c4 => ?_, fun c4 => ?_⟩
      rotate_left
      · rw [if_neg (by simp [startB, c1, c2, c3, c4])] at q2
        injection q2 with q2
        subst q2
        (refine cut_end [] (⟨kk, acc⟩) (by simp only [go_sem, Bool.not_eq_true', Bool.not_eq_false']; rfl) ?_ ?_; (focus (simp only [go_sem, Bool.not_eq_true', Bool.not_eq_false']; done)))
        rw [← q3]; simp
      all_goals (have hs : startB l kk = true := by simp [startB, *])
      all_goals
        rw [if_pos hs] at q2
        split at q2
        case h_2 => cases q2
        next ns k1 hone =>
        split at q2
        case isFalse => cases q2
        next hk1 =>
        split at q2
        case h_2 => cases q2
        next rr k2 hrest =>
        split at q2
        case isFalse => cases q2
        next hh =>
        injection q2 with q2
        subst q2
        subst q3
        simp only [List.length_append] at hlen
        refine swp_block ?_
        (refine swp_seqW ?_; simp only [go_sem, Bool.not_eq_true', Bool.not_eq_false'])
        (refine acall2 [] (one5_ok rec l hrec kk (ns, k1) hl q1 hone) (by simp only [go_sem, Bool.not_eq_true', Bool.not_eq_false']; rfl) (fit_of (by simp only [go_sem, Bool.not_eq_true', Bool.not_eq_false']) (by simp only [go_sem, Bool.not_eq_true', Bool.not_eq_false']) (by simp only [go_sem, Bool.not_eq_true', Bool.not_eq_false']) (by simp only [go_sem, Bool.not_eq_true', Bool.not_eq_false']) (by simp only [go_sem, Bool.not_eq_true', Bool.not_eq_false']) (by simp only [go_sem, Bool.not_eq_true', Bool.not_eq_false']) (by simp only [go_sem, Bool.not_eq_true', Bool.not_eq_false'])) ?_; simp only [go_sem, Bool.not_eq_true', Bool.not_eq_false'])
        (refine swp_lastW ?_; simp only [go_sem, Bool.not_eq_true', Bool.not_eq_false', Int.reduceToNat, Int.reduceLT, Int.reduceLE, Int.reduceEq, Int.reduceAdd, Int.reduceSub, Int.reduceMul, Int.reduceNeg, Int.reduceNe, decide_false, Int.cast_ofNat_Int, kSet, List.getElem?_cons_succ, List.getElem?_cons_zero, List.set_cons_succ, List.set_cons_zero, exists_eq_left', forall_const, true_implies, List.length_map])
        refine ⟨⟨by omega, by omega⟩, ?_⟩
        have hb : k1 ≤ l.length := by
          cases f with
          | zero => cases hrest
          | succ f =>
            rw [nodesG] at hrest
            split at hrest
            case isFalse => cases hrest
            next hb => exact hb
        (refine loop_end [] (⟨k1, acc ++ ns⟩) (by simp only [go_sem, Bool.not_eq_true', Bool.not_eq_false']; rfl) ?_ ?_ ?_; (focus first | omega | (simp only; omega)); (focus (simp only [go_sem, Bool.not_eq_true', Bool.not_eq_false', List.map_append]; done)))
        exact ⟨hb, f, (rr, k2), hrest, by simp⟩
  rintro ⟨kk, acc⟩ hr
  subst hr
  (refine swp_lastW ?_; simp only [go_sem, Bool.not_eq_true', Bool.not_eq_false'])
  (refine ret2 [17] (by simp only [go_sem, Bool.not_eq_true', Bool.not_eq_false']; rfl) ?_; simp only [go_sem, Bool.not_eq_true', Bool.not_eq_false'])
end Go.Proofs.Ytjkndjpkmkbnkaa
/- THE SCRIPT'S READER: the whole. -/
/- G -/
/- BOOLS -/
set_option linter.unusedSimpArgs false
set_option linter.unusedVariables false
namespace Go.Proofs.Ytjkndjpkmkbnkaa
open Go.RowKit

theorem nodes5_ok (l : List LTk) (hl : l.length ≤ 1000) : ∀ (f k : Nat) (r : List LNo × Nat), k ≤ l.length → nodesS l f k = some r → FnOk Try.prog 48 [.sl 4 (l.map cTk), .raw (.int .i64 k)] [] (aGot r) []
  | 0, _, _, _, h => by cases h
  | f + 1, k, r, hk, h => nodesG_ok (nodesS l f) l (nodes5_ok l hl f) (l.length + 1) k r hl hk h
set_option maxRecDepth 100000 in
set_option maxHeartbeats 4000000 in
theorem of5_ok (s : ByteArray) (l : List LTk) (ns : List LNo) (ha : ascii s) (hs : s.size ≤ 1000) (h1 : tokS s (s.size + 1) 0 = some l) (hl : l.length ≤ 1000) (h2 : nodesS l (l.length + 1) 0 = some (ns, l.length)) : FnOk Try.prog 27 [.raw (.string s)] [] (.tup [.sl 20 (ns.map cNo), .raw (.int .i64 0), .raw (.int .i64 0)]) [] := by
  have hn : FnOk Try.prog 48 [.sl 4 (l.map cTk), .raw (.int .i64 0)] [] (aGot (ns, l.length)) [] := nodes5_ok l hl (l.length + 1) 0 (ns, l.length) (Nat.zero_le _) h2
  refine fn_of_awp Try.func27 rfl (by kernel_rfl) (by kernel_rfl) (Nat.le_of_ble_eq_true rfl) Try.results27 ?_
  simp only [go_sem, Bool.not_eq_true', Bool.not_eq_false']
  (refine acall2 [] (tok4_ok s l ha hs h1) (by simp only [go_sem, Bool.not_eq_true', Bool.not_eq_false']; rfl) (fit_of (by simp only [go_sem, Bool.not_eq_true', Bool.not_eq_false']) (by simp only [go_sem, Bool.not_eq_true', Bool.not_eq_false']) (by simp only [go_sem, Bool.not_eq_true', Bool.not_eq_false']) (by simp only [go_sem, Bool.not_eq_true', Bool.not_eq_false']) (by simp only [go_sem, Bool.not_eq_true', Bool.not_eq_false']) (by simp only [go_sem, Bool.not_eq_true', Bool.not_eq_false']) (by simp only [go_sem, Bool.not_eq_true', Bool.not_eq_false'])) ?_; simp only [go_sem, Bool.not_eq_true', Bool.not_eq_false', Int.reduceToNat, Int.reduceLT, Int.reduceLE, Int.reduceEq, Int.reduceAdd, Int.reduceSub, Int.reduceMul, Int.reduceNeg, Int.reduceNe, decide_false, Int.cast_ofNat_Int, kSet, List.getElem?_cons_succ, List.getElem?_cons_zero, List.set_cons_succ, List.set_cons_zero, exists_eq_left', forall_const, true_implies])
  (refine acallF2 [40 ] [] ( hn) (by simp only [go_sem, Bool.not_eq_true', Bool.not_eq_false']; rfl) (fit_of (by simp only [go_sem, Bool.not_eq_true', Bool.not_eq_false']) (by simp only [go_sem, Bool.not_eq_true', Bool.not_eq_false']) (by simp only [go_sem, Bool.not_eq_true', Bool.not_eq_false']) (by simp only [go_sem, Bool.not_eq_true', Bool.not_eq_false']) (by simp only [go_sem, Bool.not_eq_true', Bool.not_eq_false']) (by simp only [go_sem, Bool.not_eq_true', Bool.not_eq_false']) (by simp only [go_sem, Bool.not_eq_true', Bool.not_eq_false'])) ?_; simp only [go_sem, Bool.not_eq_true', Bool.not_eq_false', Int.reduceToNat, Int.reduceLT, Int.reduceLE, Int.reduceEq, Int.reduceAdd, Int.reduceSub, Int.reduceMul, Int.reduceNeg, Int.reduceNe, decide_false, Int.cast_ofNat_Int, kSet, List.getElem?_cons_succ, List.getElem?_cons_zero, List.set_cons_succ, List.set_cons_zero, exists_eq_left', forall_const, true_implies, List.length_map])
  refine ⟨fun q => absurd q (by omega), fun _ => ?_⟩
  (refine ret2 [] (by simp only [go_sem, Bool.not_eq_true', Bool.not_eq_false']; rfl) ?_; simp only [go_sem, Bool.not_eq_true', Bool.not_eq_false'])
def asciiB (s : ByteArray) : Bool := (List.range s.size).all (fun q => decide (byteAt s q ≤ 127))
theorem ascii_of (s : ByteArray) (h : asciiB s = true) : ascii s := fun q hq => of_decide_eq_true (List.all_eq_true.1 h q (List.mem_range.2 hq))
def rdS (s : ByteArray) : Option (List LNo) :=
  if asciiB s = true ∧ s.size ≤ 1000 then match tokS s (s.size + 1) 0 with
    | some l => if l.length ≤ 1000 then match nodesS l (l.length + 1) 0 with
      | some (ns, k) => if k = l.length then some ns else none
      | none => none
      else none
    | none => none
  else none
set_option maxRecDepth 100000 in
theorem rdS_ok (s : ByteArray) (ns : List LNo) (h : rdS s = some ns) : FnOk Try.prog 27 [.raw (.string s)] [] (.tup [.sl 20 (ns.map cNo), .raw (.int .i64 0), .raw (.int .i64 0)]) [] := by
  unfold rdS at h
  split at h
  case isFalse => cases h
  next ha =>
  split at h
  case h_2 => cases h
  next l h1 =>
  split at h
  case isFalse => cases h
  next hl =>
  split at h
  case h_2 => cases h
  next q k h2 =>
  split at h
  case isFalse => cases h
  next hk =>
  injection h with h
  subst h
  subst hk
  exact of5_ok s l q (ascii_of s ha.1) ha.2 h1 hl h2
def scr08 : ByteArray := { data := #[91, 105, 53, 32, 40, 49, 48, 32, 50, 32, 51, 48, 41, 91, 105, 54, 48, 32, 123, 51, 32, 52, 125, 93, 93, 123, 49, 32, 49, 125] }
def nds08 : List LNo := [⟨1, 4, ⟨0, 0, 0, 0, 5, 2, 2, 0, 0, 0, 0, 0⟩, 0, 0, [], 0, 0, 0⟩, ⟨2, 1, sty0, 10, 2, [30], 0, 0, 0⟩, ⟨1, 2, ⟨0, 0, 0, 0, 60, 2, 2, 0, 0, 0, 0, 0⟩, 0, 0, [], 0, 0, 0⟩, ⟨3, 1, sty0, 0, 0, [], 0, 3, 4⟩, ⟨3, 1, sty0, 0, 0, [], 0, 1, 1⟩]
theorem rd08 : rdS scr08 = some nds08 := by kernel_rfl
end Go.Proofs.Ytjkndjpkmkbnkaa
/- CHAPTER 16: the laws' own functions; the chapter's examples. -/
/- G -/
/- BOOLS -/
set_option linter.unusedSimpArgs false
set_option linter.unusedVariables false
namespace Go.Proofs.Ytjkndjpkmkbnkaa
open Go.RowKit

def vst2 (l : List LNo) (of : List Int) : Bool := decide (60 < l.length) || (decide (200 < of.length) || l.any (fun x => decide (100 < x.words.length)))
theorem vst2_no {l : List LNo} {of : List Int} (h : vst2 l of = false) : l.length ≤ 60 ∧ of.length ≤ 200 ∧ ∀ x ∈ l, x.words.length ≤ 100 := by
  simp only [vst2, Bool.or_eq_false_iff, decide_eq_false_iff_not, List.any_eq_false, decide_eq_true_eq] at h
  exact ⟨by omega, by omega, fun x hx => by have := h.2.2 x hx; omega⟩
end Go.Proofs.Ytjkndjpkmkbnkaa
/- CHAPTER 16: the chapter's examples. -/
/- G -/
/- BOOLS -/
set_option linter.unusedSimpArgs false
set_option linter.unusedVariables false
namespace Go.Proofs.Ytjkndjpkmkbnkaa
open Go.RowKit

theorem hw_of {l : List LNo} (h : l.all (fun x => decide (x.words.length ≤ 100)) = true) : ∀ x ∈ l, x.words.length ≤ 9223372036854775807 := fun x hx => by
  have := of_decide_eq_true (List.all_eq_true.1 h x hx)
  omega
def sKin (x : LKin) : AV := .agg [.sl 1 (x.ends.map cInt), .sl 1 (x.begins.map cInt), .sl 1 (x.both.map cInt), .raw (.int .i64 x.text)]
attribute [go_sem] sKin
theorem kinA_len (l : List LNo) (of : List Int) (k : Int) : (kinA l of k).ends.length ≤ l.length ∧ (kinA l of k).begins.length ≤ l.length ∧ (kinA l of k).both.length ≤ l.length := by
  unfold kinA
  split
  · next h =>
    rw [kinG, Bool.and_eq_true] at h
    have hv := (chk_has h.1).1
    unfold kinS
    simp only [List.length_reverse]
    exact ⟨choS_len _ _ _ _ hv, choS_len _ _ _ _ hv, choS_len _ _ _ _ hv⟩
  · simp [kin0]
def scr16 : ByteArray := { data := #[91, 32, 40, 49, 32, 48, 32, 53, 32, 53, 41, 32, 91, 32, 123, 49, 32, 49, 125, 32, 93, 32, 93, 32, 123, 50, 32, 50, 125] }
def nds16 : List LNo := [⟨1, 4, sty2, 0, 0, [], 0, 0, 0⟩, ⟨2, 1, sty0, 1, 0, [5, 5], 0, 0, 0⟩, ⟨1, 2, sty2, 0, 0, [], 0, 0, 0⟩, ⟨3, 1, sty0, 0, 0, [], 0, 1, 1⟩, ⟨3, 1, sty0, 0, 0, [], 0, 2, 2⟩]
theorem rd16 : rdS scr16 = some nds16 := by kernel_rfl
theorem of16 : FnOk Try.prog 27 [.raw (.string { data := #[91, 32, 40, 49, 32, 48, 32, 53, 32, 53, 41, 32, 91, 32, 123, 49, 32, 49, 125, 32, 93, 32, 93, 32, 123, 50, 32, 50, 125] })] [] (.tup [.sl 20 (nds16.map cNo), .raw (.int .i64 0), .raw (.int .i64 0)]) [] := rdS_ok scr16 nds16 rd16
theorem w16 : ∀ x ∈ nds16, x.words.length ≤ 9223372036854775807 := hw_of (by kernel_rfl)
theorem y3 {a b c : List Int} (h : (Nat.ble a.length 1000 && Nat.ble b.length 1000 && Nat.ble c.length 1000) = true) : a.length ≤ 1000 ∧ b.length ≤ 1000 ∧ c.length ≤ 1000 := by
  simp only [Bool.and_eq_true] at h
  exact ⟨Nat.le_of_ble_eq_true h.1.1, Nat.le_of_ble_eq_true h.1.2, Nat.le_of_ble_eq_true h.2⟩
end Go.Proofs.Ytjkndjpkmkbnkaa
/- CHAPTER 16: what KinNested and KinOnce ask: plainly; among, chain. -/
/- G -/
/- BOOLS -/
set_option linter.unusedSimpArgs false
set_option linter.unusedVariables false
namespace Go.Proofs.Ytjkndjpkmkbnkaa
open Go.RowKit

/-- each within the next one. -/
def ChnP (l : List LNo) (r : List Int) : Prop := ∀ i (h : i + 1 < r.length), r[i]'(by omega) ≠ r[i + 1] ∧ holN l r[i + 1] (r[i]'(by omega)) = true
/-- nodes that all hold one, from the innermost outwards. -/
structure DesP (l : List LNo) (x : Int) (r : List Int) : Prop where
  gt : r.Pairwise (fun a b => b < a)
  all : ∀ a ∈ r, holN l a x = true
theorem holN_iff {l : List LNo} {a b : Int} : holN l a b = true ↔ (0 ≤ a ∧ a < l.length) ∧ (0 ≤ b ∧ b < l.length) ∧ a ≤ b ∧ b < a + sizN l a.toNat := by
  simp only [holN, Bool.and_eq_true, decide_eq_true_eq, hasN]
  constructor
  · rintro ⟨⟨⟨h1, h2⟩, h3⟩, h4⟩; exact ⟨h1, h2, h3, h4⟩
  · rintro ⟨h1, h2, h3, h4⟩; exact ⟨⟨⟨h1, h2⟩, h3⟩, h4⟩
theorem des_chn {l : List LNo} {x : Int} {r : List Int} (h : DesP l x r) : ChnP l r := by
  intro i hi
  have h1 := List.pairwise_iff_getElem.1 h.gt i (i + 1) (by omega) hi (by omega)
  have a1 := holN_iff.1 (h.all _ (List.getElem_mem (by omega : i < r.length)))
  have a2 := holN_iff.1 (h.all _ (List.getElem_mem hi))
  exact ⟨by omega, holN_iff.2 ⟨a2.1, a1.1, by omega, by omega⟩⟩
theorem des_app {l : List LNo} {x : Int} {a b : List Int} (ha : DesP l x a) (hb : DesP l x b) (h : ∀ p ∈ a, ∀ q ∈ b, q < p) : DesP l x (a ++ b) :=
  ⟨List.pairwise_append.2 ⟨ha.gt, hb.gt, h⟩, fun p hp => (List.mem_append.1 hp).elim (ha.all p) (hb.all p)⟩
theorem fltR_lt (p : Nat → Bool) (n : Nat) : (fltR p n).Pairwise (fun a b => a < b) := by
  unfold fltR
  rw [List.pairwise_map]
  exact List.Pairwise.imp (fun h => by omega) ((List.pairwise_lt_range (n := n)).filter _)
theorem fltR_mem {p : Nat → Bool} {n : Nat} {x : Int} : x ∈ fltR p n ↔ ∃ i : Nat, x = i ∧ i < n ∧ p i = true := by
  unfold fltR
  rw [List.mem_map]
  constructor
  · rintro ⟨i, hi, rfl⟩
    rw [List.mem_filter, List.mem_range] at hi
    exact ⟨i, rfl, hi.1, hi.2⟩
  · rintro ⟨i, rfl, h1, h2⟩
    exact ⟨i, by rw [List.mem_filter, List.mem_range]; exact ⟨h1, h2⟩, rfl⟩
theorem des_flt {l : List LNo} {x : Int} {p : Nat → Bool} {n : Nat} (h : ∀ i, i < n → p i = true → holN l i x = true) : DesP l x (fltR p n).reverse := by
  refine ⟨?_, fun a ha => ?_⟩
  · rw [List.pairwise_reverse]; exact fltR_lt p n
  · rw [List.mem_reverse, fltR_mem] at ha
    obtain ⟨i, rfl, h1, h2⟩ := ha
    exact h i h1 h2
theorem hldK_in {l : List LNo} {of : List Int} {b a : Int} (h : hldK l of b a = true) : ∃ h : a.toNat < of.length, 0 ≤ a ∧ a < of.length ∧ holN l b of[a.toNat] = true := by
  simp only [hldK, Bool.and_eq_true, decide_eq_true_eq] at h
  have hk : a.toNat < of.length := by omega
  refine ⟨hk, h.1.1, h.1.2, ?_⟩
  have e : of.getD a.toNat 0 = of[a.toNat] := by simp [List.getD_eq_getElem?_getD, hk]
  rw [← e]; exact h.2
theorem hldK_at {l : List LNo} {of : List Int} {b a : Int} (h1 : 0 ≤ a) (h2 : a.toNat < of.length) : hldK l of b a = holN l b of[a.toNat] := by
  have e : of.getD a.toNat 0 = of[a.toNat] := by simp [List.getD_eq_getElem?_getD, h2]
  have a2 : a < of.length := by omega
  simp [hldK, h1, a2, h2]
/-- of two that hold a node the one within the other. -/
theorem lam_in {l : List LNo} (hl : Lam l) {d e x y : Int} (h1 : holN l d x = true) (h2 : holN l e x = true) (h3 : holN l d y = true) (h : e < d) : holN l e y = true := by
  rw [holN_iff] at *
  obtain ⟨i, rfl⟩ : ∃ i : Nat, d = i := ⟨d.toNat, by omega⟩
  obtain ⟨j, rfl⟩ : ∃ j : Nat, e = j := ⟨e.toNat, by omega⟩
  rw [Int.toNat_natCast] at *
  have := hl.nest j i (by omega) (by omega) (by omega)
  omega
theorem kin_nest {l : List LNo} {of : List Int} (hv : isS l = true) (hr : RowP l of) (k : Int) : ChnP l ((kinR l of k l.length).ends ++ (kinR l of k l.length).both) ∧ ChnP l ((kinR l of k l.length).begins.reverse ++ (kinR l of k l.length).both) := by
  have hl := isS_lam hv
  constructor
  · by_cases hk : 0 ≤ k - 1 ∧ (k - 1).toNat < of.length
    · refine des_chn (x := of[(k - 1).toNat]'hk.2) (des_app (des_flt fun i _ h => ?_) (des_flt fun i _ h => ?_) fun p hp q hq => ?_)
      · simp only [Bool.and_eq_true] at h
        rw [← hldK_at hk.1 hk.2]; exact h.2.1
      · simp only [Bool.and_eq_true] at h
        rw [← hldK_at hk.1 hk.2]; exact h.2.1
      · simp only [kinR, List.mem_reverse, fltR_mem, Bool.and_eq_true, Bool.not_eq_true'] at hp hq
        obtain ⟨i, rfl, i1, i2, i3, i4⟩ := hp
        obtain ⟨j, rfl, j1, j2, j3, j4⟩ := hq
        obtain ⟨hy, y1, y2, y3⟩ := hldK_in j4
        rw [hldK_at hk.1 hk.2] at i3 j3
        rw [hldK_at y1 hy] at i4
        by_cases z : (j : Int) < i
        · exact z
        · by_cases z2 : i = j
          · subst z2; rw [y3] at i4; cases i4
          · have := lam_in hl j3 i3 y3 (by omega)
            rw [this] at i4; cases i4
    · have hn : ∀ i : Nat, hldK l of i (k - 1) = false := fun i => by
        simp only [hldK, Bool.and_eq_false_iff, decide_eq_false_iff_not]; omega
      have e1 : (kinR l of k l.length).ends = [] := by
        simp only [kinR]; rw [fltR_tail (x := 0) (Nat.zero_le _) fun i _ _ => by rw [hn]; simp, fltR_zero]; rfl
      have e2 : (kinR l of k l.length).both = [] := by
        simp only [kinR]; rw [fltR_tail (x := 0) (Nat.zero_le _) fun i _ _ => by rw [hn]; simp, fltR_zero]; rfl
      rw [e1, e2]
      intro i hi; simp at hi
  · by_cases hk : 0 ≤ k ∧ k.toNat < of.length
    · refine des_chn (x := of[k.toNat]'hk.2) (des_app (des_flt fun i _ h => ?_) (des_flt fun i _ h => ?_) fun p hp q hq => ?_)
      · simp only [Bool.and_eq_true] at h
        rw [← hldK_at hk.1 hk.2]; exact h.2.1
      · simp only [Bool.and_eq_true] at h
        rw [← hldK_at hk.1 hk.2]; exact h.2.2
      · simp only [kinR, List.mem_reverse, fltR_mem, Bool.and_eq_true, Bool.not_eq_true'] at hp hq
        obtain ⟨i, rfl, i1, i2, i3, i4⟩ := hp
        obtain ⟨j, rfl, j1, j2, j3, j4⟩ := hq
        obtain ⟨hy, y1, y2, y3⟩ := hldK_in j3
        rw [hldK_at hk.1 hk.2] at i3 j4
        rw [hldK_at y1 hy] at i4
        by_cases z : (j : Int) < i
        · exact z
        · by_cases z2 : i = j
          · subst z2; rw [y3] at i4; cases i4
          · have := lam_in hl j4 i3 y3 (by omega)
            rw [this] at i4; cases i4
    · have hn : ∀ i : Nat, hldK l of i k = false := fun i => by
        simp only [hldK, Bool.and_eq_false_iff, decide_eq_false_iff_not]; omega
      have e1 : (kinR l of k l.length).begins = [] := by
        simp only [kinR]; rw [fltR_tail (x := 0) (Nat.zero_le _) fun i _ _ => by rw [hn]; simp, fltR_zero]
      have e2 : (kinR l of k l.length).both = [] := by
        simp only [kinR]; rw [fltR_tail (x := 0) (Nat.zero_le _) fun i _ _ => by rw [hn]; simp, fltR_zero]; rfl
      rw [e1, e2]
      intro i hi; simp at hi
end Go.Proofs.Ytjkndjpkmkbnkaa
/- CHAPTER 27: frags: what a node holds; pieces. -/
/- G -/
/- BOOLS -/
set_option linter.unusedSimpArgs false
set_option linter.unusedVariables false
namespace Go.Proofs.Ytjkndjpkmkbnkaa
open Go.RowKit

structure LFg where
  node : Int
  atom : Int
  frm : Int
  x : Int
  y : Int
  w : Int
  h : Int
deriving DecidableEq
def cFg (f : LFg) : List PV := [.raw (.int .i64 f.node), .raw (.int .i64 f.atom), .raw (.int .i64 f.frm), .raw (.int .i64 f.x), .raw (.int .i64 f.y), .raw (.int .i64 f.w), .raw (.int .i64 f.h)]
def aFg (f : LFg) : AV := .agg [.raw (.int .i64 f.node), .raw (.int .i64 f.atom), .raw (.int .i64 f.frm), .raw (.int .i64 f.x), .raw (.int .i64 f.y), .raw (.int .i64 f.w), .raw (.int .i64 f.h)]
structure LPc where
  node : Int
  size : Int
  r : LRect
deriving DecidableEq
def cPc (p : LPc) : List PV := [.raw (.int .i64 p.node), .raw (.int .i64 p.size), .raw (.int .i64 p.r.x), .raw (.int .i64 p.r.y), .raw (.int .i64 p.r.w), .raw (.int .i64 p.r.h)]
def aSh (l : List LNo) (fl : List LFg) : AV := .agg [.sl 20 (l.map cNo), .sl 7 (fl.map cFg)]
attribute [go_sem] cFg aFg cPc aSh
def recF (f : LFg) : LRect := ⟨f.x, f.y, f.w, f.h⟩
def hldB (l : List LNo) (n : Int) (f : LFg) : Bool := holN l n f.node
def hldL (l : List LNo) (fl : List LFg) (n : Int) : List LRect := (fl.filter (hldB l n)).map recF
/-- may parts be? -/
def mayF (l : List LNo) (fl : List LFg) : Bool := isS l && fl.all (fun f => hasN l f.node)
def hasP (l : List LNo) (fl : List LFg) (i : Nat) : Bool := decide (hldL l fl i ≠ [])
def pcN (l : List LNo) (fl : List LFg) (a n : Nat) : List Nat := (List.range' a n).filter (hasP l fl)
def pc (l : List LNo) (fl : List LFg) (i : Nat) : LPc := ⟨i, (pcN l fl i (sizN l i).toNat).length, hullR (hldL l fl i)⟩
/-- the pieces of nodes from one on, so many. -/
def pcs (l : List LNo) (fl : List LFg) (a n : Nat) : List LPc := (pcN l fl a n).map (pc l fl)
theorem pcN_app (l : List LNo) (fl : List LFg) (a m n : Nat) : pcN l fl a (m + n) = pcN l fl a m ++ pcN l fl (a + m) n := by
  unfold pcN
  rw [← List.range'_append_1, List.filter_append]
theorem pcs_app (l : List LNo) (fl : List LFg) (a m n : Nat) : pcs l fl a (m + n) = pcs l fl a m ++ pcs l fl (a + m) n := by
  unfold pcs
  rw [pcN_app, List.map_append]
theorem pcs_zero (l : List LNo) (fl : List LFg) (a : Nat) : pcs l fl a 0 = [] := rfl
theorem pcs_len (l : List LNo) (fl : List LFg) (a n : Nat) : (pcs l fl a n).length ≤ n := by
  unfold pcs pcN
  rw [List.length_map]
  have := List.length_filter_le (hasP l fl) (List.range' a n)
  rw [List.length_range'] at this
  exact this
theorem hld_sub {l : List LNo} (hl : Lam l) {fl : List LFg} {a i : Nat} (h : (i : Int) < a + sizN l a) (h2 : a ≤ i) (ha : a < l.length) (h3 : hldL l fl i ≠ []) : hldL l fl a ≠ [] := by
  intro q
  refine h3 ?_
  unfold hldL at q ⊢
  rw [List.map_eq_nil_iff, List.filter_eq_nil_iff] at q ⊢
  intro f hf w
  refine q f hf ?_
  unfold hldB at w ⊢
  by_cases e : a = i
  · rw [e]; exact w
  · have n := hl.nest a i ha (by omega) h
    rw [holN_iff] at w ⊢
    rw [Int.toNat_natCast] at w ⊢
    omega
theorem pcN_none {l : List LNo} (hl : Lam l) {fl : List LFg} {a : Nat} (ha : a < l.length) (h : hldL l fl a = []) : pcN l fl a (sizN l a).toNat = [] := by
  unfold pcN
  rw [List.filter_eq_nil_iff]
  intro i hi w
  have hr := List.mem_range'_1.1 hi
  exact hld_sub hl (by omega) hr.1 ha (of_decide_eq_true w) h
theorem pcs_node {l : List LNo} (hl : Lam l) {fl : List LFg} {a : Nat} (ha : a < l.length) : pcs l fl a (sizN l a).toNat = if hldL l fl a = [] then [] else ⟨a, (pcs l fl (a + 1) (sizN l a - 1).toNat).length + 1, hullR (hldL l fl a)⟩ :: pcs l fl (a + 1) (sizN l a - 1).toNat := by
  have hp := hl.pos a ha
  split
  · next h => unfold pcs; rw [pcN_none hl ha h]; rfl
  · next h =>
    have e : (sizN l a).toNat = 1 + (sizN l a - 1).toNat := by omega
    have e1 : pcN l fl a 1 = [a] := by
      unfold pcN
      rw [show List.range' a 1 = [a] from rfl, List.filter_cons_of_pos (by exact decide_eq_true h)]
      rfl
    have e2 : pc l fl a = ⟨a, (pcs l fl (a + 1) (sizN l a - 1).toNat).length + 1, hullR (hldL l fl a)⟩ := by
      unfold pc
      rw [e, pcN_app, e1, pcs, List.length_map]
      simp only [List.length_append, List.length_singleton, LPc.mk.injEq, true_and, and_true]
      omega
    rw [e, pcs_app, pcs, e1, ← e2]
    rfl
theorem mayF_iff {l : List LNo} {fl : List LFg} : mayF l fl = true ↔ isS l = true ∧ ∀ f ∈ fl, hasN l f.node = true := by simp [mayF]
set_option maxRecDepth 100000 in
theorem fof_ok (f : LFg) : FnOk Try.prog 60 [aFg f] [] (aRect (recF f)) [] := by
  refine fn_of_awp Try.func60 rfl (by kernel_rfl) (by kernel_rfl) (Nat.le_of_ble_eq_true rfl) Try.results60 ?_
  simp only [go_sem, Bool.not_eq_true', Bool.not_eq_false']
  exact ⟨rfl, rfl, rfl, rfl⟩
set_option maxRecDepth 100000 in
theorem fholds_ok (l : List LNo) (fl : List LFg) (n : Int) : FnOk Try.prog 41 [aSh l fl, .raw (.int .i64 n)] [] (.clo (.func 59) [.hdr 8, .hdr 9]) [(8, .cells 75 [.sl 20 (l.map cNo), .sl 7 (fl.map cFg)]), (9, .cells 3 [.raw (.int .i64 n)])] := by
  refine fn_of_awp Try.func41 rfl (by kernel_rfl) (by kernel_rfl) (Nat.le_of_ble_eq_true rfl) Try.results41 ?_
  simp only [go_sem, Bool.not_eq_true', Bool.not_eq_false']
  (refine ret2 [] (by simp only [go_sem, Bool.not_eq_true', Bool.not_eq_false']; rfl) ?_; simp only [go_sem, Bool.not_eq_true', Bool.not_eq_false'])
set_option maxRecDepth 100000 in
set_option maxHeartbeats 4000000 in
theorem fmay_ok (l : List LNo) (fl : List LFg) (hl : l.length ≤ 1000) (hf : fl.length ≤ 1000) (hw : ∀ x ∈ l, x.words.length ≤ 9223372036854775807) : FnOk Try.prog 40 [aSh l fl] [] (.raw (.bool (mayF l fl))) [] := by
  refine fn_of_awp Try.func40 rfl (by kernel_rfl) (by kernel_rfl) (Nat.le_of_ble_eq_true rfl) Try.results40 ?_
  simp only [go_sem, Bool.not_eq_true', Bool.not_eq_false']
  (refine acall2 [] (is6_ok l hl hw) (by simp only [go_sem, Bool.not_eq_true', Bool.not_eq_false']; rfl) (fit_of (by simp only [go_sem, Bool.not_eq_true', Bool.not_eq_false']) (by simp only [go_sem, Bool.not_eq_true', Bool.not_eq_false']) (by simp only [go_sem, Bool.not_eq_true', Bool.not_eq_false']) (by simp only [go_sem, Bool.not_eq_true', Bool.not_eq_false']) (by simp only [go_sem, Bool.not_eq_true', Bool.not_eq_false']) (by simp only [go_sem, Bool.not_eq_true', Bool.not_eq_false']) (by simp only [go_sem, Bool.not_eq_true', Bool.not_eq_false'])) ?_; simp only [go_sem, Bool.not_eq_true', Bool.not_eq_false'])
  refine ⟨fun h => ?_, fun h => ?_⟩
  · simp [mayF, h]
  have em : mayF l fl = fl.all (fun f => hasN l f.node) := by simp [mayF, h]
  rw [em]
  refine aloop2 [] (fun k : Nat => ⟨[(1, .hdr 8), (10, .sl 7 (fl.map cFg)), (11, .raw (.int .i64 fl.length)), (12, .raw (.int .i64 k))], [(8, some (.cells 75 [.sl 20 (l.map cNo), .sl 7 (fl.map cFg)]))], none⟩) (fun k => k ≤ fl.length ∧ ∀ i (h : i < fl.length), i < k → hasN l fl[i].node = true) (fun k => fl.length - k) 40 0 (by simp only [go_sem, Bool.not_eq_true', Bool.not_eq_false']; rfl) (by simp only [go_sem, Bool.not_eq_true', Bool.not_eq_false']) ?_ ?_
  · exact ⟨Nat.zero_le _, fun i _ h => absurd h (Nat.not_lt_zero _)⟩
  · rintro k ⟨h1, h2⟩
    simp only [go_sem, Bool.not_eq_true', Bool.not_eq_false', List.length_map]
    refine ⟨fun h5 => ?_, fun h5 => ?_⟩
    · have hk : k < fl.length := by omega
      have hno : hasN l fl[k].node = false → fl.all (fun f => hasN l f.node) = false := fun q => by
        rw [List.all_eq_false]
        exact ⟨fl[k], List.getElem_mem hk, by simp [q]⟩
      have hne : ¬ (0 ≤ fl[k].node ∧ fl[k].node < l.length) → hasN l fl[k].node = false := fun q => by
        rcases h : hasN l fl[k].node with _ | _
        · rfl
        · exact absurd (hasN_iff.1 h) q
      have hye : (0 ≤ fl[k].node ∧ fl[k].node < l.length) → ∀ i (h : i < fl.length), i < k + 1 → hasN l fl[i].node = true := fun q i hi h7 => by
        rcases Nat.lt_succ_iff_lt_or_eq.1 h7 with h8 | h8
        · exact h2 i hi h8
        · subst h8; exact hasN_iff.2 q
      clear h2
      repeat' first | contradiction | intro _ | refine And.intro ?_ ?_ | refine ex_get (by omega) ?_ | (show drawB _ _ = true; kernel_rfl) | (refine ret2 [] (by simp only [go_sem, Bool.not_eq_true', Bool.not_eq_false', List.length_map]; rfl) ?_; simp only [go_sem, Bool.not_eq_true', Bool.not_eq_false', List.length_map])
      all_goals first
        | omega
        | ((refine loop_end [] (k + 1) (by simp only [go_sem, Bool.not_eq_true', Bool.not_eq_false']; rfl) ?_ ?_ ?_; (focus first | omega | (simp only; omega)); (focus (simp only [go_sem, Bool.not_eq_true', Bool.not_eq_false']; done)))
           exact ⟨hk, hye (by omega)⟩)
        | (exact (hno (hne (by omega))).symm)
        | (exact hno (hne (by omega)))
        | skip
    · have e : fl.all (fun f => hasN l f.node) = true := by
        rw [List.all_eq_true]
        intro f hf
        obtain ⟨i, hi, rfl⟩ := List.getElem_of_mem hf
        exact h2 i hi (by omega)
      first | exact e | (rw [e])
end Go.Proofs.Ytjkndjpkmkbnkaa
/- ENGINE (second) 16: a drawn statement with a tail that waits for all ahead (a call of yield in it); ranges over functions whose text is parted; over any program. -/
/- G -/
set_option linter.unusedSimpArgs false
set_option linter.unusedVariables false
namespace Go.Proofs.Ytjkndjpkmkbnkaa
open Go.RowKit

def tailB (n : Nat) (l : List Oper) : Bool := decide (n < l.length) && Region.sinkB .any l.toArray n && Region.chainB .any l.toArray n && Region.seqB .any l.toArray (l.length - n) n ((List.range l.length).map (fun j => decide (j < n))).toArray
theorem wpAnyIn_of_seq {F : Fence} {m : Nat} {P : Program} {ops : Array Oper} {md : Region.Mode} {Q' : Exit → Act → World → Prop} : ∀ (l : List Oper) (k : Nat) (listed : Array Bool) (a : Act) (w : World), (∀ j, l[j]? = ops[k + j]?) →
    Region.seqB md ops l.length k listed = true → wpListIn F m P ops Q' l a w → wpAnyIn F m P md ops Q' l.length listed a w
  | [], _, _, _, _, _, hB, h => ⟨by simpa [Region.seqB] using hB, h⟩
  | o :: l, k, listed, a, w, hl, hB, h => by
    have h0 : ops[k]? = some o := by simpa using (hl 0).symm
    simp only [List.length_cons, Region.seqB, Bool.and_eq_true, decide_eq_true_eq] at hB
    refine ⟨fun h1 => (by rw [hB.1] at h1; cases h1), fun i hi => ?_⟩
    rw [hB.1] at hi
    have hik : i = k := by simpa using hi
    subst hik
    have hw : wpOpIn F m P ops Q' i (wpListIn F m P ops Q' l) a w := by unfold wpOpIn; simp only [h0]; exact h
    exact wpOpIn_mono (fun a' w' h' => wpAnyIn_of_seq l (i + 1) _ a' w' (fun j => by have := hl (j + 1); simpa [Nat.add_assoc, Nat.add_comm 1 j] using this) hB.2 h') hw
set_option maxHeartbeats 1000000 in
/-- a statement whose order is open, but for a tail that waits for all ahead. -/
theorem draw_tail {P : Program} {ops T : List Oper} {K : Nat → AS → Prop} {n : Nat} {S : AS} (hmx : P.follows .mixedOrders = true) (hTB : tailB ops.length (ops ++ T) = true) (h : AOps P (ops.map (·.dst)) ops (drawK ops (fun n' S' => AOps P ((ops ++ T).map (·.dst)) T K n' S')) n ⟨S.t, S.s, some []⟩) : ADraw P (ops ++ T) K n S := by
  intro rd m0 c id p ρ a w Q hd hmod hn ha hQ
  unfold tailB at hTB
  simp only [Bool.and_eq_true, decide_eq_true_eq] at hTB
  obtain ⟨⟨⟨hTn, hTs⟩, hTc⟩, hTq⟩ := hTB
  have hAT : ∀ i, i < ops.length → (ops ++ T).toArray[i]? = ops[i]? := fun i hi => by
    rw [List.getElem?_toArray, List.getElem?_append_left hi]
  have hsz : (ops ++ T).toArray.size = ops.length + T.length := by simp
  obtain ⟨Es, Sf, hch, hK⟩ := aops_chain ops n _ rfl h
  obtain ⟨hlen, hat, hfg, hfo, hfl⟩ := chain_at ops n _ Es Sf hch
  have hlg := hfl [] rfl
  unfold drawK at hK
  rw [hlg] at hK
  dsimp only at hK
  obtain ⟨hB, hK⟩ := hK
  unfold drawB at hB
  simp only [List.append_nil, List.reverse_reverse, Bool.and_eq_true] at hB
  obtain ⟨⟨-, hback⟩, hcross⟩ := hB
  have hback : ∀ i o, ops[i]? = some o → ∀ e ∈ o.after, Region.binds .any e = true → e.on < i := fun i o ho e he hb => by
    have h1 := List.all_eq_true.1 hback (o, i) (by rw [List.mem_iff_getElem?]; exact ⟨i, by simp [ho]⟩)
    have h2 := List.all_eq_true.1 h1 e (by simpa using he)
    simpa [hb] using h2
  -- two that are not ordered do not cross
  have hpair : ∀ i j x y Ex Ey, i < j → ops[i]? = some x → ops[j]? = some y → Es[i]? = some Ex → Es[j]? = some Ey → (((bfm ops [])[j]?).getD 0).testBit i = true ∨
      (crossB ops x y = false ∧ (∀ q ∈ Ex.objs.map (·.1), q ∉ Ey.reads ∧ q ∉ Ey.objs.map (·.1)) ∧ ∀ q ∈ Ey.objs.map (·.1), q ∉ Ex.reads) := by
    intro i j x y Ex Ey hij hx hy hEx hEy
    have hjl : j < ops.length := (List.getElem?_eq_some_iff.1 hy).1
    have h1 := List.all_eq_true.1 (List.all_eq_true.1 hcross j (List.mem_range.2 hjl)) i (List.mem_range.2 hij)
    rw [Bool.or_eq_true] at h1
    rcases h1 with h1 | h1
    · exact .inl h1
    · refine .inr ?_
      simp only [hx, hy, List.getElem?_map, hEx, hEy, Option.map_some, Bool.and_eq_true, Bool.not_eq_true'] at h1
      obtain ⟨⟨h2, h3⟩, h4⟩ := h1
      refine ⟨h2, fun q hq => ?_, meetB_none h4⟩
      have := meetB_none h3 q hq
      rw [List.mem_append] at this
      exact ⟨fun e => this (.inl e), fun e => this (.inr e)⟩
  have hEs : ∀ i o, ops[i]? = some o → ∃ E, Es[i]? = some E := fun i o ho => ⟨_, List.getElem?_eq_getElem (by rw [hlen]; exact (List.getElem?_eq_some_iff.1 ho).1)⟩
  have hwr := @wrs_get ops Es
  -- the blocks of names in use
  have key : ∀ (f : Nat) (listed : Array Bool) (ρ' : Env) (a' : Act) (w' : World), HeadInv .any (ops ++ T).toArray ops.length listed → cnt (fun j => !listed.getD j false) ops.length = f →
      Mod c (fun i => p i ∨ ∃ j, j < ops.length ∧ listed.getD j false = true ∧ i / 8 = n + j) ρ' (ap (wrs ops Es) (fun j => listed.getD j false) S) a'.tmps w' → DefOk c a' w' → wpAnyIn (FW rd) m0 P .any (ops ++ T).toArray Q (f + T.length) listed a' w' := by
    intro f
    induction f with
    | zero =>
      intro listed ρ' a' w' inv hc hm ha'
      have hall := cnt_zero _ hc
      have hl : ∀ j, j < ops.length → listed.getD j false = true := fun j hj => by simpa using hall j hj
      rw [Nat.zero_add]
      have hle : listed = ((List.range (ops ++ T).length).map (fun j => decide (j < ops.length))).toArray := by
        refine Array.ext (by rw [inv.size]; simp) fun j h1 h2 => ?_
        have hj : j < ops.length + T.length := by rw [inv.size, hsz] at h1; exact h1
        have e1 : listed.getD j false = listed[j] := by simp [h1]
        have e2 : listed.getD j true = listed[j] := by simp [h1]
        have e3 : ((List.range (ops ++ T).length).map (fun j => decide (j < ops.length))).toArray[j] = decide (j < ops.length) := by simp
        rw [e3]
        by_cases hjn : j < ops.length
        · rw [← e1, hl j hjn]; simp [hjn]
        · rw [← e2, inv.tail j (by omega) (by rw [hsz]; exact hj)]; simp [hjn]
      refine wpAnyIn_of_seq T ops.length listed a' w' (fun j => by rw [List.getElem?_toArray, List.getElem?_append_right (by omega)]; congr 1; omega) (by rw [hle, show T.length = (ops ++ T).length - ops.length by simp]; exact hTq) ?_
      refine aops_sound (P := P) (D := (ops ++ T).map (·.dst)) (opsA := (ops ++ T).toArray) (fun j => by rw [List.getElem?_map, List.getElem?_toArray]) (fun n' S' p' ρ' a' w' h1 h2 h3 h4 => hQ n' S' p' ρ' a' w' h1 h2 h3 h4) T _ ⟨Sf.t, Sf.s, none⟩ _ ρ' a' w' (fun o ho => hd o (List.mem_append_right _ ho)) hK (hm.same (fun t => ?_) (fun q => ?_)) (fun i hi => ?_) ha'
      · rw [ap_get]
        exact (hfg t).trans (gL_congr fun k d E hk _ => by
          obtain ⟨o, ho, -⟩ := (hwr k d E).1 hk
          rw [hl k (List.getElem?_eq_some_iff.1 ho).1])
      · rw [ap_obj]
        exact (hfo q).trans (oL_congr fun k d E hk _ => by
          obtain ⟨o, ho, -⟩ := (hwr k d E).1 hk
          rw [hl k (List.getElem?_eq_some_iff.1 ho).1])
      · rcases hi with hi | ⟨j, h1, -, h3⟩
        · have := hn i hi; omega
        · omega
    | succ f ih =>
      intro listed ρ' a' w' inv hc hm ha'
      have hLcl : ∀ j m, (bfm ops [])[j]? = some m → listed.getD j false = true → ∀ i, m.testBit i = true → listed.getD i false = true := by
        refine bfm_closed (L := fun j => listed.getD j false) ops [] 0 rfl (fun i o ho hL e he hb => ?_) (fun j m hj => by simp at hj)
        rw [Nat.zero_add] at hL ⊢
        exact ⟨hback i o ho e he hb, inv.closed i o (by rw [hAT i (List.getElem?_eq_some_iff.1 ho).1]; exact ho) hL e he hb⟩
      obtain ⟨m, hm', hm1, hm2⟩ := cnt_pos ops.length (by rw [hc]; omega)
      have hmun : listed.getD m false = false := by simpa using hm1
      have hmr : m ∈ Region.ready .any (ops ++ T).toArray listed := by
        refine mem_ready.2 ⟨getD_in (by rw [inv.size, hsz]; omega) hmun, ops[m], by rw [hAT m hm', List.getElem?_eq_getElem hm'], fun e he hb => ?_⟩
        have := hm2 e.on (hback m ops[m] (List.getElem?_eq_getElem hm') e he hb)
        simpa using this
      rw [Nat.succ_add]
      refine ⟨fun h0 => (by rw [h0] at hmr; cases hmr), fun i hi => ?_⟩
      obtain ⟨hiun, o, ho, hall⟩ := mem_ready.1 hi
      have hiun' : listed.getD i false = false := getD_both hiun
      have hil : i < ops.length := by
        refine Nat.lt_of_not_le fun hge => ?_
        exact tail_waits hTs hTc (by rw [hsz]; rw [List.length_append] at hTn; exact hTn) inv (ops.length - m) m rfl hm' (getD_in (by rw [inv.size, hsz]; omega) hmun) i hge hi
      have ho' : ops[i]? = some o := by rw [← hAT i hil]; exact ho
      obtain ⟨E, ran, Si, hE, ⟨hG, hD, hS⟩, hgi, hoi⟩ := hat i o ho'
      -- those who come up later don't reach here
      have hlater : ∀ k, listed.getD k false = true → (((bfm ops [])[k]?).getD 0).testBit i = true → False := fun k hk ht => by
        cases hb : (bfm ops [])[k]? with
        | none => rw [hb] at ht; simp at ht
        | some m => rw [hb] at ht; have := hLcl k m hb hk i ht; rw [hiun'] at this; cases this
      have hmine : ∀ k, (((bfm ops [])[i]?).getD 0).testBit k = true → listed.getD k false = true := fun k ht => by
        cases hb : (bfm ops [])[i]? with
        | none => rw [hb] at ht; simp at ht
        | some m =>
          rw [hb] at ht
          have hh : (fun j => listed.getD j false || decide (j = i)) k = true := by
            refine bfm_closed (L := fun j => listed.getD j false || decide (j = i)) ops [] 0 rfl (fun j oj hj hL e he hbd => ?_) (fun j m hj => by simp at hj) i m hb (by simp) k ht
            rw [Nat.zero_add] at hL ⊢
            refine ⟨hback j oj hj e he hbd, ?_⟩
            simp only [Bool.or_eq_true, decide_eq_true_eq] at hL ⊢
            rcases hL with hL | rfl
            · exact .inl (inv.closed j oj (by rw [hAT j (List.getElem?_eq_some_iff.1 hj).1]; exact hj) hL e he hbd)
            · rw [ho'] at hj
              injection hj with hj
              subst hj
              exact .inl (hall e he hbd)
          simp only [Bool.or_eq_true, decide_eq_true_eq] at hh
          rcases hh with h | h
          · exact h
          · subst h
            exact absurd (bfm_lt ops [] 0 rfl (fun i o ho e he hb => by rw [Nat.zero_add]; exact hback i o ho e he hb) (fun j m hj => by simp at hj) k m hb k ht) (Nat.lt_irrefl _)
      -- what it looks at is as it was in the text's order
      have hsame : ∀ t, t ∈ slotsOf ops o → (ap (wrs ops Es) (fun j => listed.getD j false) S).get t = Si.get t := fun t ht => by
        rw [ap_get, hgi t]
        refine gL_congr fun k d Ek hk hdk => ?_
        obtain ⟨ok, hok, hEk, hdst⟩ := (hwr k d Ek).1 hk
        subst hdk
        rcases Nat.lt_trichotomy k i with hlt | heq | hgt
        · simp only [hlt, decide_true]
          rcases hpair k i ok o Ek E hlt hok ho' hEk hE with h1 | ⟨h1, -⟩
          · exact hmine k h1
          · exact absurd ht ((crossB_none h1).1 t hdst).1
        · subst heq; simp [hiun']
        · simp only [show ¬ k < i by omega, decide_false]
          rcases hpair i k o ok E Ek hgt ho' hok hE hEk with h1 | ⟨h1, -⟩
          · cases hL : listed.getD k false with
            | false => rfl
            | true => exact (hlater k hL h1).elim
          · exact absurd ht ((crossB_none h1).2 t hdst)
      have hsameo : ∀ q, q ∈ E.reads → (ap (wrs ops Es) (fun j => listed.getD j false) S).obj q = Si.obj q := fun q hq => by
        rw [ap_obj, hoi q]
        refine oL_congr fun k d Ek hk hfk => ?_
        obtain ⟨ok, hok, hEk, hdst⟩ := (hwr k d Ek).1 hk
        have hkey := find_keys.1 hfk
        rcases Nat.lt_trichotomy k i with hlt | heq | hgt
        · simp only [hlt, decide_true]
          rcases hpair k i ok o Ek E hlt hok ho' hEk hE with h1 | ⟨-, h1, -⟩
          · exact hmine k h1
          · exact absurd hq (h1 q hkey).1
        · subst heq; simp [hiun']
        · simp only [show ¬ k < i by omega, decide_false]
          rcases hpair i k o ok E Ek hgt ho' hok hE hEk with h1 | ⟨-, -, h1⟩
          · cases hL : listed.getD k false with
            | false => rfl
            | true => exact (hlater k hL h1).elim
          · exact absurd hq (h1 q hkey)
      -- the state behind it
      have hLi : (fun j => (listed.setIfInBounds i true).getD j false) = fun j => if j = i then true else listed.getD j false := by
        funext j
        by_cases hji : j = i
        · subst hji
          have : j < listed.size := by rw [inv.size, hsz]; omega
          simp [this]
        · rw [if_neg hji, getD_set_ne false (Ne.symm hji)]
      have hLi0 : (fun j => if j = i then false else listed.getD j false) = fun j => listed.getD j false := by
        funext j
        by_cases hji : j = i
        · subst hji; simp [hiun']
        · rw [if_neg hji]
      have hwi : (wrs ops Es)[i]? = some (o.dst, E) := (hwr i o.dst E).2 ⟨o, ho', hE, rfl⟩
      have hnew : ∀ S1 : AS, (∀ t, S1.get t = if o.dst = some t then E.val else (ap (wrs ops Es) (fun j => listed.getD j false) S).get t) → (∀ q, S1.obj q = match find E.objs q with | some r => r | none => (ap (wrs ops Es) (fun j => listed.getD j false) S).obj q) →
          (∀ t, (ap (wrs ops Es) (fun j => (listed.setIfInBounds i true).getD j false) S).get t = S1.get t) ∧ (∀ q, (ap (wrs ops Es) (fun j => (listed.setIfInBounds i true).getD j false) S).obj q = S1.obj q) := fun S1 e1 e2 => by
        refine ⟨fun t => ?_, fun q => ?_⟩
        · rw [e1 t, ap_get, ap_get, hLi, gL_add hwi (fun k d' E' hlt hk hd1 hd2 => ?_), hLi0]
          obtain ⟨ok, hok, hEk, hdst⟩ := (hwr k d' E').1 hk
          rcases hpair i k o ok E E' hlt ho' hok hE hEk with h1 | ⟨h1, -⟩
          · cases hL : listed.getD k false with
            | false => rfl
            | true => exact (hlater k hL h1).elim
          · exact absurd (hdst.trans (hd1.trans hd2)) ((crossB_none h1).1 t hd2).2
        · rw [e2 q, ap_obj, ap_obj, hLi, oL_add hwi (fun k d' E' hlt hk hd1 hd2 => ?_), hLi0]
          · cases find E.objs q <;> rfl
          obtain ⟨ok, hok, hEk, hdst⟩ := (hwr k d' E').1 hk
          rcases hpair i k o ok E E' hlt ho' hok hE hEk with h1 | ⟨-, h1, -⟩
          · cases hL : listed.getD k false with
            | false => rfl
            | true => exact (hlater k hL h1).elim
          · exact absurd (find_keys.1 hd1) (h1 q (find_keys.1 hd2)).2
      have hpp : ∀ j, (fun q => p q ∨ ∃ j, j < ops.length ∧ listed.getD j false = true ∧ q / 8 = n + j) j ∨ j / 8 = n + i → p j ∨ ∃ k, k < ops.length ∧ (listed.setIfInBounds i true).getD k false = true ∧ j / 8 = n + k := by
        rintro j ((h | ⟨k, h1, h2, h3⟩) | h)
        · exact .inl h
        · exact .inr ⟨k, h1, getD_set_true h2, h3⟩
        · refine .inr ⟨i, hil, ?_, h⟩
          have := congrFun hLi i
          simpa using this
      have hcnt : cnt (fun j => !(listed.setIfInBounds i true).getD j false) ops.length = f := by
        have h1 := cnt_set (p := fun j => !listed.getD j false) (i := i) (by simp only [hiun']; rfl) ops.length hil
        have h2 : cnt (fun j => !(listed.setIfInBounds i true).getD j false) ops.length = cnt (set1 (fun j => !listed.getD j false) i false) ops.length := by
          refine cnt_congr _ fun j _ => ?_
          have := congrFun hLi j
          show (!(listed.setIfInBounds i true).getD j false) = set1 (fun j => !listed.getD j false) i false j
          rw [show (listed.setIfInBounds i true).getD j false = if j = i then true else listed.getD j false from this]
          unfold set1
          by_cases hji : j = i
          · simp [hji]
          · simp [hji]
        omega
      have hdd : ∀ v, DefOk c (a'.put o.dst v) w' := fun v => ha'.put o.dst v
      -- is it asked for?
      have hwant : Region.wanted o (yielded (ops ++ T).toArray a'.tmps) = ran := by
        unfold GuardIs at hG
        unfold Region.wanted
        cases hg : o.guard with
        | none => rw [hg] at hG; simp [hG]
        | some q =>
          obtain ⟨j, want⟩ := q
          rw [hg] at hG
          obtain ⟨d, b, h1, h2, h3⟩ := hG
          have hbind0 : (ops.toArray[j]?).bind (·.dst) = some d := by
            rw [List.getElem?_map] at h1
            cases hoj : ops[j]? with
            | none => rw [hoj] at h1; simp at h1
            | some oj => rw [hoj] at h1; simp at h1; simp [hoj, h1]
          have hbind : ((ops ++ T).toArray[j]?).bind (·.dst) = some d := by
            have hjl : j < ops.length := by
              rw [List.getElem?_map, Option.map_eq_some_iff] at h1
              obtain ⟨oj, h1, -⟩ := h1
              exact (List.getElem?_eq_some_iff.1 h1).1
            rw [hAT j hjl]
            simpa using hbind0
          have hsl : d ∈ slotsOf ops o := mem_slots.2 (.inr ⟨j, want, hg, by simpa using hbind0⟩)
          have hb : a'.tmps.getD d undef = b := by
            have := hm.tmps d
            rw [hsame d hsl, h2] at this
            simpa [Rep] using this
          simp only [yielded_bv hbind hb, h3]
      unfold wpOpIn
      rw [ho]
      show if Region.wanted o _ then _ else _
      rw [hwant]
      cases ran with
      | false =>
        rw [if_neg (by simp)]
        have hE0 := hS rfl
        subst hE0
        obtain ⟨n1, n2⟩ := hnew ((ap (wrs ops Es) (fun j => listed.getD j false) S).putO o.dst (.raw undef)) (fun t => putO_get _ _ _ t) (fun q => by rw [putO_obj]; rfl)
        refine ⟨fun _ _ => trivial, ?_⟩
        exact ih _ ρ' _ w' (inv.set hi hil) hcnt (((hm.put o.dst (v := .raw undef) (by simp [Rep]) (hd o (List.mem_append_left _ (List.mem_of_getElem? ho')))).same n1 n2).mono fun j hj => hpp j (.inl hj)) (hdd undef)
      | true =>
        rw [if_pos rfl]
        refine hD rfl (ap (wrs ops Es) (fun j => listed.getD j false) S) (fun x hx => ?_) hsameo rd m0 (c.anew (ap (wrs ops Es) (fun j => listed.getD j false) S) ρ' w') _ ρ' a' w' hm.rebase (fun q hq e => ?_) _ Q fun v ρ2 w2 hm2' hv => ?_
        · cases x with
          | tmp t => exact hsame t (mem_slots.2 (.inl hx))
          | _ => rfl
        · rcases hq with hq | ⟨j, h1, h2, h3⟩
          · have := hn q hq; omega
          · have : j = i := by omega
            subst this
            rw [hiun'] at h2
            cases h2
        · obtain ⟨n1, n2⟩ := hnew (((ap (wrs ops Es) (fun j => listed.getD j false) S).upd E.objs).putO o.dst E.val) (fun t => putO_get _ _ _ t) (fun q => (putO_obj _ _ _ q).trans (upd_obj _ _ q))
          have hm2 := hm.back hm2'
          exact ih _ ρ2 _ w2 (inv.set hi hil) hcnt (((hm2.put o.dst hv (hd o (List.mem_append_left _ (List.mem_of_getElem? ho')))).same n1 n2).mono hpp) ((ha'.keep hm hm2').put o.dst v)
  have hcn : ∀ k, cnt (fun j => !(Array.replicate (ops ++ T).toArray.size false).getD j false) k = k := by
    intro k
    induction k with
    | zero => rfl
    | succ k ih => unfold cnt; rw [ih, getD_replicate_false]; rfl
  refine wpIn_region_any hmx ?_
  have := key ops.length (Array.replicate (ops ++ T).toArray.size false) ρ a { w with drawn := w.drawn + 1 } ⟨by simp, fun j oj _ hl => (by rw [getD_replicate_false] at hl; cases hl), fun t _ h2 => getD_in (by simpa using h2) (getD_replicate_false _ _)⟩ (hcn _)
    ((hmod.drew.same (fun t => ?_) (fun q => ?_)).mono fun i hi => .inl hi) ha
  · simpa using this
  · rw [ap_get]
    exact (gL_congr (L' := fun _ => false) fun k _ _ _ _ => getD_replicate_false _ _).trans (gL_none _ _ _)
  · rw [ap_obj]
    exact (oL_congr (L' := fun _ => false) fun k _ _ _ _ => getD_replicate_false _ _).trans (oL_none _ _ _)
theorem swp_tail {P : Program} {id : Nat} {l : List Oper} {Q : Exit → Nat → AS → Prop} {n : Nat} {S : AS} (k : Nat) (hmx : P.follows .mixedOrders = true) (hk : (l.take k).length = k) (hT : tailB k l = true)
    (h : AOps P (W ((l.take k).map (·.dst))) (W (l.take k)) (drawK (W (l.take k)) (fun n' S' => AOps P (W (l.map (·.dst))) (W (l.drop k)) (Q .normal) n' S')) n ⟨S.t, S.s, some []⟩) : SWP P (.region id l.toArray true) Q n S := by
  refine .mk ?_
  intro rd m0 c p ρ a w hrg hd hm hn ha
  have hd' : ∀ o ∈ l, ∀ d, o.dst = some d → d < c.N := fun o ho d e => by
    have := List.all_eq_true.1 hd o (by simpa using ho)
    rw [e] at this
    simpa using this
  have e : l.take k ++ l.drop k = l := List.take_append_drop k l
  have h2 := draw_tail (ops := l.take k) (T := l.drop k) (K := Q .normal) hmx (by rw [hk, e]; exact hT) (by rw [e]; exact h) rd m0 c id p ρ a w (Lift c Q) (by rw [e]; exact hd') hm hn ha (fun n' S' p' ρ' a' w' h1 h2 h3 h4 => ⟨h4, n', S', p', ρ', h1, h2, h3⟩)
  rw [e] at h2
  exact h2
theorem arangeS {P : Program} {Q : Exit → Nat → AS → Prop} {n : Nat} {S : AS} {g : Operand} {ps : Array Tmp} {asg body : Code} {f : FuncId} {caps : List AV} (hg : S.val g = .clo (.func f) caps) {fn : Func} {code : Code}
    (hf : P.funcs[f]? = some fn) (hb : fn.body = some code) (hfn : fnB P f = true) (hd : dstB fn.ntmps code = true) (hl : (1 + caps.length) ≤ fn.ntmps) (hrs : fn.results = #[])
    (h : ∀ tm lc, LoopFit tm lc → lc.params.toList = ps.toList → lc.assign = asg → lc.body = body → SWP P code (rangeQ n tm lc Q) (n + 1) ⟨slots (.hdr (8 * n) :: caps), (8 * n, some (.loop tm lc .ready)) :: (8 * n + 1, some (.frm tm S.t)) :: S.s, none⟩) :
    ARange P g ps asg body Q n S := by
  intro m0 c p ρ a w hda hdb hps hra hrb hm hn ha
  refine wpIn_rangeFunc (F := FW none) fun fn0 _ => ?_
  obtain ⟨Ds, f1, f2, f3⟩ := ha
  -- the function that is ranged over
  have hv := hm.val g
  rw [hg] at hv
  simp only [Rep] at hv
  obtain ⟨cs, hev, hcs⟩ := hv
  let l := w.heap.size + 1
  let lc : LoopCode := ⟨l, fn0, ps, asg, body⟩
  let wD := w.alloc (.deferred (some []))
  let w1 := wD.alloc (.loop (recOf a.tmps lc .ready none w.heap.size))
  have hsD : wD.heap.size = l := by simp [wD, l]
  obtain ⟨fn1, e1, e2, e3⟩ : ∃ fn, P.funcs[f]? = some fn ∧ fn.name ≠ "runtime.NumGoroutine" ∧ fn.body.isSome = true := by
    unfold fnB at hfn
    cases h1 : P.funcs[f]? with
    | none => rw [h1] at hfn; simp at hfn
    | some fn => rw [h1] at hfn; simp at hfn; exact ⟨fn, rfl, hfn.1, by simpa using hfn.2⟩
  obtain rfl : fn1 = fn := by rw [hf] at e1; exact (Option.some.inj e1).symm
  have hres : (resolve a.eval (rangeCall g l) 0).run P w1 = .ok { target := .fn (.func f) cs.toArray, args := #[.func (.yield l) #[] #[]] } w1 := by
    have hk : a.eval (.const (.func (.yield l) #[] #[])) = .func (.yield l) #[] #[] := rfl
    simp [resolve, rangeCall, hev, Deferred.ofValue, hk]
  have hinv : (invoke (.fn (.func f) cs.toArray) #[.func (.yield l) #[] #[]]).run P w1 = .ok (.enter f (.func (.yield l) #[] #[] :: cs).toArray) w1 := by
    have h4 : ¬ fn1.body = none := fun e => by rw [e] at e3; simp at e3
    simp [invoke, callFunc, e1, e2, h4]
  refine ⟨l, _, _, _, _, f, _, _, run_enterLoop_outer fn0 a.tmps ps asg body, hres, fun _ _ => trivial, hinv, fun q => absurd q (by simp [FW, Fence.wide]), ?_⟩
  -- the iterator's first state
  have hfr0 : ρ.f (8 * n) = none := hm.fresh (n := n) (fun i hi => by have := hn i hi; omega) (by omega)
  have hfr1 : ρ.f (8 * n + 1) = none := hm.fresh (n := n) (fun i hi => by have := hn i hi; omega) (by omega)
  have hn0 := hm.n0 (n := n) (fun i hi => by have := hn i hi; omega)
  have hmA := (hm.allocs (.deferred (some []))).add (p' := fun i => p i ∨ i / 8 = n) (w' := wD) hfr1 (by omega) (fun i h => .inl h) (.inr (by omega)) (x := .bool true) (o := .frm a.tmps S.t) rfl (.inl rfl) (fun ρ' he d v hv => by
    rw [find'_eq] at hv
    have := hm.tmps d
    unfold AS.get at this
    rw [hv] at this
    exact Rep.ext he _ _ this) (fun g hg => by cases hg)
  have hfr2 : (ρ.with (8 * n + 1) (.bool true)).f (8 * n) = none := by
    show (if _ then _ else _) = none
    rw [if_neg (by omega)]; exact hfr0
  have hmB := hmA.add (p' := fun i => p i ∨ i / 8 = n) (w' := w1) hfr2 (by omega) (fun i h => h) (.inr (by omega)) (x := .func (.yield l) #[] #[]) (o := .loop a.tmps lc .ready) rfl (.inr ⟨_, rfl⟩)
    (fun ρ' he => ⟨l, w.heap.size, .ready, none, rfl, by have := World.alloc_heap_new wD (.loop (recOf a.tmps lc .ready none w.heap.size)); rw [hsD] at this; exact this, rfl, rfl, rfl⟩) (fun g hg => by simp [oblk] at hg; omega)
  have hext : ExtE ρ ((ρ.with (8 * n + 1) (.bool true)).with (8 * n) (.func (.yield l) #[] #[])) := (ext_with hfr1).trans (ext_with hfr2)
  have hself : ((ρ.with (8 * n + 1) (.bool true)).with (8 * n) (.func (.yield l) #[] #[])).f (8 * n) = some (.func (.yield l) #[] #[]) := with_self ..
  generalize ((ρ.with (8 * n + 1) (.bool true)).with (8 * n) (.func (.yield l) #[] #[])) = ρ1 at hmB hext hself
  have hkeepD : ∀ D ob, w.heap[D]? = some ob → w1.heap[D]? = some ob := fun D ob hD => by
    have hlt := (Array.getElem?_eq_some_iff.1 hD).1
    rw [Below.heap_alloc wD _ D (by omega), Below.heap_alloc w _ D hlt]
    exact hD
  have hnewD : w1.heap[w.heap.size]? = some (.deferred (some [])) := by
    rw [Below.heap_alloc wD _ w.heap.size (by omega)]
    exact World.alloc_heap_new w _
  have hsz := hm.frame.size
  let cI : Ctx := ⟨fn1.ntmps, c.M, c.w0, c.ρ0, fun g => c.D g ∨ g ∈ Ds ∨ g = w.heap.size⟩
  have hra1 : RepL ρ1 (.hdr (8 * n) :: caps) (.func (.yield l) #[] #[] :: cs) := by
    simp only [RepL, Rep]
    exact ⟨hself, RepL.ext hext _ _ hcs⟩
  have hlen := hra1.length
  have hmI : Mod cI (fun i => p i ∨ i / 8 = n) ρ1 ⟨slots (.hdr (8 * n) :: caps), (8 * n, some (.loop a.tmps lc .ready)) :: (8 * n + 1, some (.frm a.tmps S.t)) :: S.s, none⟩ ((Value.func (.yield l) #[] #[] :: cs).toArray ++ Array.replicate (fn1.ntmps - (Value.func (.yield l) #[] #[] :: cs).toArray.size) undef) w1 := by
    refine hmB.refit fn1.ntmps (fun g => c.D g ∨ g ∈ Ds ∨ g = w.heap.size) (slots (.hdr (8 * n) :: caps)) none _ ?_ (fun d => ?_) (fun g hg => ?_)
    · simp at hlen
      simp
      omega
    · rw [find_slots]
      cases ha : (AV.hdr (8 * n) :: caps)[d]? with
      | none => simp [Rep]
      | some v =>
        obtain ⟨u, h1, h2⟩ := RepL.get d hra1 ha
        simp only [Option.getD_some]
        have hdl : d < (Value.func (.yield l) #[] #[] :: cs).length := (List.getElem?_eq_some_iff.1 h1).1
        have e1 : ((Value.func (.yield l) #[] #[] :: cs).toArray ++ Array.replicate (fn1.ntmps - (Value.func (.yield l) #[] #[] :: cs).toArray.size) undef).getD d undef = u := by
          rw [Array.getD_eq_getD_getElem?, Array.getElem?_append_left (by simpa using hdl)]
          have : (Value.func (.yield l) #[] #[] :: cs).toArray[d]? = some u := by rw [List.getElem?_toArray]; exact h1
          rw [this]
          rfl
        rw [e1]
        exact h2
    · rcases hg with hg | hg | hg
      · exact ⟨(hm.dfr g hg).1, hkeepD _ _ (hm.dfr g hg).2⟩
      · exact ⟨(f3 g hg).1, hkeepD _ _ (f3 g hg).2.2⟩
      · subst hg; exact ⟨hsz, hnewD⟩
  have hfit : LoopFit a.tmps lc := ⟨by rw [hm.size]; exact hda, by rw [hm.size]; exact hdb, fun t ht => by rw [hm.size]; exact hps t (by simpa using ht), hra, hrb⟩
  refine callsIn_of_wp_marks hf hb trivial (wpIn_mono ((h a.tmps lc hfit rfl rfl rfl).h none (m0 - 1) cI _ ρ1 _ w1 (.inl rfl) hd hmI (fun i hi => by rcases hi with hi | hi <;> first | (have := hn i hi; omega) | omega) (.nil rfl)) ?_)
  -- its end
  have fin0 : ∀ (n' : Nat) (S' : AS) (p' : Nat → Prop) (ρ' : Env) (w' : World) (tm' : Array Value), rangeEnd n a.tmps lc Q n' S' → Mod cI p' ρ' S' tm' w' → (∀ i, p' i → i / 8 < n') →
      ∃ v, (results fn1 tm').run P w' = .ok v w' ∧ rangePost (FW none) m0 P l (Lift c Q) { a with defers := [markD w.heap.size] ++ a.defers } (.returned v) w' := by
    intro n' S' p' ρ' w' tm' hr hm' hn'
    refine ⟨.tuple #[], by unfold results; rw [hrs]; simp, ?_⟩
    unfold rangeEnd at hr
    split at hr
    case h_2 => exact hr.elim
    next tm1 lc1 m tm2 t e5 e6 =>
    obtain ⟨⟨rfl, rfl, rfl⟩, hr⟩ := hr
    obtain ⟨-, D1, st1, pe1, hh1, hmode, hturn⟩ := hm'.turnL e5
    obtain ⟨xF, -, hF⟩ := hm'.objs _ _ e6
    have hm2 := (hturn .exhausted pe1 none (fun o ho => by cases ho)).drop1 (8 * n + 1)
    have hm3 := hm2.refit c.N c.D t none a.tmps hm.size (frm_rep hF) (fun g hg => hm2.dfr g (.inl hg))
    have hdef : DefOk c { a with defers := [markD w.heap.size] ++ a.defers } (w'.putObj lc.blk (.loop (recOf a.tmps lc .exhausted pe1 D1))) := by
      refine ⟨w.heap.size :: Ds, by simp [f1], List.nodup_cons.2 ⟨fun hc => ?_, f2⟩, fun D' hD' => ?_⟩
      · have := (Array.getElem?_eq_some_iff.1 (f3 _ hc).2.2).1
        omega
      · have h1 := hm2.dfr D'
        rcases List.mem_cons.1 hD' with rfl | hD'
        · refine ⟨hsz, fun hc => ?_, (h1 (.inr (.inr rfl))).2⟩
          have := (Array.getElem?_eq_some_iff.1 (hm.dfr _ hc).2).1
          omega
        · exact ⟨(f3 D' hD').1, (f3 D' hD').2.1, (h1 (.inr (.inl hD'))).2⟩
    have hnb : st1 ≠ .busy := by
      unfold kEnd at hr
      split at hr
      · rw [hmode.1]; decide
      · rw [hmode.1]; decide
      · rw [hmode.1]; decide
      · exact hr.elim
    refine ⟨pe1, _, run_endLoop hh1 hnb, ?_⟩
    have lift : ∀ e, Q e n' ⟨t, (8 * n + 1, none) :: (8 * n, none) :: S'.s, none⟩ → Lift c Q e { a with defers := [markD w.heap.size] ++ a.defers } (w'.putObj lc.blk (.loop (recOf a.tmps lc .exhausted pe1 D1))) := fun e he => ⟨hdef, n', _, p', ρ', he, hm3, hn'⟩
    unfold kEnd at hr
    split at hr
    · obtain ⟨-, rfl⟩ := hmode; exact lift _ hr
    · obtain ⟨-, rfl⟩ := hmode; exact wpIn_ret (lift _ hr)
    · obtain ⟨-, rfl⟩ := hmode; exact wpIn_exit (lift _ hr)
    · exact hr.elim
  have fin : ∀ (Dj : List Nat) (n' : Nat) (S' : AS) (p' : Nat → Prop) (ρ' : Env) (a' : Act) (w' : World), rangeEnd n a.tmps lc Q n' S' → Mod cI p' ρ' S' a'.tmps w' → (∀ i, p' i → i / 8 < n') → Dj.Nodup → (∀ D ∈ Dj, cI.w0.heap.size ≤ D ∧ ¬ cI.D D ∧ w'.heap[D]? = some (.deferred (some []))) →
      LeavesInM (FW none) (m0 - 1) P fn1 a'.tmps (rangePost (FW none) m0 P l (Lift c Q) { a with defers := [markD w.heap.size] ++ a.defers }) (Dj.map markD) .returning w' := by
    intro Dj
    induction Dj with
    | nil => intro n' S' p' ρ' a' w' hr' hm' hn' _ _; exact fin0 n' S' p' ρ' w' a'.tmps hr' hm' hn'
    | cons D Dj ih =>
      intro n' S' p' ρ' a' w' hr' hm' hn' hnd hD
      obtain ⟨hb1, hb2, hD1⟩ := hD D (List.mem_cons_self ..)
      rw [List.nodup_cons] at hnd
      refine ⟨by simp, .inl ⟨D, _, rfl, run_takeDeferred hD1, ih n' S' p' ρ' a' _ hr' (hm'.putObj _ hD1 rfl hb1 hb2) hn' hnd.2 fun D2 h2 => ?_⟩⟩
      obtain ⟨k1, k3, k2⟩ := hD D2 (List.mem_cons_of_mem _ h2)
      have hne : D2 ≠ D := fun e => by subst e; exact hnd.1 h2
      exact ⟨k1, k3, (World.putObj_heap_other hne).trans k2⟩
  rintro e a' w' ⟨⟨Dj, e1, e2, e3⟩, n', S', p', ρ', h2, h3, h4⟩
  cases e with
  | normal => show LeavesInM _ _ _ _ _ _ a'.defers _ _; rw [e1]; exact fin Dj n' S' p' ρ' a' w' h2 h3 h4 e2 e3
  | ret => show LeavesInM _ _ _ _ _ _ a'.defers _ _; rw [e1]; exact fin Dj n' S' p' ρ' a' w' h2 h3 h4 e2 e3
  | _ => exact h2.elim

/-! a scope through which the run goes without a goto -/
theorem stepR_scope {P : Program} {b : Frame} {a : Act} {k : List Item} {cs : List Frame} {w : World} {c : Code} : step P (lone (b.atR a (.code (.scope c) :: k)) cs w) = .next (lone (b.atR a (.code c :: .inScope c :: k)) cs w) := step_lone_go (by simp [stepG, stepG.exec, Frame.atR])
theorem stepR_inScope {P : Program} {b : Frame} {a : Act} {k : List Item} {cs : List Frame} {w : World} {c : Code} : step P (lone (b.atR a (.inScope c :: k)) cs w) = .next (lone (b.atR a k) cs w) := step_lone_go (by simp [stepG, stepG.exec, Frame.atR])
def noGotoX (Q : Exit → Act → World → Prop) : Exit → Act → World → Prop
  | .goto _, _, _ => False
  | e, a, w => Q e a w
theorem wpIn_scope {F : Fence} {n : Nat} {P : Program} {Q : Exit → Act → World → Prop} {a : Act} {w : World} {c : Code} (h : c.wpIn F n P (noGotoX Q) a w) : (Code.scope c).wpIn F n P Q a w := by
  intro b k cs hro hb hr
  have h0 : (lone (b.atR a (.code (.scope c) :: k)) cs w).fenced P F := fenced_calm hb hr rfl
  obtain ⟨e, a₁, w₁, hq, harr⟩ := h b (.inScope c :: k) cs hro hb hr
  cases e with
  | normal => exact ⟨.normal, a₁, w₁, hq, .head h0 stepR_scope (StepsIn.trans harr (.one (fenced_calm hb hr rfl) stepR_inScope))⟩
  | exit id' =>
    have hx : exitTo id' (.inScope c :: k) = exitTo id' k := by simp [exitTo]
    exact ⟨.exit id', a₁, w₁, hq, fun k' hk => .head h0 stepR_scope (harr.1 k' (by rw [hx]; exact hk)),
      fun hr' hk => let ⟨k₁, h1, h2⟩ := harr.2 hr' (by rw [hx]; exact hk); ⟨k₁, h1, .head h0 stepR_scope h2⟩⟩
  | goto l => exact hq.elim
  | ret => exact ⟨_, a₁, w₁, hq, .of_steps (.one h0 stepR_scope) harr⟩
  | panic ch => exact ⟨_, a₁, w₁, hq, .of_steps (.one h0 stepR_scope) harr⟩
  | outgrown => exact ⟨_, a₁, w₁, hq, .of_steps (.one h0 stepR_scope) harr⟩
def scopeK (Q : Exit → Nat → AS → Prop) : Exit → Nat → AS → Prop
  | .goto _ => fun _ _ => False
  | e => Q e
@[go_sem] theorem scopeK_normal (Q : Exit → Nat → AS → Prop) : scopeK Q .normal = Q .normal := rfl
@[go_sem] theorem scopeK_ret (Q : Exit → Nat → AS → Prop) : scopeK Q .ret = Q .ret := rfl
@[go_sem] theorem scopeK_exit (Q : Exit → Nat → AS → Prop) (i : Nat) : scopeK Q (.exit i) = Q (.exit i) := rfl
theorem swp_scope {P : Program} {c : Code} {Q : Exit → Nat → AS → Prop} {n : Nat} {S : AS} (h : SWP P c (scopeK Q) n S) : SWP P (.scope c) Q n S := by
  refine .mk ?_
  intro rd m0 cx p ρ a w hrg hd hm hn ha
  refine wpIn_scope (wpIn_mono (h.h rd m0 cx p ρ a w hrg hd hm hn ha) ?_)
  rintro e a' w' ⟨h1, n', S', p', ρ', h2, h3, h4⟩
  cases e with
  | goto l => exact h2.elim
  | _ => exact ⟨h1, n', S', p', ρ', h2, h3, h4⟩
theorem swp_label {P : Program} {l : Nat} {Q : Exit → Nat → AS → Prop} {n : Nat} {S : AS} (h : Q .normal n S) : SWP P (.label l) Q n S := by
  refine .mk ?_
  intro rd m0 cx p ρ a w hrg hd hm hn ha
  exact wpIn_label ⟨ha, n, S, p, ρ, h, hm, hn⟩
end Go.Proofs.Ytjkndjpkmkbnkaa
/- CHAPTER 27: frags: a node's piece, and those within it. -/
/- G -/
/- BOOLS -/
set_option linter.unusedSimpArgs false
set_option linter.unusedVariables false
namespace Go.Proofs.Ytjkndjpkmkbnkaa
open Go.RowKit

abbrev bO (l : List LNo) (fl : List LFg) (i : Nat) : Nat × AO := (0, .cells 83 [.sl 20 (l.map cNo), .sl 7 (fl.map cFg), .hdr i])
/-- what is asked of nodes and parts. -/
structure FraP (l : List LNo) (fl : List LFg) : Prop where
  v : isS l = true
  len : l.length ≤ 1000
  w : ∀ x ∈ l, x.words.length ≤ 9223372036854775807
  has : ∀ f ∈ fl, hasN l f.node = true
  fln : fl.length ≤ 100
  near : ∀ f ∈ fl, nearR (recF f) = true
theorem hldL_nil (l : List LNo) (n : Int) : hldL l [] n = [] := rfl
theorem hldL_near {l : List LNo} {fl : List LFg} (h : FraP l fl) (n : Int) : (hldL l fl n).length ≤ 100 ∧ (hldL l fl n).all nearR = true := by
  unfold hldL
  rw [List.length_map, List.all_eq_true]
  have := List.length_filter_le (hldB l n) fl
  have := h.fln
  refine ⟨by omega, fun r hr => ?_⟩
  obtain ⟨f, hf, rfl⟩ := List.mem_map.1 hr
  exact h.near f (List.mem_filter.1 hf).1
theorem hldL_step {l : List LNo} {fl : List LFg} {n : Int} {k : Nat} (hk : k < fl.length) : hldL l (fl.take (k + 1)) n = hldL l (fl.take k) n ++ if hldB l n fl[k] = true then [recF fl[k]] else [] := by
  unfold hldL
  rw [List.take_succ_eq_append_getElem hk, List.filter_append, List.map_append]
  congr 1
  split
  · next h => rw [List.filter_cons_of_pos h]; rfl
  · next h => rw [List.filter_cons_of_neg h]; rfl
set_option maxRecDepth 100000 in
set_option maxHeartbeats 8000000 in
theorem fnode_ok {l : List LNo} {fl : List LFg} (h : FraP l fl) (a : Nat) (ha : a < l.length) (out : List LPc) (hout : out.length ≤ a)
    (hrow : ∀ (out : List LPc), out.length ≤ a + 1 → FnOk Try.prog 45 [.hdr 0, .raw (.int .i64 a)] [bO l fl 1, (1, .row 69 6 (out.map cPc))] (.tup []) [bO l fl 8, (8, .row 69 6 ((out ++ pcs l fl (a + 1) (sizN l a - 1).toNat).map cPc))]) :
    FnOk Try.prog 63 [.hdr 0, .raw (.int .i64 a)] [bO l fl 1, (1, .row 69 6 (out.map cPc))] (.tup []) [bO l fl 8, (8, .row 69 6 ((out ++ pcs l fl a (sizN l a).toNat).map cPc))] := by
  have hlen := h.len
  have hln := h.fln
  have hnr := hldL_near h a
  have hL := isS_lam h.v
  have hpos := hL.pos a ha
  have hfin := hL.fin a ha
  have hpl := pcs_len l fl (a + 1) (sizN l a - 1).toNat
  have hfh := h.has
  have hsz := sizN_get ha
  rw [pcs_node hL ha]
  refine fn_of_swp Try.func63 rfl (by kernel_rfl) (by kernel_rfl) (Nat.le_of_ble_eq_true rfl) Try.results63 ?_
  (refine swp_seqW ?_; simp only [go_sem, Bool.not_eq_true', Bool.not_eq_false'])
  refine swp_cutS (fun _ : Unit => ⟨[(0, .hdr 0), (1, .raw (.int .i64 a)), (4, .hdr 800)], [((bO l fl 816).1, some (bO l fl 816).2), (816, some (.row 69 6 (out.map cPc))), (800, some (.cells 80 [.sl 4 ((hldL l fl a).map cRect)]))], none⟩) (fun _ => True) 120 ?_ ?_
  · (refine swp_lastW ?_; simp only [go_sem, Bool.not_eq_true', Bool.not_eq_false'])
    (refine acall2 [] (fholds_ok l fl a) (by simp only [go_sem, Bool.not_eq_true', Bool.not_eq_false']; rfl) (fit_of (by simp only [go_sem, Bool.not_eq_true', Bool.not_eq_false']) (by simp only [go_sem, Bool.not_eq_true', Bool.not_eq_false']) (by simp only [go_sem, Bool.not_eq_true', Bool.not_eq_false']) (by simp only [go_sem, Bool.not_eq_true', Bool.not_eq_false']) (by simp only [go_sem, Bool.not_eq_true', Bool.not_eq_false']) (by simp only [go_sem, Bool.not_eq_true', Bool.not_eq_false']) (by simp only [go_sem, Bool.not_eq_true', Bool.not_eq_false'])) ?_; simp only [go_sem, Bool.not_eq_true', Bool.not_eq_false'])
    (refine arangeS (by simp only [go_sem, Bool.not_eq_true', Bool.not_eq_false']; rfl) Try.func59 rfl (by kernel_rfl) (by kernel_rfl) (Nat.le_of_ble_eq_true rfl) Try.results59 ?_; intro tm1 lc1 hfit1 hps1 hasg1 hbody1; simp only [List.toList_toArray] at hps1)
    (refine swp_seqW ?_; simp only [go_sem, Bool.not_eq_true', Bool.not_eq_false'])
    refine swp_block ?_
    refine swp_loop2 [] (fun k : Nat => ⟨[(0, .hdr 64), (1, .hdr 56), (2, .hdr 57), (7, .sl 7 (fl.map cFg)), (8, .raw (.int .i64 fl.length)), (9, .raw (.int .i64 k))], [(64, some (.loop tm1 lc1 .ready)), (65, some (.frm tm1 [(0, .hdr 0), (1, .raw (.int .i64 a)), (4, .hdr 8)])), (56, some (.cells 75 [.sl 20 (l.map cNo), .sl 7 (fl.map cFg)])), (57, some (.cells 3 [.raw (.int .i64 a)])), (8, some (.cells 80 [.hdr 9])), (9, some (.row 73 4 ((hldL l (fl.take k) a).map cRect))), ((bO l fl 1).1, some (bO l fl 1).2), (1, some (.row 69 6 (out.map cPc)))], none⟩) (fun k => k ≤ fl.length) (fun k => fl.length - k) 100 0 (by simp only [go_sem, Bool.not_eq_true', Bool.not_eq_false']; rfl) (by simp only [go_sem, Bool.not_eq_true', Bool.not_eq_false', hldL_nil, List.map_nil]) ?_ ?_
    · exact Nat.zero_le _
    · intro k hk
      have hlk : (hldL l (fl.take k) a).length ≤ 100 := by
        unfold hldL
        rw [List.length_map]
        have h1 := List.length_filter_le (hldB l a) (fl.take k)
        rw [List.length_take] at h1
        omega
      (refine swp_seqW ?_; simp only [go_sem, Bool.not_eq_true', Bool.not_eq_false'])
      (refine swp_seqW ?_; simp only [go_sem, Bool.not_eq_true', Bool.not_eq_false'])
      refine ⟨fun h5 => ?_, fun h5 => ?_⟩
      · have hkl : k < fl.length := by omega
        have hst := hldL_step (l := l) (n := a) hkl
        have hhs := hasN_iff.1 (hfh _ (List.getElem_mem hkl))
        have hb1 : (a : Int) ≤ fl[k].node → fl[k].node - a < l[a].size → hldB l a fl[k] = true := fun q1 q2 => holN_iff.2 ⟨by omega, hhs, q1, by rw [Int.toNat_natCast]; omega⟩
        have hb2 : ¬ ((a : Int) ≤ fl[k].node ∧ fl[k].node - a < l[a].size) → ¬ hldB l a fl[k] = true := fun q w => by
          have w := holN_iff.1 w
          rw [Int.toNat_natCast] at w
          omega
        have eyes : hldB l a fl[k] = true → hldL l (fl.take (k + 1)) a = hldL l (fl.take k) a ++ [recF fl[k]] := fun q => by rw [hst, if_pos q]
        have eno : ¬ hldB l a fl[k] = true → hldL l (fl.take (k + 1)) a = hldL l (fl.take k) a := fun q => by rw [hst, if_neg q, List.append_nil]
        clear hfh hst
        refine swp_seqS ?_
        refine swp_block ?_
        (refine swp_seqW ?_; simp only [go_sem, Bool.not_eq_true', Bool.not_eq_false'])
        refine ⟨by omega, ex_get hkl ?_⟩
        refine swp_seqS ?_
        (refine swp_tail 21 (by simp only [go_sem, Bool.not_eq_true', Bool.not_eq_false']) rfl (by kernel_rfl) ?_; simp only [go_sem, Bool.not_eq_true', Bool.not_eq_false', List.take_succ_cons, List.take_zero, List.drop_succ_cons, List.drop_zero, List.map_cons, List.map_nil])
        refine ⟨fun q1 => ⟨by omega, by omega, ex_get ha ⟨fun q2 => ?_, fun q2 => ?_⟩⟩, fun q1 => ?_⟩
        · have e := eyes (hb1 q1 q2)
          (refine acall2 [] (fof_ok fl[k]) (by simp only [go_sem, Bool.not_eq_true', Bool.not_eq_false']; rfl) (fit_of (by simp only [go_sem, Bool.not_eq_true', Bool.not_eq_false']) (by simp only [go_sem, Bool.not_eq_true', Bool.not_eq_false']) (by simp only [go_sem, Bool.not_eq_true', Bool.not_eq_false']) (by simp only [go_sem, Bool.not_eq_true', Bool.not_eq_false']) (by simp only [go_sem, Bool.not_eq_true', Bool.not_eq_false']) (by simp only [go_sem, Bool.not_eq_true', Bool.not_eq_false']) (by simp only [go_sem, Bool.not_eq_true', Bool.not_eq_false'])) ?_; simp only [go_sem, Bool.not_eq_true', Bool.not_eq_false'])
          refine ⟨(show drawB _ _ = true by kernel_rfl), ?_⟩
          (refine ayield rfl ?_; simp only [go_sem, Bool.not_eq_true', Bool.not_eq_false', hfit1, hps1, hasg1, hbody1]; intro tmI1)
          refine ⟨⟨by omega, by omega⟩, ?_⟩
          (refine swp_lastW ?_; simp only [go_sem, Bool.not_eq_true', Bool.not_eq_false'])
          (refine swp_lastW ?_; simp only [go_sem, Bool.not_eq_true', Bool.not_eq_false'])
          refine ⟨by omega, ?_⟩
          (refine loop_end [] (k + 1) (by simp only [go_sem, Bool.not_eq_true', Bool.not_eq_false']; rfl) ?_ ?_ ?_; (focus first | omega | (simp only; omega)); (focus (simp only [go_sem, Bool.not_eq_true', Bool.not_eq_false', e, List.map_append]; done)))
          exact hkl
        · have e := eno (hb2 (by omega))
          refine ⟨(show drawB _ _ = true by kernel_rfl), ?_⟩
          (refine swp_lastW ?_; simp only [go_sem, Bool.not_eq_true', Bool.not_eq_false'])
          (refine swp_lastW ?_; simp only [go_sem, Bool.not_eq_true', Bool.not_eq_false'])
          refine ⟨by omega, ?_⟩
          (refine loop_end [] (k + 1) (by simp only [go_sem, Bool.not_eq_true', Bool.not_eq_false']; rfl) ?_ ?_ ?_; (focus first | omega | (simp only; omega)); (focus (simp only [go_sem, Bool.not_eq_true', Bool.not_eq_false', e]; done)))
          exact hkl
        · have e := eno (hb2 (by omega))
          refine ⟨(show drawB _ _ = true by kernel_rfl), ?_⟩
          (refine swp_lastW ?_; simp only [go_sem, Bool.not_eq_true', Bool.not_eq_false'])
          (refine swp_lastW ?_; simp only [go_sem, Bool.not_eq_true', Bool.not_eq_false'])
          refine ⟨by omega, ?_⟩
          (refine loop_end [] (k + 1) (by simp only [go_sem, Bool.not_eq_true', Bool.not_eq_false']; rfl) ?_ ?_ ?_; (focus first | omega | (simp only; omega)); (focus (simp only [go_sem, Bool.not_eq_true', Bool.not_eq_false', e]; done)))
          exact hkl
      · obtain rfl : k = fl.length := by omega
        rw [List.take_length]
        (refine cut_end [9 ] ( ()) (by simp only [go_sem, Bool.not_eq_true', Bool.not_eq_false']; rfl) ?_ ?_; (focus (simp only [go_sem, Bool.not_eq_true', Bool.not_eq_false']; done)))
        trivial
  rintro - -
  generalize hR : hldL l fl a = R at *
  generalize pcs l fl (a + 1) (sizN l a - 1).toNat = ps at *
  (refine swp_seqW ?_; simp only [go_sem, Bool.not_eq_true', Bool.not_eq_false'])
  refine ⟨fun q => ?_, fun q => ?_⟩
  · obtain rfl : R = [] := List.eq_nil_of_length_eq_zero (by omega)
    rw [if_pos rfl, List.append_nil]
    (refine ret2 [] (by simp only [go_sem, Bool.not_eq_true', Bool.not_eq_false']; rfl) ?_; simp only [go_sem, Bool.not_eq_true', Bool.not_eq_false'])
  have hne : R ≠ [] := fun e => by subst e; exact q rfl
  rw [if_neg hne]
  (refine swp_seqW ?_; simp only [go_sem, Bool.not_eq_true', Bool.not_eq_false'])
  (refine acall2 [] (rhull_ok R hnr.1 hnr.2) (by simp only [go_sem, Bool.not_eq_true', Bool.not_eq_false']; rfl) (fit_of (by simp only [go_sem, Bool.not_eq_true', Bool.not_eq_false']) (by simp only [go_sem, Bool.not_eq_true', Bool.not_eq_false']) (by simp only [go_sem, Bool.not_eq_true', Bool.not_eq_false']) (by simp only [go_sem, Bool.not_eq_true', Bool.not_eq_false']) (by simp only [go_sem, Bool.not_eq_true', Bool.not_eq_false']) (by simp only [go_sem, Bool.not_eq_true', Bool.not_eq_false']) (by simp only [go_sem, Bool.not_eq_true', Bool.not_eq_false'])) ?_; simp only [go_sem, Bool.not_eq_true', Bool.not_eq_false'])
  generalize hullR R = hr
  (refine swp_seqW ?_; simp only [go_sem, Bool.not_eq_true', Bool.not_eq_false'])
  (refine swp_seqW ?_; simp only [go_sem, Bool.not_eq_true', Bool.not_eq_false'])
  repeat' first | contradiction | intro _ | refine And.intro ?_ ?_ | refine ex_get (by omega) ?_ | (show drawB _ _ = true; kernel_rfl) | (refine ret2 [] (by simp only [go_sem, Bool.not_eq_true', Bool.not_eq_false']; rfl) ?_; simp only [go_sem, Bool.not_eq_true', Bool.not_eq_false'])
  all_goals first
    | omega
    | skip
  have em : out.map cPc ++ [[PV.raw (.int .i64 a), PV.raw (.int .i64 0), PV.raw (.int .i64 hr.x), PV.raw (.int .i64 hr.y), PV.raw (.int .i64 hr.w), PV.raw (.int .i64 hr.h)]] = (out ++ [(⟨(a : Int), 0, hr⟩ : LPc)]).map cPc := by simp [cPc]
  rw [em]
  (refine swp_seqW ?_; simp only [go_sem, Bool.not_eq_true', Bool.not_eq_false'])
  (refine acall2 [] (hrow (out ++ [(⟨(a : Int), 0, hr⟩ : LPc)]) (by simp; omega)) (by simp only [go_sem, Bool.not_eq_true', Bool.not_eq_false']; rfl) (fit_of (by simp only [go_sem, Bool.not_eq_true', Bool.not_eq_false']) (by simp only [go_sem, Bool.not_eq_true', Bool.not_eq_false']) (by simp only [go_sem, Bool.not_eq_true', Bool.not_eq_false']) (by simp only [go_sem, Bool.not_eq_true', Bool.not_eq_false']) (by simp only [go_sem, Bool.not_eq_true', Bool.not_eq_false']) (by simp only [go_sem, Bool.not_eq_true', Bool.not_eq_false']) (by simp only [go_sem, Bool.not_eq_true', Bool.not_eq_false'])) ?_; simp only [go_sem, Bool.not_eq_true', Bool.not_eq_false'])
  (refine swp_lastW ?_; simp only [go_sem, Bool.not_eq_true', Bool.not_eq_false', List.length_map, List.length_append, List.length_cons, List.length_nil])
  refine ⟨by omega, by omega, ⟨(a : Int), 0, hr⟩, by simp, (show drawB _ _ = true by kernel_rfl), ?_⟩
  have ez : (out.length : Int) + 1 + ps.length - out.length = ps.length + 1 := by omega
  rw [ez]
  have es : ((out ++ [(⟨(a : Int), 0, hr⟩ : LPc)] ++ ps).map cPc).set out.length [PV.raw (.int .i64 a), PV.raw (.int .i64 ((ps.length : Int) + 1)), PV.raw (.int .i64 hr.x), PV.raw (.int .i64 hr.y), PV.raw (.int .i64 hr.w), PV.raw (.int .i64 hr.h)] = (out ++ (⟨(a : Int), (ps.length : Int) + 1, hr⟩ : LPc) :: ps).map cPc := by
    rw [List.append_assoc, List.map_append, List.set_append_right _ _ (by simp)]
    simp [cPc]
  rw [es]
  (refine ret2 [] (by simp only [go_sem, Bool.not_eq_true', Bool.not_eq_false']; rfl) ?_; simp only [go_sem, Bool.not_eq_true', Bool.not_eq_false'])
end Go.Proofs.Ytjkndjpkmkbnkaa
/- CHAPTER 27: frags: the pieces of a row; frags.Of. -/
/- G -/
/- BOOLS -/
set_option linter.unusedSimpArgs false
set_option linter.unusedVariables false
namespace Go.Proofs.Ytjkndjpkmkbnkaa
open Go.RowKit

/-- a row of nodes: all that have no parent, or those within one. -/
structure RowO (l : List LNo) (a : Int) (k : Nat) (e : Int) : Prop where
  le : (k : Int) ≤ e
  hi : e ≤ l.length
  kid : kidN l a = kidS l e l.length k
  nest : ∀ j : Nat, k ≤ j → (j : Int) < e → 1 ≤ sizN l j ∧ j + sizN l j ≤ e
theorem row_all {l : List LNo} (hL : Lam l) : RowO l (-1) 0 l.length := ⟨by omega, Int.le_refl _, by unfold kidN; rw [if_pos rfl], fun j _ h => ⟨hL.pos j (by omega), hL.fin j (by omega)⟩⟩
theorem row_in {l : List LNo} (hL : Lam l) {n : Nat} (hn : n < l.length) : RowO l n (n + 1) (n + sizN l n) := by
  have h1 := hL.pos n hn
  have h2 := hL.fin n hn
  refine ⟨by omega, h2, ?_, fun j h3 h4 => ⟨hL.pos j (by omega), hL.nest n j hn (by omega) h4⟩⟩
  unfold kidN
  rw [if_neg (by omega), if_pos (hasN_iff.2 (by omega)), Int.toNat_natCast]
structure LRw where
  m : Nat
  k : Nat
set_option maxRecDepth 100000 in
set_option maxHeartbeats 8000000 in
theorem frow_ok {l : List LNo} {fl : List LFg} (h : FraP l fl) (a : Int) (k : Nat) (e : Int) (hr : RowO l a k e) (out : List LPc) (hout : out.length ≤ k)
    (hnode : ∀ (b : Nat) (out : List LPc), k ≤ b → b + sizN l b ≤ e → b < l.length → out.length ≤ b → FnOk Try.prog 63 [.hdr 0, .raw (.int .i64 b)] [bO l fl 1, (1, .row 69 6 (out.map cPc))] (.tup []) [bO l fl 8, (8, .row 69 6 ((out ++ pcs l fl b (sizN l b).toNat).map cPc))]) :
    FnOk Try.prog 45 [.hdr 0, .raw (.int .i64 a)] [bO l fl 1, (1, .row 69 6 (out.map cPc))] (.tup []) [bO l fl 8, (8, .row 69 6 ((out ++ pcs l fl k (e - k).toNat).map cPc))] := by
  have hlen := h.len
  have hkd := kids8_ok l a h.len h.w
  have hdn : docN l = l := by unfold docN; rw [if_pos h.v]
  rw [hdn, hr.kid] at hkd
  have h1 := hr.le
  have h2 := hr.hi
  have h3 := hr.nest
  obtain ⟨kids, hks⟩ : ∃ kids, kidS l e l.length k = kids := ⟨_, rfl⟩
  have hkl : kids.length ≤ l.length := by
    have : ∀ f k, (kidS l e f k).length ≤ f := fun f => by
      induction f with
      | zero => intro k; simp [kidS]
      | succ f ih => intro k; rw [kidS]; split <;> simp; exact ih _
    rw [← hks]
    exact this _ _
  rw [hks] at hkd
  refine fn_of_swp Try.func45 rfl (by kernel_rfl) (by kernel_rfl) (Nat.le_of_ble_eq_true rfl) Try.results45 ?_
  refine swp_cutS (fun _ : Unit => ⟨[(0, .hdr 0), (12, .sl 1 (kids.map cInt)), (13, .raw (.int .i64 kids.length)), (14, .raw (.int .i64 0))], [((bO l fl 816).1, some (bO l fl 816).2), (816, some (.row 69 6 (out.map cPc)))], none⟩) (fun _ => True) 120 ?_ ?_
  · (refine swp_lastW ?_; simp only [go_sem, Bool.not_eq_true', Bool.not_eq_false'])
    (refine acall2 [] (hkd) (by simp only [go_sem, Bool.not_eq_true', Bool.not_eq_false']; rfl) (fit_of (by simp only [go_sem, Bool.not_eq_true', Bool.not_eq_false']) (by simp only [go_sem, Bool.not_eq_true', Bool.not_eq_false']) (by simp only [go_sem, Bool.not_eq_true', Bool.not_eq_false']) (by simp only [go_sem, Bool.not_eq_true', Bool.not_eq_false']) (by simp only [go_sem, Bool.not_eq_true', Bool.not_eq_false']) (by simp only [go_sem, Bool.not_eq_true', Bool.not_eq_false']) (by simp only [go_sem, Bool.not_eq_true', Bool.not_eq_false'])) ?_; simp only [go_sem, Bool.not_eq_true', Bool.not_eq_false'])
    (refine cut_end [56 ] ( ()) (by simp only [go_sem, Bool.not_eq_true', Bool.not_eq_false']; rfl) ?_ ?_; (focus (simp only [go_sem, Bool.not_eq_true', Bool.not_eq_false']; done)))
    trivial
  rintro - -
  clear hkd
  refine swp_block ?_
  refine swp_loop2 [] (fun z : LRw => ⟨[(0, .hdr 0), (12, .sl 1 (kids.map cInt)), (13, .raw (.int .i64 kids.length)), (14, .raw (.int .i64 z.m))], [((bO l fl 816).1, some (bO l fl 816).2), (816, some (.row 69 6 ((out ++ pcs l fl k (z.k - k)).map cPc)))], none⟩) (fun z => z.m ≤ kids.length ∧ (k ≤ z.k ∧ (z.k : Int) ≤ e) ∧ ∃ f, kids.drop z.m = kidS l e f z.k ∧ e ≤ f + z.k) (fun z => kids.length - z.m) 120 ⟨0, k⟩ (by simp only [go_sem, Bool.not_eq_true', Bool.not_eq_false']; rfl) (by simp only [go_sem, Bool.not_eq_true', Bool.not_eq_false', Nat.sub_self, pcs_zero, List.append_nil]) ?_ ?_
  · exact ⟨Nat.zero_le _, ⟨Nat.le_refl _, h1⟩, l.length, by rw [List.drop_zero, hks], by simp only; omega⟩
  · rintro ⟨m, j⟩ ⟨m1, ⟨j1, j2⟩, f, f1, f2⟩
    simp only at m1 j1 j2 f1 f2
    (refine swp_seqW ?_; simp only [go_sem, Bool.not_eq_true', Bool.not_eq_false'])
    (refine swp_seqW ?_; simp only [go_sem, Bool.not_eq_true', Bool.not_eq_false'])
    refine ⟨fun q => ?_, fun q => ?_⟩
    · have hm : m < kids.length := by omega
      have hd : kids.drop m = kids[m] :: kids.drop (m + 1) := List.drop_eq_getElem_cons hm
      rw [hd] at f1
      obtain ⟨g, rfl⟩ : ∃ g, f = g + 1 := by
        cases f with
        | zero => simp [kidS] at f1; omega
        | succ g => exact ⟨g, rfl⟩
      rw [kidS] at f1
      have hje : (j : Int) < e := by
        refine Int.not_le.1 fun w => ?_
        rw [if_neg (by omega)] at f1
        cases f1
      rw [if_pos hje] at f1
      injection f1 with f3 f4
      obtain ⟨n1, n2⟩ := h3 j j1 hje
      obtain ⟨s, hs⟩ : ∃ s : Nat, sizN l j = s := ⟨(sizN l j).toNat, by omega⟩
      have hpl := pcs_len l fl k (j - k)
      have hap := pcs_app l fl k (j - k) s
      have hpl2 := pcs_len l fl j s
      rw [show k + (j - k) = j by omega] at hap
      have hnd := hnode j (out ++ pcs l fl k (j - k)) j1 n2 (by omega) (by rw [List.length_append]; omega)
      rw [hs, Int.toNat_natCast, List.append_assoc, ← hap, show j - k + s = j + s - k by omega] at hnd
      rw [hs] at n1 n2 f4
      rw [Int.toNat_natCast] at f4
      refine swp_seqS ?_
      refine swp_block ?_
      (refine swp_seqW ?_; simp only [go_sem, Bool.not_eq_true', Bool.not_eq_false'])
      refine ⟨by omega, ex_get hm ?_⟩
      rw [f3]
      (refine swp_lastW ?_; simp only [go_sem, Bool.not_eq_true', Bool.not_eq_false'])
      (refine acall2 [] (hnd) (by simp only [go_sem, Bool.not_eq_true', Bool.not_eq_false']; rfl) (fit_of (by simp only [go_sem, Bool.not_eq_true', Bool.not_eq_false']) (by simp only [go_sem, Bool.not_eq_true', Bool.not_eq_false']) (by simp only [go_sem, Bool.not_eq_true', Bool.not_eq_false']) (by simp only [go_sem, Bool.not_eq_true', Bool.not_eq_false']) (by simp only [go_sem, Bool.not_eq_true', Bool.not_eq_false']) (by simp only [go_sem, Bool.not_eq_true', Bool.not_eq_false']) (by simp only [go_sem, Bool.not_eq_true', Bool.not_eq_false'])) ?_; simp only [go_sem, Bool.not_eq_true', Bool.not_eq_false'])
      (refine swp_lastW ?_; simp only [go_sem, Bool.not_eq_true', Bool.not_eq_false'])
      refine ⟨by omega, ?_⟩
      (refine loop_end [] (⟨m + 1, j + s⟩) (by simp only [go_sem, Bool.not_eq_true', Bool.not_eq_false']; rfl) ?_ ?_ ?_; (focus first | omega | (simp only; omega)); (focus (simp only [go_sem, Bool.not_eq_true', Bool.not_eq_false']; done)))
      exact ⟨hm, ⟨by simp only; omega, by simp only; omega⟩, g, f4, by simp only; omega⟩
    · have hje : (j : Int) = e := by
        rw [List.drop_of_length_le (by omega)] at f1
        cases f with
        | zero => omega
        | succ g =>
          rw [kidS] at f1
          split at f1
          · cases f1
          · omega
      have ej : j - k = (e - k).toNat := by omega
      rw [ej]
      (refine ret2 [] (by simp only [go_sem, Bool.not_eq_true', Bool.not_eq_false']; rfl) ?_; simp only [go_sem, Bool.not_eq_true', Bool.not_eq_false'])
theorem pieces_ok {l : List LNo} {fl : List LFg} (h : FraP l fl) : ∀ F : Nat,
    (∀ (b : Nat) (out : List LPc), sizN l b ≤ F → b < l.length → out.length ≤ b → FnOk Try.prog 63 [.hdr 0, .raw (.int .i64 b)] [bO l fl 1, (1, .row 69 6 (out.map cPc))] (.tup []) [bO l fl 8, (8, .row 69 6 ((out ++ pcs l fl b (sizN l b).toNat).map cPc))]) ∧
    (∀ (a : Int) (k : Nat) (e : Int), RowO l a k e → e - k ≤ F → ∀ out : List LPc, out.length ≤ k → FnOk Try.prog 45 [.hdr 0, .raw (.int .i64 a)] [bO l fl 1, (1, .row 69 6 (out.map cPc))] (.tup []) [bO l fl 8, (8, .row 69 6 ((out ++ pcs l fl k (e - k).toNat).map cPc))])
  | 0 => by
    have hL := isS_lam h.v
    refine ⟨fun b out hb hbl => ?_, fun a k e hr he out ho => ?_⟩
    · have := hL.pos b hbl; omega
    · refine frow_ok h a k e hr out ho fun b out h1 h2 h3 _ => ?_
      have := hL.pos b h3; omega
  | F + 1 => by
    have hL := isS_lam h.v
    obtain ⟨ih1, ih2⟩ := pieces_ok h F
    have hn : ∀ (b : Nat) (out : List LPc), sizN l b ≤ (F + 1 : Nat) → b < l.length → out.length ≤ b → FnOk Try.prog 63 [.hdr 0, .raw (.int .i64 b)] [bO l fl 1, (1, .row 69 6 (out.map cPc))] (.tup []) [bO l fl 8, (8, .row 69 6 ((out ++ pcs l fl b (sizN l b).toNat).map cPc))] := fun b out hb hbl ho => by
      refine fnode_ok h b hbl out ho fun out ho => ?_
      have := ih2 b (b + 1) (b + sizN l b) (row_in hL hbl) (by omega) out ho
      rw [show (b : Int) + sizN l b - ((b + 1 : Nat) : Int) = sizN l b - 1 by omega] at this
      exact this
    refine ⟨hn, fun a k e hr he out ho => ?_⟩
    exact frow_ok h a k e hr out ho fun b out h1 h2 h3 h4 => hn b out (by omega) h3 h4
/-- the pieces of a page. -/
def ofF (l : List LNo) (fl : List LFg) : List LPc := if mayF l fl = true then pcs l fl 0 l.length else []
set_option maxRecDepth 100000 in
set_option maxHeartbeats 4000000 in
theorem ofF_ok (l : List LNo) (fl : List LFg) (hl : l.length ≤ 1000) (hw : ∀ x ∈ l, x.words.length ≤ 9223372036854775807) (hf : fl.length ≤ 100) (hn : ∀ f ∈ fl, nearR (recF f) = true) : FnOk Try.prog 23 [.sl 20 (l.map cNo), .sl 7 (fl.map cFg)] [] (.hdr 8) [(8, .row 69 6 ((ofF l fl).map cPc))] := by
  refine fn_of_awp Try.func23 rfl (by kernel_rfl) (by kernel_rfl) (Nat.le_of_ble_eq_true rfl) Try.results23 ?_
  simp only [go_sem, Bool.not_eq_true', Bool.not_eq_false']
  (refine acall2 [] (fmay_ok l fl hl (by omega) hw) (by simp only [go_sem, Bool.not_eq_true', Bool.not_eq_false']; rfl) (fit_of (by simp only [go_sem, Bool.not_eq_true', Bool.not_eq_false']) (by simp only [go_sem, Bool.not_eq_true', Bool.not_eq_false']) (by simp only [go_sem, Bool.not_eq_true', Bool.not_eq_false']) (by simp only [go_sem, Bool.not_eq_true', Bool.not_eq_false']) (by simp only [go_sem, Bool.not_eq_true', Bool.not_eq_false']) (by simp only [go_sem, Bool.not_eq_true', Bool.not_eq_false']) (by simp only [go_sem, Bool.not_eq_true', Bool.not_eq_false'])) ?_; simp only [go_sem, Bool.not_eq_true', Bool.not_eq_false'])
  rcases hm : mayF l fl with _ | _
  · have e : ofF l fl = [] := by unfold ofF; rw [hm]; rfl
    rw [e]
    repeat' first | contradiction | intro _ | refine And.intro ?_ ?_ | refine ex_get (by omega) ?_ | (show drawB _ _ = true; kernel_rfl) | (refine ret2 [] (by simp only [go_sem, Bool.not_eq_true', Bool.not_eq_false', List.map]; rfl) ?_; simp only [go_sem, Bool.not_eq_true', Bool.not_eq_false', List.map])
    all_goals skip
  · have e : ofF l fl = pcs l fl 0 l.length := by unfold ofF; rw [hm]; rfl
    rw [e]
    obtain ⟨hv, hh⟩ := mayF_iff.1 hm
    have hrow := (pieces_ok ⟨hv, hl, hw, hh, hf, hn⟩ l.length).2 (-1) 0 l.length (row_all (isS_lam hv)) (by omega) [] (Nat.zero_le _)
    rw [List.nil_append, show ((l.length : Int) - ((0 : Nat) : Int)).toNat = l.length by omega] at hrow
    rw [List.map_nil] at hrow
    repeat' first | contradiction | intro _ | refine And.intro ?_ ?_ | refine ex_get (by omega) ?_ | (show drawB _ _ = true; kernel_rfl) | (refine ret2 [] (by simp only [go_sem, Bool.not_eq_true', Bool.not_eq_false']; rfl) ?_; simp only [go_sem, Bool.not_eq_true', Bool.not_eq_false']) | (refine acall2 [] (hrow) (by simp only [go_sem, Bool.not_eq_true', Bool.not_eq_false']; rfl) (fit_of (by simp only [go_sem, Bool.not_eq_true', Bool.not_eq_false']) (by simp only [go_sem, Bool.not_eq_true', Bool.not_eq_false']) (by simp only [go_sem, Bool.not_eq_true', Bool.not_eq_false']) (by simp only [go_sem, Bool.not_eq_true', Bool.not_eq_false']) (by simp only [go_sem, Bool.not_eq_true', Bool.not_eq_false']) (by simp only [go_sem, Bool.not_eq_true', Bool.not_eq_false']) (by simp only [go_sem, Bool.not_eq_true', Bool.not_eq_false'])) ?_; simp only [go_sem, Bool.not_eq_true', Bool.not_eq_false'])
    all_goals skip
end Go.Proofs.Ytjkndjpkmkbnkaa
/- CHAPTER 27: frags.On. -/
/- G -/
/- BOOLS -/
set_option linter.unusedSimpArgs false
set_option linter.unusedVariables false
namespace Go.Proofs.Ytjkndjpkmkbnkaa
open Go.RowKit

structure LPg where
  no : Int
  kind : Int
  heads : List LFg
  flow : List LFg
  floats : List LFg
def cPg (p : LPg) : List PV := [.raw (.int .i64 p.no), .raw (.int .i64 p.kind), .sl 7 (p.heads.map cFg), .sl 7 (p.flow.map cFg), .sl 7 (p.floats.map cFg)]
attribute [go_sem] cPg
/-- the pages on which a node has parts. -/
def onB (l : List LNo) (n : Int) (p : LPg) : Bool := decide (hldL l p.flow n ≠ [])
def onG (l : List LNo) (n : Int) (p : LPg) : Bool := hasN l n && mayF l p.flow
def onF (l : List LNo) (ps : List LPg) (n : Int) : List Int := if ps.all (onG l n) = true then (ps.filter (onB l n)).map LPg.no else []
theorem onF_no {l : List LNo} {ps : List LPg} {n : Int} {k : Nat} (hk : k < ps.length) (h : onG l n ps[k] = false) : onF l ps n = [] := by
  unfold onF
  rw [if_neg]
  intro q
  rw [List.all_eq_true] at q
  rw [q _ (List.getElem_mem hk)] at h
  cases h
set_option maxRecDepth 100000 in
set_option maxHeartbeats 8000000 in
theorem on27_ok (l : List LNo) (ps : List LPg) (n : Int) (hl : l.length ≤ 1000) (hw : ∀ x ∈ l, x.words.length ≤ 9223372036854775807) (hp : ps.length ≤ 1000) (hf : ∀ p ∈ ps, p.flow.length ≤ 1000) : FnOk Try.prog 20 [.sl 20 (l.map cNo), .sl 5 (ps.map cPg), .raw (.int .i64 n)] [] (.hdr 8) [(8, .row 3 1 ((onF l ps n).map cInt))] := by
  refine fn_of_swp Try.func20 rfl (by kernel_rfl) (by kernel_rfl) (Nat.le_of_ble_eq_true rfl) Try.results20 ?_
  (refine swp_seqW ?_; simp only [go_sem, Bool.not_eq_true', Bool.not_eq_false'])
  refine swp_scope ?_
  (refine swp_seqW ?_; simp only [go_sem, Bool.not_eq_true', Bool.not_eq_false'])
  refine swp_seqS ?_
  refine swp_label ?_
  refine swp_cutS (fun _ : Unit => ⟨[(7, .hdr 800)], [(800, some (.cells 25 [.hdr 801])), (801, some (.row 3 1 ((onF l ps n).map cInt)))], none⟩) (fun _ => True) 120 ?_ ?_
  · (refine swp_seqW ?_; simp only [go_sem, Bool.not_eq_true', Bool.not_eq_false'])
    refine swp_block ?_
    refine swp_loop2 [] (fun z : KY (List Int) => ⟨[(0, .sl 20 (l.map cNo)), (2, .raw (.int .i64 n)), (7, .hdr 800), (11, .sl 5 (ps.map cPg)), (12, .raw (.int .i64 ps.length)), (13, .raw (.int .i64 z.k))], [(800, some (.cells 25 [.hdr 801])), (801, some (.row 3 1 (z.o.map cInt)))], none⟩) (fun z => z.k ≤ ps.length ∧ z.o = ((ps.take z.k).filter (onB l n)).map LPg.no ∧ ∀ i (h : i < ps.length), i < z.k → onG l n ps[i] = true) (fun z => ps.length - z.k) 120 ⟨0, []⟩ (by simp only [go_sem, Bool.not_eq_true', Bool.not_eq_false']; rfl) (by simp only [go_sem, Bool.not_eq_true', Bool.not_eq_false', List.map_nil]) ?_ ?_
    · exact ⟨Nat.zero_le _, rfl, fun i _ h => absurd h (Nat.not_lt_zero _)⟩
    rintro ⟨k, o⟩ ⟨h1, h2, h3⟩
    simp only at h1 h2 h3
    (refine swp_seqW ?_; simp only [go_sem, Bool.not_eq_true', Bool.not_eq_false'])
    (refine swp_seqW ?_; simp only [go_sem, Bool.not_eq_true', Bool.not_eq_false'])
    refine ⟨fun h5 => ?_, fun h5 => ?_⟩
    · have hk : k < ps.length := by omega
      refine swp_seqS ?_
      refine swp_block ?_
      (refine swp_seqW ?_; simp only [go_sem, Bool.not_eq_true', Bool.not_eq_false'])
      refine ⟨by omega, ex_get hk ?_⟩
      (refine swp_seqW ?_; simp only [go_sem, Bool.not_eq_true', Bool.not_eq_false'])
      have hfl : ps[k].flow.length ≤ 1000 := hf _ (List.getElem_mem hk)
      have hno : onG l n ps[k] = false → onF l ps n = [] := onF_no hk
      have hn1 : ¬ (0 ≤ n ∧ n < l.length) → onG l n ps[k] = false := fun q => by
        unfold onG
        rcases hh : hasN l n with _ | _
        · rfl
        · exact absurd (hasN_iff.1 hh) q
      have hn2 : (0 ≤ n ∧ n < l.length) → onG l n ps[k] = mayF l ps[k].flow := fun q => by
        unfold onG
        rw [hasN_iff.2 q, Bool.true_and]
      generalize hfl' : ps[k].flow = fl at *
      refine swp_cutS (fun _ : Unit => ⟨[(0, .sl 20 (l.map cNo)), (2, .raw (.int .i64 n)), (7, .hdr 800), (9, .hdr 984), (10, .hdr 1032), (11, .sl 5 (ps.map cPg)), (12, .raw (.int .i64 ps.length)), (13, .raw (.int .i64 k))], [(800, some (.cells 25 [.hdr 801])), (801, some (.row 3 1 (o.map cInt))), (984, some (.cells 41 [.raw (.int .i64 ps[k].no), .raw (.int .i64 ps[k].kind), .sl 7 (ps[k].heads.map cFg), .sl 7 (fl.map cFg), .sl 7 (ps[k].floats.map cFg)])), (1032, some (.cells 75 [.sl 20 (l.map cNo), .sl 7 (fl.map cFg)]))], none⟩) (fun _ => onG l n ps[k] = true) 200 ?_ ?_
      · (refine swp_lastW ?_; simp only [go_sem, Bool.not_eq_true', Bool.not_eq_false', List.length_map])
        repeat' first | contradiction | intro _ | refine And.intro ?_ ?_ | refine ex_get (by omega) ?_ | (show drawB _ _ = true; kernel_rfl) | (refine ret2 [] (by simp only [go_sem, Bool.not_eq_true', Bool.not_eq_false', List.length_map]; rfl) ?_; simp only [go_sem, Bool.not_eq_true', Bool.not_eq_false', List.length_map]) | (refine acall2 [] (fmay_ok l fl hl hfl hw) (by simp only [go_sem, Bool.not_eq_true', Bool.not_eq_false']; rfl) (fit_of (by simp only [go_sem, Bool.not_eq_true', Bool.not_eq_false']) (by simp only [go_sem, Bool.not_eq_true', Bool.not_eq_false']) (by simp only [go_sem, Bool.not_eq_true', Bool.not_eq_false']) (by simp only [go_sem, Bool.not_eq_true', Bool.not_eq_false']) (by simp only [go_sem, Bool.not_eq_true', Bool.not_eq_false']) (by simp only [go_sem, Bool.not_eq_true', Bool.not_eq_false']) (by simp only [go_sem, Bool.not_eq_true', Bool.not_eq_false'])) ?_; simp only [go_sem, Bool.not_eq_true', Bool.not_eq_false', List.length_map])
        all_goals first
          | omega
          | (rw [hno (hn1 (by omega))]; rfl)
          | ((refine cut_end [] (()) (by simp only [go_sem, Bool.not_eq_true', Bool.not_eq_false']; rfl) ?_ ?_; (focus (simp only [go_sem, Bool.not_eq_true', Bool.not_eq_false']; done)))
             rw [hn2 (by omega)]
             assumption)
          | (rw [hno (by rw [hn2 (by omega)]; assumption)]; rfl)
          | skip
      rintro - hg
      (refine swp_seqW ?_; simp only [go_sem, Bool.not_eq_true', Bool.not_eq_false'])
      (refine acall2 [] (fholds_ok l fl n) (by simp only [go_sem, Bool.not_eq_true', Bool.not_eq_false']; rfl) (fit_of (by simp only [go_sem, Bool.not_eq_true', Bool.not_eq_false']) (by simp only [go_sem, Bool.not_eq_true', Bool.not_eq_false']) (by simp only [go_sem, Bool.not_eq_true', Bool.not_eq_false']) (by simp only [go_sem, Bool.not_eq_true', Bool.not_eq_false']) (by simp only [go_sem, Bool.not_eq_true', Bool.not_eq_false']) (by simp only [go_sem, Bool.not_eq_true', Bool.not_eq_false']) (by simp only [go_sem, Bool.not_eq_true', Bool.not_eq_false'])) ?_; simp only [go_sem, Bool.not_eq_true', Bool.not_eq_false'])
      (refine swp_lastW ?_; simp only [go_sem, Bool.not_eq_true', Bool.not_eq_false'])
      (refine arangeS (by simp only [go_sem, Bool.not_eq_true', Bool.not_eq_false']; rfl) Try.func59 rfl (by kernel_rfl) (by kernel_rfl) (Nat.le_of_ble_eq_true rfl) Try.results59 ?_; intro tm1 lc1 hfit1 hps1 hasg1 hbody1; simp only [List.toList_toArray] at hps1)
      (refine swp_seqW ?_; simp only [go_sem, Bool.not_eq_true', Bool.not_eq_false'])
      refine swp_block ?_
      have hhs : 0 ≤ n ∧ n < l.length := Decidable.byContradiction fun q => by rw [hn1 q] at hg; cases hg
      have hmy : mayF l fl = true := by rw [hn2 hhs] at hg; exact hg
      have hfh := (mayF_iff.1 hmy).2
      obtain ⟨a, rfl⟩ : ∃ a : Nat, n = a := ⟨n.toNat, by omega⟩
      have ha : a < l.length := by omega
      have hsz := sizN_get ha
      have eT : (ps.take (k + 1)).filter (onB l a) = (ps.take k).filter (onB l a) ++ if onB l a ps[k] = true then [ps[k]] else [] := by
        rw [List.take_succ_eq_append_getElem hk, List.filter_append]
        congr 1
        split
        · next q => rw [List.filter_cons_of_pos q]; rfl
        · next q => rw [List.filter_cons_of_neg q]; rfl
      have e1 : hldL l fl a ≠ [] → ((ps.take (k + 1)).filter (onB l a)).map LPg.no = o ++ [ps[k].no] := fun q => by
        rw [eT, if_pos (by unfold onB; rw [hfl']; exact decide_eq_true q), List.map_append, ← h2]; rfl
      have e2 : hldL l fl a = [] → ((ps.take (k + 1)).filter (onB l a)).map LPg.no = o := fun q => by
        rw [eT, if_neg (by unfold onB; rw [hfl', q]; decide), List.append_nil, ← h2]
      have h3' : ∀ i (h : i < ps.length), i < k + 1 → onG l a ps[i] = true := fun i hi h7 => by
        rcases Nat.lt_succ_iff_lt_or_eq.1 h7 with h8 | h8
        · exact h3 i hi h8
        · subst h8; exact hg
      have hol : o.length ≤ k := by
        rw [h2, List.length_map]
        have q1 := List.length_filter_le (onB l a) (ps.take k)
        rw [List.length_take] at q1
        omega
      refine swp_loop2 [] (fun j : Nat => ⟨[(0, .hdr 1624), (1, .hdr 1616), (2, .hdr 1617), (7, .sl 7 (fl.map cFg)), (8, .raw (.int .i64 fl.length)), (9, .raw (.int .i64 j))], [(1624, some (.loop tm1 lc1 .ready)), (1625, some (.frm tm1 [(0, .sl 20 (l.map cNo)), (2, .raw (.int .i64 a)), (7, .hdr 800), (9, .hdr 984), (11, .sl 5 (ps.map cPg)), (12, .raw (.int .i64 ps.length)), (13, .raw (.int .i64 k))])), (1616, some (.cells 75 [.sl 20 (l.map cNo), .sl 7 (fl.map cFg)])), (1617, some (.cells 3 [.raw (.int .i64 a)])), (800, some (.cells 25 [.hdr 801])), (801, some (.row 3 1 (o.map cInt))), (984, some (.cells 41 [.raw (.int .i64 ps[k].no), .raw (.int .i64 ps[k].kind), .sl 7 (ps[k].heads.map cFg), .sl 7 (fl.map cFg), .sl 7 (ps[k].floats.map cFg)]))], none⟩) (fun j => j ≤ fl.length ∧ hldL l (fl.take j) a = []) (fun j => fl.length - j) 208 0 (by simp only [go_sem, Bool.not_eq_true', Bool.not_eq_false']; rfl) (by simp only [go_sem, Bool.not_eq_true', Bool.not_eq_false']) ?_ ?_
      · exact ⟨Nat.zero_le _, rfl⟩
      rintro j ⟨j1, j2⟩
      (refine swp_seqW ?_; simp only [go_sem, Bool.not_eq_true', Bool.not_eq_false'])
      (refine swp_seqW ?_; simp only [go_sem, Bool.not_eq_true', Bool.not_eq_false'])
      refine ⟨fun h5 => ?_, fun h5 => ?_⟩
      · have hkl : j < fl.length := by omega
        have hst := hldL_step (l := l) (n := a) hkl
        rw [j2, List.nil_append] at hst
        have hhs := hasN_iff.1 (hfh _ (List.getElem_mem hkl))
        have hb1 : (a : Int) ≤ fl[j].node → fl[j].node - a < l[a].size → hldB l a fl[j] = true := fun q1 q2 => holN_iff.2 ⟨by omega, hhs, q1, by rw [Int.toNat_natCast]; omega⟩
        have hb2 : ¬ ((a : Int) ≤ fl[j].node ∧ fl[j].node - a < l[a].size) → ¬ hldB l a fl[j] = true := fun q w => by
          have w := holN_iff.1 w
          rw [Int.toNat_natCast] at w
          omega
        have eyes : hldB l a fl[j] = true → hldL l fl a ≠ [] := fun q w => by
          unfold hldL at w
          rw [List.map_eq_nil_iff, List.filter_eq_nil_iff] at w
          exact w _ (List.getElem_mem hkl) q
        have eno : ¬ hldB l a fl[j] = true → hldL l (fl.take (j + 1)) a = [] := fun q => by rw [hst, if_neg q]
        clear hfh hst
        refine swp_seqS ?_
        refine swp_block ?_
        (refine swp_seqW ?_; simp only [go_sem, Bool.not_eq_true', Bool.not_eq_false'])
        refine ⟨by omega, ex_get hkl ?_⟩
        refine swp_seqS ?_
        (refine swp_tail 21 (by simp only [go_sem, Bool.not_eq_true', Bool.not_eq_false']) rfl (by kernel_rfl) ?_; simp only [go_sem, Bool.not_eq_true', Bool.not_eq_false', List.take_succ_cons, List.take_zero, List.drop_succ_cons, List.drop_zero, List.map_cons, List.map_nil])
        refine ⟨fun q1 => ⟨by omega, by omega, ex_get ha ⟨fun q2 => ?_, fun q2 => ?_⟩⟩, fun q1 => ?_⟩
        · have e := e1 (eyes (hb1 q1 q2))
          (refine acall2 [] (fof_ok fl[j]) (by simp only [go_sem, Bool.not_eq_true', Bool.not_eq_false']; rfl) (fit_of (by simp only [go_sem, Bool.not_eq_true', Bool.not_eq_false']) (by simp only [go_sem, Bool.not_eq_true', Bool.not_eq_false']) (by simp only [go_sem, Bool.not_eq_true', Bool.not_eq_false']) (by simp only [go_sem, Bool.not_eq_true', Bool.not_eq_false']) (by simp only [go_sem, Bool.not_eq_true', Bool.not_eq_false']) (by simp only [go_sem, Bool.not_eq_true', Bool.not_eq_false']) (by simp only [go_sem, Bool.not_eq_true', Bool.not_eq_false'])) ?_; simp only [go_sem, Bool.not_eq_true', Bool.not_eq_false'])
          refine ⟨(show drawB _ _ = true by kernel_rfl), ?_⟩
          (refine ayield rfl ?_; simp only [go_sem, Bool.not_eq_true', Bool.not_eq_false', hfit1, hps1, hasg1, hbody1]; intro tmI1)
          refine ⟨⟨by omega, by omega⟩, ?_⟩
          (refine swp_lastW ?_; simp only [go_sem, Bool.not_eq_true', Bool.not_eq_false'])
          (refine swp_lastW ?_; simp only [go_sem, Bool.not_eq_true', Bool.not_eq_false'])
          refine ⟨by omega, ?_⟩
          (refine loop_end [] (⟨k + 1, o ++ [ps[k].no]⟩) (by simp only [go_sem, Bool.not_eq_true', Bool.not_eq_false']; rfl) ?_ ?_ ?_; (focus first | omega | (simp only; omega)); (focus (simp only [go_sem, Bool.not_eq_true', Bool.not_eq_false', List.map_append]; done)))
          exact ⟨hk, e.symm, h3'⟩
        · have e := eno (hb2 (by omega))
          refine ⟨(show drawB _ _ = true by kernel_rfl), ?_⟩
          (refine swp_lastW ?_; simp only [go_sem, Bool.not_eq_true', Bool.not_eq_false'])
          (refine swp_lastW ?_; simp only [go_sem, Bool.not_eq_true', Bool.not_eq_false'])
          refine ⟨by omega, ?_⟩
          (refine loop_end [] (j + 1) (by simp only [go_sem, Bool.not_eq_true', Bool.not_eq_false']; rfl) ?_ ?_ ?_; (focus first | omega | (simp only; omega)); (focus (simp only [go_sem, Bool.not_eq_true', Bool.not_eq_false']; done)))
          exact ⟨hkl, e⟩
        · have e := eno (hb2 (by omega))
          refine ⟨(show drawB _ _ = true by kernel_rfl), ?_⟩
          (refine swp_lastW ?_; simp only [go_sem, Bool.not_eq_true', Bool.not_eq_false'])
          (refine swp_lastW ?_; simp only [go_sem, Bool.not_eq_true', Bool.not_eq_false'])
          refine ⟨by omega, ?_⟩
          (refine loop_end [] (j + 1) (by simp only [go_sem, Bool.not_eq_true', Bool.not_eq_false']; rfl) ?_ ?_ ?_; (focus first | omega | (simp only; omega)); (focus (simp only [go_sem, Bool.not_eq_true', Bool.not_eq_false']; done)))
          exact ⟨hkl, e⟩
      · obtain rfl : j = fl.length := by omega
        rw [List.take_length] at j2
        have e := e2 j2
        (refine swp_lastW ?_; simp only [go_sem, Bool.not_eq_true', Bool.not_eq_false'])
        refine ⟨by omega, ?_⟩
        (refine loop_end [] (⟨k + 1, o⟩) (by simp only [go_sem, Bool.not_eq_true', Bool.not_eq_false']; rfl) ?_ ?_ ?_; (focus first | omega | (simp only; omega)); (focus (simp only [go_sem, Bool.not_eq_true', Bool.not_eq_false']; done)))
        exact ⟨hk, e.symm, h3'⟩
    · obtain rfl : k = ps.length := by omega
      rw [List.take_length] at h2
      have e : onF l ps n = o := by
        unfold onF
        rw [if_pos, h2]
        rw [List.all_eq_true]
        intro p hp
        obtain ⟨i, hi, rfl⟩ := List.getElem_of_mem hp
        exact h3 i hi hi
      rw [e]
      (refine cut_end [] (()) (by simp only [go_sem, Bool.not_eq_true', Bool.not_eq_false']; rfl) ?_ ?_; (focus (simp only [go_sem, Bool.not_eq_true', Bool.not_eq_false']; done)))
      trivial
  rintro - -
  (refine swp_lastW ?_; simp only [go_sem, Bool.not_eq_true', Bool.not_eq_false'])
  (refine ret2 [] (by simp only [go_sem, Bool.not_eq_true', Bool.not_eq_false']; rfl) ?_; simp only [go_sem, Bool.not_eq_true', Bool.not_eq_false'])
end Go.Proofs.Ytjkndjpkmkbnkaa
/- PAGES as arguments. -/
/- G -/
set_option linter.unusedSimpArgs false
set_option linter.unusedVariables false
namespace Go.Proofs.Ytjkndjpkmkbnkaa
set_option maxRecDepth 100000
open Go.ChangeShapes Go.WideShapes Go.ChangeAt Go.RowKit Go.Deep

theorem open_fg : OpenT Try.prog 49 cFg (fun _ => True) := ⟨fun {H enc w fuel cs y} h => by
  obtain ⟨ys, n, -, -, hlen, hyl, hg⟩ := DataW.trod_struct Try.underlying49 h
  have hcs : cs.length = 7 := hlen.trans (by kernel_rfl)
  obtain ⟨z0, c0, i0⟩ := fld hg hyl 0 1 (open_i Try.underlying3) 0 rfl rfl rfl (by kernel_rfl)
  obtain ⟨z1, c1, i1⟩ := fld hg hyl 1 1 (open_i Try.underlying3) 1 rfl rfl rfl (by kernel_rfl)
  obtain ⟨z2, c2, i2⟩ := fld hg hyl 2 1 (open_i Try.underlying3) 2 rfl rfl rfl (by kernel_rfl)
  obtain ⟨z3, c3, i3⟩ := fld hg hyl 3 1 (open_i Try.underlying3) 3 rfl rfl rfl (by kernel_rfl)
  obtain ⟨z4, c4, i4⟩ := fld hg hyl 4 1 (open_i Try.underlying3) 4 rfl rfl rfl (by kernel_rfl)
  obtain ⟨z5, c5, i5⟩ := fld hg hyl 5 1 (open_i Try.underlying3) 5 rfl rfl rfl (by kernel_rfl)
  obtain ⟨z6, c6, i6⟩ := fld hg hyl 6 1 (open_i Try.underlying3) 6 rfl rfl rfl (by kernel_rfl)
  exact ⟨⟨z0, z1, z2, z3, z4, z5, z6⟩, cr_all hcs (cr_app c0 (cr_app c1 (cr_app c2 (cr_app c3 (cr_app c4 (cr_app c5 c6)))))), trivial⟩⟩
theorem open_fgs : OpenT Try.prog 39 (fun xs : List LFg => [.sl 7 (xs.map cFg)]) (fun xs => xs.length ≤ 9223372036854775807 ∧ ∀ x ∈ xs, (fun _ => True) x) := open_sl Try.underlying39 (by kernel_rfl) (Nat.zero_lt_succ _) (fun _ => rfl) open_fg
theorem open_pg : OpenT Try.prog 41 cPg (fun _ => True) := ⟨fun {H enc w fuel cs y} h => by
  obtain ⟨ys, n, -, -, hlen, hyl, hg⟩ := DataW.trod_struct Try.underlying41 h
  have hcs : cs.length = 5 := hlen.trans (by kernel_rfl)
  obtain ⟨z0, c0, i0⟩ := fld hg hyl 0 1 (open_i Try.underlying3) 0 rfl rfl rfl (by kernel_rfl)
  obtain ⟨z1, c1, i1⟩ := fld hg hyl 1 1 (open_i Try.underlying3) 1 rfl rfl rfl (by kernel_rfl)
  obtain ⟨z2, c2, i2⟩ := fld hg hyl 2 1 open_fgs 2 rfl rfl rfl (by kernel_rfl)
  obtain ⟨z3, c3, i3⟩ := fld hg hyl 3 1 open_fgs 3 rfl rfl rfl (by kernel_rfl)
  obtain ⟨z4, c4, i4⟩ := fld hg hyl 4 1 open_fgs 4 rfl rfl rfl (by kernel_rfl)
  exact ⟨⟨z0, z1, z2, z3, z4⟩, cr_all hcs (cr_app c0 (cr_app c1 (cr_app c2 (cr_app c3 c4)))), trivial⟩⟩
theorem open_pgs : OpenT Try.prog 38 (fun xs : List LPg => [.sl 5 (xs.map cPg)]) (fun xs => xs.length ≤ 9223372036854775807 ∧ ∀ x ∈ xs, (fun _ => True) x) := open_sl Try.underlying38 (by kernel_rfl) (Nat.zero_lt_succ _) (fun _ => rfl) open_pg
end Go.Proofs.Ytjkndjpkmkbnkaa
/- CHAPTER 27: the document's answer. -/
/- G -/
/- BOOLS -/
set_option linter.unusedSimpArgs false
set_option linter.unusedVariables false
namespace Go.Proofs.Ytjkndjpkmkbnkaa
open Go.RowKit

set_option maxRecDepth 100000 in
set_option maxHeartbeats 4000000 in
theorem mayR_ok (l : List LNo) (fl : List LFg) (hl : l.length ≤ 1000) (hf : fl.length ≤ 1000) (hw : ∀ x ∈ l, x.words.length ≤ 9223372036854775807) : FnOk Try.prog 42 [.sl 20 (l.map cNo), .sl 7 (fl.map cFg)] [] (.raw (.bool (mayF l fl))) [] := by
  refine fn_of_awp Try.func42 rfl (by kernel_rfl) (by kernel_rfl) (Nat.le_of_ble_eq_true rfl) Try.results42 ?_
  simp only [go_sem, Bool.not_eq_true', Bool.not_eq_false']
  refine aloop2 [] (fun k : Nat => ⟨[(0, .sl 20 (l.map cNo)), (1, .sl 7 (fl.map cFg)), (5, .raw (.int .i64 k))], [], none⟩) (fun k => k ≤ fl.length ∧ ∀ i (h : i < fl.length), i < k → hasN l fl[i].node = true) (fun k => fl.length - k) 40 0 (by simp only [go_sem, Bool.not_eq_true', Bool.not_eq_false']; rfl) (by simp only [go_sem, Bool.not_eq_true', Bool.not_eq_false']) ?_ ?_
  · exact ⟨Nat.zero_le _, fun i _ h => absurd h (Nat.not_lt_zero _)⟩
  · rintro k ⟨h1, h2⟩
    simp only [go_sem, Bool.not_eq_true', Bool.not_eq_false', List.length_map]
    refine ⟨fun h5 => ?_, fun h5 => ?_⟩
    · have hk : k < fl.length := by omega
      have hno : hasN l fl[k].node = false → mayF l fl = false := fun q => by
        unfold mayF
        rw [Bool.and_eq_false_iff, List.all_eq_false]
        exact .inr ⟨fl[k], List.getElem_mem hk, by simp [q]⟩
      have hne : ¬ (0 ≤ fl[k].node ∧ fl[k].node < l.length) → hasN l fl[k].node = false := fun q => by
        rcases h : hasN l fl[k].node with _ | _
        · rfl
        · exact absurd (hasN_iff.1 h) q
      have hye : (0 ≤ fl[k].node ∧ fl[k].node < l.length) → ∀ i (h : i < fl.length), i < k + 1 → hasN l fl[i].node = true := fun q i hi h7 => by
        rcases Nat.lt_succ_iff_lt_or_eq.1 h7 with h8 | h8
        · exact h2 i hi h8
        · subst h8; exact hasN_iff.2 q
      clear h2
      repeat' first | contradiction | intro _ | refine And.intro ?_ ?_ | refine ex_get (by omega) ?_ | (show drawB _ _ = true; kernel_rfl) | (refine ret2 [] (by simp only [go_sem, Bool.not_eq_true', Bool.not_eq_false', List.length_map]; rfl) ?_; simp only [go_sem, Bool.not_eq_true', Bool.not_eq_false', List.length_map])
      all_goals first
        | omega
        | ((refine loop_end [] (k + 1) (by simp only [go_sem, Bool.not_eq_true', Bool.not_eq_false']; rfl) ?_ ?_ ?_; (focus first | omega | (simp only; omega)); (focus (simp only [go_sem, Bool.not_eq_true', Bool.not_eq_false']; done)))
           exact ⟨hk, hye (by omega)⟩)
        | (exact (hno (hne (by omega))).symm)
        | (exact hno (hne (by omega)))
        | skip
    · have e : mayF l fl = isS l := by
        unfold mayF
        have : fl.all (fun f => hasN l f.node) = true := by
          rw [List.all_eq_true]
          intro f hf
          obtain ⟨i, hi, rfl⟩ := List.getElem_of_mem hf
          exact h2 i hi (by omega)
        rw [this, Bool.and_true]
      rw [e]
      (refine acall2 [] (isR2_ok l hl hw) (by simp only [go_sem, Bool.not_eq_true', Bool.not_eq_false']; rfl) (fit_of (by simp only [go_sem, Bool.not_eq_true', Bool.not_eq_false']) (by simp only [go_sem, Bool.not_eq_true', Bool.not_eq_false']) (by simp only [go_sem, Bool.not_eq_true', Bool.not_eq_false']) (by simp only [go_sem, Bool.not_eq_true', Bool.not_eq_false']) (by simp only [go_sem, Bool.not_eq_true', Bool.not_eq_false']) (by simp only [go_sem, Bool.not_eq_true', Bool.not_eq_false']) (by simp only [go_sem, Bool.not_eq_true', Bool.not_eq_false'])) ?_; simp only [go_sem, Bool.not_eq_true', Bool.not_eq_false'])
set_option maxRecDepth 100000 in
set_option maxHeartbeats 4000000 in
theorem heldR_ok (l : List LNo) (fl : List LFg) (n : Int) (hl : l.length ≤ 1000) (hf : fl.length ≤ 1000) : FnOk Try.prog 44 [.sl 20 (l.map cNo), .sl 7 (fl.map cFg), .raw (.int .i64 n)] [] (.hdr 8) [(8, .row 73 4 ((hldL l fl n).map cRect))] := by
  refine fn_of_awp Try.func44 rfl (by kernel_rfl) (by kernel_rfl) (Nat.le_of_ble_eq_true rfl) Try.results44 ?_
  simp only [go_sem, Bool.not_eq_true', Bool.not_eq_false']
  refine aloop2 [] (fun k : Nat => ⟨[(0, .sl 20 (l.map cNo)), (1, .sl 7 (fl.map cFg)), (2, .raw (.int .i64 n)), (7, .hdr 8), (8, .raw (.int .i64 k))], [(8, some (.row 73 4 ((hldL l (fl.take k) n).map cRect)))], none⟩) (fun k => k ≤ fl.length) (fun k => fl.length - k) 40 0 (by simp only [go_sem, Bool.not_eq_true', Bool.not_eq_false']; rfl) (by simp only [go_sem, Bool.not_eq_true', Bool.not_eq_false', hldL_nil, List.map_nil]) ?_ ?_
  · exact Nat.zero_le _
  · intro k hk
    have hlk : (hldL l (fl.take k) n).length ≤ 1000 := by
      unfold hldL
      rw [List.length_map]
      have h1 := List.length_filter_le (hldB l n) (fl.take k)
      rw [List.length_take] at h1
      omega
    simp only [go_sem, Bool.not_eq_true', Bool.not_eq_false', List.length_map]
    refine ⟨fun h5 => ?_, fun h5 => ?_⟩
    · have hkl : k < fl.length := by omega
      have hst := hldL_step (l := l) (n := n) hkl
      have eyes : holN l n fl[k].node = true → hldL l (fl.take (k + 1)) n = hldL l (fl.take k) n ++ [recF fl[k]] := fun q => by rw [hst, if_pos (show hldB l n fl[k] = true from q)]
      have eno : holN l n fl[k].node = false → hldL l (fl.take (k + 1)) n = hldL l (fl.take k) n := fun q => by rw [hst, if_neg (by unfold hldB; rw [q]; decide), List.append_nil]
      clear hst
      repeat' first | contradiction | intro _ | refine And.intro ?_ ?_ | refine ex_get (by omega) ?_ | (show drawB _ _ = true; kernel_rfl) | (refine ret2 [] (by simp only [go_sem, Bool.not_eq_true', Bool.not_eq_false', List.length_map]; rfl) ?_; simp only [go_sem, Bool.not_eq_true', Bool.not_eq_false', List.length_map]) | (refine acall2 [] (holds8r_ok l n fl[k].node hl) (by simp only [go_sem, Bool.not_eq_true', Bool.not_eq_false']; rfl) (fit_of (by simp only [go_sem, Bool.not_eq_true', Bool.not_eq_false']) (by simp only [go_sem, Bool.not_eq_true', Bool.not_eq_false']) (by simp only [go_sem, Bool.not_eq_true', Bool.not_eq_false']) (by simp only [go_sem, Bool.not_eq_true', Bool.not_eq_false']) (by simp only [go_sem, Bool.not_eq_true', Bool.not_eq_false']) (by simp only [go_sem, Bool.not_eq_true', Bool.not_eq_false']) (by simp only [go_sem, Bool.not_eq_true', Bool.not_eq_false'])) ?_; simp only [go_sem, Bool.not_eq_true', Bool.not_eq_false', List.length_map])
      all_goals first
        | omega
        | (have e := eyes (by assumption)
           (refine loop_end [] (k + 1) (by simp only [go_sem, Bool.not_eq_true', Bool.not_eq_false']; rfl) ?_ ?_ ?_; (focus first | omega | (simp only; omega)); (focus (simp only [go_sem, Bool.not_eq_true', Bool.not_eq_false', e, List.map_append, List.map_cons, List.map_nil, recF]; done)))
           exact hkl)
        | (have e := eno (by assumption)
           (refine loop_end [] (k + 1) (by simp only [go_sem, Bool.not_eq_true', Bool.not_eq_false']; rfl) ?_ ?_ ?_; (focus first | omega | (simp only; omega)); (focus (simp only [go_sem, Bool.not_eq_true', Bool.not_eq_false', e]; done)))
           exact hkl)
        | skip
    · obtain rfl : k = fl.length := by omega
      rw [List.take_length]
      (refine ret2 [] (by simp only [go_sem, Bool.not_eq_true', Bool.not_eq_false']; rfl) ?_; simp only [go_sem, Bool.not_eq_true', Bool.not_eq_false'])
set_option maxRecDepth 100000 in
theorem sameP_ok (l : List LPc) (hl : l.length ≤ 1000) : FnOk Try.prog 22 [.sl 6 (l.map cPc), .sl 6 (l.map cPc)] [] (.raw (.bool true)) [] := by
  refine fn_of_awp Try.func22 rfl (by kernel_rfl) (by kernel_rfl) (Nat.le_of_ble_eq_true rfl) Try.results22 ?_
  simp only [go_sem, Bool.not_eq_true', Bool.not_eq_false', List.length_map]
  refine aloop2 [] (fun k : Nat => ⟨[(0, .sl 6 (l.map cPc)), (1, .sl 6 (l.map cPc)), (4, .raw (.bool false)), (5, .raw (.int .i64 k))], [], none⟩) (fun k => k ≤ l.length) (fun k => l.length - k) 3 0 (by simp only [go_sem, Bool.not_eq_true', Bool.not_eq_false']; rfl) (by simp only [go_sem, Bool.not_eq_true', Bool.not_eq_false']) ?_ ?_
  · exact Nat.zero_le _
  · intro k hk
    simp only [go_sem, Bool.not_eq_true', Bool.not_eq_false', List.length_map]
    repeat' first | contradiction | intro _ | refine And.intro ?_ ?_ | refine ex_get (by omega) ?_ | (show drawB _ _ = true; kernel_rfl) | (refine ret2 [] (by simp only [go_sem, Bool.not_eq_true', Bool.not_eq_false']; rfl) ?_; simp only [go_sem, Bool.not_eq_true', Bool.not_eq_false'])
    all_goals first | omega | ((refine loop_end [] (k + 1) (by simp only [go_sem, Bool.not_eq_true', Bool.not_eq_false']; rfl) ?_ ?_ ?_; (focus first | omega | (simp only; omega)); (focus (simp only [go_sem, Bool.not_eq_true', Bool.not_eq_false']; done))); omega) | (simp_all; done)
set_option maxRecDepth 100000 in
set_option maxHeartbeats 4000000 in
theorem near27_ok (fl : List LFg) (hf : fl.length ≤ 1000) : FnOk Try.prog 18 [.sl 7 (fl.map cFg)] [] (.raw (.bool (fl.all fun f => nearR (recF f)))) [] := by
  refine fn_of_awp Try.func18 rfl (by kernel_rfl) (by kernel_rfl) (Nat.le_of_ble_eq_true rfl) Try.results18 ?_
  simp only [go_sem, Bool.not_eq_true', Bool.not_eq_false']
  refine aloop2 [] (fun k : Nat => ⟨[(0, .sl 7 (fl.map cFg)), (3, .raw (.int .i64 k))], [], none⟩) (fun k => k ≤ fl.length ∧ ∀ i (h : i < fl.length), i < k → nearR (recF fl[i]) = true) (fun k => fl.length - k) 40 0 (by simp only [go_sem, Bool.not_eq_true', Bool.not_eq_false']; rfl) (by simp only [go_sem, Bool.not_eq_true', Bool.not_eq_false']) ?_ ?_
  · exact ⟨Nat.zero_le _, fun i _ h => absurd h (Nat.not_lt_zero _)⟩
  · rintro k ⟨h1, h2⟩
    simp only [go_sem, Bool.not_eq_true', Bool.not_eq_false', List.length_map]
    refine ⟨fun h5 => ?_, fun h5 => ?_⟩
    · have hk : k < fl.length := by omega
      have hno : nearR (recF fl[k]) = false → (fl.all fun f => nearR (recF f)) = false := fun q => by
        rw [List.all_eq_false]
        exact ⟨fl[k], List.getElem_mem hk, by simp [q]⟩
      have hye : nearR (recF fl[k]) = true → ∀ i (h : i < fl.length), i < k + 1 → nearR (recF fl[i]) = true := fun q i hi h7 => by
        rcases Nat.lt_succ_iff_lt_or_eq.1 h7 with h8 | h8
        · exact h2 i hi h8
        · subst h8; exact q
      clear h2
      have hr : FnOk Try.prog 39 [.agg [.raw (.int .i64 fl[k].x), .raw (.int .i64 fl[k].y), .raw (.int .i64 fl[k].w), .raw (.int .i64 fl[k].h)]] [] (.raw (.bool (nearR (recF fl[k])))) [] := rnear_ok (recF fl[k])
      repeat' first | contradiction | intro _ | refine And.intro ?_ ?_ | refine ex_get (by omega) ?_ | (show drawB _ _ = true; kernel_rfl) | (refine ret2 [] (by simp only [go_sem, Bool.not_eq_true', Bool.not_eq_false', List.length_map]; rfl) ?_; simp only [go_sem, Bool.not_eq_true', Bool.not_eq_false', List.length_map]) | (refine acall2 [] (hr) (by simp only [go_sem, Bool.not_eq_true', Bool.not_eq_false']; rfl) (fit_of (by simp only [go_sem, Bool.not_eq_true', Bool.not_eq_false']) (by simp only [go_sem, Bool.not_eq_true', Bool.not_eq_false']) (by simp only [go_sem, Bool.not_eq_true', Bool.not_eq_false']) (by simp only [go_sem, Bool.not_eq_true', Bool.not_eq_false']) (by simp only [go_sem, Bool.not_eq_true', Bool.not_eq_false']) (by simp only [go_sem, Bool.not_eq_true', Bool.not_eq_false']) (by simp only [go_sem, Bool.not_eq_true', Bool.not_eq_false'])) ?_; simp only [go_sem, Bool.not_eq_true', Bool.not_eq_false', List.length_map])
      all_goals first
        | omega
        | ((refine loop_end [] (k + 1) (by simp only [go_sem, Bool.not_eq_true', Bool.not_eq_false']; rfl) ?_ ?_ ?_; (focus first | omega | (simp only; omega)); (focus (simp only [go_sem, Bool.not_eq_true', Bool.not_eq_false']; done)))
           exact ⟨hk, hye (by assumption)⟩)
        | (exact (hno (by assumption)).symm)
        | (exact hno (by assumption))
        | skip
    · have e : (fl.all fun f => nearR (recF f)) = true := by
        rw [List.all_eq_true]
        intro f hf
        obtain ⟨i, hi, rfl⟩ := List.getElem_of_mem hf
        exact h2 i hi (by omega)
      first | exact e | (rw [e])
end Go.Proofs.Ytjkndjpkmkbnkaa
/- CHAPTER 27: the document's answer: the pieces, the pages. -/
/- G -/
/- BOOLS -/
set_option linter.unusedSimpArgs false
set_option linter.unusedVariables false
namespace Go.Proofs.Ytjkndjpkmkbnkaa
open Go.RowKit

theorem pcN_one (l : List LNo) (fl : List LFg) (i : Nat) : pcN l fl i 1 = if hldL l fl i = [] then [] else [i] := by
  unfold pcN
  show [i].filter _ = _
  split
  · next h => rw [List.filter_cons_of_neg (by unfold hasP; rw [h]; decide)]; rfl
  · next h => rw [List.filter_cons_of_pos (by exact decide_eq_true h)]; rfl
theorem pcN_step (l : List LNo) (fl : List LFg) (i m : Nat) : (pcN l fl i (m + 1)).length = (pcN l fl i m).length + if hldL l fl (i + m : Nat) = [] then 0 else 1 := by
  rw [pcN_app, List.length_append, pcN_one]
  split <;> rfl
theorem pcs_step (l : List LNo) (fl : List LFg) (i : Nat) : pcs l fl 0 (i + 1) = pcs l fl 0 i ++ if hldL l fl i = [] then [] else [pc l fl i] := by
  rw [pcs_app, Nat.zero_add, pcs, pcs, pcN_one]
  split <;> rfl
theorem pcN_ln (l : List LNo) (fl : List LFg) (i m : Nat) : (pcN l fl i m).length ≤ m := by
  have := pcs_len l fl i m
  unfold pcs at this
  rwa [List.length_map] at this
theorem pcN_zero (l : List LNo) (fl : List LFg) (i : Nat) : pcN l fl i 0 = [] := rfl
def stO27 (l : List LNo) (fl : List LFg) (i : Nat) (t : List (Nat × AV)) : AS := ⟨t ++ [(0, .sl 20 (l.map cNo)), (1, .sl 7 (fl.map cFg)), (5, .hdr 800), (6, .raw (.int .i64 i))], [(800, some (.row 69 6 ((pcs l fl 0 i).map cPc)))], none⟩
def stH27 (l : List LNo) (fl : List LFg) (i : Nat) (t : List (Nat × AV)) : AS := ⟨t ++ [(0, .sl 20 (l.map cNo)), (1, .sl 7 (fl.map cFg)), (5, .hdr 800), (6, .raw (.int .i64 i)), (7, .sl 4 ((hldL l fl i).map cRect))], [(800, some (.row 69 6 ((pcs l fl 0 i).map cPc)))], none⟩
attribute [go_sem] stO27 stH27
set_option maxRecDepth 100000 in
set_option maxHeartbeats 8000000 in
theorem rofF_ok (l : List LNo) (fl : List LFg) (hl : l.length ≤ 1000) (hw : ∀ x ∈ l, x.words.length ≤ 9223372036854775807) (hf : fl.length ≤ 100) (hn : ∀ f ∈ fl, nearR (recF f) = true) : FnOk Try.prog 24 [.sl 20 (l.map cNo), .sl 7 (fl.map cFg)] [] (.hdr 8) [(8, .row 69 6 ((ofF l fl).map cPc))] := by
  refine fn_of_swp Try.func24 rfl (by kernel_rfl) (by kernel_rfl) (Nat.le_of_ble_eq_true rfl) Try.results24 ?_
  (refine swp_seqW ?_; simp only [go_sem, Bool.not_eq_true', Bool.not_eq_false'])
  refine swp_cutS (fun _ : Unit => ⟨[(0, .sl 20 (l.map cNo)), (1, .sl 7 (fl.map cFg))], [], none⟩) (fun _ => mayF l fl = true) 60 ?_ ?_
  · (refine swp_lastW ?_; simp only [go_sem, Bool.not_eq_true', Bool.not_eq_false'])
    (refine acall2 [] (mayR_ok l fl hl (by omega) hw) (by simp only [go_sem, Bool.not_eq_true', Bool.not_eq_false']; rfl) (fit_of (by simp only [go_sem, Bool.not_eq_true', Bool.not_eq_false']) (by simp only [go_sem, Bool.not_eq_true', Bool.not_eq_false']) (by simp only [go_sem, Bool.not_eq_true', Bool.not_eq_false']) (by simp only [go_sem, Bool.not_eq_true', Bool.not_eq_false']) (by simp only [go_sem, Bool.not_eq_true', Bool.not_eq_false']) (by simp only [go_sem, Bool.not_eq_true', Bool.not_eq_false']) (by simp only [go_sem, Bool.not_eq_true', Bool.not_eq_false'])) ?_; simp only [go_sem, Bool.not_eq_true', Bool.not_eq_false'])
    rcases hm : mayF l fl with _ | _
    · have e : ofF l fl = [] := by unfold ofF; rw [hm]; rfl
      rw [e]
      simp only [go_sem, Bool.not_eq_true', Bool.not_eq_false', List.map_nil]
      (refine ret2 [] (by simp only [go_sem, Bool.not_eq_true', Bool.not_eq_false']; rfl) ?_; simp only [go_sem, Bool.not_eq_true', Bool.not_eq_false'])
    · simp only [go_sem, Bool.not_eq_true', Bool.not_eq_false']
      (refine cut_end [] (()) (by simp only [go_sem, Bool.not_eq_true', Bool.not_eq_false']; rfl) ?_ ?_; (focus (simp only [go_sem, Bool.not_eq_true', Bool.not_eq_false']; done)))
      trivial
  rintro - hm
  have e : ofF l fl = pcs l fl 0 l.length := by unfold ofF; rw [hm]; rfl
  rw [e]
  obtain ⟨hv, hh⟩ := mayF_iff.1 hm
  have hL := isS_lam hv
  have hP : FraP l fl := ⟨hv, hl, hw, hh, hf, hn⟩
  (refine swp_seqW ?_; simp only [go_sem, Bool.not_eq_true', Bool.not_eq_false'])
  refine swp_cutS (fun _ : Unit => stO27 l fl l.length []) (fun _ => True) 120 ?_ ?_
  · (refine swp_seqW ?_; simp only [go_sem, Bool.not_eq_true', Bool.not_eq_false'])
    refine swp_block ?_
    refine swp_loop2 [] (fun i : Nat => stO27 l fl i []) (fun i => i ≤ l.length) (fun i => l.length - i) 120 0 (by simp only [go_sem, Bool.not_eq_true', Bool.not_eq_false']; rfl) (by simp only [go_sem, Bool.not_eq_true', Bool.not_eq_false', pcs_zero, List.map_nil]) ?_ ?_
    · exact Nat.zero_le _
    intro i hi
    (refine swp_seqW ?_; simp only [go_sem, Bool.not_eq_true', Bool.not_eq_false', List.length_map])
    refine ⟨fun h5 => ?_, fun h5 => ?_⟩
    rotate_left
    · obtain rfl : i = l.length := by omega
      (refine cut_end [] (()) (by simp only [go_sem, Bool.not_eq_true', Bool.not_eq_false']; rfl) ?_ ?_; (focus (simp only [go_sem, Bool.not_eq_true', Bool.not_eq_false']; done)))
      trivial
    have hil : i < l.length := by omega
    have hps := pcs_len l fl 0 i
    have hpst := pcs_step l fl i
    have hnr := hldL_near hP i
    have hpos := hL.pos i hil
    have hfin := hL.fin i hil
    have hsz := sizN_get hil
    refine swp_seqS ?_
    refine swp_block ?_
    refine swp_cutS (fun _ : Unit => stH27 l fl i []) (fun _ => True) 200 ?_ ?_
    · (refine swp_lastW ?_; simp only [go_sem, Bool.not_eq_true', Bool.not_eq_false'])
      (refine acall2 [] (heldR_ok l fl i hl (by omega)) (by simp only [go_sem, Bool.not_eq_true', Bool.not_eq_false']; rfl) (fit_of (by simp only [go_sem, Bool.not_eq_true', Bool.not_eq_false']) (by simp only [go_sem, Bool.not_eq_true', Bool.not_eq_false']) (by simp only [go_sem, Bool.not_eq_true', Bool.not_eq_false']) (by simp only [go_sem, Bool.not_eq_true', Bool.not_eq_false']) (by simp only [go_sem, Bool.not_eq_true', Bool.not_eq_false']) (by simp only [go_sem, Bool.not_eq_true', Bool.not_eq_false']) (by simp only [go_sem, Bool.not_eq_true', Bool.not_eq_false'])) ?_; simp only [go_sem, Bool.not_eq_true', Bool.not_eq_false'])
      (refine cut_end [1016 ] ( ()) (by simp only [go_sem, Bool.not_eq_true', Bool.not_eq_false']; rfl) ?_ ?_; (focus (simp only [go_sem, Bool.not_eq_true', Bool.not_eq_false']; done)))
      trivial
    rintro - -
    (refine swp_seqW ?_; simp only [go_sem, Bool.not_eq_true', Bool.not_eq_false', List.length_map])
    refine ⟨fun h6 => ?_, fun h6 => ?_⟩
    · have e0 : hldL l fl i = [] := List.eq_nil_of_length_eq_zero (by omega)
      rw [e0, if_pos rfl, List.append_nil] at hpst
      (refine swp_lastW ?_; simp only [go_sem, Bool.not_eq_true', Bool.not_eq_false'])
      refine ⟨by omega, ?_⟩
      (refine loop_end [] (i + 1) (by simp only [go_sem, Bool.not_eq_true', Bool.not_eq_false']; rfl) ?_ ?_ ?_; (focus first | omega | (simp only; omega)); (focus (simp only [go_sem, Bool.not_eq_true', Bool.not_eq_false', hpst]; done)))
      exact hil
    have hne : hldL l fl i ≠ [] := fun e => by rw [e] at h6; exact h6 rfl
    rw [if_neg hne] at hpst
    (refine swp_seqW ?_; simp only [go_sem, Bool.not_eq_true', Bool.not_eq_false'])
    refine swp_cutS (fun _ : Unit => stH27 l fl i [(8, .raw (.int .i64 (pcN l fl i (sizN l i).toNat).length))]) (fun _ => True) 280 ?_ ?_
    · (refine swp_seqW ?_; simp only [go_sem, Bool.not_eq_true', Bool.not_eq_false'])
      refine swp_block ?_
      refine swp_loop2 [] (fun m : Nat => stH27 l fl i [(8, .raw (.int .i64 (pcN l fl i m).length)), (9, .raw (.int .i64 (i + m : Nat)))]) (fun m => (m : Int) ≤ sizN l i) (fun m => (sizN l i).toNat - m) 280 0 (by simp only [go_sem, Bool.not_eq_true', Bool.not_eq_false']; rfl) (by simp only [go_sem, Bool.not_eq_true', Bool.not_eq_false', pcN_zero, List.length_nil, Int.add_zero]) ?_ ?_
      · show ((0 : Nat) : Int) ≤ sizN l i
        omega
      intro m hm'
      have hpm := pcN_ln l fl i m
      have hpst2 := pcN_step l fl i m
      (refine swp_seqW ?_; simp only [go_sem, Bool.not_eq_true', Bool.not_eq_false', List.length_map])
      refine ⟨by omega, ex_get hil ⟨by omega, fun h7 => ?_, fun h7 => ?_⟩⟩
      · have e1 : 0 < ((hldL l fl ((i : Int) + m)).length : Int) → ((pcN l fl i (m + 1)).length : Int) = (pcN l fl i m).length + 1 := fun q => by
          rw [hpst2, if_neg (by rw [Int.natCast_add]; intro w; rw [w] at q; exact absurd q (by decide))]; rfl
        have e2 : ¬ 0 < ((hldL l fl ((i : Int) + m)).length : Int) → (pcN l fl i (m + 1)).length = (pcN l fl i m).length := fun q => by
          rw [hpst2, if_pos (by rw [Int.natCast_add]; exact List.eq_nil_of_length_eq_zero (by omega))]; rfl
        clear hpst2
        refine swp_seqS ?_
        refine swp_block ?_
        (refine swp_lastW ?_; simp only [go_sem, Bool.not_eq_true', Bool.not_eq_false'])
        (refine acall2 [] (heldR_ok l fl ((i : Int) + m) hl (by omega)) (by simp only [go_sem, Bool.not_eq_true', Bool.not_eq_false']; rfl) (fit_of (by simp only [go_sem, Bool.not_eq_true', Bool.not_eq_false']) (by simp only [go_sem, Bool.not_eq_true', Bool.not_eq_false']) (by simp only [go_sem, Bool.not_eq_true', Bool.not_eq_false']) (by simp only [go_sem, Bool.not_eq_true', Bool.not_eq_false']) (by simp only [go_sem, Bool.not_eq_true', Bool.not_eq_false']) (by simp only [go_sem, Bool.not_eq_true', Bool.not_eq_false']) (by simp only [go_sem, Bool.not_eq_true', Bool.not_eq_false'])) ?_; simp only [go_sem, Bool.not_eq_true', Bool.not_eq_false'])
        repeat' first | contradiction | intro _ | refine And.intro ?_ ?_ | refine ex_get (by omega) ?_ | (show drawB _ _ = true; kernel_rfl) | (refine ret2 [] (by simp only [go_sem, Bool.not_eq_true', Bool.not_eq_false', List.length_map]; rfl) ?_; simp only [go_sem, Bool.not_eq_true', Bool.not_eq_false', List.length_map])
        all_goals first
          | omega
          | (have e := e1 (by assumption)
             (refine swp_lastW ?_; simp only [go_sem, Bool.not_eq_true', Bool.not_eq_false'])
             refine ⟨by omega, ?_⟩
             (refine loop_end [] (m + 1) (by simp only [go_sem, Bool.not_eq_true', Bool.not_eq_false']; rfl) ?_ ?_ ?_; (focus first | omega | (simp only; omega)); (focus (simp only [go_sem, Bool.not_eq_true', Bool.not_eq_false', e, Int.add_assoc]; done)))
             rw [hsz]
             omega)
          | (have e := e2 (by assumption)
             (refine swp_lastW ?_; simp only [go_sem, Bool.not_eq_true', Bool.not_eq_false'])
             refine ⟨by omega, ?_⟩
             (refine loop_end [] (m + 1) (by simp only [go_sem, Bool.not_eq_true', Bool.not_eq_false']; rfl) ?_ ?_ ?_; (focus first | omega | (simp only; omega)); (focus (simp only [go_sem, Bool.not_eq_true', Bool.not_eq_false', e, Int.add_assoc]; done)))
             rw [hsz]
             omega)
          | skip
      · have e : m = (sizN l i).toNat := by omega
        rw [e]
        (refine cut_end [] (()) (by simp only [go_sem, Bool.not_eq_true', Bool.not_eq_false']; rfl) ?_ ?_; (focus (simp only [go_sem, Bool.not_eq_true', Bool.not_eq_false']; done)))
        trivial
    rintro - -
    have hpz := pcN_ln l fl i (sizN l i).toNat
    have epc : pc l fl i = ⟨i, (pcN l fl i (sizN l i).toNat).length, hullR (hldL l fl i)⟩ := rfl
    rw [epc] at hpst
    (refine swp_seqW ?_; simp only [go_sem, Bool.not_eq_true', Bool.not_eq_false'])
    (refine acall2 [] (rrhull_ok (hldL l fl i) hnr.1 hnr.2) (by simp only [go_sem, Bool.not_eq_true', Bool.not_eq_false']; rfl) (fit_of (by simp only [go_sem, Bool.not_eq_true', Bool.not_eq_false']) (by simp only [go_sem, Bool.not_eq_true', Bool.not_eq_false']) (by simp only [go_sem, Bool.not_eq_true', Bool.not_eq_false']) (by simp only [go_sem, Bool.not_eq_true', Bool.not_eq_false']) (by simp only [go_sem, Bool.not_eq_true', Bool.not_eq_false']) (by simp only [go_sem, Bool.not_eq_true', Bool.not_eq_false']) (by simp only [go_sem, Bool.not_eq_true', Bool.not_eq_false'])) ?_; simp only [go_sem, Bool.not_eq_true', Bool.not_eq_false'])
    generalize hullR (hldL l fl i) = hr at *
    (refine swp_lastW ?_; simp only [go_sem, Bool.not_eq_true', Bool.not_eq_false', List.length_map])
    refine ⟨by omega, ?_⟩
    (refine swp_lastW ?_; simp only [go_sem, Bool.not_eq_true', Bool.not_eq_false'])
    refine ⟨by omega, ?_⟩
    (refine loop_end [] (i + 1) (by simp only [go_sem, Bool.not_eq_true', Bool.not_eq_false']; rfl) ?_ ?_ ?_; (focus first | omega | (simp only; omega)); (focus (simp only [go_sem, Bool.not_eq_true', Bool.not_eq_false', hpst, List.map_append, List.map_cons, List.map_nil]; done)))
    exact hil
  rintro - -
  (refine swp_lastW ?_; simp only [go_sem, Bool.not_eq_true', Bool.not_eq_false'])
  (refine ret2 [] (by simp only [go_sem, Bool.not_eq_true', Bool.not_eq_false']; rfl) ?_; simp only [go_sem, Bool.not_eq_true', Bool.not_eq_false'])
end Go.Proofs.Ytjkndjpkmkbnkaa
/- CHAPTER 27: the document's answer: the pages. -/
/- G -/
/- BOOLS -/
set_option linter.unusedSimpArgs false
set_option linter.unusedVariables false
namespace Go.Proofs.Ytjkndjpkmkbnkaa
open Go.RowKit

set_option maxRecDepth 100000 in
set_option maxHeartbeats 8000000 in
theorem ron27_ok (l : List LNo) (ps : List LPg) (n : Int) (hl : l.length ≤ 1000) (hw : ∀ x ∈ l, x.words.length ≤ 9223372036854775807) (hp : ps.length ≤ 1000) (hf : ∀ p ∈ ps, p.flow.length ≤ 1000) : FnOk Try.prog 21 [.sl 20 (l.map cNo), .sl 5 (ps.map cPg), .raw (.int .i64 n)] [] (.hdr 8) [(8, .row 3 1 ((onF l ps n).map cInt))] := by
  refine fn_of_swp Try.func21 rfl (by kernel_rfl) (by kernel_rfl) (Nat.le_of_ble_eq_true rfl) Try.results21 ?_
  (refine swp_seqW ?_; simp only [go_sem, Bool.not_eq_true', Bool.not_eq_false'])
  (refine swp_seqW ?_; simp only [go_sem, Bool.not_eq_true', Bool.not_eq_false'])
  refine swp_cutS (fun _ : Unit => ⟨[(7, .hdr 800)], [(800, some (.row 3 1 ((onF l ps n).map cInt)))], none⟩) (fun _ => True) 120 ?_ ?_
  · (refine swp_seqW ?_; simp only [go_sem, Bool.not_eq_true', Bool.not_eq_false'])
    refine swp_block ?_
    refine swp_loop2 [] (fun z : KY (List Int) => ⟨[(0, .sl 20 (l.map cNo)), (1, .sl 5 (ps.map cPg)), (2, .raw (.int .i64 n)), (7, .hdr 800), (8, .raw (.int .i64 z.k))], [(800, some (.row 3 1 (z.o.map cInt)))], none⟩) (fun z => z.k ≤ ps.length ∧ z.o = ((ps.take z.k).filter (onB l n)).map LPg.no ∧ ∀ i (h : i < ps.length), i < z.k → onG l n ps[i] = true) (fun z => ps.length - z.k) 120 ⟨0, []⟩ (by simp only [go_sem, Bool.not_eq_true', Bool.not_eq_false']; rfl) (by simp only [go_sem, Bool.not_eq_true', Bool.not_eq_false', List.map_nil]) ?_ ?_
    · exact ⟨Nat.zero_le _, rfl, fun i _ h => absurd h (Nat.not_lt_zero _)⟩
    rintro ⟨k, o⟩ ⟨h1, h2, h3⟩
    simp only at h1 h2 h3
    (refine swp_seqW ?_; simp only [go_sem, Bool.not_eq_true', Bool.not_eq_false', List.length_map])
    refine ⟨fun h5 => ?_, fun h5 => ?_⟩
    · have hk : k < ps.length := by omega
      have hfl : ps[k].flow.length ≤ 1000 := hf _ (List.getElem_mem hk)
      have hno : onG l n ps[k] = false → onF l ps n = [] := onF_no hk
      have hn1 : hasN l n = false → onG l n ps[k] = false := fun q => by
        unfold onG
        rw [q, Bool.false_and]
      have hn3 : mayF l ps[k].flow = false → onG l n ps[k] = false := fun q => by
        unfold onG
        rw [q, Bool.and_false]
      have hn2 : mayF l ps[k].flow = true → hasN l n = true → onG l n ps[k] = true := fun q1 q2 => by
        unfold onG
        rw [q1, q2, Bool.true_and]
      have eT : (ps.take (k + 1)).filter (onB l n) = (ps.take k).filter (onB l n) ++ if onB l n ps[k] = true then [ps[k]] else [] := by
        rw [List.take_succ_eq_append_getElem hk, List.filter_append]
        congr 1
        split
        · next q => rw [List.filter_cons_of_pos q]; rfl
        · next q => rw [List.filter_cons_of_neg q]; rfl
      have e1 : 0 < ((hldL l ps[k].flow n).length : Int) → ((ps.take (k + 1)).filter (onB l n)).map LPg.no = o ++ [ps[k].no] := fun q => by
        rw [eT, if_pos (by unfold onB; exact decide_eq_true fun w => by rw [w] at q; exact absurd q (by decide)), List.map_append, ← h2]; rfl
      have e2 : ¬ 0 < ((hldL l ps[k].flow n).length : Int) → ((ps.take (k + 1)).filter (onB l n)).map LPg.no = o := fun q => by
        rw [eT, if_neg (by unfold onB; rw [List.eq_nil_of_length_eq_zero (show (hldL l ps[k].flow n).length = 0 by omega)]; decide), List.append_nil, ← h2]
      have h3' : onG l n ps[k] = true → ∀ i (h : i < ps.length), i < k + 1 → onG l n ps[i] = true := fun hg i hi h7 => by
        rcases Nat.lt_succ_iff_lt_or_eq.1 h7 with h8 | h8
        · exact h3 i hi h8
        · subst h8; exact hg
      have hol : o.length ≤ k := by
        rw [h2, List.length_map]
        have q1 := List.length_filter_le (onB l n) (ps.take k)
        rw [List.length_take] at q1
        omega
      have hno3 := ps[k].no
      refine swp_seqS ?_
      refine swp_block ?_
      refine swp_cutS (fun _ : Unit => ⟨[(0, .sl 20 (l.map cNo)), (1, .sl 5 (ps.map cPg)), (2, .raw (.int .i64 n)), (7, .hdr 800), (8, .raw (.int .i64 k))], [(800, some (.row 3 1 (o.map cInt)))], none⟩) (fun _ => onG l n ps[k] = true) 200 ?_ ?_
      · clear h3 h3' eT e1 e2
        (refine swp_lastW ?_; simp only [go_sem, Bool.not_eq_true', Bool.not_eq_false', List.length_map])
        repeat' first | contradiction | intro _ | refine And.intro ?_ ?_ | refine ex_get (by omega) ?_ | (show drawB _ _ = true; kernel_rfl) | (refine ret2 [] (by simp only [go_sem, Bool.not_eq_true', Bool.not_eq_false', List.length_map]; rfl) ?_; simp only [go_sem, Bool.not_eq_true', Bool.not_eq_false', List.length_map]) | (refine acall2 [] (mayR_ok l ps[k].flow hl hfl hw) (by simp only [go_sem, Bool.not_eq_true', Bool.not_eq_false']; rfl) (fit_of (by simp only [go_sem, Bool.not_eq_true', Bool.not_eq_false']) (by simp only [go_sem, Bool.not_eq_true', Bool.not_eq_false']) (by simp only [go_sem, Bool.not_eq_true', Bool.not_eq_false']) (by simp only [go_sem, Bool.not_eq_true', Bool.not_eq_false']) (by simp only [go_sem, Bool.not_eq_true', Bool.not_eq_false']) (by simp only [go_sem, Bool.not_eq_true', Bool.not_eq_false']) (by simp only [go_sem, Bool.not_eq_true', Bool.not_eq_false'])) ?_; simp only [go_sem, Bool.not_eq_true', Bool.not_eq_false', List.length_map]) | (refine acall2 [] (has8r_ok l n) (by simp only [go_sem, Bool.not_eq_true', Bool.not_eq_false']; rfl) (fit_of (by simp only [go_sem, Bool.not_eq_true', Bool.not_eq_false']) (by simp only [go_sem, Bool.not_eq_true', Bool.not_eq_false']) (by simp only [go_sem, Bool.not_eq_true', Bool.not_eq_false']) (by simp only [go_sem, Bool.not_eq_true', Bool.not_eq_false']) (by simp only [go_sem, Bool.not_eq_true', Bool.not_eq_false']) (by simp only [go_sem, Bool.not_eq_true', Bool.not_eq_false']) (by simp only [go_sem, Bool.not_eq_true', Bool.not_eq_false'])) ?_; simp only [go_sem, Bool.not_eq_true', Bool.not_eq_false', List.length_map])
        all_goals first
          | omega
          | (rw [hno (hn1 (by assumption))]; rfl)
          | (rw [hno (hn3 (by assumption))]; rfl)
          | ((refine cut_end [] (()) (by simp only [go_sem, Bool.not_eq_true', Bool.not_eq_false']; rfl) ?_ ?_; (focus (simp only [go_sem, Bool.not_eq_true', Bool.not_eq_false']; done)))
             exact hn2 (by assumption) (by assumption))
          | skip
      rintro - hg
      have h3'' := h3' hg
      clear h3 h3' eT hn1 hn2 hn3 hno
      (refine swp_lastW ?_; simp only [go_sem, Bool.not_eq_true', Bool.not_eq_false', List.length_map])
      repeat' first | contradiction | intro _ | refine And.intro ?_ ?_ | refine ex_get (by omega) ?_ | (show drawB _ _ = true; kernel_rfl) | (refine ret2 [] (by simp only [go_sem, Bool.not_eq_true', Bool.not_eq_false', List.length_map]; rfl) ?_; simp only [go_sem, Bool.not_eq_true', Bool.not_eq_false', List.length_map]) | (refine acall2 [] (heldR_ok l ps[k].flow n hl hfl) (by simp only [go_sem, Bool.not_eq_true', Bool.not_eq_false']; rfl) (fit_of (by simp only [go_sem, Bool.not_eq_true', Bool.not_eq_false']) (by simp only [go_sem, Bool.not_eq_true', Bool.not_eq_false']) (by simp only [go_sem, Bool.not_eq_true', Bool.not_eq_false']) (by simp only [go_sem, Bool.not_eq_true', Bool.not_eq_false']) (by simp only [go_sem, Bool.not_eq_true', Bool.not_eq_false']) (by simp only [go_sem, Bool.not_eq_true', Bool.not_eq_false']) (by simp only [go_sem, Bool.not_eq_true', Bool.not_eq_false'])) ?_; simp only [go_sem, Bool.not_eq_true', Bool.not_eq_false', List.length_map])
      all_goals first
        | omega
        | (have e := e1 (by assumption)
           (refine swp_lastW ?_; simp only [go_sem, Bool.not_eq_true', Bool.not_eq_false'])
           refine ⟨by omega, ?_⟩
           (refine loop_end [] (⟨k + 1, o ++ [ps[k].no]⟩) (by simp only [go_sem, Bool.not_eq_true', Bool.not_eq_false']; rfl) ?_ ?_ ?_; (focus first | omega | (simp only; omega)); (focus (simp only [go_sem, Bool.not_eq_true', Bool.not_eq_false', List.map_append, List.map_cons, List.map_nil]; done)))
           exact ⟨hk, e.symm, h3''⟩)
        | (have e := e2 (by assumption)
           (refine swp_lastW ?_; simp only [go_sem, Bool.not_eq_true', Bool.not_eq_false'])
           refine ⟨by omega, ?_⟩
           (refine loop_end [] (⟨k + 1, o⟩) (by simp only [go_sem, Bool.not_eq_true', Bool.not_eq_false']; rfl) ?_ ?_ ?_; (focus first | omega | (simp only; omega)); (focus (simp only [go_sem, Bool.not_eq_true', Bool.not_eq_false']; done)))
           exact ⟨hk, e.symm, h3''⟩)
        | skip
    · obtain rfl : k = ps.length := by omega
      rw [List.take_length] at h2
      have e : onF l ps n = o := by
        unfold onF
        rw [if_pos, h2]
        rw [List.all_eq_true]
        intro p hp
        obtain ⟨i, hi, rfl⟩ := List.getElem_of_mem hp
        exact h3 i hi hi
      rw [e]
      (refine cut_end [] (()) (by simp only [go_sem, Bool.not_eq_true', Bool.not_eq_false']; rfl) ?_ ?_; (focus (simp only [go_sem, Bool.not_eq_true', Bool.not_eq_false']; done)))
      trivial
  rintro - -
  (refine swp_lastW ?_; simp only [go_sem, Bool.not_eq_true', Bool.not_eq_false'])
  (refine ret2 [] (by simp only [go_sem, Bool.not_eq_true', Bool.not_eq_false']; rfl) ?_; simp only [go_sem, Bool.not_eq_true', Bool.not_eq_false'])
end Go.Proofs.Ytjkndjpkmkbnkaa
/- CHAPTER 27: the laws' own functions; the chapter's examples. -/
/- G -/
/- BOOLS -/
set_option linter.unusedSimpArgs false
set_option linter.unusedVariables false
namespace Go.Proofs.Ytjkndjpkmkbnkaa
open Go.RowKit

def scr27 : ByteArray := { data := #[91, 40, 49, 48, 32, 50, 32, 51, 48, 32, 51, 48, 41, 91, 123, 53, 32, 53, 125, 93, 93, 123, 49, 32, 49, 125] }
def nds27 : List LNo := [⟨1, 4, sty2, 0, 0, [], 0, 0, 0⟩, ⟨2, 1, sty0, 10, 2, [30, 30], 0, 0, 0⟩, ⟨1, 2, sty2, 0, 0, [], 0, 0, 0⟩, ⟨3, 1, sty0, 0, 0, [], 0, 5, 5⟩, ⟨3, 1, sty0, 0, 0, [], 0, 1, 1⟩]
theorem rd27 : rdS scr27 = some nds27 := by kernel_rfl
theorem of27 : FnOk Try.prog 27 [.raw (.string { data := #[91, 40, 49, 48, 32, 50, 32, 51, 48, 32, 51, 48, 41, 91, 123, 53, 32, 53, 125, 93, 93, 123, 49, 32, 49, 125] })] [] (.tup [.sl 20 (nds27.map cNo), .raw (.int .i64 0), .raw (.int .i64 0)]) [] := rdS_ok scr27 nds27 rd27
theorem w27 : ∀ x ∈ nds27, x.words.length ≤ 9223372036854775807 := hw_of (by kernel_rfl)
set_option maxRecDepth 100000 in
theorem part27_ok (n x y w h : Int) : FnOk Try.prog 37 [.raw (.int .i64 n), .raw (.int .i64 x), .raw (.int .i64 y), .raw (.int .i64 w), .raw (.int .i64 h)] [] (aFg ⟨n, 0, 0, x, y, w, h⟩) [] := by
  refine fn_of_awp Try.func37 rfl (by kernel_rfl) (by kernel_rfl) (Nat.le_of_ble_eq_true rfl) Try.results37 ?_
  simp only [go_sem, Bool.not_eq_true', Bool.not_eq_false']
set_option maxRecDepth 100000 in
theorem piece27_ok (n s x y w h : Int) : FnOk Try.prog 38 [.raw (.int .i64 n), .raw (.int .i64 s), .raw (.int .i64 x), .raw (.int .i64 y), .raw (.int .i64 w), .raw (.int .i64 h)] [] (.agg [.raw (.int .i64 n), .raw (.int .i64 s), .raw (.int .i64 x), .raw (.int .i64 y), .raw (.int .i64 w), .raw (.int .i64 h)]) [] := by
  refine fn_of_awp Try.func38 rfl (by kernel_rfl) (by kernel_rfl) (Nat.le_of_ble_eq_true rfl) Try.results38 ?_
  simp only [go_sem, Bool.not_eq_true', Bool.not_eq_false']
def fa27 : List LFg := [⟨1, 0, 0, 0, 0, 30, 10⟩, ⟨1, 0, 0, 0, 10, 20, 10⟩, ⟨3, 0, 0, 3, 25, 5, 5⟩]
def fb27 : List LFg := [⟨4, 0, 0, 7, 8, 1, 1⟩]
def pg27 : List LPg := [⟨1, 0, [], fa27, []⟩, ⟨2, 0, [], [], []⟩, ⟨3, 0, [], fb27, []⟩]
def pa27 : List LPc := [⟨0, 4, ⟨0, 0, 30, 30⟩⟩, ⟨1, 1, ⟨0, 0, 30, 20⟩⟩, ⟨2, 2, ⟨3, 25, 5, 5⟩⟩, ⟨3, 1, ⟨3, 25, 5, 5⟩⟩]
attribute [go_sem] pa27
theorem v27a : ofF nds27 fa27 = pa27 := by kernel_rfl
theorem v27b : ofF nds27 fb27 = [⟨4, 1, ⟨7, 8, 1, 1⟩⟩] := by kernel_rfl
theorem v27c : ofF nds27 [] = [] := by kernel_rfl
theorem v27d : ofF nds27 [⟨9, 0, 0, 0, 0, 1, 1⟩] = [] := by kernel_rfl
theorem v27e : onF nds27 pg27 0 = [1] := by kernel_rfl
theorem v27f : onF nds27 pg27 4 = [3] := by kernel_rfl
set_option maxRecDepth 100000 in
set_option maxHeartbeats 8000000 in
theorem awake27_ok : FnOk Try.prog 17 [] [] (.raw (.bool true)) [] := by
  refine fn_of_swp Try.func17 rfl (by kernel_rfl) (by kernel_rfl) (Nat.le_of_ble_eq_true rfl) Try.results17 ?_
  (refine swp_seqW ?_; simp only [go_sem, Bool.not_eq_true', Bool.not_eq_false'])
  (refine swp_seqW ?_; simp only [go_sem, Bool.not_eq_true', Bool.not_eq_false'])
  (refine acall2 [] (of27) (by simp only [go_sem, Bool.not_eq_true', Bool.not_eq_false']; rfl) (fit_of (by simp only [go_sem, Bool.not_eq_true', Bool.not_eq_false']) (by simp only [go_sem, Bool.not_eq_true', Bool.not_eq_false']) (by simp only [go_sem, Bool.not_eq_true', Bool.not_eq_false']) (by simp only [go_sem, Bool.not_eq_true', Bool.not_eq_false']) (by simp only [go_sem, Bool.not_eq_true', Bool.not_eq_false']) (by simp only [go_sem, Bool.not_eq_true', Bool.not_eq_false']) (by simp only [go_sem, Bool.not_eq_true', Bool.not_eq_false'])) ?_; simp only [go_sem, Bool.not_eq_true', Bool.not_eq_false'])
  (refine swp_seqW ?_; simp only [go_sem, Bool.not_eq_true', Bool.not_eq_false'])
  (refine acall2 [] (part27_ok 1 0 0 30 10) (by simp only [go_sem, Bool.not_eq_true', Bool.not_eq_false']; rfl) (fit_of (by simp only [go_sem, Bool.not_eq_true', Bool.not_eq_false']) (by simp only [go_sem, Bool.not_eq_true', Bool.not_eq_false']) (by simp only [go_sem, Bool.not_eq_true', Bool.not_eq_false']) (by simp only [go_sem, Bool.not_eq_true', Bool.not_eq_false']) (by simp only [go_sem, Bool.not_eq_true', Bool.not_eq_false']) (by simp only [go_sem, Bool.not_eq_true', Bool.not_eq_false']) (by simp only [go_sem, Bool.not_eq_true', Bool.not_eq_false'])) ?_; simp only [go_sem, Bool.not_eq_true', Bool.not_eq_false'])
  (refine acall2 [] (part27_ok 1 0 10 20 10) (by simp only [go_sem, Bool.not_eq_true', Bool.not_eq_false']; rfl) (fit_of (by simp only [go_sem, Bool.not_eq_true', Bool.not_eq_false']) (by simp only [go_sem, Bool.not_eq_true', Bool.not_eq_false']) (by simp only [go_sem, Bool.not_eq_true', Bool.not_eq_false']) (by simp only [go_sem, Bool.not_eq_true', Bool.not_eq_false']) (by simp only [go_sem, Bool.not_eq_true', Bool.not_eq_false']) (by simp only [go_sem, Bool.not_eq_true', Bool.not_eq_false']) (by simp only [go_sem, Bool.not_eq_true', Bool.not_eq_false'])) ?_; simp only [go_sem, Bool.not_eq_true', Bool.not_eq_false'])
  (refine acall2 [] (part27_ok 3 3 25 5 5) (by simp only [go_sem, Bool.not_eq_true', Bool.not_eq_false']; rfl) (fit_of (by simp only [go_sem, Bool.not_eq_true', Bool.not_eq_false']) (by simp only [go_sem, Bool.not_eq_true', Bool.not_eq_false']) (by simp only [go_sem, Bool.not_eq_true', Bool.not_eq_false']) (by simp only [go_sem, Bool.not_eq_true', Bool.not_eq_false']) (by simp only [go_sem, Bool.not_eq_true', Bool.not_eq_false']) (by simp only [go_sem, Bool.not_eq_true', Bool.not_eq_false']) (by simp only [go_sem, Bool.not_eq_true', Bool.not_eq_false'])) ?_; simp only [go_sem, Bool.not_eq_true', Bool.not_eq_false'])
  (refine swp_seqW ?_; simp only [go_sem, Bool.not_eq_true', Bool.not_eq_false'])
  (refine acall2 [] (part27_ok 4 7 8 1 1) (by simp only [go_sem, Bool.not_eq_true', Bool.not_eq_false']; rfl) (fit_of (by simp only [go_sem, Bool.not_eq_true', Bool.not_eq_false']) (by simp only [go_sem, Bool.not_eq_true', Bool.not_eq_false']) (by simp only [go_sem, Bool.not_eq_true', Bool.not_eq_false']) (by simp only [go_sem, Bool.not_eq_true', Bool.not_eq_false']) (by simp only [go_sem, Bool.not_eq_true', Bool.not_eq_false']) (by simp only [go_sem, Bool.not_eq_true', Bool.not_eq_false']) (by simp only [go_sem, Bool.not_eq_true', Bool.not_eq_false'])) ?_; simp only [go_sem, Bool.not_eq_true', Bool.not_eq_false'])
  refine swp_cutS (fun _ : Unit => ⟨[(1, .sl 20 (nds27.map cNo)), (4, .sl 7 (fa27.map cFg)), (5, .sl 7 (fb27.map cFg)), (6, .sl 5 (pg27.map cPg))], [], none⟩) (fun _ => True) 40 ?_ ?_
  · (refine swp_lastW ?_; simp only [go_sem, Bool.not_eq_true', Bool.not_eq_false'])
    (refine cut_end [104, 128, 184 ] ( ()) (by simp only [go_sem, Bool.not_eq_true', Bool.not_eq_false']; rfl) ?_ ?_; (focus (simp only [go_sem, Bool.not_eq_true', Bool.not_eq_false', fa27, fb27, pg27, List.map]; done)))
    trivial
  rintro - -
  (refine swp_lastW ?_; simp only [go_sem, Bool.not_eq_true', Bool.not_eq_false'])
  (refine acall2 [] (ofF_ok nds27 fa27 (by decide) w27 (by decide) (by decide)) (by simp only [go_sem, Bool.not_eq_true', Bool.not_eq_false']; rfl) (fit_of (by simp only [go_sem, Bool.not_eq_true', Bool.not_eq_false']) (by simp only [go_sem, Bool.not_eq_true', Bool.not_eq_false']) (by simp only [go_sem, Bool.not_eq_true', Bool.not_eq_false']) (by simp only [go_sem, Bool.not_eq_true', Bool.not_eq_false']) (by simp only [go_sem, Bool.not_eq_true', Bool.not_eq_false']) (by simp only [go_sem, Bool.not_eq_true', Bool.not_eq_false']) (by simp only [go_sem, Bool.not_eq_true', Bool.not_eq_false'])) ?_; simp only [go_sem, Bool.not_eq_true', Bool.not_eq_false'])
  rw [v27a]
  (refine acall2 [] (piece27_ok 0 4 0 0 30 30) (by simp only [go_sem, Bool.not_eq_true', Bool.not_eq_false']; rfl) (fit_of (by simp only [go_sem, Bool.not_eq_true', Bool.not_eq_false']) (by simp only [go_sem, Bool.not_eq_true', Bool.not_eq_false']) (by simp only [go_sem, Bool.not_eq_true', Bool.not_eq_false']) (by simp only [go_sem, Bool.not_eq_true', Bool.not_eq_false']) (by simp only [go_sem, Bool.not_eq_true', Bool.not_eq_false']) (by simp only [go_sem, Bool.not_eq_true', Bool.not_eq_false']) (by simp only [go_sem, Bool.not_eq_true', Bool.not_eq_false'])) ?_; simp only [go_sem, Bool.not_eq_true', Bool.not_eq_false'])
  (refine acall2 [] (piece27_ok 1 1 0 0 30 20) (by simp only [go_sem, Bool.not_eq_true', Bool.not_eq_false']; rfl) (fit_of (by simp only [go_sem, Bool.not_eq_true', Bool.not_eq_false']) (by simp only [go_sem, Bool.not_eq_true', Bool.not_eq_false']) (by simp only [go_sem, Bool.not_eq_true', Bool.not_eq_false']) (by simp only [go_sem, Bool.not_eq_true', Bool.not_eq_false']) (by simp only [go_sem, Bool.not_eq_true', Bool.not_eq_false']) (by simp only [go_sem, Bool.not_eq_true', Bool.not_eq_false']) (by simp only [go_sem, Bool.not_eq_true', Bool.not_eq_false'])) ?_; simp only [go_sem, Bool.not_eq_true', Bool.not_eq_false'])
  (refine acall2 [] (piece27_ok 2 2 3 25 5 5) (by simp only [go_sem, Bool.not_eq_true', Bool.not_eq_false']; rfl) (fit_of (by simp only [go_sem, Bool.not_eq_true', Bool.not_eq_false']) (by simp only [go_sem, Bool.not_eq_true', Bool.not_eq_false']) (by simp only [go_sem, Bool.not_eq_true', Bool.not_eq_false']) (by simp only [go_sem, Bool.not_eq_true', Bool.not_eq_false']) (by simp only [go_sem, Bool.not_eq_true', Bool.not_eq_false']) (by simp only [go_sem, Bool.not_eq_true', Bool.not_eq_false']) (by simp only [go_sem, Bool.not_eq_true', Bool.not_eq_false'])) ?_; simp only [go_sem, Bool.not_eq_true', Bool.not_eq_false'])
  (refine acall2 [] (piece27_ok 3 1 3 25 5 5) (by simp only [go_sem, Bool.not_eq_true', Bool.not_eq_false']; rfl) (fit_of (by simp only [go_sem, Bool.not_eq_true', Bool.not_eq_false']) (by simp only [go_sem, Bool.not_eq_true', Bool.not_eq_false']) (by simp only [go_sem, Bool.not_eq_true', Bool.not_eq_false']) (by simp only [go_sem, Bool.not_eq_true', Bool.not_eq_false']) (by simp only [go_sem, Bool.not_eq_true', Bool.not_eq_false']) (by simp only [go_sem, Bool.not_eq_true', Bool.not_eq_false']) (by simp only [go_sem, Bool.not_eq_true', Bool.not_eq_false'])) ?_; simp only [go_sem, Bool.not_eq_true', Bool.not_eq_false'])
  (refine acallF2 [336, 376 ] [] ( sameP_ok pa27 (by decide)) (by simp only [go_sem, Bool.not_eq_true', Bool.not_eq_false']; rfl) (fit_of (by simp only [go_sem, Bool.not_eq_true', Bool.not_eq_false']) (by simp only [go_sem, Bool.not_eq_true', Bool.not_eq_false']) (by simp only [go_sem, Bool.not_eq_true', Bool.not_eq_false']) (by simp only [go_sem, Bool.not_eq_true', Bool.not_eq_false']) (by simp only [go_sem, Bool.not_eq_true', Bool.not_eq_false']) (by simp only [go_sem, Bool.not_eq_true', Bool.not_eq_false']) (by simp only [go_sem, Bool.not_eq_true', Bool.not_eq_false'])) ?_; simp only [go_sem, Bool.not_eq_true', Bool.not_eq_false', pa27, List.map])
  (refine acall2 [] (ofF_ok nds27 fb27 (by decide) w27 (by decide) (by decide)) (by simp only [go_sem, Bool.not_eq_true', Bool.not_eq_false']; rfl) (fit_of (by simp only [go_sem, Bool.not_eq_true', Bool.not_eq_false']) (by simp only [go_sem, Bool.not_eq_true', Bool.not_eq_false']) (by simp only [go_sem, Bool.not_eq_true', Bool.not_eq_false']) (by simp only [go_sem, Bool.not_eq_true', Bool.not_eq_false']) (by simp only [go_sem, Bool.not_eq_true', Bool.not_eq_false']) (by simp only [go_sem, Bool.not_eq_true', Bool.not_eq_false']) (by simp only [go_sem, Bool.not_eq_true', Bool.not_eq_false'])) ?_; simp only [go_sem, Bool.not_eq_true', Bool.not_eq_false'])
  rw [v27b]
  (refine acall2 [] (piece27_ok 4 1 7 8 1 1) (by simp only [go_sem, Bool.not_eq_true', Bool.not_eq_false']; rfl) (fit_of (by simp only [go_sem, Bool.not_eq_true', Bool.not_eq_false']) (by simp only [go_sem, Bool.not_eq_true', Bool.not_eq_false']) (by simp only [go_sem, Bool.not_eq_true', Bool.not_eq_false']) (by simp only [go_sem, Bool.not_eq_true', Bool.not_eq_false']) (by simp only [go_sem, Bool.not_eq_true', Bool.not_eq_false']) (by simp only [go_sem, Bool.not_eq_true', Bool.not_eq_false']) (by simp only [go_sem, Bool.not_eq_true', Bool.not_eq_false'])) ?_; simp only [go_sem, Bool.not_eq_true', Bool.not_eq_false'])
  (refine acallF2 [416, 432 ] [] ( sameP_ok [⟨4, 1, ⟨7, 8, 1, 1⟩⟩] (by decide)) (by simp only [go_sem, Bool.not_eq_true', Bool.not_eq_false']; rfl) (fit_of (by simp only [go_sem, Bool.not_eq_true', Bool.not_eq_false']) (by simp only [go_sem, Bool.not_eq_true', Bool.not_eq_false']) (by simp only [go_sem, Bool.not_eq_true', Bool.not_eq_false']) (by simp only [go_sem, Bool.not_eq_true', Bool.not_eq_false']) (by simp only [go_sem, Bool.not_eq_true', Bool.not_eq_false']) (by simp only [go_sem, Bool.not_eq_true', Bool.not_eq_false']) (by simp only [go_sem, Bool.not_eq_true', Bool.not_eq_false'])) ?_; simp only [go_sem, Bool.not_eq_true', Bool.not_eq_false'])
  (refine acall2 [] (ofF_ok nds27 [] (by decide) w27 (by decide) (by decide)) (by simp only [go_sem, Bool.not_eq_true', Bool.not_eq_false']; rfl) (fit_of (by simp only [go_sem, Bool.not_eq_true', Bool.not_eq_false']) (by simp only [go_sem, Bool.not_eq_true', Bool.not_eq_false']) (by simp only [go_sem, Bool.not_eq_true', Bool.not_eq_false']) (by simp only [go_sem, Bool.not_eq_true', Bool.not_eq_false']) (by simp only [go_sem, Bool.not_eq_true', Bool.not_eq_false']) (by simp only [go_sem, Bool.not_eq_true', Bool.not_eq_false']) (by simp only [go_sem, Bool.not_eq_true', Bool.not_eq_false'])) ?_; simp only [go_sem, Bool.not_eq_true', Bool.not_eq_false'])
  rw [v27c]
  simp only [go_sem, Bool.not_eq_true', Bool.not_eq_false', List.map_nil, List.length_nil]
  (refine acall2 [] (part27_ok 9 0 0 1 1) (by simp only [go_sem, Bool.not_eq_true', Bool.not_eq_false']; rfl) (fit_of (by simp only [go_sem, Bool.not_eq_true', Bool.not_eq_false']) (by simp only [go_sem, Bool.not_eq_true', Bool.not_eq_false']) (by simp only [go_sem, Bool.not_eq_true', Bool.not_eq_false']) (by simp only [go_sem, Bool.not_eq_true', Bool.not_eq_false']) (by simp only [go_sem, Bool.not_eq_true', Bool.not_eq_false']) (by simp only [go_sem, Bool.not_eq_true', Bool.not_eq_false']) (by simp only [go_sem, Bool.not_eq_true', Bool.not_eq_false'])) ?_; simp only [go_sem, Bool.not_eq_true', Bool.not_eq_false'])
  (refine acallF2 [528 ] [] ( ofF_ok nds27 [⟨9, 0, 0, 0, 0, 1, 1⟩] (by decide) w27 (by decide) (by decide)) (by simp only [go_sem, Bool.not_eq_true', Bool.not_eq_false']; rfl) (fit_of (by simp only [go_sem, Bool.not_eq_true', Bool.not_eq_false']) (by simp only [go_sem, Bool.not_eq_true', Bool.not_eq_false']) (by simp only [go_sem, Bool.not_eq_true', Bool.not_eq_false']) (by simp only [go_sem, Bool.not_eq_true', Bool.not_eq_false']) (by simp only [go_sem, Bool.not_eq_true', Bool.not_eq_false']) (by simp only [go_sem, Bool.not_eq_true', Bool.not_eq_false']) (by simp only [go_sem, Bool.not_eq_true', Bool.not_eq_false'])) ?_; simp only [go_sem, Bool.not_eq_true', Bool.not_eq_false'])
  rw [v27d]
  simp only [go_sem, Bool.not_eq_true', Bool.not_eq_false', List.map_nil, List.length_nil]
  (refine acall2 [] (on27_ok nds27 pg27 0 (by decide) w27 (by decide) (by decide)) (by simp only [go_sem, Bool.not_eq_true', Bool.not_eq_false']; rfl) (fit_of (by simp only [go_sem, Bool.not_eq_true', Bool.not_eq_false']) (by simp only [go_sem, Bool.not_eq_true', Bool.not_eq_false']) (by simp only [go_sem, Bool.not_eq_true', Bool.not_eq_false']) (by simp only [go_sem, Bool.not_eq_true', Bool.not_eq_false']) (by simp only [go_sem, Bool.not_eq_true', Bool.not_eq_false']) (by simp only [go_sem, Bool.not_eq_true', Bool.not_eq_false']) (by simp only [go_sem, Bool.not_eq_true', Bool.not_eq_false'])) ?_; simp only [go_sem, Bool.not_eq_true', Bool.not_eq_false'])
  rw [v27e]
  simp only [go_sem, Bool.not_eq_true', Bool.not_eq_false']
  (refine acallF2 [592, 600 ] [] ( ints8_ok [1] [1] (by decide) (by decide)) (by simp only [go_sem, Bool.not_eq_true', Bool.not_eq_false']; rfl) (fit_of (by simp only [go_sem, Bool.not_eq_true', Bool.not_eq_false']) (by simp only [go_sem, Bool.not_eq_true', Bool.not_eq_false']) (by simp only [go_sem, Bool.not_eq_true', Bool.not_eq_false']) (by simp only [go_sem, Bool.not_eq_true', Bool.not_eq_false']) (by simp only [go_sem, Bool.not_eq_true', Bool.not_eq_false']) (by simp only [go_sem, Bool.not_eq_true', Bool.not_eq_false']) (by simp only [go_sem, Bool.not_eq_true', Bool.not_eq_false'])) ?_; simp only [go_sem, Bool.not_eq_true', Bool.not_eq_false', decide_true])
  (refine acall2 [] (on27_ok nds27 pg27 4 (by decide) w27 (by decide) (by decide)) (by simp only [go_sem, Bool.not_eq_true', Bool.not_eq_false']; rfl) (fit_of (by simp only [go_sem, Bool.not_eq_true', Bool.not_eq_false']) (by simp only [go_sem, Bool.not_eq_true', Bool.not_eq_false']) (by simp only [go_sem, Bool.not_eq_true', Bool.not_eq_false']) (by simp only [go_sem, Bool.not_eq_true', Bool.not_eq_false']) (by simp only [go_sem, Bool.not_eq_true', Bool.not_eq_false']) (by simp only [go_sem, Bool.not_eq_true', Bool.not_eq_false']) (by simp only [go_sem, Bool.not_eq_true', Bool.not_eq_false'])) ?_; simp only [go_sem, Bool.not_eq_true', Bool.not_eq_false'])
  rw [v27f]
  simp only [go_sem, Bool.not_eq_true', Bool.not_eq_false']
  (refine acallF2 [648, 656 ] [] ( ints8_ok [3] [3] (by decide) (by decide)) (by simp only [go_sem, Bool.not_eq_true', Bool.not_eq_false']; rfl) (fit_of (by simp only [go_sem, Bool.not_eq_true', Bool.not_eq_false']) (by simp only [go_sem, Bool.not_eq_true', Bool.not_eq_false']) (by simp only [go_sem, Bool.not_eq_true', Bool.not_eq_false']) (by simp only [go_sem, Bool.not_eq_true', Bool.not_eq_false']) (by simp only [go_sem, Bool.not_eq_true', Bool.not_eq_false']) (by simp only [go_sem, Bool.not_eq_true', Bool.not_eq_false']) (by simp only [go_sem, Bool.not_eq_true', Bool.not_eq_false'])) ?_; simp only [go_sem, Bool.not_eq_true', Bool.not_eq_false', decide_true])
end Go.Proofs.Ytjkndjpkmkbnkaa
/- CHAPTER 27: the law FragsPieces. -/
/- G -/
/- BOOLS -/
set_option linter.unusedSimpArgs false
set_option linter.unusedVariables false
namespace Go.Proofs.Ytjkndjpkmkbnkaa
open Go.RowKit

theorem ofF_len (l : List LNo) (fl : List LFg) : (ofF l fl).length ≤ l.length := by
  unfold ofF
  split
  · exact pcs_len l fl 0 l.length
  · exact Nat.zero_le _
theorem onF_len (l : List LNo) (ps : List LPg) (n : Int) : (onF l ps n).length ≤ ps.length := by
  unfold onF
  split
  · rw [List.length_map]; exact List.length_filter_le _ _
  · exact Nat.zero_le _
def stP27 (l : List LNo) (ps : List LPg) (n : Int) (t : List (Nat × AV)) : AS := ⟨t ++ [(0, .sl 20 (l.map cNo)), (1, .sl 5 (ps.map cPg)), (2, .raw (.int .i64 n))], [], none⟩
attribute [go_sem] stP27
set_option maxRecDepth 100000 in
set_option maxHeartbeats 8000000 in
theorem fragsPieces_ok (l : List LNo) (ps : List LPg) (n : Int) (hi : l.length ≤ 9223372036854775807 ∧ ∀ x ∈ l, x.words.length ≤ 9223372036854775807) : FnOk Try.prog 6 [.sl 20 (l.map cNo), .sl 5 (ps.map cPg), .raw (.int .i64 n)] [] (.raw (.bool true)) [] := by
  obtain ⟨-, hw⟩ := hi
  refine fn_of_swp Try.func6 rfl (by kernel_rfl) (by kernel_rfl) (Nat.le_of_ble_eq_true rfl) Try.results6 ?_
  (refine swp_seqW ?_; simp only [go_sem, Bool.not_eq_true', Bool.not_eq_false'])
  refine swp_cutS (fun _ : Unit => stP27 l ps n []) (fun _ => l.length ≤ 60 ∧ ps.length ≤ 20) 20 ?_ ?_
  · (refine swp_lastW ?_; simp only [go_sem, Bool.not_eq_true', Bool.not_eq_false', List.length_map])
    repeat' first | contradiction | intro _ | refine And.intro ?_ ?_ | refine ex_get (by omega) ?_ | (show drawB _ _ = true; kernel_rfl) | (refine ret2 [] (by simp only [go_sem, Bool.not_eq_true', Bool.not_eq_false']; rfl) ?_; simp only [go_sem, Bool.not_eq_true', Bool.not_eq_false']) | (refine acall2 [] (awake27_ok) (by simp only [go_sem, Bool.not_eq_true', Bool.not_eq_false']; rfl) (fit_of (by simp only [go_sem, Bool.not_eq_true', Bool.not_eq_false']) (by simp only [go_sem, Bool.not_eq_true', Bool.not_eq_false']) (by simp only [go_sem, Bool.not_eq_true', Bool.not_eq_false']) (by simp only [go_sem, Bool.not_eq_true', Bool.not_eq_false']) (by simp only [go_sem, Bool.not_eq_true', Bool.not_eq_false']) (by simp only [go_sem, Bool.not_eq_true', Bool.not_eq_false']) (by simp only [go_sem, Bool.not_eq_true', Bool.not_eq_false'])) ?_; simp only [go_sem, Bool.not_eq_true', Bool.not_eq_false'])
    all_goals first
      | ((refine cut_end [] (()) (by simp only [go_sem, Bool.not_eq_true', Bool.not_eq_false']; rfl) ?_ ?_; (focus (simp only [go_sem, Bool.not_eq_true', Bool.not_eq_false']; done)))
         omega)
      | skip
  rintro - ⟨hl6, hp2⟩
  have hl : l.length ≤ 1000 := by omega
  refine swp_cutS (fun _ : Unit => stP27 l ps n []) (fun _ => ∀ i (h : i < ps.length), ps[i].flow.length ≤ 100 ∧ (ps[i].flow.all fun f => nearR (recF f)) = true) 40 ?_ ?_
  · (refine swp_seqW ?_; simp only [go_sem, Bool.not_eq_true', Bool.not_eq_false'])
    refine swp_block ?_
    refine swp_loop2 [] (fun i : Nat => stP27 l ps n [(7, .raw (.int .i64 i))]) (fun k => k ≤ ps.length ∧ ∀ i (h : i < ps.length), i < k → ps[i].flow.length ≤ 100 ∧ (ps[i].flow.all fun f => nearR (recF f)) = true) (fun i => ps.length - i) 40 0 (by simp only [go_sem, Bool.not_eq_true', Bool.not_eq_false']; rfl) (by simp only [go_sem, Bool.not_eq_true', Bool.not_eq_false']) ?_ ?_
    · exact ⟨Nat.zero_le _, fun i _ h => absurd h (Nat.not_lt_zero i)⟩
    rintro k ⟨k1, k2⟩
    (refine swp_lastW ?_; simp only [go_sem, Bool.not_eq_true', Bool.not_eq_false', List.length_map])
    refine ⟨fun h5 => ?_, fun h5 => ?_⟩
    rotate_left
    · (refine cut_end [] (()) (by simp only [go_sem, Bool.not_eq_true', Bool.not_eq_false']; rfl) ?_ ?_; (focus (simp only [go_sem, Bool.not_eq_true', Bool.not_eq_false']; done)))
      exact fun i h => k2 i h (by omega)
    have hk : k < ps.length := by omega
    have hk2 : ps[k].flow.length ≤ 100 → (ps[k].flow.all fun f => nearR (recF f)) = true → ∀ i (h : i < ps.length), i < k + 1 → ps[i].flow.length ≤ 100 ∧ (ps[i].flow.all fun f => nearR (recF f)) = true := fun q1 q2 i hi h7 => by
      rcases Nat.lt_succ_iff_lt_or_eq.1 h7 with h8 | h8
      · exact k2 i hi h8
      · subst h8; exact ⟨q1, q2⟩
    clear k2
    have hn := near27_ok ps[k].flow
    repeat' first | contradiction | intro _ | refine And.intro ?_ ?_ | refine ex_get (by omega) ?_ | (show drawB _ _ = true; kernel_rfl) | (refine ret2 [] (by simp only [go_sem, Bool.not_eq_true', Bool.not_eq_false', List.length_map]; rfl) ?_; simp only [go_sem, Bool.not_eq_true', Bool.not_eq_false', List.length_map]) | (refine acall2 [] (hn (by omega)) (by simp only [go_sem, Bool.not_eq_true', Bool.not_eq_false']; rfl) (fit_of (by simp only [go_sem, Bool.not_eq_true', Bool.not_eq_false']) (by simp only [go_sem, Bool.not_eq_true', Bool.not_eq_false']) (by simp only [go_sem, Bool.not_eq_true', Bool.not_eq_false']) (by simp only [go_sem, Bool.not_eq_true', Bool.not_eq_false']) (by simp only [go_sem, Bool.not_eq_true', Bool.not_eq_false']) (by simp only [go_sem, Bool.not_eq_true', Bool.not_eq_false']) (by simp only [go_sem, Bool.not_eq_true', Bool.not_eq_false'])) ?_; simp only [go_sem, Bool.not_eq_true', Bool.not_eq_false', List.length_map]) | (refine acall2 [] (awake27_ok) (by simp only [go_sem, Bool.not_eq_true', Bool.not_eq_false']; rfl) (fit_of (by simp only [go_sem, Bool.not_eq_true', Bool.not_eq_false']) (by simp only [go_sem, Bool.not_eq_true', Bool.not_eq_false']) (by simp only [go_sem, Bool.not_eq_true', Bool.not_eq_false']) (by simp only [go_sem, Bool.not_eq_true', Bool.not_eq_false']) (by simp only [go_sem, Bool.not_eq_true', Bool.not_eq_false']) (by simp only [go_sem, Bool.not_eq_true', Bool.not_eq_false']) (by simp only [go_sem, Bool.not_eq_true', Bool.not_eq_false'])) ?_; simp only [go_sem, Bool.not_eq_true', Bool.not_eq_false', List.length_map])
    all_goals first
      | omega
      | ((refine loop_end [] (k + 1) (by simp only [go_sem, Bool.not_eq_true', Bool.not_eq_false']; rfl) ?_ ?_ ?_; (focus first | omega | (simp only; omega)); (focus (simp only [go_sem, Bool.not_eq_true', Bool.not_eq_false']; done)))
         exact ⟨hk, hk2 (by omega) (by assumption)⟩)
      | skip
  rintro - hps
  refine swp_cutS (fun _ : Unit => stP27 l ps n [(8, .sl 20 (l.map cNo))]) (fun _ => True) 60 ?_ ?_
  · (refine swp_lastW ?_; simp only [go_sem, Bool.not_eq_true', Bool.not_eq_false'])
    repeat' first | contradiction | intro _ | refine And.intro ?_ ?_ | refine ex_get (by omega) ?_ | (show drawB _ _ = true; kernel_rfl) | (refine ret2 [] (by simp only [go_sem, Bool.not_eq_true', Bool.not_eq_false', List.length_map, List.length_nil, List.nil_append]; rfl) ?_; simp only [go_sem, Bool.not_eq_true', Bool.not_eq_false', List.length_map, List.length_nil, List.nil_append])
    all_goals first
      | omega
      | ((refine cut_end [336 ] ( ()) (by simp only [go_sem, Bool.not_eq_true', Bool.not_eq_false']; rfl) ?_ ?_; (focus (simp only [go_sem, Bool.not_eq_true', Bool.not_eq_false']; done)))
         trivial)
      | skip
  rintro - -
  have hpl : ∀ p ∈ ps, p.flow.length ≤ 1000 := fun p hp => by
    obtain ⟨i, hi, rfl⟩ := List.getElem_of_mem hp
    have := (hps i hi).1
    omega
  have hon := onF_len l ps n
  refine swp_cutS (fun _ : Unit => stP27 l ps n [(8, .sl 20 (l.map cNo))]) (fun _ => True) 80 ?_ ?_
  · (refine swp_lastW ?_; simp only [go_sem, Bool.not_eq_true', Bool.not_eq_false'])
    (refine acall2 [] (on27_ok l ps n hl hw (by omega) hpl) (by simp only [go_sem, Bool.not_eq_true', Bool.not_eq_false']; rfl) (fit_of (by simp only [go_sem, Bool.not_eq_true', Bool.not_eq_false']) (by simp only [go_sem, Bool.not_eq_true', Bool.not_eq_false']) (by simp only [go_sem, Bool.not_eq_true', Bool.not_eq_false']) (by simp only [go_sem, Bool.not_eq_true', Bool.not_eq_false']) (by simp only [go_sem, Bool.not_eq_true', Bool.not_eq_false']) (by simp only [go_sem, Bool.not_eq_true', Bool.not_eq_false']) (by simp only [go_sem, Bool.not_eq_true', Bool.not_eq_false'])) ?_; simp only [go_sem, Bool.not_eq_true', Bool.not_eq_false'])
    (refine acall2 [] (ron27_ok l ps n hl hw (by omega) hpl) (by simp only [go_sem, Bool.not_eq_true', Bool.not_eq_false']; rfl) (fit_of (by simp only [go_sem, Bool.not_eq_true', Bool.not_eq_false']) (by simp only [go_sem, Bool.not_eq_true', Bool.not_eq_false']) (by simp only [go_sem, Bool.not_eq_true', Bool.not_eq_false']) (by simp only [go_sem, Bool.not_eq_true', Bool.not_eq_false']) (by simp only [go_sem, Bool.not_eq_true', Bool.not_eq_false']) (by simp only [go_sem, Bool.not_eq_true', Bool.not_eq_false']) (by simp only [go_sem, Bool.not_eq_true', Bool.not_eq_false'])) ?_; simp only [go_sem, Bool.not_eq_true', Bool.not_eq_false'])
    (refine acallF2 [504, 536 ] [] ( ints8_ok (onF l ps n) (onF l ps n) (by omega) (by omega)) (by simp only [go_sem, Bool.not_eq_true', Bool.not_eq_false']; rfl) (fit_of (by simp only [go_sem, Bool.not_eq_true', Bool.not_eq_false']) (by simp only [go_sem, Bool.not_eq_true', Bool.not_eq_false']) (by simp only [go_sem, Bool.not_eq_true', Bool.not_eq_false']) (by simp only [go_sem, Bool.not_eq_true', Bool.not_eq_false']) (by simp only [go_sem, Bool.not_eq_true', Bool.not_eq_false']) (by simp only [go_sem, Bool.not_eq_true', Bool.not_eq_false']) (by simp only [go_sem, Bool.not_eq_true', Bool.not_eq_false'])) ?_; simp only [go_sem, Bool.not_eq_true', Bool.not_eq_false', decide_true])
    (refine cut_end [] (()) (by simp only [go_sem, Bool.not_eq_true', Bool.not_eq_false']; rfl) ?_ ?_; (focus (simp only [go_sem, Bool.not_eq_true', Bool.not_eq_false']; done)))
    trivial
  rintro - -
  refine swp_cutS (fun _ : Unit => stP27 l ps n [(8, .sl 20 (l.map cNo))]) (fun _ => True) 100 ?_ ?_
  · (refine swp_seqW ?_; simp only [go_sem, Bool.not_eq_true', Bool.not_eq_false'])
    refine swp_block ?_
    refine swp_loop2 [] (fun i : Nat => stP27 l ps n [(8, .sl 20 (l.map cNo)), (9, .raw (.int .i64 i))]) (fun i => i ≤ ps.length) (fun i => ps.length - i) 100 0 (by simp only [go_sem, Bool.not_eq_true', Bool.not_eq_false']; rfl) (by simp only [go_sem, Bool.not_eq_true', Bool.not_eq_false']) ?_ ?_
    · exact Nat.zero_le _
    intro i hi
    (refine swp_seqW ?_; simp only [go_sem, Bool.not_eq_true', Bool.not_eq_false', List.length_map])
    refine ⟨fun h5 => ?_, fun h5 => ?_⟩
    rotate_left
    · (refine cut_end [] (()) (by simp only [go_sem, Bool.not_eq_true', Bool.not_eq_false']; rfl) ?_ ?_; (focus (simp only [go_sem, Bool.not_eq_true', Bool.not_eq_false']; done)))
      trivial
    have hk : i < ps.length := by omega
    obtain ⟨hf1, hf2⟩ := hps i hk
    have hf3 : ∀ f ∈ ps[i].flow, nearR (recF f) = true := List.all_eq_true.1 hf2
    have hfl := ofF_len l ps[i].flow
    generalize hfe : ps[i].flow = fl at *
    refine swp_seqS ?_
    refine swp_block ?_
    refine swp_cutS (fun _ : Unit => stP27 l ps n [(8, .sl 20 (l.map cNo)), (9, .raw (.int .i64 i)), (10, .sl 7 (fl.map cFg))]) (fun _ => True) 140 ?_ ?_
    · (refine swp_lastW ?_; simp only [go_sem, Bool.not_eq_true', Bool.not_eq_false', List.length_map])
      refine ⟨by omega, ex_get hk ?_⟩
      rw [hfe]
      repeat' first | contradiction | intro _ | refine And.intro ?_ ?_ | refine ex_get (by omega) ?_ | (show drawB _ _ = true; kernel_rfl) | (refine ret2 [] (by simp only [go_sem, Bool.not_eq_true', Bool.not_eq_false', List.length_map, List.length_nil, List.nil_append]; rfl) ?_; simp only [go_sem, Bool.not_eq_true', Bool.not_eq_false', List.length_map, List.length_nil, List.nil_append])
      all_goals first
        | omega
        | ((refine cut_end [880 ] ( ()) (by simp only [go_sem, Bool.not_eq_true', Bool.not_eq_false']; rfl) ?_ ?_; (focus (simp only [go_sem, Bool.not_eq_true', Bool.not_eq_false']; done)))
           trivial)
        | skip
    rintro - -
    refine swp_cutS (fun _ : Unit => stP27 l ps n [(8, .sl 20 (l.map cNo)), (9, .raw (.int .i64 i)), (10, .sl 7 (fl.map cFg))]) (fun _ => True) 180 ?_ ?_
    · (refine swp_lastW ?_; simp only [go_sem, Bool.not_eq_true', Bool.not_eq_false'])
      (refine acall2 [] (ofF_ok l fl hl hw hf1 hf3) (by simp only [go_sem, Bool.not_eq_true', Bool.not_eq_false']; rfl) (fit_of (by simp only [go_sem, Bool.not_eq_true', Bool.not_eq_false']) (by simp only [go_sem, Bool.not_eq_true', Bool.not_eq_false']) (by simp only [go_sem, Bool.not_eq_true', Bool.not_eq_false']) (by simp only [go_sem, Bool.not_eq_true', Bool.not_eq_false']) (by simp only [go_sem, Bool.not_eq_true', Bool.not_eq_false']) (by simp only [go_sem, Bool.not_eq_true', Bool.not_eq_false']) (by simp only [go_sem, Bool.not_eq_true', Bool.not_eq_false'])) ?_; simp only [go_sem, Bool.not_eq_true', Bool.not_eq_false'])
      refine ⟨by omega, ex_get hk ?_⟩
      rw [hfe]
      (refine acall2 [] (rofF_ok l fl hl hw hf1 hf3) (by simp only [go_sem, Bool.not_eq_true', Bool.not_eq_false']; rfl) (fit_of (by simp only [go_sem, Bool.not_eq_true', Bool.not_eq_false']) (by simp only [go_sem, Bool.not_eq_true', Bool.not_eq_false']) (by simp only [go_sem, Bool.not_eq_true', Bool.not_eq_false']) (by simp only [go_sem, Bool.not_eq_true', Bool.not_eq_false']) (by simp only [go_sem, Bool.not_eq_true', Bool.not_eq_false']) (by simp only [go_sem, Bool.not_eq_true', Bool.not_eq_false']) (by simp only [go_sem, Bool.not_eq_true', Bool.not_eq_false'])) ?_; simp only [go_sem, Bool.not_eq_true', Bool.not_eq_false'])
      (refine acallF2 [1136, 1192 ] [] ( sameP_ok (ofF l fl) (by omega)) (by simp only [go_sem, Bool.not_eq_true', Bool.not_eq_false']; rfl) (fit_of (by simp only [go_sem, Bool.not_eq_true', Bool.not_eq_false']) (by simp only [go_sem, Bool.not_eq_true', Bool.not_eq_false']) (by simp only [go_sem, Bool.not_eq_true', Bool.not_eq_false']) (by simp only [go_sem, Bool.not_eq_true', Bool.not_eq_false']) (by simp only [go_sem, Bool.not_eq_true', Bool.not_eq_false']) (by simp only [go_sem, Bool.not_eq_true', Bool.not_eq_false']) (by simp only [go_sem, Bool.not_eq_true', Bool.not_eq_false'])) ?_; simp only [go_sem, Bool.not_eq_true', Bool.not_eq_false'])
      (refine ⟨(show drawB _ _ = true by kernel_rfl), ?_⟩)
      (refine cut_end [] (()) (by simp only [go_sem, Bool.not_eq_true', Bool.not_eq_false']; rfl) ?_ ?_; (focus (simp only [go_sem, Bool.not_eq_true', Bool.not_eq_false']; done)))
      trivial
    rintro - -
    (refine swp_seqW ?_; simp only [go_sem, Bool.not_eq_true', Bool.not_eq_false'])
    refine swp_block ?_
    refine swp_loop2 [] (fun k : Nat => stP27 l ps n [(8, .sl 20 (l.map cNo)), (9, .raw (.int .i64 i)), (10, .sl 7 (fl.map cFg)), (11, .raw (.int .i64 k))]) (fun k => k ≤ fl.length) (fun k => fl.length - k) 180 0 (by simp only [go_sem, Bool.not_eq_true', Bool.not_eq_false']; rfl) (by simp only [go_sem, Bool.not_eq_true', Bool.not_eq_false']) ?_ ?_
    · exact Nat.zero_le _
    intro k hk1
    (refine swp_seqW ?_; simp only [go_sem, Bool.not_eq_true', Bool.not_eq_false', List.length_map])
    refine ⟨fun h6 => ?_, fun h6 => ?_⟩
    · have hkl : k < fl.length := by omega
      refine swp_seqS ?_
      refine swp_block ?_
      (refine swp_lastW ?_; simp only [go_sem, Bool.not_eq_true', Bool.not_eq_false', List.length_map])
      refine ⟨by omega, ex_get hkl ⟨by omega, ex_get hk ?_⟩⟩
      rw [hfe]
      refine ⟨by omega, ex_get hkl ?_⟩
      repeat' first | contradiction | intro _ | refine And.intro ?_ ?_ | refine ex_get (by omega) ?_ | (show drawB _ _ = true; kernel_rfl) | (refine ret2 [] (by simp only [go_sem, Bool.not_eq_true', Bool.not_eq_false']; rfl) ?_; simp only [go_sem, Bool.not_eq_true', Bool.not_eq_false'])
      all_goals first
        | (simp_all; done)
        | ((refine swp_lastW ?_; simp only [go_sem, Bool.not_eq_true', Bool.not_eq_false'])
           refine ⟨by omega, ?_⟩
           (refine loop_end [] (k + 1) (by simp only [go_sem, Bool.not_eq_true', Bool.not_eq_false']; rfl) ?_ ?_ ?_; (focus first | omega | (simp only; omega)); (focus (simp only [go_sem, Bool.not_eq_true', Bool.not_eq_false']; done)))
           exact hkl)
    · (refine swp_lastW ?_; simp only [go_sem, Bool.not_eq_true', Bool.not_eq_false'])
      refine ⟨by omega, ?_⟩
      (refine loop_end [] (i + 1) (by simp only [go_sem, Bool.not_eq_true', Bool.not_eq_false']; rfl) ?_ ?_ ?_; (focus first | omega | (simp only; omega)); (focus (simp only [go_sem, Bool.not_eq_true', Bool.not_eq_false']; done)))
      exact hk
  rintro - -
  (refine swp_lastW ?_; simp only [go_sem, Bool.not_eq_true', Bool.not_eq_false'])
  (refine acall2 [] (same5_ok l hl hw) (by simp only [go_sem, Bool.not_eq_true', Bool.not_eq_false']; rfl) (fit_of (by simp only [go_sem, Bool.not_eq_true', Bool.not_eq_false']) (by simp only [go_sem, Bool.not_eq_true', Bool.not_eq_false']) (by simp only [go_sem, Bool.not_eq_true', Bool.not_eq_false']) (by simp only [go_sem, Bool.not_eq_true', Bool.not_eq_false']) (by simp only [go_sem, Bool.not_eq_true', Bool.not_eq_false']) (by simp only [go_sem, Bool.not_eq_true', Bool.not_eq_false']) (by simp only [go_sem, Bool.not_eq_true', Bool.not_eq_false'])) ?_; simp only [go_sem, Bool.not_eq_true', Bool.not_eq_false'])
  (refine acall2 [] (awake27_ok) (by simp only [go_sem, Bool.not_eq_true', Bool.not_eq_false']; rfl) (fit_of (by simp only [go_sem, Bool.not_eq_true', Bool.not_eq_false']) (by simp only [go_sem, Bool.not_eq_true', Bool.not_eq_false']) (by simp only [go_sem, Bool.not_eq_true', Bool.not_eq_false']) (by simp only [go_sem, Bool.not_eq_true', Bool.not_eq_false']) (by simp only [go_sem, Bool.not_eq_true', Bool.not_eq_false']) (by simp only [go_sem, Bool.not_eq_true', Bool.not_eq_false']) (by simp only [go_sem, Bool.not_eq_true', Bool.not_eq_false'])) ?_; simp only [go_sem, Bool.not_eq_true', Bool.not_eq_false'])
end Go.Proofs.Ytjkndjpkmkbnkaa
/- CHAPTER 27: the law FragsOn. -/
/- G -/
/- BOOLS -/
set_option linter.unusedSimpArgs false
set_option linter.unusedVariables false
namespace Go.Proofs.Ytjkndjpkmkbnkaa
open Go.RowKit

/-- where a node's piece stands, or -1. -/
def whrI (n : Int) : List LPc → Nat → Int
  | [], _ => -1
  | p :: ps, k => if p.node = n then k else whrI n ps (k + 1)
theorem whrI_none {n : Int} : ∀ {ps : List LPc} {k : Nat}, (∀ p ∈ ps, p.node ≠ n) → whrI n ps k = -1
  | [], _, _ => rfl
  | p :: ps, k, h => by
    rw [whrI, if_neg (h p List.mem_cons_self)]
    exact whrI_none fun q hq => h q (List.mem_cons_of_mem _ hq)
theorem whrI_at {n : Int} : ∀ {ps : List LPc} {k j : Nat} (hj : j < ps.length), (∀ i (h : i < ps.length), i < j → ps[i].node ≠ n) → ps[j].node = n → whrI n ps k = (k + j : Nat)
  | [], _, _, hj, _, _ => absurd hj (Nat.not_lt_zero _)
  | p :: ps, k, 0, hj, _, h => by
    rw [whrI, if_pos (show p.node = n from h)]; rfl
  | p :: ps, k, j + 1, hj, h, h2 => by
    rw [whrI, if_neg (show ¬ p.node = n from h 0 (Nat.zero_lt_succ _) (Nat.zero_lt_succ _))]
    rw [whrI_at (k := k + 1) (j := j) (by simpa using hj) (fun i hi hij => h (i + 1) (by simpa using hi) (by omega)) h2]
    congr 1
    omega
theorem whrI_iff {n : Int} {ps : List LPc} : 0 ≤ whrI n ps 0 ↔ ∃ p ∈ ps, p.node = n := by
  constructor
  · intro h
    refine Decidable.byContradiction fun w => ?_
    rw [whrI_none fun p hp q => w ⟨p, hp, q⟩] at h
    omega
  · rintro ⟨p, hp, hn⟩
    have : ∀ (ps : List LPc) (k : Nat), p ∈ ps → (k : Int) ≤ whrI n ps k := by
      intro ps
      induction ps with
      | nil => intro k h; cases h
      | cons q ps ih =>
        intro k h
        rw [whrI]
        split
        · exact Int.le_refl _
        · next hq =>
          rcases List.mem_cons.1 h with rfl | h
          · exact absurd hn hq
          · have := ih (k + 1) h
            omega
    exact this ps 0 hp
set_option maxRecDepth 100000 in
set_option maxHeartbeats 4000000 in
theorem where27_ok (ps : List LPc) (n : Int) (hl : ps.length ≤ 1000) : FnOk Try.prog 25 [.sl 6 (ps.map cPc), .raw (.int .i64 n)] [] (.raw (.int .i64 (whrI n ps 0))) [] := by
  refine fn_of_awp Try.func25 rfl (by kernel_rfl) (by kernel_rfl) (Nat.le_of_ble_eq_true rfl) Try.results25 ?_
  simp only [go_sem, Bool.not_eq_true', Bool.not_eq_false']
  refine aloop2 [] (fun k : Nat => ⟨[(0, .sl 6 (ps.map cPc)), (1, .raw (.int .i64 n)), (5, .raw (.int .i64 k))], [], none⟩) (fun k => k ≤ ps.length ∧ ∀ i (h : i < ps.length), i < k → ps[i].node ≠ n) (fun k => ps.length - k) 40 0 (by simp only [go_sem, Bool.not_eq_true', Bool.not_eq_false']; rfl) (by simp only [go_sem, Bool.not_eq_true', Bool.not_eq_false']) ?_ ?_
  · exact ⟨Nat.zero_le _, fun i _ h => absurd h (Nat.not_lt_zero _)⟩
  · rintro k ⟨h1, h2⟩
    simp only [go_sem, Bool.not_eq_true', Bool.not_eq_false', List.length_map]
    refine ⟨fun h5 => ?_, fun h5 => ?_⟩
    · have hk : k < ps.length := by omega
      have hyes : ps[k].node = n → whrI n ps 0 = k := fun q => by
        have := whrI_at (k := 0) hk h2 q
        rwa [Nat.zero_add] at this
      have hno : ps[k].node ≠ n → ∀ i (h : i < ps.length), i < k + 1 → ps[i].node ≠ n := fun q i hi h7 => by
        rcases Nat.lt_succ_iff_lt_or_eq.1 h7 with h8 | h8
        · exact h2 i hi h8
        · subst h8; exact q
      clear h2
      repeat' first | contradiction | intro _ | refine And.intro ?_ ?_ | refine ex_get (by omega) ?_ | (show drawB _ _ = true; kernel_rfl) | (refine ret2 [] (by simp only [go_sem, Bool.not_eq_true', Bool.not_eq_false', List.length_map]; rfl) ?_; simp only [go_sem, Bool.not_eq_true', Bool.not_eq_false', List.length_map])
      all_goals first
        | omega
        | ((refine loop_end [] (k + 1) (by simp only [go_sem, Bool.not_eq_true', Bool.not_eq_false']; rfl) ?_ ?_ ?_; (focus first | omega | (simp only; omega)); (focus (simp only [go_sem, Bool.not_eq_true', Bool.not_eq_false']; done)))
           exact ⟨hk, hno (by assumption)⟩)
        | (exact (hyes (by assumption)).symm)
        | (exact hyes (by assumption))
        | skip
    · have e : whrI n ps 0 = -1 := whrI_none fun p hp => by
        obtain ⟨i, hi, rfl⟩ := List.getElem_of_mem hp
        exact h2 i hi (by omega)
      first | exact e | (rw [e])
/-- a document's node has a piece just if it holds a part. -/
theorem whr_of {l : List LNo} {fl : List LFg} {n : Nat} (hn : n < l.length) (hm : mayF l fl = true) : 0 ≤ whrI n (ofF l fl) 0 ↔ hldL l fl n ≠ [] := by
  rw [whrI_iff]
  unfold ofF
  rw [if_pos hm]
  unfold pcs pcN
  constructor
  · rintro ⟨p, hp, e⟩
    obtain ⟨i, hi, rfl⟩ := List.mem_map.1 hp
    have hi2 := (List.mem_filter.1 hi).2
    have e : (i : Int) = n := e
    rw [← e]
    exact of_decide_eq_true hi2
  · intro h
    exact ⟨pc l fl n, List.mem_map.2 ⟨n, List.mem_filter.2 ⟨List.mem_range'_1.2 ⟨Nat.zero_le _, by omega⟩, decide_eq_true h⟩, rfl⟩, rfl⟩
def wntB (l : List LNo) (n : Int) (p : LPg) : Bool := decide (0 ≤ whrI n (ofF l p.flow) 0)
theorem wnt_on {l : List LNo} {n : Nat} {ps : List LPg} (hn : n < l.length) (hv : isS l = true) (hh : ∀ p ∈ ps, ∀ f ∈ p.flow, hasN l f.node = true) : (ps.filter (wntB l n)).map LPg.no = onF l ps n := by
  have hm : ∀ p ∈ ps, mayF l p.flow = true := fun p hp => mayF_iff.2 ⟨hv, hh p hp⟩
  unfold onF
  rw [if_pos]
  · congr 1
    refine List.filter_congr fun p hp => ?_
    unfold wntB onB
    have := whr_of hn (hm p hp)
    by_cases q : 0 ≤ whrI n (ofF l p.flow) 0
    · rw [decide_eq_true q, decide_eq_true (this.1 q)]
    · rw [decide_eq_false q, decide_eq_false fun w => q (this.2 w)]
  · rw [List.all_eq_true]
    intro p hp
    unfold onG
    rw [hm p hp, hasN_iff.2 (by omega)]; rfl
theorem onF_no2 {l : List LNo} {ps : List LPg} {n : Int} (hv : isS l = false) : onF l ps n = [] := by
  cases ps with
  | nil => unfold onF; simp
  | cons p ps =>
    refine onF_no (k := 0) (by simp) ?_
    show onG l n p = false
    unfold onG mayF
    rw [hv]; simp
theorem len_filter_le {α : Type} {p q : α → Bool} : ∀ {l : List α}, (∀ x ∈ l, p x = true → q x = true) → (l.filter p).length ≤ (l.filter q).length
  | [], _ => Nat.le_refl _
  | x :: l, h => by
    have ih := len_filter_le (l := l) fun y hy => h y (List.mem_cons_of_mem _ hy)
    rw [List.filter_cons, List.filter_cons]
    have := h x List.mem_cons_self
    by_cases w : p x = true
    · rw [if_pos w, if_pos (this w)]
      simpa using ih
    · rw [if_neg w]
      split
      · exact Nat.le_succ_of_le ih
      · exact ih
/-- a node above one is on all its pages. -/
theorem onF_up {l : List LNo} {n : Nat} {ps : List LPg} (hn : n < l.length) (hv : isS l = true) (hh : ∀ p ∈ ps, ∀ f ∈ p.flow, hasN l f.node = true) {a : Int} (ha : parN l n = a) (h0 : 0 ≤ a) : (onF l ps n).length ≤ (onF l ps a).length := by
  have hL := isS_lam hv
  have hm : ∀ p ∈ ps, mayF l p.flow = true := fun p hp => mayF_iff.2 ⟨hv, hh p hp⟩
  have hp : (a : Int) < n ∧ (n : Int) < a + sizN l a.toNat ∧ a < l.length := by
    have : ∀ k : Nat, k ≤ n → parI l n k = a → a < n ∧ (n : Int) < a + sizN l a.toNat := by
      intro k
      induction k with
      | zero => intro _ h; simp only [parI] at h; omega
      | succ k ih =>
        intro hk h
        rw [parI] at h
        split at h
        · next w =>
          subst h
          rw [Int.toNat_natCast]
          exact ⟨by omega, w⟩
        · exact ih (by omega) h
    have hq : parI l n n = a := by
      unfold parN at ha
      rw [if_pos (hasN_iff.2 (by omega))] at ha
      simpa using ha
    have := this n (Nat.le_refl _) hq
    omega
  obtain ⟨a, rfl⟩ : ∃ k : Nat, a = k := ⟨a.toNat, by omega⟩
  rw [Int.toNat_natCast] at hp
  have hal : ∀ b : Nat, b < l.length → onF l ps b = (ps.filter (onB l b)).map LPg.no := fun b hb => by
    unfold onF
    rw [if_pos]
    rw [List.all_eq_true]
    intro p hp
    unfold onG
    rw [hm p hp, hasN_iff.2 (by omega)]; rfl
  rw [hal n hn, hal a (by omega), List.length_map, List.length_map]
  refine len_filter_le fun p hp2 h => ?_
  exact decide_eq_true (hld_sub hL hp.2.1 (by omega) (by omega) (of_decide_eq_true h))
def stO28 (l : List LNo) (ps : List LPg) (n : Int) (t : List (Nat × AV)) : AS := ⟨t ++ [(0, .sl 20 (l.map cNo)), (1, .sl 5 (ps.map cPg)), (2, .raw (.int .i64 n))], [], none⟩
def stW28 (l : List LNo) (ps : List LPg) (n : Int) (i : Nat) (t : List (Nat × AV)) : AS := ⟨t ++ [(0, .sl 20 (l.map cNo)), (1, .sl 5 (ps.map cPg)), (2, .raw (.int .i64 n)), (7, .hdr 800), (8, .raw (.int .i64 i))], [(800, some (.row 3 1 ((((ps.take i).filter (wntB l n)).map LPg.no).map cInt)))], none⟩
attribute [go_sem] stO28 stW28
structure PgOk (l : List LNo) (p : LPg) : Prop where
  len : p.flow.length ≤ 100
  near : (p.flow.all fun f => nearR (recF f)) = true
  has : ∀ f ∈ p.flow, hasN l f.node = true
set_option maxRecDepth 100000 in
set_option maxHeartbeats 8000000 in
theorem fragsOn_ok (l : List LNo) (ps : List LPg) (n : Int) (hi : l.length ≤ 9223372036854775807 ∧ ∀ x ∈ l, x.words.length ≤ 9223372036854775807) : FnOk Try.prog 7 [.sl 20 (l.map cNo), .sl 5 (ps.map cPg), .raw (.int .i64 n)] [] (.raw (.bool true)) [] := by
  obtain ⟨-, hw⟩ := hi
  refine fn_of_swp Try.func7 rfl (by kernel_rfl) (by kernel_rfl) (Nat.le_of_ble_eq_true rfl) Try.results7 ?_
  (refine swp_seqW ?_; simp only [go_sem, Bool.not_eq_true', Bool.not_eq_false'])
  refine swp_cutS (fun _ : Unit => stO28 l ps n []) (fun _ => l.length ≤ 60 ∧ ps.length ≤ 20 ∧ 0 ≤ n ∧ n < l.length) 20 ?_ ?_
  · (refine swp_lastW ?_; simp only [go_sem, Bool.not_eq_true', Bool.not_eq_false', List.length_map])
    repeat' first | contradiction | intro _ | refine And.intro ?_ ?_ | refine ex_get (by omega) ?_ | (show drawB _ _ = true; kernel_rfl) | (refine ret2 [] (by simp only [go_sem, Bool.not_eq_true', Bool.not_eq_false', List.length_map]; rfl) ?_; simp only [go_sem, Bool.not_eq_true', Bool.not_eq_false', List.length_map]) | (refine acall2 [] (awake27_ok) (by simp only [go_sem, Bool.not_eq_true', Bool.not_eq_false']; rfl) (fit_of (by simp only [go_sem, Bool.not_eq_true', Bool.not_eq_false']) (by simp only [go_sem, Bool.not_eq_true', Bool.not_eq_false']) (by simp only [go_sem, Bool.not_eq_true', Bool.not_eq_false']) (by simp only [go_sem, Bool.not_eq_true', Bool.not_eq_false']) (by simp only [go_sem, Bool.not_eq_true', Bool.not_eq_false']) (by simp only [go_sem, Bool.not_eq_true', Bool.not_eq_false']) (by simp only [go_sem, Bool.not_eq_true', Bool.not_eq_false'])) ?_; simp only [go_sem, Bool.not_eq_true', Bool.not_eq_false', List.length_map])
    all_goals first
      | ((refine cut_end [] (()) (by simp only [go_sem, Bool.not_eq_true', Bool.not_eq_false']; rfl) ?_ ?_; (focus (simp only [go_sem, Bool.not_eq_true', Bool.not_eq_false']; done)))
         omega)
      | skip
  rintro - ⟨hl6, hp2, hn0, hnl⟩
  have hl : l.length ≤ 1000 := by omega
  obtain ⟨n, rfl⟩ : ∃ a : Nat, n = a := ⟨n.toNat, by omega⟩
  have hnl : n < l.length := by omega
  (refine swp_seqW ?_; simp only [go_sem, Bool.not_eq_true', Bool.not_eq_false'])
  refine swp_cutS (fun _ : Unit => stO28 l ps n [(7, .sl 1 (((ps.filter (wntB l n)).map LPg.no).map cInt))]) (fun _ => ∀ p ∈ ps, PgOk l p) 100 ?_ ?_
  · (refine swp_seqW ?_; simp only [go_sem, Bool.not_eq_true', Bool.not_eq_false'])
    refine swp_block ?_
    refine swp_loop2 [] (fun i : Nat => stW28 l ps n i []) (fun k => k ≤ ps.length ∧ ∀ i (h : i < ps.length), i < k → PgOk l ps[i]) (fun i => ps.length - i) 120 0 (by simp only [go_sem, Bool.not_eq_true', Bool.not_eq_false']; rfl) (by simp only [go_sem, Bool.not_eq_true', Bool.not_eq_false', List.take_zero, List.filter_nil, List.map_nil]) ?_ ?_
    · exact ⟨Nat.zero_le _, fun i _ h => absurd h (Nat.not_lt_zero i)⟩
    rintro k ⟨k1, k2⟩
    (refine swp_seqW ?_; simp only [go_sem, Bool.not_eq_true', Bool.not_eq_false', List.length_map])
    refine ⟨fun h5 => ?_, fun h5 => ?_⟩
    rotate_left
    · obtain rfl : k = ps.length := by omega
      rw [List.take_length]
      (refine cut_end [800 ] ( ()) (by simp only [go_sem, Bool.not_eq_true', Bool.not_eq_false']; rfl) ?_ ?_; (focus (simp only [go_sem, Bool.not_eq_true', Bool.not_eq_false']; done)))
      intro p hp
      obtain ⟨i, hi, rfl⟩ := List.getElem_of_mem hp
      exact k2 i hi hi
    have hk : k < ps.length := by omega
    have eT : (ps.take (k + 1)).filter (wntB l n) = (ps.take k).filter (wntB l n) ++ if wntB l n ps[k] = true then [ps[k]] else [] := by
      rw [List.take_succ_eq_append_getElem hk, List.filter_append]
      congr 1
      split
      · next q => rw [List.filter_cons_of_pos q]; rfl
      · next q => rw [List.filter_cons_of_neg q]; rfl
    have e1 : 0 ≤ whrI n (ofF l ps[k].flow) 0 → ((ps.take (k + 1)).filter (wntB l n)).map LPg.no = ((ps.take k).filter (wntB l n)).map LPg.no ++ [ps[k].no] := fun q => by
      rw [eT, if_pos (by unfold wntB; exact decide_eq_true q), List.map_append]; rfl
    have e2 : ¬ 0 ≤ whrI n (ofF l ps[k].flow) 0 → ((ps.take (k + 1)).filter (wntB l n)).map LPg.no = ((ps.take k).filter (wntB l n)).map LPg.no := fun q => by
      rw [eT, if_neg (by unfold wntB; rw [decide_eq_false q]; decide), List.append_nil]
    have hol : (((ps.take k).filter (wntB l n)).map LPg.no).length ≤ k := by
      rw [List.length_map]
      have q1 := List.length_filter_le (wntB l n) (ps.take k)
      rw [List.length_take] at q1
      omega
    have hk2 : PgOk l ps[k] → ∀ i (h : i < ps.length), i < k + 1 → PgOk l ps[i] := fun q i hi h7 => by
      rcases Nat.lt_succ_iff_lt_or_eq.1 h7 with h8 | h8
      · exact k2 i hi h8
      · subst h8; exact q
    clear k2 eT
    have hfl := ofF_len l ps[k].flow
    generalize hW : ((ps.take k).filter (wntB l n)).map LPg.no = w at *
    refine swp_seqS ?_
    refine swp_block ?_
    refine swp_cutS (fun _ : Unit => ⟨[(0, .sl 20 (l.map cNo)), (1, .sl 5 (ps.map cPg)), (2, .raw (.int .i64 n)), (7, .hdr 800), (8, .raw (.int .i64 k))], [(800, some (.row 3 1 (w.map cInt)))], none⟩) (fun _ => ps[k].flow.length ≤ 100 ∧ (ps[k].flow.all fun f => nearR (recF f)) = true) 160 ?_ ?_
    · have hn := near27_ok ps[k].flow
      (refine swp_lastW ?_; simp only [go_sem, Bool.not_eq_true', Bool.not_eq_false', List.length_map])
      repeat' first | contradiction | intro _ | refine And.intro ?_ ?_ | refine ex_get (by omega) ?_ | (show drawB _ _ = true; kernel_rfl) | (refine ret2 [] (by simp only [go_sem, Bool.not_eq_true', Bool.not_eq_false', List.length_map]; rfl) ?_; simp only [go_sem, Bool.not_eq_true', Bool.not_eq_false', List.length_map]) | (refine acall2 [] (hn (by omega)) (by simp only [go_sem, Bool.not_eq_true', Bool.not_eq_false']; rfl) (fit_of (by simp only [go_sem, Bool.not_eq_true', Bool.not_eq_false']) (by simp only [go_sem, Bool.not_eq_true', Bool.not_eq_false']) (by simp only [go_sem, Bool.not_eq_true', Bool.not_eq_false']) (by simp only [go_sem, Bool.not_eq_true', Bool.not_eq_false']) (by simp only [go_sem, Bool.not_eq_true', Bool.not_eq_false']) (by simp only [go_sem, Bool.not_eq_true', Bool.not_eq_false']) (by simp only [go_sem, Bool.not_eq_true', Bool.not_eq_false'])) ?_; simp only [go_sem, Bool.not_eq_true', Bool.not_eq_false', List.length_map]) | (refine acall2 [] (awake27_ok) (by simp only [go_sem, Bool.not_eq_true', Bool.not_eq_false']; rfl) (fit_of (by simp only [go_sem, Bool.not_eq_true', Bool.not_eq_false']) (by simp only [go_sem, Bool.not_eq_true', Bool.not_eq_false']) (by simp only [go_sem, Bool.not_eq_true', Bool.not_eq_false']) (by simp only [go_sem, Bool.not_eq_true', Bool.not_eq_false']) (by simp only [go_sem, Bool.not_eq_true', Bool.not_eq_false']) (by simp only [go_sem, Bool.not_eq_true', Bool.not_eq_false']) (by simp only [go_sem, Bool.not_eq_true', Bool.not_eq_false'])) ?_; simp only [go_sem, Bool.not_eq_true', Bool.not_eq_false', List.length_map])
      all_goals first
        | omega
        | ((refine cut_end [] (()) (by simp only [go_sem, Bool.not_eq_true', Bool.not_eq_false']; rfl) ?_ ?_; (focus (simp only [go_sem, Bool.not_eq_true', Bool.not_eq_false']; done)))
           exact ⟨by omega, by assumption⟩)
        | skip
    rintro - ⟨hf1, hf2⟩
    have hf3 : ∀ f ∈ ps[k].flow, nearR (recF f) = true := List.all_eq_true.1 hf2
    have hof := ofF_ok l ps[k].flow hl hw hf1 hf3
    have hno3 := ps[k].no
    generalize hfe : ps[k].flow = fl at *
    refine swp_cutS (fun _ : Unit => ⟨[(0, .sl 20 (l.map cNo)), (1, .sl 5 (ps.map cPg)), (2, .raw (.int .i64 n)), (7, .hdr 800), (8, .raw (.int .i64 k))], [(800, some (.row 3 1 (w.map cInt)))], none⟩) (fun _ => ∀ f ∈ fl, hasN l f.node = true) 200 ?_ ?_
    · (refine swp_seqW ?_; simp only [go_sem, Bool.not_eq_true', Bool.not_eq_false'])
      refine swp_block ?_
      refine swp_loop2 [] (fun j : Nat => ⟨[(0, .sl 20 (l.map cNo)), (1, .sl 5 (ps.map cPg)), (2, .raw (.int .i64 n)), (7, .hdr 800), (8, .raw (.int .i64 k)), (9, .raw (.int .i64 j))], [(800, some (.row 3 1 (w.map cInt)))], none⟩) (fun j => j ≤ fl.length ∧ ∀ i (h : i < fl.length), i < j → hasN l fl[i].node = true) (fun j => fl.length - j) 200 0 (by simp only [go_sem, Bool.not_eq_true', Bool.not_eq_false']; rfl) (by simp only [go_sem, Bool.not_eq_true', Bool.not_eq_false']) ?_ ?_
      · exact ⟨Nat.zero_le _, fun i _ h => absurd h (Nat.not_lt_zero i)⟩
      rintro j ⟨j1, j2⟩
      (refine swp_lastW ?_; simp only [go_sem, Bool.not_eq_true', Bool.not_eq_false', List.length_map])
      refine ⟨by omega, ex_get hk ?_⟩
      rw [hfe]
      refine ⟨fun h6 => ?_, fun h6 => ?_⟩
      rotate_left
      · (refine cut_end [] (()) (by simp only [go_sem, Bool.not_eq_true', Bool.not_eq_false']; rfl) ?_ ?_; (focus (simp only [go_sem, Bool.not_eq_true', Bool.not_eq_false']; done)))
        intro f hf
        obtain ⟨i, hi, rfl⟩ := List.getElem_of_mem hf
        exact j2 i hi (by omega)
      have hj : j < fl.length := by omega
      have hj2 : (0 ≤ fl[j].node ∧ fl[j].node < l.length) → ∀ i (h : i < fl.length), i < j + 1 → hasN l fl[i].node = true := fun q i hi h7 => by
        rcases Nat.lt_succ_iff_lt_or_eq.1 h7 with h8 | h8
        · exact j2 i hi h8
        · subst h8; exact hasN_iff.2 q
      clear j2
      refine ⟨by omega, ex_get hk ?_⟩
      rw [hfe]
      refine ⟨by omega, ex_get hj ?_⟩
      repeat' first | contradiction | intro _ | refine And.intro ?_ ?_ | refine ex_get (by omega) ?_ | (show drawB _ _ = true; kernel_rfl) | (refine ret2 [] (by simp only [go_sem, Bool.not_eq_true', Bool.not_eq_false', List.length_map]; rfl) ?_; simp only [go_sem, Bool.not_eq_true', Bool.not_eq_false', List.length_map]) | (refine acall2 [] (awake27_ok) (by simp only [go_sem, Bool.not_eq_true', Bool.not_eq_false']; rfl) (fit_of (by simp only [go_sem, Bool.not_eq_true', Bool.not_eq_false']) (by simp only [go_sem, Bool.not_eq_true', Bool.not_eq_false']) (by simp only [go_sem, Bool.not_eq_true', Bool.not_eq_false']) (by simp only [go_sem, Bool.not_eq_true', Bool.not_eq_false']) (by simp only [go_sem, Bool.not_eq_true', Bool.not_eq_false']) (by simp only [go_sem, Bool.not_eq_true', Bool.not_eq_false']) (by simp only [go_sem, Bool.not_eq_true', Bool.not_eq_false'])) ?_; simp only [go_sem, Bool.not_eq_true', Bool.not_eq_false', List.length_map])
      all_goals first
        | omega
        | ((refine loop_end [] (j + 1) (by simp only [go_sem, Bool.not_eq_true', Bool.not_eq_false']; rfl) ?_ ?_ ?_; (focus first | omega | (simp only; omega)); (focus (simp only [go_sem, Bool.not_eq_true', Bool.not_eq_false']; done)))
           exact ⟨hj, hj2 (by omega)⟩)
        | skip
    rintro - hfh
    have hpk : PgOk l ps[k] := by rw [← hfe] at hf1 hf2 hfh; exact ⟨hf1, hf2, hfh⟩
    have hk2' := hk2 hpk
    clear hk2 hpk
    (refine swp_lastW ?_; simp only [go_sem, Bool.not_eq_true', Bool.not_eq_false', List.length_map])
    refine ⟨by omega, ex_get hk ?_⟩
    rw [hfe]
    (refine acall2 [] (hof) (by simp only [go_sem, Bool.not_eq_true', Bool.not_eq_false']; rfl) (fit_of (by simp only [go_sem, Bool.not_eq_true', Bool.not_eq_false']) (by simp only [go_sem, Bool.not_eq_true', Bool.not_eq_false']) (by simp only [go_sem, Bool.not_eq_true', Bool.not_eq_false']) (by simp only [go_sem, Bool.not_eq_true', Bool.not_eq_false']) (by simp only [go_sem, Bool.not_eq_true', Bool.not_eq_false']) (by simp only [go_sem, Bool.not_eq_true', Bool.not_eq_false']) (by simp only [go_sem, Bool.not_eq_true', Bool.not_eq_false'])) ?_; simp only [go_sem, Bool.not_eq_true', Bool.not_eq_false'])
    (refine acallF2 [1648 ] [] ( where27_ok (ofF l fl) n (by omega)) (by simp only [go_sem, Bool.not_eq_true', Bool.not_eq_false']; rfl) (fit_of (by simp only [go_sem, Bool.not_eq_true', Bool.not_eq_false']) (by simp only [go_sem, Bool.not_eq_true', Bool.not_eq_false']) (by simp only [go_sem, Bool.not_eq_true', Bool.not_eq_false']) (by simp only [go_sem, Bool.not_eq_true', Bool.not_eq_false']) (by simp only [go_sem, Bool.not_eq_true', Bool.not_eq_false']) (by simp only [go_sem, Bool.not_eq_true', Bool.not_eq_false']) (by simp only [go_sem, Bool.not_eq_true', Bool.not_eq_false'])) ?_; simp only [go_sem, Bool.not_eq_true', Bool.not_eq_false'])
    repeat' first | contradiction | intro _ | refine And.intro ?_ ?_ | refine ex_get (by omega) ?_ | (show drawB _ _ = true; kernel_rfl) | (refine ret2 [] (by simp only [go_sem, Bool.not_eq_true', Bool.not_eq_false', List.length_map]; rfl) ?_; simp only [go_sem, Bool.not_eq_true', Bool.not_eq_false', List.length_map])
    all_goals first
      | omega
      | (have e := e1 (by assumption)
         (refine swp_lastW ?_; simp only [go_sem, Bool.not_eq_true', Bool.not_eq_false'])
         refine ⟨by omega, ?_⟩
         (refine loop_end [] (k + 1) (by simp only [go_sem, Bool.not_eq_true', Bool.not_eq_false']; rfl) ?_ ?_ ?_; (focus first | omega | (simp only; omega)); (focus (simp only [go_sem, Bool.not_eq_true', Bool.not_eq_false', e, List.map_append, List.map_cons, List.map_nil]; done)))
         exact ⟨hk, hk2'⟩)
      | (have e := e2 (by assumption)
         (refine swp_lastW ?_; simp only [go_sem, Bool.not_eq_true', Bool.not_eq_false'])
         refine ⟨by omega, ?_⟩
         (refine loop_end [] (k + 1) (by simp only [go_sem, Bool.not_eq_true', Bool.not_eq_false']; rfl) ?_ ?_ ?_; (focus first | omega | (simp only; omega)); (focus (simp only [go_sem, Bool.not_eq_true', Bool.not_eq_false', e]; done)))
         exact ⟨hk, hk2'⟩)
      | skip
  rintro - hps
  have hpl : ∀ p ∈ ps, p.flow.length ≤ 1000 := fun p hp => by
    have := (hps p hp).len
    omega
  have hon := onF_len l ps n
  have hwn := wnt_on (l := l) (n := n) (ps := ps) hnl
  have hup := onF_up (l := l) (n := n) (ps := ps) hnl
  refine swp_cutS (fun _ : Unit => stO28 l ps n [(7, .sl 1 (((ps.filter (wntB l n)).map LPg.no).map cInt)), (11, .sl 1 ((onF l ps n).map cInt))]) (fun _ => True) 140 ?_ ?_
  · (refine swp_lastW ?_; simp only [go_sem, Bool.not_eq_true', Bool.not_eq_false'])
    (refine acall2 [] (on27_ok l ps n hl hw (by omega) hpl) (by simp only [go_sem, Bool.not_eq_true', Bool.not_eq_false']; rfl) (fit_of (by simp only [go_sem, Bool.not_eq_true', Bool.not_eq_false']) (by simp only [go_sem, Bool.not_eq_true', Bool.not_eq_false']) (by simp only [go_sem, Bool.not_eq_true', Bool.not_eq_false']) (by simp only [go_sem, Bool.not_eq_true', Bool.not_eq_false']) (by simp only [go_sem, Bool.not_eq_true', Bool.not_eq_false']) (by simp only [go_sem, Bool.not_eq_true', Bool.not_eq_false']) (by simp only [go_sem, Bool.not_eq_true', Bool.not_eq_false'])) ?_; simp only [go_sem, Bool.not_eq_true', Bool.not_eq_false'])
    (refine cut_end [824 ] ( ()) (by simp only [go_sem, Bool.not_eq_true', Bool.not_eq_false']; rfl) ?_ ?_; (focus (simp only [go_sem, Bool.not_eq_true', Bool.not_eq_false']; done)))
    trivial
  rintro - -
  (refine swp_seqW ?_; simp only [go_sem, Bool.not_eq_true', Bool.not_eq_false'])
  (refine acall2 [] (is6_ok l hl hw) (by simp only [go_sem, Bool.not_eq_true', Bool.not_eq_false']; rfl) (fit_of (by simp only [go_sem, Bool.not_eq_true', Bool.not_eq_false']) (by simp only [go_sem, Bool.not_eq_true', Bool.not_eq_false']) (by simp only [go_sem, Bool.not_eq_true', Bool.not_eq_false']) (by simp only [go_sem, Bool.not_eq_true', Bool.not_eq_false']) (by simp only [go_sem, Bool.not_eq_true', Bool.not_eq_false']) (by simp only [go_sem, Bool.not_eq_true', Bool.not_eq_false']) (by simp only [go_sem, Bool.not_eq_true', Bool.not_eq_false'])) ?_; simp only [go_sem, Bool.not_eq_true', Bool.not_eq_false'])
  rcases hv : isS l with _ | _
  · rw [onF_no2 hv]
    simp only [go_sem, Bool.not_eq_true', Bool.not_eq_false', List.map_nil, List.length_nil]
    repeat' first | contradiction | intro _ | refine And.intro ?_ ?_ | refine ex_get (by omega) ?_ | (show drawB _ _ = true; kernel_rfl) | (refine ret2 [] (by simp only [go_sem, Bool.not_eq_true', Bool.not_eq_false', List.map_nil, List.length_nil]; rfl) ?_; simp only [go_sem, Bool.not_eq_true', Bool.not_eq_false', List.map_nil, List.length_nil]) | (refine acall2 [] (awake27_ok) (by simp only [go_sem, Bool.not_eq_true', Bool.not_eq_false']; rfl) (fit_of (by simp only [go_sem, Bool.not_eq_true', Bool.not_eq_false']) (by simp only [go_sem, Bool.not_eq_true', Bool.not_eq_false']) (by simp only [go_sem, Bool.not_eq_true', Bool.not_eq_false']) (by simp only [go_sem, Bool.not_eq_true', Bool.not_eq_false']) (by simp only [go_sem, Bool.not_eq_true', Bool.not_eq_false']) (by simp only [go_sem, Bool.not_eq_true', Bool.not_eq_false']) (by simp only [go_sem, Bool.not_eq_true', Bool.not_eq_false'])) ?_; simp only [go_sem, Bool.not_eq_true', Bool.not_eq_false', List.map_nil, List.length_nil])
    all_goals skip
  have hwn' := hwn hv fun p hp => (hps p hp).has
  rw [hwn']
  simp only [go_sem, Bool.not_eq_true', Bool.not_eq_false', List.length_map]
  generalize hO : onF l ps n = on at *
  (refine swp_seqW ?_; simp only [go_sem, Bool.not_eq_true', Bool.not_eq_false', List.length_map])
  refine swp_cutS (fun _ : Unit => stO28 l ps n [(11, .sl 1 (on.map cInt))]) (fun _ => True) 200 ?_ ?_
  · (refine swp_seqW ?_; simp only [go_sem, Bool.not_eq_true', Bool.not_eq_false'])
    refine swp_block ?_
    refine swp_loop2 [] (fun i : Nat => stO28 l ps n [(7, .sl 1 (on.map cInt)), (11, .sl 1 (on.map cInt)), (12, .raw (.int .i64 i))]) (fun i => i ≤ on.length) (fun i => on.length - i) 200 0 (by simp only [go_sem, Bool.not_eq_true', Bool.not_eq_false']; rfl) (by simp only [go_sem, Bool.not_eq_true', Bool.not_eq_false']) ?_ ?_
    · exact Nat.zero_le _
    intro i hi
    (refine swp_lastW ?_; simp only [go_sem, Bool.not_eq_true', Bool.not_eq_false', List.length_map])
    refine ⟨fun h5 => ?_, fun h5 => ?_⟩
    rotate_left
    · (refine cut_end [] (()) (by simp only [go_sem, Bool.not_eq_true', Bool.not_eq_false']; rfl) ?_ ?_; (focus (simp only [go_sem, Bool.not_eq_true', Bool.not_eq_false']; done)))
      trivial
    have hk : i < on.length := by omega
    repeat' first | contradiction | intro _ | refine And.intro ?_ ?_ | refine ex_get (by omega) ?_ | (show drawB _ _ = true; kernel_rfl) | (refine ret2 [] (by simp only [go_sem, Bool.not_eq_true', Bool.not_eq_false', List.length_map]; rfl) ?_; simp only [go_sem, Bool.not_eq_true', Bool.not_eq_false', List.length_map])
    all_goals first
      | omega
      | ((refine loop_end [] (i + 1) (by simp only [go_sem, Bool.not_eq_true', Bool.not_eq_false']; rfl) ?_ ?_ ?_; (focus first | omega | (simp only; omega)); (focus (simp only [go_sem, Bool.not_eq_true', Bool.not_eq_false']; done)))
         exact hk)
      | (simp_all; done)
      | skip
  rintro - -
  (refine swp_seqW ?_; simp only [go_sem, Bool.not_eq_true', Bool.not_eq_false'])
  (refine acall2 [] (parent8_ok l n hl hw) (by simp only [go_sem, Bool.not_eq_true', Bool.not_eq_false']; rfl) (fit_of (by simp only [go_sem, Bool.not_eq_true', Bool.not_eq_false']) (by simp only [go_sem, Bool.not_eq_true', Bool.not_eq_false']) (by simp only [go_sem, Bool.not_eq_true', Bool.not_eq_false']) (by simp only [go_sem, Bool.not_eq_true', Bool.not_eq_false']) (by simp only [go_sem, Bool.not_eq_true', Bool.not_eq_false']) (by simp only [go_sem, Bool.not_eq_true', Bool.not_eq_false']) (by simp only [go_sem, Bool.not_eq_true', Bool.not_eq_false'])) ?_; simp only [go_sem, Bool.not_eq_true', Bool.not_eq_false'])
  have hdn : docN l = l := by unfold docN; rw [if_pos hv]
  rw [hdn]
  have hup2 : 0 ≤ parN l n → on.length ≤ (onF l ps (parN l n)).length := fun q => hup hv (fun p hp => (hps p hp).has) rfl q
  clear hup hwn hwn' hO
  generalize parN l n = a at *
  have hol := onF_len l ps a
  (refine swp_lastW ?_; simp only [go_sem, Bool.not_eq_true', Bool.not_eq_false', List.length_map])
  repeat' first | contradiction | intro _ | refine And.intro ?_ ?_ | refine ex_get (by omega) ?_ | (show drawB _ _ = true; kernel_rfl) | (refine ret2 [] (by simp only [go_sem, Bool.not_eq_true', Bool.not_eq_false', List.length_map]; rfl) ?_; simp only [go_sem, Bool.not_eq_true', Bool.not_eq_false', List.length_map]) | (refine acall2 [] (on27_ok l ps a hl hw (by omega) hpl) (by simp only [go_sem, Bool.not_eq_true', Bool.not_eq_false']; rfl) (fit_of (by simp only [go_sem, Bool.not_eq_true', Bool.not_eq_false']) (by simp only [go_sem, Bool.not_eq_true', Bool.not_eq_false']) (by simp only [go_sem, Bool.not_eq_true', Bool.not_eq_false']) (by simp only [go_sem, Bool.not_eq_true', Bool.not_eq_false']) (by simp only [go_sem, Bool.not_eq_true', Bool.not_eq_false']) (by simp only [go_sem, Bool.not_eq_true', Bool.not_eq_false']) (by simp only [go_sem, Bool.not_eq_true', Bool.not_eq_false'])) ?_; simp only [go_sem, Bool.not_eq_true', Bool.not_eq_false', List.length_map]) | (refine acall2 [] (awake27_ok) (by simp only [go_sem, Bool.not_eq_true', Bool.not_eq_false']; rfl) (fit_of (by simp only [go_sem, Bool.not_eq_true', Bool.not_eq_false']) (by simp only [go_sem, Bool.not_eq_true', Bool.not_eq_false']) (by simp only [go_sem, Bool.not_eq_true', Bool.not_eq_false']) (by simp only [go_sem, Bool.not_eq_true', Bool.not_eq_false']) (by simp only [go_sem, Bool.not_eq_true', Bool.not_eq_false']) (by simp only [go_sem, Bool.not_eq_true', Bool.not_eq_false']) (by simp only [go_sem, Bool.not_eq_true', Bool.not_eq_false'])) ?_; simp only [go_sem, Bool.not_eq_true', Bool.not_eq_false', List.length_map])
  all_goals first
    | omega
    | skip
end Go.Proofs.Ytjkndjpkmkbnkaa
