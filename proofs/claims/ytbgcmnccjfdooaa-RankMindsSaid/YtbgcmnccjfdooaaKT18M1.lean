/- CONTRACTS of the functions, and plain laws, joined out of: GScrA GScrB GScrC NodO GValA GValB GValC GTreA GTreB GTreC GTreD GTreE GTreF GTreG GTreH GTreI GTreJ GTreK GTreL GTreM GTreN GTreO GTreP GKinA GKinB GTreT GKinC GKinD. -/
import Derived.Test.YtbgcmnccjfdooaaKE3
/- THE SCRIPT'S READER: tokens (of plain letters, without remarks). -/
/- G -/
/- BOOLS -/
set_option linter.unusedSimpArgs false
set_option linter.unusedVariables false
namespace Go.Proofs.Ytbgcmnccjfdooaa
open Go.RowKit

def ascii (s : ByteArray) : Prop := ∀ q : Nat, q < s.size → byteAt s q ≤ 127
theorem byteAt_ge (s : ByteArray) (q : Nat) : 0 ≤ byteAt s q := by unfold byteAt; omega
def inB (s : ByteArray) (k : Nat) (a b : Int) : Bool := decide (k < s.size ∧ a ≤ byteAt s k ∧ byteAt s k ≤ b)
set_option maxRecDepth 100000 in
theorem in4_ok (s : ByteArray) (k : Nat) (a b : Int) : FnOk Try.prog 112 [.raw (.string s), .raw (.int .i64 k), .raw (.int .u8 a), .raw (.int .u8 b)] [] (.raw (.bool (inB s k a b))) [] := by
  refine fn_of_awp Try.func112 rfl (by kernel_rfl) (by kernel_rfl) (Nat.le_of_ble_eq_true rfl) Try.results112 ?_
  simp only [go_sem, Bool.not_eq_true', Bool.not_eq_false']
  repeat' first | contradiction | intro _ | refine And.intro ?_ ?_ | refine ex_get (by omega) ?_ | (show drawB _ _ = true; kernel_rfl) | (refine ret2 [] (by simp only [go_sem, Bool.not_eq_true', Bool.not_eq_false']; rfl) ?_; simp only [go_sem, Bool.not_eq_true', Bool.not_eq_false'])
  all_goals first
    | omega
    | (unfold inB; refine decide_eq_decide.2 ?_; omega)
    | (unfold inB; refine (decide_eq_false ?_); omega)
    | (unfold inB; refine (decide_eq_false ?_).symm; omega)
    | skip
set_option maxRecDepth 100000 in
theorem size4_ok (s : ByteArray) (k : Nat) (ha : ascii s) (hk : k < s.size) : FnOk Try.prog 111 [.raw (.string s), .raw (.int .i64 k)] [] (.raw (.int .i64 1)) [] := by
  refine fn_of_swp Try.func111 rfl (by kernel_rfl) (by kernel_rfl) (Nat.le_of_ble_eq_true rfl) Try.results111 ?_
  have e : inB s k 0 127 = true := by
    unfold inB
    have := byteAt_ge s k
    have := ha k hk
    exact decide_eq_true ⟨hk, by omega, by omega⟩
  (refine swp_seqW ?_; simp only [go_sem, Bool.not_eq_true', Bool.not_eq_false'])
  (refine swp_seqW ?_; simp only [go_sem, Bool.not_eq_true', Bool.not_eq_false'])
  (refine acall2 [] (in4_ok s k 0 127) (by simp only [go_sem, Bool.not_eq_true', Bool.not_eq_false']; rfl) (fit_of (by simp only [go_sem, Bool.not_eq_true', Bool.not_eq_false']) (by simp only [go_sem, Bool.not_eq_true', Bool.not_eq_false']) (by simp only [go_sem, Bool.not_eq_true', Bool.not_eq_false']) (by simp only [go_sem, Bool.not_eq_true', Bool.not_eq_false']) (by simp only [go_sem, Bool.not_eq_true', Bool.not_eq_false']) (by simp only [go_sem, Bool.not_eq_true', Bool.not_eq_false']) (by simp only [go_sem, Bool.not_eq_true', Bool.not_eq_false'])) ?_; simp only [go_sem, Bool.not_eq_true', Bool.not_eq_false', e])
set_option maxRecDepth 100000 in
theorem rune4_ok (s : ByteArray) (k : Nat) (ha : ascii s) (hk : k < s.size) : FnOk Try.prog 113 [.raw (.string s), .raw (.int .i64 k), .raw (.int .i64 1)] [] (.raw (.int .i32 (byteAt s k))) [] := by
  refine fn_of_swp Try.func113 rfl (by kernel_rfl) (by kernel_rfl) (Nat.le_of_ble_eq_true rfl) Try.results113 ?_
  have h1 := byteAt_ge s k
  have h2 := ha k hk
  have e : IntKind.i32.wrap (byteAt s k) = byteAt s k := IntWalk.i32_in _ ⟨by omega, by omega⟩
  (refine swp_seqW ?_; simp only [go_sem, Bool.not_eq_true', Bool.not_eq_false'])
  (refine swp_seqW ?_; simp only [go_sem, Bool.not_eq_true', Bool.not_eq_false', Int.reduceToNat, Int.reduceLT, Int.reduceLE, Int.reduceEq, Int.reduceAdd, Int.reduceSub, Int.reduceMul, Int.reduceNeg, Int.reduceNe, decide_false, Int.cast_ofNat_Int, kSet, List.getElem?_cons_succ, List.getElem?_cons_zero, List.set_cons_succ, List.set_cons_zero, exists_eq_left', forall_const, true_implies])
  exact ⟨by omega, e.symm⟩
structure LTk where
  kind : Int
  sign : Int
  n : Int
  at_ : Int
deriving DecidableEq
def cTk (x : LTk) : List PV := [.raw (.int .i64 x.kind), .raw (.int .i32 x.sign), .raw (.int .i64 x.n), .raw (.int .i64 x.at_)]
attribute [go_sem] cTk
/-- digits from a place on. -/
def numS (s : ByteArray) : Nat → Nat → Int → Nat × Int
  | 0, e, n => (e, n)
  | f + 1, e, n => if inB s e 48 57 = true then numS s f (e + 1) (min (10 * n + (byteAt s e - 48)) 2199023255552) else (e, n)
def tokS (s : ByteArray) : Nat → Nat → Option (List LTk)
  | 0, _ => none
  | f + 1, k => if k < s.size then
      (if byteAt s k = 35 then none
       else if byteAt s k = 32 ∨ byteAt s k = 9 ∨ byteAt s k = 10 then tokS s f (k + 1)
       else if inB s k 48 57 = true then
         (let q := numS s (s.size - k) k 0
          if 1099511627776 < q.2 ∨ byteAt s k = 48 ∧ k + 1 < q.1 then none
          else match tokS s f q.1 with
            | some r => some (⟨2, 0, q.2, k⟩ :: r)
            | none => none)
       else match tokS s f (k + 1) with
         | some r => some (⟨1, byteAt s k, 0, k⟩ :: r)
         | none => none)
    else some []
theorem numS_end (s : ByteArray) : ∀ (f e : Nat) (n : Int), e + f = s.size → (numS s f e n).1 ≤ s.size ∧ e ≤ (numS s f e n).1
  | 0, e, n, h => ⟨by simp only [numS]; omega, by simp only [numS]; omega⟩
  | f + 1, e, n, h => by
    simp only [numS]
    split
    · have := numS_end s f (e + 1) (min (10 * n + (byteAt s e - 48)) 2199023255552) (by omega)
      omega
    · simp only; omega
structure LTz where
  k : Nat
  acc : List LTk
structure TokInv (s : ByteArray) (toks : List LTk) (z : LTz) : Prop where
  le : z.k ≤ s.size
  len : z.acc.length ≤ z.k
  ex : ∃ f rest, tokS s f z.k = some rest ∧ z.acc ++ rest = toks
inductive TokWay (s : ByteArray) (toks acc : List LTk) (k : Nat) : Prop
  | space (h : byteAt s k = 32 ∨ byteAt s k = 9 ∨ byteAt s k = 10) (hi : TokInv s toks ⟨k + 1, acc⟩)
  | sign (h : ¬ (byteAt s k = 32 ∨ byteAt s k = 9 ∨ byteAt s k = 10)) (hd : inB s k 48 57 = false) (hi : TokInv s toks ⟨k + 1, acc ++ [⟨1, byteAt s k, 0, k⟩]⟩)
  | num (h : ¬ (byteAt s k = 32 ∨ byteAt s k = 9 ∨ byteAt s k = 10)) (hd : inB s k 48 57 = true) (hn : ¬ (1099511627776 < (numS s (s.size - k) k 0).2 ∨ byteAt s k = 48 ∧ k + 1 < (numS s (s.size - k) k 0).1)) (hg : k < (numS s (s.size - k) k 0).1) (hi : TokInv s toks ⟨(numS s (s.size - k) k 0).1, acc ++ [⟨2, 0, (numS s (s.size - k) k 0).2, k⟩]⟩)
theorem numS_fwd (s : ByteArray) {f e : Nat} {n : Int} (h : e + f = s.size) (hd : inB s e 48 57 = true) : e < (numS s f e n).1 := by
  cases f with
  | zero =>
    have : e < s.size := (of_decide_eq_true hd).1
    omega
  | succ f =>
    simp only [numS]
    rw [if_pos hd]
    have := numS_end s f (e + 1) (min (10 * n + (byteAt s e - 48)) 2199023255552) (by omega)
    omega
theorem tok_way {s : ByteArray} {toks acc : List LTk} {k : Nat} (hk : k < s.size) (h : TokInv s toks ⟨k, acc⟩) : byteAt s k ≠ 35 ∧ TokWay s toks acc k := by
  obtain ⟨h1, h2, f, rest, h3, h4⟩ := h
  simp only at h1 h2 h3 h4
  cases f with
  | zero => simp [tokS] at h3
  | succ f =>
    simp only [tokS] at h3
    rw [if_pos hk] at h3
    split at h3
    · cases h3
    · next h35 =>
      refine ⟨h35, ?_⟩
      split at h3
      · next hs => exact .space hs ⟨hk, by simp only; omega, f, rest, h3, h4⟩
      · next hs =>
        split at h3
        · next hd =>
          split at h3
          · cases h3
          · next hn =>
            have hfw := numS_fwd s (f := s.size - k) (n := 0) (by omega) hd
            have hen := numS_end s (s.size - k) k 0 (by omega)
            split at h3
            · next r hr =>
              injection h3 with h3
              subst h3
              exact .num hs hd hn hfw ⟨hen.1, by simp; omega, f, r, hr, by rw [← h4]; simp⟩
            · cases h3
        · next hd =>
          split at h3
          · next r hr =>
            injection h3 with h3
            subst h3
            exact .sign hs (by simpa using hd) ⟨hk, by simp; omega, f, r, hr, by rw [← h4]; simp⟩
          · cases h3
theorem tok_end {s : ByteArray} {toks acc : List LTk} {k : Nat} (hk : ¬ k < s.size) (h : TokInv s toks ⟨k, acc⟩) : acc = toks := by
  obtain ⟨h1, h2, f, rest, h3, h4⟩ := h
  simp only at h3 h4
  cases f with
  | zero => simp [tokS] at h3
  | succ f =>
    simp only [tokS] at h3
    rw [if_neg hk] at h3
    injection h3 with h3
    subst h3
    simpa using h4
set_option maxRecDepth 100000 in
set_option maxHeartbeats 4000000 in
theorem tok4_ok (s : ByteArray) (toks : List LTk) (ha : ascii s) (hs : s.size ≤ 1000) (h : tokS s (s.size + 1) 0 = some toks) : FnOk Try.prog 92 [.raw (.string s)] [] (.tup [.hdr 8, .raw (.int .i64 0), .raw (.int .i64 0)]) [(8, .row 117 4 (toks.map cTk))] := by
  refine fn_of_swp Try.func92 rfl (by kernel_rfl) (by kernel_rfl) (Nat.le_of_ble_eq_true rfl) Try.results92 ?_
  (refine swp_seqW ?_; simp only [go_sem, Bool.not_eq_true', Bool.not_eq_false'])
  (refine swp_seqW ?_; simp only [go_sem, Bool.not_eq_true', Bool.not_eq_false'])
  (refine swp_seqW ?_; simp only [go_sem, Bool.not_eq_true', Bool.not_eq_false'])
  refine swp_seqS ?_
  (refine swp_seqW ?_; simp only [go_sem, Bool.not_eq_true', Bool.not_eq_false'])
  refine swp_block ?_
  refine swp_loop2 [] (fun z : LTz => ⟨[(0, .raw (.string s)), (5, .hdr 8), (6, .raw (.int .i64 0)), (7, .raw (.int .i64 z.k))], [(8, some (.row 117 4 (z.acc.map cTk)))], none⟩) (TokInv s toks) (fun z => s.size - z.k) 4 ⟨0, []⟩ (by simp only [go_sem, Bool.not_eq_true', Bool.not_eq_false']; rfl) (by simp only [go_sem, Bool.not_eq_true', Bool.not_eq_false']) ?_ ?_
  · exact ⟨Nat.zero_le _, Nat.le_refl _, _, _, h, rfl⟩
  · rintro ⟨k, acc⟩ hi
    have hi1 := hi.le
    have hi2 := hi.len
    simp only at hi1 hi2
    (refine swp_seqW ?_; simp only [go_sem, Bool.not_eq_true', Bool.not_eq_false', List.length_map])
    refine ⟨fun h5 => ?_, fun h5 => ?_⟩
    · have hk : k < s.size := by omega
      obtain ⟨h35, hw⟩ := tok_way hk hi
      clear hi h
      refine swp_block ?_
      (refine swp_seqW ?_; simp only [go_sem, Bool.not_eq_true', Bool.not_eq_false'])
      (refine acall2 [] (size4_ok s k ha hk) (by simp only [go_sem, Bool.not_eq_true', Bool.not_eq_false']; rfl) (fit_of (by simp only [go_sem, Bool.not_eq_true', Bool.not_eq_false']) (by simp only [go_sem, Bool.not_eq_true', Bool.not_eq_false']) (by simp only [go_sem, Bool.not_eq_true', Bool.not_eq_false']) (by simp only [go_sem, Bool.not_eq_true', Bool.not_eq_false']) (by simp only [go_sem, Bool.not_eq_true', Bool.not_eq_false']) (by simp only [go_sem, Bool.not_eq_true', Bool.not_eq_false']) (by simp only [go_sem, Bool.not_eq_true', Bool.not_eq_false'])) ?_; simp only [go_sem, Bool.not_eq_true', Bool.not_eq_false'])
      (refine swp_seqW ?_; simp only [go_sem, Bool.not_eq_true', Bool.not_eq_false', Int.reduceToNat, Int.reduceLT, Int.reduceLE, Int.reduceEq, Int.reduceAdd, Int.reduceSub, Int.reduceMul, Int.reduceNeg, Int.reduceNe, decide_false, Int.cast_ofNat_Int, kSet, List.getElem?_cons_succ, List.getElem?_cons_zero, List.set_cons_succ, List.set_cons_zero, exists_eq_left', forall_const, true_implies])
      (refine swp_seqW ?_; simp only [go_sem, Bool.not_eq_true', Bool.not_eq_false'])
      refine ⟨by omega, ?_⟩
      (refine swp_seqW ?_; simp only [go_sem, Bool.not_eq_true', Bool.not_eq_false', Int.reduceToNat, Int.reduceLT, Int.reduceLE, Int.reduceEq, Int.reduceAdd, Int.reduceSub, Int.reduceMul, Int.reduceNeg, Int.reduceNe, decide_false, Int.cast_ofNat_Int, kSet, List.getElem?_cons_succ, List.getElem?_cons_zero, List.set_cons_succ, List.set_cons_zero, exists_eq_left', forall_const, true_implies])
      (refine swp_seqW ?_; simp only [go_sem, Bool.not_eq_true', Bool.not_eq_false', h35])
      have hc0 := byteAt_ge s k
      have hc1 := ha k hk
      rcases hw with ⟨hsp, hi⟩ | ⟨hsp, hd, hi⟩ | ⟨hsp, hd, hn, hg, hi⟩
      · (refine swp_lastW ?_; simp only [go_sem, Bool.not_eq_true', Bool.not_eq_false', h35])
        repeat' first | contradiction | intro _ | refine And.intro ?_ ?_ | refine ex_get (by omega) ?_ | (show drawB _ _ = true; kernel_rfl) | (refine ret2 [] (by simp only [go_sem, Bool.not_eq_true', Bool.not_eq_false']; rfl) ?_; simp only [go_sem, Bool.not_eq_true', Bool.not_eq_false'])
        all_goals first
          | omega
          | ((refine loop_end [] (⟨k + 1, acc⟩) (by simp only [go_sem, Bool.not_eq_true', Bool.not_eq_false']; rfl) ?_ ?_ ?_; (focus first | omega | (simp only; omega)); (focus (simp only [go_sem, Bool.not_eq_true', Bool.not_eq_false']; done)))
             exact hi)
          | (exfalso; omega)
          | skip
      · refine swp_cutW (fun _ : Unit => ⟨[(0, .raw (.string s)), (5, .hdr 8), (6, .raw (.int .i64 0)), (7, .raw (.int .i64 k)), (8, .raw (.int .i64 1))], [(8, some (.row 117 4 (acc.map cTk)))], none⟩) (fun _ => True) 4 ?_ ?_
        · simp only [go_sem, Bool.not_eq_true', Bool.not_eq_false', h35]
          repeat' first | contradiction | intro _ | refine And.intro ?_ ?_ | refine ex_get (by omega) ?_ | (show drawB _ _ = true; kernel_rfl) | (refine ret2 [] (by simp only [go_sem, Bool.not_eq_true', Bool.not_eq_false']; rfl) ?_; simp only [go_sem, Bool.not_eq_true', Bool.not_eq_false'])
          all_goals first
            | omega
            | ((refine cut_end [] (()) (by simp only [go_sem, Bool.not_eq_true', Bool.not_eq_false']; rfl) ?_ ?_; (focus (simp only [go_sem, Bool.not_eq_true', Bool.not_eq_false']; done)))
               trivial)
            | skip
        rintro - -
        (refine swp_lastW ?_; simp only [go_sem, Bool.not_eq_true', Bool.not_eq_false'])
        (refine acall2 [] (in4_ok s k 48 57) (by simp only [go_sem, Bool.not_eq_true', Bool.not_eq_false']; rfl) (fit_of (by simp only [go_sem, Bool.not_eq_true', Bool.not_eq_false']) (by simp only [go_sem, Bool.not_eq_true', Bool.not_eq_false']) (by simp only [go_sem, Bool.not_eq_true', Bool.not_eq_false']) (by simp only [go_sem, Bool.not_eq_true', Bool.not_eq_false']) (by simp only [go_sem, Bool.not_eq_true', Bool.not_eq_false']) (by simp only [go_sem, Bool.not_eq_true', Bool.not_eq_false']) (by simp only [go_sem, Bool.not_eq_true', Bool.not_eq_false'])) ?_; simp only [go_sem, Bool.not_eq_true', Bool.not_eq_false', hd])
        (refine acall2 [] (rune4_ok s k ha hk) (by simp only [go_sem, Bool.not_eq_true', Bool.not_eq_false']; rfl) (fit_of (by simp only [go_sem, Bool.not_eq_true', Bool.not_eq_false']) (by simp only [go_sem, Bool.not_eq_true', Bool.not_eq_false']) (by simp only [go_sem, Bool.not_eq_true', Bool.not_eq_false']) (by simp only [go_sem, Bool.not_eq_true', Bool.not_eq_false']) (by simp only [go_sem, Bool.not_eq_true', Bool.not_eq_false']) (by simp only [go_sem, Bool.not_eq_true', Bool.not_eq_false']) (by simp only [go_sem, Bool.not_eq_true', Bool.not_eq_false'])) ?_; simp only [go_sem, Bool.not_eq_true', Bool.not_eq_false'])
        refine ⟨⟨by omega, by omega⟩, ⟨by omega, by omega⟩, ?_⟩
        (refine loop_end [] (⟨k + 1, acc ++ [⟨1, byteAt s k, 0, k⟩]⟩) (by simp only [go_sem, Bool.not_eq_true', Bool.not_eq_false']; rfl) ?_ ?_ ?_; (focus first | omega | (simp only; omega)); (focus (simp only [go_sem, Bool.not_eq_true', Bool.not_eq_false', List.map_append]; done)))
        exact hi
      · refine swp_cutW (fun _ : Unit => ⟨[(0, .raw (.string s)), (5, .hdr 8), (6, .raw (.int .i64 0)), (7, .raw (.int .i64 k)), (8, .raw (.int .i64 1)), (9, .raw (.int .u8 (byteAt s k)))], [(8, some (.row 117 4 (acc.map cTk)))], none⟩) (fun _ => True) 4 ?_ ?_
        · simp only [go_sem, Bool.not_eq_true', Bool.not_eq_false', h35]
          repeat' first | contradiction | intro _ | refine And.intro ?_ ?_ | refine ex_get (by omega) ?_ | (show drawB _ _ = true; kernel_rfl) | (refine ret2 [] (by simp only [go_sem, Bool.not_eq_true', Bool.not_eq_false']; rfl) ?_; simp only [go_sem, Bool.not_eq_true', Bool.not_eq_false'])
          all_goals first
            | omega
            | ((refine cut_end [] (()) (by simp only [go_sem, Bool.not_eq_true', Bool.not_eq_false']; rfl) ?_ ?_; (focus (simp only [go_sem, Bool.not_eq_true', Bool.not_eq_false']; done)))
               trivial)
        rintro - -
        (refine swp_seqW ?_; simp only [go_sem, Bool.not_eq_true', Bool.not_eq_false'])
        (refine acall2 [] (in4_ok s k 48 57) (by simp only [go_sem, Bool.not_eq_true', Bool.not_eq_false']; rfl) (fit_of (by simp only [go_sem, Bool.not_eq_true', Bool.not_eq_false']) (by simp only [go_sem, Bool.not_eq_true', Bool.not_eq_false']) (by simp only [go_sem, Bool.not_eq_true', Bool.not_eq_false']) (by simp only [go_sem, Bool.not_eq_true', Bool.not_eq_false']) (by simp only [go_sem, Bool.not_eq_true', Bool.not_eq_false']) (by simp only [go_sem, Bool.not_eq_true', Bool.not_eq_false']) (by simp only [go_sem, Bool.not_eq_true', Bool.not_eq_false'])) ?_; simp only [go_sem, Bool.not_eq_true', Bool.not_eq_false', hd])
        (refine swp_seqW ?_; simp only [go_sem, Bool.not_eq_true', Bool.not_eq_false'])
        refine swp_cutS (fun _ : Unit => ⟨[(0, .raw (.string s)), (5, .hdr 8), (6, .raw (.int .i64 0)), (7, .raw (.int .i64 k)), (9, .raw (.int .u8 (byteAt s k))), (10, .raw (.int .i64 (numS s (s.size - k) k 0).2)), (11, .raw (.int .i64 (numS s (s.size - k) k 0).1))], [(8, some (.row 117 4 (acc.map cTk)))], none⟩) (fun _ => True) 4 ?_ ?_
        · refine swp_block ?_
          refine swp_loop2 [] (fun z : KY Int => ⟨[(0, .raw (.string s)), (5, .hdr 8), (6, .raw (.int .i64 0)), (7, .raw (.int .i64 k)), (9, .raw (.int .u8 (byteAt s k))), (10, .raw (.int .i64 z.o)), (11, .raw (.int .i64 z.k))], [(8, some (.row 117 4 (acc.map cTk)))], none⟩) (fun z => z.k ≤ s.size ∧ 0 ≤ z.o ∧ z.o ≤ 2199023255552 ∧ numS s (s.size - z.k) z.k z.o = numS s (s.size - k) k 0) (fun z => s.size - z.k) 4 ⟨k, 0⟩ (by simp only [go_sem, Bool.not_eq_true', Bool.not_eq_false']; rfl) (by simp only [go_sem, Bool.not_eq_true', Bool.not_eq_false']) ?_ ?_
          · exact ⟨by show k ≤ s.size; omega, by simp, by simp, rfl⟩
          · rintro ⟨e, n⟩ ⟨q1, q2, q3, q4⟩
            simp only at q1 q2 q3 q4
            (refine swp_lastW ?_; simp only [go_sem, Bool.not_eq_true', Bool.not_eq_false'])
            (refine acall2 [] (in4_ok s e 48 57) (by simp only [go_sem, Bool.not_eq_true', Bool.not_eq_false']; rfl) (fit_of (by simp only [go_sem, Bool.not_eq_true', Bool.not_eq_false']) (by simp only [go_sem, Bool.not_eq_true', Bool.not_eq_false']) (by simp only [go_sem, Bool.not_eq_true', Bool.not_eq_false']) (by simp only [go_sem, Bool.not_eq_true', Bool.not_eq_false']) (by simp only [go_sem, Bool.not_eq_true', Bool.not_eq_false']) (by simp only [go_sem, Bool.not_eq_true', Bool.not_eq_false']) (by simp only [go_sem, Bool.not_eq_true', Bool.not_eq_false'])) ?_; simp only [go_sem, Bool.not_eq_true', Bool.not_eq_false'])
            refine ⟨fun h7 => ?_, fun h7 => ?_⟩
            · obtain ⟨h8, h9, h10⟩ : e < s.size ∧ 48 ≤ byteAt s e ∧ byteAt s e ≤ 57 := of_decide_eq_true h7
              have ew : IntKind.i64.wrap (byteAt s e - 48) = byteAt s e - 48 := IntWalk.i64_in _ ⟨by omega, by omega⟩
              have en : numS s (s.size - e) e n = numS s (s.size - (e + 1)) (e + 1) (min (10 * n + (byteAt s e - 48)) 2199023255552) := by
                rw [show s.size - e = (s.size - (e + 1)) + 1 by omega, numS, if_pos h7]
              simp only [ew]
              repeat' first | contradiction | intro _ | refine And.intro ?_ ?_ | refine ex_get (by omega) ?_ | (show drawB _ _ = true; kernel_rfl) | (refine ret2 [] (by simp only [go_sem, Bool.not_eq_true', Bool.not_eq_false']; rfl) ?_; simp only [go_sem, Bool.not_eq_true', Bool.not_eq_false'])
              all_goals first
                | omega
                | ((refine loop_end [] (⟨e + 1, min (10 * n + (byteAt s e - 48)) 2199023255552⟩) (by simp only [go_sem, Bool.not_eq_true', Bool.not_eq_false']; rfl) ?_ ?_ ?_; (focus first | omega | (simp only; omega)); (focus (simp only [go_sem, Bool.not_eq_true', Bool.not_eq_false']; done)))
                   exact ⟨by show e + 1 ≤ s.size; omega, by simp only; omega, by simp only; omega, by rw [← q4, en]⟩)
                | skip
            · have en : numS s (s.size - k) k 0 = (e, n) := by
                rw [← q4]
                cases hf : s.size - e with
                | zero => rfl
                | succ f => rw [numS, if_neg (by rw [h7]; decide)]
              rw [en]
              (refine cut_end [] (()) (by simp only [go_sem, Bool.not_eq_true', Bool.not_eq_false']; rfl) ?_ ?_; (focus (simp only [go_sem, Bool.not_eq_true', Bool.not_eq_false']; done)))
              trivial
        rintro - -
        have hen := numS_end s (s.size - k) k 0 (by omega)
        generalize numS s (s.size - k) k 0 = q at hn hg hi hen
        (refine swp_lastW ?_; simp only [go_sem, Bool.not_eq_true', Bool.not_eq_false'])
        repeat' first | contradiction | intro _ | refine And.intro ?_ ?_ | refine ex_get (by omega) ?_ | (show drawB _ _ = true; kernel_rfl) | (refine ret2 [] (by simp only [go_sem, Bool.not_eq_true', Bool.not_eq_false']; rfl) ?_; simp only [go_sem, Bool.not_eq_true', Bool.not_eq_false'])
        all_goals first
          | omega
          | ((refine loop_end [] (⟨q.1, acc ++ [⟨2, 0, q.2, k⟩]⟩) (by simp only [go_sem, Bool.not_eq_true', Bool.not_eq_false']; rfl) ?_ ?_ ?_; (focus first | omega | (simp only; omega)); (focus (simp only [go_sem, Bool.not_eq_true', Bool.not_eq_false', List.map_append]; done)))
             exact hi)
          | skip
    · rw [← tok_end (by omega) hi]
      (refine swp_lastW ?_; simp only [go_sem, Bool.not_eq_true', Bool.not_eq_false'])
      (refine ret2 [] (by simp only [go_sem, Bool.not_eq_true', Bool.not_eq_false']; rfl) ?_; simp only [go_sem, Bool.not_eq_true', Bool.not_eq_false'])
end Go.Proofs.Ytbgcmnccjfdooaa
/- THE SCRIPT'S READER: what stands at a place; attributes. -/
/- G -/
/- BOOLS -/
/- GET get_tk -/
set_option linter.unusedSimpArgs false
set_option linter.unusedVariables false
namespace Go.Proofs.Ytbgcmnccjfdooaa
open Go.RowKit

def tkAt (l : List LTk) (k : Nat) : LTk := l.getD k ⟨0, 0, 0, 0⟩
theorem get_tk {l : List LTk} {k : Nat} {C : LTk → Prop} (h : k < l.length) (hC : C (tkAt l k)) : ∃ x, l[k]? = some x ∧ C x :=
  ⟨tkAt l k, by simp [tkAt, List.getD_eq_getElem?_getD, h], hC⟩
def signB (l : List LTk) (k : Nat) (c : Int) : Bool := decide (k < l.length ∧ (tkAt l k).kind = 1 ∧ (tkAt l k).sign = c)
def numB (l : List LTk) (k : Nat) (a b : Int) : Bool := decide (k < l.length ∧ (tkAt l k).kind = 2 ∧ a ≤ (tkAt l k).n ∧ (tkAt l k).n ≤ b)
set_option maxRecDepth 100000 in
theorem sign5_ok (l : List LTk) (k : Nat) (c : Int) (hl : l.length ≤ 1000) : FnOk Try.prog 114 [.sl 4 (l.map cTk), .raw (.int .i64 k), .raw (.int .i32 c)] [] (.raw (.bool (signB l k c))) [] := by
  refine fn_of_awp Try.func114 rfl (by kernel_rfl) (by kernel_rfl) (Nat.le_of_ble_eq_true rfl) Try.results114 ?_
  simp only [go_sem, Bool.not_eq_true', Bool.not_eq_false', List.length_map]
  repeat' first | contradiction | intro _ | refine And.intro ?_ ?_ | refine get_tk (by omega) ?_ | refine ex_get (by omega) ?_ | (show drawB _ _ = true; kernel_rfl) | (refine ret2 [] (by simp only [go_sem, Bool.not_eq_true', Bool.not_eq_false']; rfl) ?_; simp only [go_sem, Bool.not_eq_true', Bool.not_eq_false'])
  all_goals first
    | omega
    | (unfold signB; refine decide_eq_decide.2 ?_; omega)
    | (unfold signB; refine (decide_eq_false ?_); omega)
    | (unfold signB; refine (decide_eq_false ?_).symm; omega)
    | skip
set_option maxRecDepth 100000 in
theorem num5_ok (l : List LTk) (k : Nat) (a b : Int) (hl : l.length ≤ 1000) : FnOk Try.prog 131 [.sl 4 (l.map cTk), .raw (.int .i64 k), .raw (.int .i64 a), .raw (.int .i64 b)] [] (.raw (.bool (numB l k a b))) [] := by
  refine fn_of_awp Try.func131 rfl (by kernel_rfl) (by kernel_rfl) (Nat.le_of_ble_eq_true rfl) Try.results131 ?_
  simp only [go_sem, Bool.not_eq_true', Bool.not_eq_false', List.length_map]
  repeat' first | contradiction | intro _ | refine And.intro ?_ ?_ | refine get_tk (by omega) ?_ | refine ex_get (by omega) ?_ | (show drawB _ _ = true; kernel_rfl) | (refine ret2 [] (by simp only [go_sem, Bool.not_eq_true', Bool.not_eq_false']; rfl) ?_; simp only [go_sem, Bool.not_eq_true', Bool.not_eq_false'])
  all_goals first
    | omega
    | (unfold numB; refine decide_eq_decide.2 ?_; omega)
    | (unfold numB; refine (decide_eq_false ?_); omega)
    | (unfold numB; refine (decide_eq_false ?_).symm; omega)
    | skip
set_option maxRecDepth 100000 in
theorem most5_ok : FnOk Try.prog 133 [] [] (.raw (.int .i64 1099511627776)) [] := by
  refine fn_of_awp Try.func133 rfl (by kernel_rfl) (by kernel_rfl) (Nat.le_of_ble_eq_true rfl) Try.results133 ?_
  simp only [go_sem, Bool.not_eq_true', Bool.not_eq_false']
def lettersS : ByteArray := ⟨#[109, 110, 112, 113, 105, 111, 119, 104, 66, 65, 73, 99]⟩
set_option maxRecDepth 100000 in
theorem letters5_ok : FnOk Try.prog 134 [] [] (.raw (.string lettersS)) [] := by
  refine fn_of_awp Try.func134 rfl (by kernel_rfl) (by kernel_rfl) (Nat.le_of_ble_eq_true rfl) Try.results134 ?_
  simp only [go_sem, Bool.not_eq_true', Bool.not_eq_false']
  rfl
def limA (c : Int) : Int := if c = 111 ∨ c = 119 ∨ c = 104 then 1 else 0
def limB (c : Int) : Int := if c = 66 ∨ c = 65 then 4 else if c = 73 then 1 else if c = 99 then 3 else 1099511627776
set_option maxRecDepth 100000 in
theorem limits5_ok (c : Int) : FnOk Try.prog 130 [.raw (.int .u8 c)] [] (.tup [.raw (.int .i64 (limA c)), .raw (.int .i64 (limB c))]) [] := by
  refine fn_of_awp Try.func130 rfl (by kernel_rfl) (by kernel_rfl) (Nat.le_of_ble_eq_true rfl) Try.results130 ?_
  simp only [go_sem, Bool.not_eq_true', Bool.not_eq_false']
  repeat' first | contradiction | intro _ | refine And.intro ?_ ?_ | refine get_tk (by omega) ?_ | refine ex_get (by omega) ?_ | (show drawB _ _ = true; kernel_rfl) | (refine ret2 [] (by simp only [go_sem, Bool.not_eq_true', Bool.not_eq_false']; rfl) ?_; simp only [go_sem, Bool.not_eq_true', Bool.not_eq_false']) | (refine acall2 [] (most5_ok) (by simp only [go_sem, Bool.not_eq_true', Bool.not_eq_false']; rfl) (fit_of (by simp only [go_sem, Bool.not_eq_true', Bool.not_eq_false']) (by simp only [go_sem, Bool.not_eq_true', Bool.not_eq_false']) (by simp only [go_sem, Bool.not_eq_true', Bool.not_eq_false']) (by simp only [go_sem, Bool.not_eq_true', Bool.not_eq_false']) (by simp only [go_sem, Bool.not_eq_true', Bool.not_eq_false']) (by simp only [go_sem, Bool.not_eq_true', Bool.not_eq_false']) (by simp only [go_sem, Bool.not_eq_true', Bool.not_eq_false'])) ?_; simp only [go_sem, Bool.not_eq_true', Bool.not_eq_false'])
  all_goals first
    | (unfold limA; split <;> omega)
    | (unfold limB; repeat' split; all_goals omega)
    | skip
structure LSty where
  top : Int
  bottom : Int
  padTop : Int
  padBottom : Int
  inset : Int
  orphans : Int
  widows : Int
  head : Int
  before : Int
  after : Int
  inside : Int
  clear : Int
deriving DecidableEq
def lSty (s : LSty) : List AV := [.raw (.int .i64 s.top), .raw (.int .i64 s.bottom), .raw (.int .i64 s.padTop), .raw (.int .i64 s.padBottom), .raw (.int .i64 s.inset), .raw (.int .i64 s.orphans), .raw (.int .i64 s.widows), .raw (.int .i64 s.head), .raw (.int .i64 s.before), .raw (.int .i64 s.after), .raw (.int .i64 s.inside), .raw (.int .i64 s.clear)]
def aSty (s : LSty) : AV := .agg (lSty s)
attribute [go_sem] lSty aSty
def withS (s : LSty) (c n : Int) : LSty :=
  ⟨if c = 109 then n else s.top, if c = 110 then n else s.bottom, if c = 112 then n else s.padTop, if c = 113 then n else s.padBottom, if c = 105 then n else s.inset, if c = 111 then n else s.orphans, if c = 119 then n else s.widows, if c = 104 then n else s.head, if c = 66 then n else s.before, if c = 65 then n else s.after, if c = 73 then n else s.inside, if c = 99 then n else s.clear⟩
set_option maxRecDepth 100000 in
set_option maxHeartbeats 4000000 in
theorem with5_ok (s : LSty) (c n : Int) : FnOk Try.prog 132 [aSty s, .raw (.int .u8 c), .raw (.int .i64 n)] [] (aSty (withS s c n)) [] := by
  refine fn_of_awp Try.func132 rfl (by kernel_rfl) (by kernel_rfl) (Nat.le_of_ble_eq_true rfl) Try.results132 ?_
  simp only [go_sem, Bool.not_eq_true', Bool.not_eq_false']
  repeat' first | contradiction | intro _ | refine And.intro ?_ ?_ | refine get_tk (by omega) ?_ | refine ex_get (by omega) ?_ | (show drawB _ _ = true; kernel_rfl) | (refine ret2 [] (by simp only [go_sem, Bool.not_eq_true', Bool.not_eq_false']; rfl) ?_; simp only [go_sem, Bool.not_eq_true', Bool.not_eq_false'])
  all_goals (simp only [withS]; first | (rw [if_pos (by omega)]; done) | (rw [if_neg (by omega)]; done))
def hasB (s : ByteArray) (c : Int) : Bool := (List.range s.size).any fun j => decide (byteAt s j = c)
theorem hasB_iff {s : ByteArray} {c : Int} : hasB s c = true ↔ ∃ j : Nat, j < s.size ∧ byteAt s j = c := by
  simp [hasB]
def letterS (l : List LTk) (k : Nat) (told : ByteArray) : Int := if k < l.length ∧ (tkAt l k).kind = 1 ∧ hasB lettersS (tkAt l k).sign = true ∧ hasB told (tkAt l k).sign = false then (tkAt l k).sign else 0
theorem letterS_yes {l : List LTk} {k : Nat} {told : ByteArray} {c : Int} (hs : signB l k c = true) (hc : hasB lettersS c = true) : letterS l k told = if hasB told c = true then 0 else c := by
  obtain ⟨h1, h2, h3⟩ : k < l.length ∧ (tkAt l k).kind = 1 ∧ (tkAt l k).sign = c := of_decide_eq_true hs
  unfold letterS
  rw [h3]
  cases hasB told c with
  | true => rw [if_neg (by simp)]; rfl
  | false => rw [if_pos ⟨h1, h2, hc, rfl⟩]; rfl
theorem letterS_no {l : List LTk} {k : Nat} {told : ByteArray} (h : ∀ j : Nat, j < 12 → signB l k (byteAt lettersS j) = false) : letterS l k told = 0 := by
  unfold letterS
  rw [if_neg]
  rintro ⟨h1, h2, h3, h4⟩
  obtain ⟨j, h5, h6⟩ := hasB_iff.1 h3
  have := h j h5
  rw [h6] at this
  exact absurd ⟨h1, h2, rfl⟩ (of_decide_eq_false this)
theorem lettersS_size : lettersS.size = 12 := rfl
set_option maxRecDepth 100000 in
set_option maxHeartbeats 4000000 in
theorem letter5_ok (l : List LTk) (k : Nat) (told : ByteArray) (hl : l.length ≤ 1000) (ht : told.size ≤ 1000) : FnOk Try.prog 129 [.sl 4 (l.map cTk), .raw (.int .i64 k), .raw (.string told)] [] (.raw (.int .u8 (letterS l k told))) [] := by
  refine fn_of_awp Try.func129 rfl (by kernel_rfl) (by kernel_rfl) (Nat.le_of_ble_eq_true rfl) Try.results129 ?_
  simp only [go_sem, Bool.not_eq_true', Bool.not_eq_false']
  (refine acall2 [] (letters5_ok) (by simp only [go_sem, Bool.not_eq_true', Bool.not_eq_false']; rfl) (fit_of (by simp only [go_sem, Bool.not_eq_true', Bool.not_eq_false']) (by simp only [go_sem, Bool.not_eq_true', Bool.not_eq_false']) (by simp only [go_sem, Bool.not_eq_true', Bool.not_eq_false']) (by simp only [go_sem, Bool.not_eq_true', Bool.not_eq_false']) (by simp only [go_sem, Bool.not_eq_true', Bool.not_eq_false']) (by simp only [go_sem, Bool.not_eq_true', Bool.not_eq_false']) (by simp only [go_sem, Bool.not_eq_true', Bool.not_eq_false'])) ?_; simp only [go_sem, Bool.not_eq_true', Bool.not_eq_false'])
  refine aloop2 [] (fun i : Nat => ⟨[(0, .sl 4 (l.map cTk)), (1, .raw (.int .i64 k)), (2, .raw (.string told)), (7, .raw (.string lettersS)), (8, .raw (.int .i64 i))], [], none⟩) (fun i => i ≤ 12 ∧ ∀ j : Nat, j < i → signB l k (byteAt lettersS j) = false) (fun i => 12 - i) 4 0 (by simp only [go_sem, Bool.not_eq_true', Bool.not_eq_false']; rfl) (by simp only [go_sem, Bool.not_eq_true', Bool.not_eq_false']) ?_ ?_
  · exact ⟨Nat.zero_le _, fun j h => absurd h (Nat.not_lt_zero j)⟩
  · rintro i ⟨h1, h2⟩
    have hz := lettersS_size
    simp only [go_sem, Bool.not_eq_true', Bool.not_eq_false']
    refine ⟨fun h5 => ?_, fun h5 => ?_⟩
    · have hi : i < lettersS.size := by omega
      have hb1 := byteAt_ge lettersS i
      have hb2 : byteAt lettersS i ≤ 127 := by
        have : ∀ j : Fin 12, byteAt lettersS j ≤ 127 := by decide
        exact this ⟨i, by omega⟩
      have ew : IntKind.i32.wrap (byteAt lettersS i) = byteAt lettersS i := IntWalk.i32_in _ ⟨by omega, by omega⟩
      refine ⟨by omega, ?_⟩
      simp only [ew]
      (refine acall2 [] (sign5_ok l k (byteAt lettersS i) hl) (by simp only [go_sem, Bool.not_eq_true', Bool.not_eq_false']; rfl) (fit_of (by simp only [go_sem, Bool.not_eq_true', Bool.not_eq_false']) (by simp only [go_sem, Bool.not_eq_true', Bool.not_eq_false']) (by simp only [go_sem, Bool.not_eq_true', Bool.not_eq_false']) (by simp only [go_sem, Bool.not_eq_true', Bool.not_eq_false']) (by simp only [go_sem, Bool.not_eq_true', Bool.not_eq_false']) (by simp only [go_sem, Bool.not_eq_true', Bool.not_eq_false']) (by simp only [go_sem, Bool.not_eq_true', Bool.not_eq_false'])) ?_; simp only [go_sem, Bool.not_eq_true', Bool.not_eq_false'])
      refine ⟨fun h6 => ⟨by omega, ?_⟩, fun h6 => ?_⟩
      · (refine loop_end [] (i + 1) (by simp only [go_sem, Bool.not_eq_true', Bool.not_eq_false']; rfl) ?_ ?_ ?_; (focus first | omega | (simp only; omega)); (focus (simp only [go_sem, Bool.not_eq_true', Bool.not_eq_false']; done)))
        refine ⟨by omega, fun j hj => ?_⟩
        rcases Nat.lt_succ_iff_lt_or_eq.1 hj with h8 | h8
        · exact h2 j h8
        · subst h8; exact h6
      · have hy := letterS_yes (told := told) h6 (hasB_iff.2 ⟨i, hi, rfl⟩)
        rw [hy]
        refine aloop2 [] (fun j : Nat => ⟨[(2, .raw (.string told)), (7, .raw (.string lettersS)), (8, .raw (.int .i64 i)), (9, .raw (.int .i64 j))], [], none⟩) (fun j => j ≤ told.size ∧ ∀ q : Nat, q < j → byteAt told q ≠ byteAt lettersS i) (fun j => told.size - j) 4 0 (by simp only [go_sem, Bool.not_eq_true', Bool.not_eq_false']; rfl) (by simp only [go_sem, Bool.not_eq_true', Bool.not_eq_false']) ?_ ?_
        · exact ⟨Nat.zero_le _, fun j h => absurd h (Nat.not_lt_zero j)⟩
        · rintro j ⟨q1, q2⟩
          simp only [go_sem, Bool.not_eq_true', Bool.not_eq_false']
          refine ⟨fun h7 => ?_, fun h7 => ?_⟩
          · have hj : j < told.size := by omega
            repeat' first | contradiction | intro _ | refine And.intro ?_ ?_ | refine get_tk (by omega) ?_ | refine ex_get (by omega) ?_ | (show drawB _ _ = true; kernel_rfl) | (refine ret2 [] (by simp only [go_sem, Bool.not_eq_true', Bool.not_eq_false']; rfl) ?_; simp only [go_sem, Bool.not_eq_true', Bool.not_eq_false'])
            all_goals first
              | omega
              | ((refine loop_end [] (j + 1) (by simp only [go_sem, Bool.not_eq_true', Bool.not_eq_false']; rfl) ?_ ?_ ?_; (focus first | omega | (simp only; omega)); (focus (simp only [go_sem, Bool.not_eq_true', Bool.not_eq_false']; done)))
                 refine ⟨by omega, fun q hq => ?_⟩
                 rcases Nat.lt_succ_iff_lt_or_eq.1 hq with h8 | h8
                 · exact q2 q h8
                 · subst h8; assumption)
              | (rw [if_pos (hasB_iff.2 ⟨j, hj, by assumption⟩)]; done)
              | skip
          · have hn : ¬ hasB told (byteAt lettersS i) = true := fun q => by
              obtain ⟨j', a, b⟩ := hasB_iff.1 q
              exact q2 j' (by omega) b
            rw [if_neg hn]
            repeat' first | contradiction | intro _ | refine And.intro ?_ ?_ | refine get_tk (by omega) ?_ | refine ex_get (by omega) ?_ | (show drawB _ _ = true; kernel_rfl) | (refine ret2 [] (by simp only [go_sem, Bool.not_eq_true', Bool.not_eq_false']; rfl) ?_; simp only [go_sem, Bool.not_eq_true', Bool.not_eq_false'])
            all_goals first
              | omega
              | skip
    · have e : i = 12 := by omega
      subst e
      rw [letterS_no h2]
end Go.Proofs.Ytbgcmnccjfdooaa
/- THE SCRIPT'S READER: nodes; texts and boxes. -/
/- G -/
/- BOOLS -/
/- GET get_tk -/
set_option linter.unusedSimpArgs false
set_option linter.unusedVariables false
namespace Go.Proofs.Ytbgcmnccjfdooaa
open Go.RowKit

structure LNo where
  kind : Int
  size : Int
  st : LSty
  line : Int
  space : Int
  words : List Int
  side : Int
  w : Int
  h : Int
deriving DecidableEq
def cNo (x : LNo) : List PV := [.raw (.int .i64 x.kind), .raw (.int .i64 x.size), .raw (.int .i64 x.st.top), .raw (.int .i64 x.st.bottom), .raw (.int .i64 x.st.padTop), .raw (.int .i64 x.st.padBottom), .raw (.int .i64 x.st.inset), .raw (.int .i64 x.st.orphans), .raw (.int .i64 x.st.widows), .raw (.int .i64 x.st.head), .raw (.int .i64 x.st.before), .raw (.int .i64 x.st.after), .raw (.int .i64 x.st.inside), .raw (.int .i64 x.st.clear), .raw (.int .i64 x.line), .raw (.int .i64 x.space), .sl 1 (x.words.map cInt), .raw (.int .i64 x.side), .raw (.int .i64 x.w), .raw (.int .i64 x.h)]
def lNo (x : LNo) : List AV := [.raw (.int .i64 x.kind), .raw (.int .i64 x.size), .raw (.int .i64 x.st.top), .raw (.int .i64 x.st.bottom), .raw (.int .i64 x.st.padTop), .raw (.int .i64 x.st.padBottom), .raw (.int .i64 x.st.inset), .raw (.int .i64 x.st.orphans), .raw (.int .i64 x.st.widows), .raw (.int .i64 x.st.head), .raw (.int .i64 x.st.before), .raw (.int .i64 x.st.after), .raw (.int .i64 x.st.inside), .raw (.int .i64 x.st.clear), .raw (.int .i64 x.line), .raw (.int .i64 x.space), .sl 1 (x.words.map cInt), .raw (.int .i64 x.side), .raw (.int .i64 x.w), .raw (.int .i64 x.h)]
def aNo (x : LNo) : AV := .agg (lNo x)
attribute [go_sem] cNo lNo aNo
def sty0 : LSty := ⟨0, 0, 0, 0, 0, 0, 0, 0, 0, 0, 0, 0⟩
def aGot (r : List LNo × Nat) : AV := .agg [.sl 20 (r.1.map cNo), .raw (.int .i64 r.2), .raw (.int .i64 0)]
attribute [go_sem] sty0 aGot
def boxS (l : List LTk) (k : Nat) (x : LNo) (c : Int) : Option (List LNo × Nat) :=
  if k ≤ l.length ∧ numB l k 1 1099511627776 = true ∧ numB l (k + 1) 1 1099511627776 = true ∧ signB l (k + 2) c = true then some ([⟨x.kind, x.size, x.st, x.line, x.space, x.words, x.side, (tkAt l k).n, (tkAt l (k + 1)).n⟩], k + 3) else none
set_option maxRecDepth 100000 in
set_option maxHeartbeats 4000000 in
theorem box5_ok (l : List LTk) (k : Nat) (x : LNo) (c : Int) (r : List LNo × Nat) (hl : l.length ≤ 1000) (h : boxS l k x c = some r) : FnOk Try.prog 127 [.sl 4 (l.map cTk), .raw (.int .i64 k), aNo x, .raw (.int .i32 c)] [] (aGot r) [] := by
  refine fn_of_swp Try.func127 rfl (by kernel_rfl) (by kernel_rfl) (Nat.le_of_ble_eq_true rfl) Try.results127 ?_
  unfold boxS at h
  split at h
  case isFalse => cases h
  next hh =>
  obtain ⟨h0, h1, h2, h3⟩ := hh
  injection h with h
  subst h
  have k1 : k < l.length := (of_decide_eq_true h1).1
  have k2 : k + 1 < l.length := (of_decide_eq_true h2).1
  (refine swp_seqW ?_; simp only [go_sem, Bool.not_eq_true', Bool.not_eq_false'])
  refine swp_cutS (fun _ : Unit => ⟨[(0, .sl 4 (l.map cTk)), (1, .raw (.int .i64 k)), (3, .raw (.int .i32 c)), (6, .hdr 8), (8, .hdr 16)], [(8, some (.cells 45 (lNo x))), (16, some (.cells 114 [.hdr 17, .raw (.int .i64 0), .raw (.int .i64 0)])), (17, some (.row 45 20 []))], none⟩) (fun _ => True) 4 ?_ ?_
  · (refine swp_seqW ?_; simp only [go_sem, Bool.not_eq_true', Bool.not_eq_false'])
    refine swp_block ?_
    refine swp_loop2 [] (fun i : Nat => ⟨[(0, .sl 4 (l.map cTk)), (1, .raw (.int .i64 k)), (3, .raw (.int .i32 c)), (6, .hdr 8), (8, .hdr 16), (9, .raw (.int .i64 i))], [(8, some (.cells 45 (lNo x))), (16, some (.cells 114 [.hdr 17, .raw (.int .i64 0), .raw (.int .i64 0)])), (17, some (.row 45 20 []))], none⟩) (fun i => i ≤ 2) (fun i => 2 - i) 5 0 (by simp only [go_sem, Bool.not_eq_true', Bool.not_eq_false']; rfl) (by simp only [go_sem, Bool.not_eq_true', Bool.not_eq_false']) ?_ ?_
    · exact Nat.zero_le _
    · intro i hi
      (refine swp_lastW ?_; simp only [go_sem, Bool.not_eq_true', Bool.not_eq_false'])
      refine ⟨fun h5 => ?_, fun h5 => ?_⟩
      · refine ⟨by omega, ?_⟩
        (refine acall2 [] (most5_ok) (by simp only [go_sem, Bool.not_eq_true', Bool.not_eq_false']; rfl) (fit_of (by simp only [go_sem, Bool.not_eq_true', Bool.not_eq_false']) (by simp only [go_sem, Bool.not_eq_true', Bool.not_eq_false']) (by simp only [go_sem, Bool.not_eq_true', Bool.not_eq_false']) (by simp only [go_sem, Bool.not_eq_true', Bool.not_eq_false']) (by simp only [go_sem, Bool.not_eq_true', Bool.not_eq_false']) (by simp only [go_sem, Bool.not_eq_true', Bool.not_eq_false']) (by simp only [go_sem, Bool.not_eq_true', Bool.not_eq_false'])) ?_; simp only [go_sem, Bool.not_eq_true', Bool.not_eq_false'])
        have hn : numB l (k + i) 1 1099511627776 = true := by
          rcases (by omega : i = 0 ∨ i = 1) with q | q <;> subst q <;> assumption
        (refine acall2 [] (num5_ok l (k + i) 1 1099511627776 hl) (by simp only [go_sem, Bool.not_eq_true', Bool.not_eq_false']; rfl) (fit_of (by simp only [go_sem, Bool.not_eq_true', Bool.not_eq_false']) (by simp only [go_sem, Bool.not_eq_true', Bool.not_eq_false']) (by simp only [go_sem, Bool.not_eq_true', Bool.not_eq_false']) (by simp only [go_sem, Bool.not_eq_true', Bool.not_eq_false']) (by simp only [go_sem, Bool.not_eq_true', Bool.not_eq_false']) (by simp only [go_sem, Bool.not_eq_true', Bool.not_eq_false']) (by simp only [go_sem, Bool.not_eq_true', Bool.not_eq_false'])) ?_; simp only [go_sem, Bool.not_eq_true', Bool.not_eq_false', hn])
        refine ⟨by omega, ?_⟩
        (refine loop_end [] (i + 1) (by simp only [go_sem, Bool.not_eq_true', Bool.not_eq_false']; rfl) ?_ ?_ ?_; (focus first | omega | (simp only; omega)); (focus (simp only [go_sem, Bool.not_eq_true', Bool.not_eq_false']; done)))
        omega
      · (refine cut_end [] (()) (by simp only [go_sem, Bool.not_eq_true', Bool.not_eq_false']; rfl) ?_ ?_; (focus (simp only [go_sem, Bool.not_eq_true', Bool.not_eq_false']; done)))
        trivial
  rintro - -
  (refine swp_lastW ?_; simp only [go_sem, Bool.not_eq_true', Bool.not_eq_false', List.length_map])
  refine ⟨by omega, ?_⟩
  (refine acall2 [] (sign5_ok l (k + 2) c hl) (by simp only [go_sem, Bool.not_eq_true', Bool.not_eq_false']; rfl) (fit_of (by simp only [go_sem, Bool.not_eq_true', Bool.not_eq_false']) (by simp only [go_sem, Bool.not_eq_true', Bool.not_eq_false']) (by simp only [go_sem, Bool.not_eq_true', Bool.not_eq_false']) (by simp only [go_sem, Bool.not_eq_true', Bool.not_eq_false']) (by simp only [go_sem, Bool.not_eq_true', Bool.not_eq_false']) (by simp only [go_sem, Bool.not_eq_true', Bool.not_eq_false']) (by simp only [go_sem, Bool.not_eq_true', Bool.not_eq_false'])) ?_; simp only [go_sem, Bool.not_eq_true', Bool.not_eq_false', h3])
  repeat' first | refine And.intro ?_ ?_ | refine get_tk (by omega) ?_
  all_goals first
    | omega
    | (refine ret2 [208] (by simp only [go_sem, Bool.not_eq_true', Bool.not_eq_false']; rfl) ?_; simp only [go_sem, Bool.not_eq_true', Bool.not_eq_false'])
    | skip
def wordsS (l : List LTk) : Nat → Nat → List Int × Nat
  | 0, k => ([], k)
  | f + 1, k => if numB l k 1 1099511627776 = true then ((tkAt l k).n :: (wordsS l f (k + 1)).1, (wordsS l f (k + 1)).2) else ([], k)
theorem wordsS_le (l : List LTk) : ∀ f k : Nat, k ≤ (wordsS l f k).2 ∧ (k ≤ l.length → (wordsS l f k).2 ≤ l.length) ∧ (wordsS l f k).1.length ≤ f
  | 0, k => ⟨Nat.le_refl _, fun h => h, Nat.le_refl _⟩
  | f + 1, k => by
    simp only [wordsS]
    split
    · next h =>
      have hk : k < l.length := (of_decide_eq_true h).1
      obtain ⟨h1, h2, h3⟩ := wordsS_le l f (k + 1)
      exact ⟨by simp only; omega, fun _ => h2 hk, by simp only [List.length_cons]; omega⟩
    · exact ⟨Nat.le_refl _, fun h => h, Nat.zero_le _⟩
def textS (l : List LTk) (k : Nat) : Option (List LNo × Nat) :=
  if k ≤ l.length ∧ numB l (k + 1) 1 1099511627776 = true ∧ numB l (k + 2) 0 1099511627776 = true ∧ (wordsS l l.length (k + 3)).1 ≠ [] ∧ signB l (wordsS l l.length (k + 3)).2 41 = true then
    some ([⟨2, 1, sty0, (tkAt l (k + 1)).n, (tkAt l (k + 2)).n, (wordsS l l.length (k + 3)).1, 0, 0, 0⟩], (wordsS l l.length (k + 3)).2 + 1) else none
structure LWd where
  k : Nat
  acc : List Int
theorem tn2 (k : Nat) : ((k : Int) + 2).toNat = k + 2 := by omega
set_option maxRecDepth 100000 in
set_option maxHeartbeats 4000000 in
theorem text5_ok (l : List LTk) (k : Nat) (r : List LNo × Nat) (hl : l.length ≤ 1000) (h : textS l k = some r) : FnOk Try.prog 126 [.sl 4 (l.map cTk), .raw (.int .i64 k)] [] (aGot r) [] := by
  refine fn_of_swp Try.func126 rfl (by kernel_rfl) (by kernel_rfl) (Nat.le_of_ble_eq_true rfl) Try.results126 ?_
  unfold textS at h
  split at h
  case isFalse => cases h
  next hh =>
  obtain ⟨h0, h1, h2, h3, h4⟩ := hh
  injection h with h
  subst h
  have k1 : k + 1 < l.length := (of_decide_eq_true h1).1
  have k2 : k + 2 < l.length := (of_decide_eq_true h2).1
  (refine swp_seqW ?_; simp only [go_sem, Bool.not_eq_true', Bool.not_eq_false'])
  (refine swp_seqW ?_; simp only [go_sem, Bool.not_eq_true', Bool.not_eq_false'])
  refine ⟨by omega, ?_⟩
  (refine acall2 [] (most5_ok) (by simp only [go_sem, Bool.not_eq_true', Bool.not_eq_false']; rfl) (fit_of (by simp only [go_sem, Bool.not_eq_true', Bool.not_eq_false']) (by simp only [go_sem, Bool.not_eq_true', Bool.not_eq_false']) (by simp only [go_sem, Bool.not_eq_true', Bool.not_eq_false']) (by simp only [go_sem, Bool.not_eq_true', Bool.not_eq_false']) (by simp only [go_sem, Bool.not_eq_true', Bool.not_eq_false']) (by simp only [go_sem, Bool.not_eq_true', Bool.not_eq_false']) (by simp only [go_sem, Bool.not_eq_true', Bool.not_eq_false'])) ?_; simp only [go_sem, Bool.not_eq_true', Bool.not_eq_false'])
  (refine acall2 [] (num5_ok l (k + 1) 1 1099511627776 hl) (by simp only [go_sem, Bool.not_eq_true', Bool.not_eq_false']; rfl) (fit_of (by simp only [go_sem, Bool.not_eq_true', Bool.not_eq_false']) (by simp only [go_sem, Bool.not_eq_true', Bool.not_eq_false']) (by simp only [go_sem, Bool.not_eq_true', Bool.not_eq_false']) (by simp only [go_sem, Bool.not_eq_true', Bool.not_eq_false']) (by simp only [go_sem, Bool.not_eq_true', Bool.not_eq_false']) (by simp only [go_sem, Bool.not_eq_true', Bool.not_eq_false']) (by simp only [go_sem, Bool.not_eq_true', Bool.not_eq_false'])) ?_; simp only [go_sem, Bool.not_eq_true', Bool.not_eq_false', h1])
  (refine swp_seqW ?_; simp only [go_sem, Bool.not_eq_true', Bool.not_eq_false'])
  refine ⟨by omega, ?_⟩
  (refine acall2 [] (most5_ok) (by simp only [go_sem, Bool.not_eq_true', Bool.not_eq_false']; rfl) (fit_of (by simp only [go_sem, Bool.not_eq_true', Bool.not_eq_false']) (by simp only [go_sem, Bool.not_eq_true', Bool.not_eq_false']) (by simp only [go_sem, Bool.not_eq_true', Bool.not_eq_false']) (by simp only [go_sem, Bool.not_eq_true', Bool.not_eq_false']) (by simp only [go_sem, Bool.not_eq_true', Bool.not_eq_false']) (by simp only [go_sem, Bool.not_eq_true', Bool.not_eq_false']) (by simp only [go_sem, Bool.not_eq_true', Bool.not_eq_false'])) ?_; simp only [go_sem, Bool.not_eq_true', Bool.not_eq_false'])
  (refine acall2 [] (num5_ok l (k + 2) 0 1099511627776 hl) (by simp only [go_sem, Bool.not_eq_true', Bool.not_eq_false']; rfl) (fit_of (by simp only [go_sem, Bool.not_eq_true', Bool.not_eq_false']) (by simp only [go_sem, Bool.not_eq_true', Bool.not_eq_false']) (by simp only [go_sem, Bool.not_eq_true', Bool.not_eq_false']) (by simp only [go_sem, Bool.not_eq_true', Bool.not_eq_false']) (by simp only [go_sem, Bool.not_eq_true', Bool.not_eq_false']) (by simp only [go_sem, Bool.not_eq_true', Bool.not_eq_false']) (by simp only [go_sem, Bool.not_eq_true', Bool.not_eq_false'])) ?_; simp only [go_sem, Bool.not_eq_true', Bool.not_eq_false', h2])
  (refine swp_seqW ?_; simp only [go_sem, Bool.not_eq_true', Bool.not_eq_false', List.length_map, tn2])
  refine ⟨by omega, by omega, get_tk (by omega) ⟨by omega, by omega, get_tk (by omega) ⟨by kernel_rfl, ?_⟩⟩⟩
  (refine swp_seqW ?_; simp only [go_sem, Bool.not_eq_true', Bool.not_eq_false'])
  refine ⟨by omega, ?_⟩
  generalize (tkAt l (k + 1)).n = m1
  generalize (tkAt l (k + 2)).n = m2
  refine swp_cutS (fun w : LWd => ⟨[(0, .sl 4 (l.map cTk)), (4, .hdr 8), (5, .hdr 16), (6, .raw (.int .i64 w.k))], [(8, some (.cells 114 [.hdr 9, .raw (.int .i64 0), .raw (.int .i64 0)])), (9, some (.row 45 20 [])), (16, some (.cells 45 [.raw (.int .i64 2), .raw (.int .i64 1), .raw (.int .i64 0), .raw (.int .i64 0), .raw (.int .i64 0), .raw (.int .i64 0), .raw (.int .i64 0), .raw (.int .i64 0), .raw (.int .i64 0), .raw (.int .i64 0), .raw (.int .i64 0), .raw (.int .i64 0), .raw (.int .i64 0), .raw (.int .i64 0), .raw (.int .i64 m1), .raw (.int .i64 m2), .hdr 17, .raw (.int .i64 0), .raw (.int .i64 0), .raw (.int .i64 0)])), (17, some (.row 3 1 (w.acc.map cInt)))], none⟩) (fun w => (w.acc, w.k) = wordsS l l.length (k + 3)) 4 ?_ ?_
  · refine swp_block ?_
    refine swp_loop2 [] (fun w : LWd => ⟨[(0, .sl 4 (l.map cTk)), (4, .hdr 8), (5, .hdr 16), (6, .raw (.int .i64 w.k))], [(8, some (.cells 114 [.hdr 9, .raw (.int .i64 0), .raw (.int .i64 0)])), (9, some (.row 45 20 [])), (16, some (.cells 45 [.raw (.int .i64 2), .raw (.int .i64 1), .raw (.int .i64 0), .raw (.int .i64 0), .raw (.int .i64 0), .raw (.int .i64 0), .raw (.int .i64 0), .raw (.int .i64 0), .raw (.int .i64 0), .raw (.int .i64 0), .raw (.int .i64 0), .raw (.int .i64 0), .raw (.int .i64 0), .raw (.int .i64 0), .raw (.int .i64 m1), .raw (.int .i64 m2), .hdr 17, .raw (.int .i64 0), .raw (.int .i64 0), .raw (.int .i64 0)])), (17, some (.row 3 1 (w.acc.map cInt)))], none⟩) (fun w => w.k ≤ l.length ∧ w.acc.length ≤ w.k ∧ ∃ f, l.length ≤ f + w.k ∧ (w.acc ++ (wordsS l f w.k).1, (wordsS l f w.k).2) = wordsS l l.length (k + 3)) (fun w => l.length - w.k) 40 ⟨k + 3, []⟩ (by simp only [go_sem, Bool.not_eq_true', Bool.not_eq_false']; rfl) (by simp only [go_sem, Bool.not_eq_true', Bool.not_eq_false']) ?_ ?_
    · exact ⟨by show k + 3 ≤ l.length; omega, Nat.zero_le _, l.length, by omega, rfl⟩
    · rintro ⟨kk, acc⟩ ⟨q1, q2, f, q3, q4⟩
      simp only at q1 q2 q3 q4
      (refine swp_lastW ?_; simp only [go_sem, Bool.not_eq_true', Bool.not_eq_false', List.length_map])
      (refine acall2 [] (most5_ok) (by simp only [go_sem, Bool.not_eq_true', Bool.not_eq_false']; rfl) (fit_of (by simp only [go_sem, Bool.not_eq_true', Bool.not_eq_false']) (by simp only [go_sem, Bool.not_eq_true', Bool.not_eq_false']) (by simp only [go_sem, Bool.not_eq_true', Bool.not_eq_false']) (by simp only [go_sem, Bool.not_eq_true', Bool.not_eq_false']) (by simp only [go_sem, Bool.not_eq_true', Bool.not_eq_false']) (by simp only [go_sem, Bool.not_eq_true', Bool.not_eq_false']) (by simp only [go_sem, Bool.not_eq_true', Bool.not_eq_false'])) ?_; simp only [go_sem, Bool.not_eq_true', Bool.not_eq_false'])
      (refine acall2 [] (num5_ok l kk 1 1099511627776 hl) (by simp only [go_sem, Bool.not_eq_true', Bool.not_eq_false']; rfl) (fit_of (by simp only [go_sem, Bool.not_eq_true', Bool.not_eq_false']) (by simp only [go_sem, Bool.not_eq_true', Bool.not_eq_false']) (by simp only [go_sem, Bool.not_eq_true', Bool.not_eq_false']) (by simp only [go_sem, Bool.not_eq_true', Bool.not_eq_false']) (by simp only [go_sem, Bool.not_eq_true', Bool.not_eq_false']) (by simp only [go_sem, Bool.not_eq_true', Bool.not_eq_false']) (by simp only [go_sem, Bool.not_eq_true', Bool.not_eq_false'])) ?_; simp only [go_sem, Bool.not_eq_true', Bool.not_eq_false'])
      refine ⟨fun h7 => ?_, fun h7 => ?_⟩
      · have hk : kk < l.length := (of_decide_eq_true h7).1
        obtain ⟨g, rfl⟩ : ∃ g, f = g + 1 := ⟨f - 1, by omega⟩
        rw [wordsS, if_pos h7] at q4
        repeat' first | refine And.intro ?_ ?_ | refine get_tk (by omega) ?_
        all_goals first
          | omega
          | (show drawB _ _ = true; kernel_rfl)
          | ((refine loop_end [] (⟨kk + 1, acc ++ [(tkAt l kk).n]⟩) (by simp only [go_sem, Bool.not_eq_true', Bool.not_eq_false']; rfl) ?_ ?_ ?_; (focus first | omega | (simp only; omega)); (focus (simp only [go_sem, Bool.not_eq_true', Bool.not_eq_false', List.map_append]; done)))
             exact ⟨by show kk + 1 ≤ l.length; omega, by simp; omega, g, by simp only; omega, by rw [← q4]; simp⟩)
          | skip
      · have e : (acc, kk) = wordsS l l.length (k + 3) := by
          rw [← q4]
          cases f with
          | zero => simp [wordsS]
          | succ g => rw [wordsS, if_neg (by rw [h7]; decide)]; simp
        (refine cut_end [] (⟨kk, acc⟩) (by simp only [go_sem, Bool.not_eq_true', Bool.not_eq_false']; rfl) ?_ ?_; (focus (simp only [go_sem, Bool.not_eq_true', Bool.not_eq_false']; done)))
        exact e
  rintro ⟨kk, acc⟩ hw
  simp only at hw
  have hwl := wordsS_le l l.length (k + 3)
  rw [← hw] at h3 h4 hwl ⊢
  simp only at h3 h4 hwl ⊢
  have hacc : acc.length ≠ 0 := fun q => h3 (List.eq_nil_of_length_eq_zero q)
  have kk1 : kk < l.length := (of_decide_eq_true h4).1
  (refine swp_lastW ?_; simp only [go_sem, Bool.not_eq_true', Bool.not_eq_false', List.length_map])
  refine ⟨fun _ => ?_, fun q => by omega⟩
  (refine acall2 [] (sign5_ok l kk 41 hl) (by simp only [go_sem, Bool.not_eq_true', Bool.not_eq_false']; rfl) (fit_of (by simp only [go_sem, Bool.not_eq_true', Bool.not_eq_false']) (by simp only [go_sem, Bool.not_eq_true', Bool.not_eq_false']) (by simp only [go_sem, Bool.not_eq_true', Bool.not_eq_false']) (by simp only [go_sem, Bool.not_eq_true', Bool.not_eq_false']) (by simp only [go_sem, Bool.not_eq_true', Bool.not_eq_false']) (by simp only [go_sem, Bool.not_eq_true', Bool.not_eq_false']) (by simp only [go_sem, Bool.not_eq_true', Bool.not_eq_false'])) ?_; simp only [go_sem, Bool.not_eq_true', Bool.not_eq_false', h4])
  refine ⟨by omega, ?_⟩
  (refine ret2 [120] (by simp only [go_sem, Bool.not_eq_true', Bool.not_eq_false']; rfl) ?_; simp only [go_sem, Bool.not_eq_true', Bool.not_eq_false'])
end Go.Proofs.Ytbgcmnccjfdooaa
/- NODES as arguments. -/
/- G -/
set_option linter.unusedSimpArgs false
set_option linter.unusedVariables false
namespace Go.Proofs.Ytbgcmnccjfdooaa
set_option maxRecDepth 100000
open Go.ChangeShapes Go.WideShapes Go.ChangeAt Go.RowKit Go.Deep

theorem open_st : OpenT Try.prog 43 (fun s : LSty => [.raw (.int .i64 s.top), .raw (.int .i64 s.bottom), .raw (.int .i64 s.padTop), .raw (.int .i64 s.padBottom), .raw (.int .i64 s.inset), .raw (.int .i64 s.orphans), .raw (.int .i64 s.widows), .raw (.int .i64 s.head), .raw (.int .i64 s.before), .raw (.int .i64 s.after), .raw (.int .i64 s.inside), .raw (.int .i64 s.clear)]) (fun _ => True) := ⟨fun {H enc w fuel cs y} h => by
  obtain ⟨ys, n, -, -, hlen, hyl, hg⟩ := DataW.trod_struct Try.underlying43 h
  have hcs : cs.length = 12 := hlen.trans (by kernel_rfl)
  obtain ⟨z0, c0, i0⟩ := fld hg hyl 0 1 (open_i Try.underlying3) 0 rfl rfl rfl (by kernel_rfl)
  obtain ⟨z1, c1, i1⟩ := fld hg hyl 1 1 (open_i Try.underlying3) 1 rfl rfl rfl (by kernel_rfl)
  obtain ⟨z2, c2, i2⟩ := fld hg hyl 2 1 (open_i Try.underlying3) 2 rfl rfl rfl (by kernel_rfl)
  obtain ⟨z3, c3, i3⟩ := fld hg hyl 3 1 (open_i Try.underlying3) 3 rfl rfl rfl (by kernel_rfl)
  obtain ⟨z4, c4, i4⟩ := fld hg hyl 4 1 (open_i Try.underlying3) 4 rfl rfl rfl (by kernel_rfl)
  obtain ⟨z5, c5, i5⟩ := fld hg hyl 5 1 (open_i Try.underlying3) 5 rfl rfl rfl (by kernel_rfl)
  obtain ⟨z6, c6, i6⟩ := fld hg hyl 6 1 (open_i Try.underlying3) 6 rfl rfl rfl (by kernel_rfl)
  obtain ⟨z7, c7, i7⟩ := fld hg hyl 7 1 (open_i Try.underlying3) 7 rfl rfl rfl (by kernel_rfl)
  obtain ⟨z8, c8, i8⟩ := fld hg hyl 8 1 (open_i Try.underlying3) 8 rfl rfl rfl (by kernel_rfl)
  obtain ⟨z9, c9, i9⟩ := fld hg hyl 9 1 (open_i Try.underlying3) 9 rfl rfl rfl (by kernel_rfl)
  obtain ⟨z10, c10, i10⟩ := fld hg hyl 10 1 (open_i Try.underlying3) 10 rfl rfl rfl (by kernel_rfl)
  obtain ⟨z11, c11, i11⟩ := fld hg hyl 11 1 (open_i Try.underlying3) 11 rfl rfl rfl (by kernel_rfl)
  exact ⟨⟨z0, z1, z2, z3, z4, z5, z6, z7, z8, z9, z10, z11⟩, cr_all hcs (cr_app c0 (cr_app c1 (cr_app c2 (cr_app c3 (cr_app c4 (cr_app c5 (cr_app c6 (cr_app c7 (cr_app c8 (cr_app c9 (cr_app c10 c11))))))))))), trivial⟩⟩
theorem open_no : OpenT Try.prog 45 cNo (fun x : LNo => x.words.length ≤ 9223372036854775807) := ⟨fun {H enc w fuel cs y} h => by
  obtain ⟨ys, n, -, -, hlen, hyl, hg⟩ := DataW.trod_struct Try.underlying45 h
  have hcs : cs.length = 20 := hlen.trans (by kernel_rfl)
  obtain ⟨z0, c0, i0⟩ := fld hg hyl 0 1 (open_i Try.underlying3) 0 rfl rfl rfl (by kernel_rfl)
  obtain ⟨z1, c1, i1⟩ := fld hg hyl 1 1 (open_i Try.underlying3) 1 rfl rfl rfl (by kernel_rfl)
  obtain ⟨z2, c2, i2⟩ := fld hg hyl 2 12 open_st 2 rfl rfl rfl (by kernel_rfl)
  obtain ⟨z3, c3, i3⟩ := fld hg hyl 14 1 (open_i Try.underlying3) 3 rfl rfl rfl (by kernel_rfl)
  obtain ⟨z4, c4, i4⟩ := fld hg hyl 15 1 (open_i Try.underlying3) 4 rfl rfl rfl (by kernel_rfl)
  obtain ⟨z5, c5, i5⟩ := fld hg hyl 16 1 (open_sl Try.underlying23 (by kernel_rfl) (Nat.zero_lt_succ _) (fun _ => rfl) (open_i Try.underlying3)) 5 rfl rfl rfl (by kernel_rfl)
  obtain ⟨z6, c6, i6⟩ := fld hg hyl 17 1 (open_i Try.underlying3) 6 rfl rfl rfl (by kernel_rfl)
  obtain ⟨z7, c7, i7⟩ := fld hg hyl 18 1 (open_i Try.underlying3) 7 rfl rfl rfl (by kernel_rfl)
  obtain ⟨z8, c8, i8⟩ := fld hg hyl 19 1 (open_i Try.underlying3) 8 rfl rfl rfl (by kernel_rfl)
  exact ⟨⟨z0, z1, z2, z3, z4, z5, z6, z7, z8⟩, cr_all hcs (cr_app c0 (cr_app c1 (cr_app c2 (cr_app c3 (cr_app c4 (cr_app c5 (cr_app c6 (cr_app c7 c8)))))))), i5.1⟩⟩
theorem open_nos : OpenT Try.prog 22 (fun xs : List LNo => [.sl 20 (xs.map cNo)]) (fun xs => xs.length ≤ 9223372036854775807 ∧ ∀ x ∈ xs, (fun x : LNo => x.words.length ≤ 9223372036854775807) x) := open_sl Try.underlying22 (by kernel_rfl) (Nat.zero_lt_succ _) (fun _ => rfl) open_no
end Go.Proofs.Ytbgcmnccjfdooaa
/- CHAPTER 06: valid: spans of numbers. -/
/- G -/
/- BOOLS -/
set_option linter.unusedSimpArgs false
set_option linter.unusedVariables false
namespace Go.Proofs.Ytbgcmnccjfdooaa
open Go.RowKit

def offN (a b n : Int) : Bool := decide (n < a) || decide (b < n)
set_option maxRecDepth 100000 in
theorem has1_ok (n a b : Int) : FnOk Try.prog 128 [.raw (.int .i64 n), .hdr 0] [(0, .cells 135 [.raw (.int .i64 a), .raw (.int .i64 b)])] (.raw (.bool (offN a b n))) [(0, .cells 135 [.raw (.int .i64 a), .raw (.int .i64 b)])] := by
  refine fn_of_awp Try.func128 rfl (by kernel_rfl) (by kernel_rfl) (Nat.le_of_ble_eq_true rfl) Try.results128 ?_
  simp only [go_sem, Bool.not_eq_true', Bool.not_eq_false']
  repeat' first | contradiction | intro _ | refine And.intro ?_ ?_ | refine ex_get (by omega) ?_ | (show drawB _ _ = true; kernel_rfl) | (refine ret2 [] (by simp only [go_sem, Bool.not_eq_true', Bool.not_eq_false']; rfl) ?_; simp only [go_sem, Bool.not_eq_true', Bool.not_eq_false'])
  all_goals (simp [offN] <;> omega)
/-- the place of the first that is so; below 0: none is. -/
def idxI (p : Int → Bool) (l : List Int) : Int := if l.findIdx p < l.length then l.findIdx p else -1
theorem idxI_at {p : Int → Bool} {l : List Int} {k : Nat} (hk : k < l.length) (h : ∀ j (hj : j < l.length), j < k → p l[j] = false) (hp : p l[k] = true) : idxI p l = k := by
  have e : l.findIdx p = k := by
    rw [List.findIdx_eq hk]
    exact ⟨hp, fun j hj => by have := h j (by omega) hj; simpa using this⟩
  unfold idxI
  rw [if_pos (by omega), e]
theorem idxI_no {p : Int → Bool} {l : List Int} (h : ∀ j (hj : j < l.length), p l[j] = false) : idxI p l = -1 := by
  unfold idxI
  rw [if_neg]
  intro hlt
  have := List.findIdx_getElem (w := hlt)
  rw [h _ hlt] at this
  cases this
theorem idxI_any (p : Int → Bool) (l : List Int) : decide (0 ≤ idxI p l) = l.any p := by
  unfold idxI
  by_cases h : l.findIdx p < l.length
  · rw [if_pos h]
    have h2 : l.any p = true := List.any_eq_true.2 ⟨_, List.getElem_mem h, List.findIdx_getElem (w := h)⟩
    rw [h2]; simp
  · rw [if_neg h]
    have h2 : l.any p = false := by
      cases e : l.any p with
      | false => rfl
      | true => exact absurd (List.findIdx_lt_length.2 (by simpa using e)) h
    rw [h2]; rfl
set_option maxRecDepth 100000 in
theorem idx6_ok (l : List Int) (a b : Int) (hl : l.length ≤ 9223372036854775807) : FnOk Try.prog 67 [.sl 1 (l.map cInt), .clo (.func 128) [.hdr 0]] [(0, .cells 135 [.raw (.int .i64 a), .raw (.int .i64 b)])] (.raw (.int .i64 (idxI (offN a b) l))) [(0, .cells 135 [.raw (.int .i64 a), .raw (.int .i64 b)])] := by
  refine fn_of_awp Try.func67 rfl (by kernel_rfl) (by kernel_rfl) (Nat.le_of_ble_eq_true rfl) Try.results67 ?_
  simp only [go_sem, Bool.not_eq_true', Bool.not_eq_false', List.length_map]
  refine aloop2 [] (fun k : Nat => ⟨[(0, .sl 1 (l.map cInt)), (1, .clo (.func 128) [.hdr 0]), (7, .raw (.int .i64 l.length)), (8, .raw (.int .i64 k))], [(0, some (.cells 135 [.raw (.int .i64 a), .raw (.int .i64 b)]))], none⟩) (fun k => k ≤ l.length ∧ ∀ j (hj : j < l.length), j < k → offN a b l[j] = false) (fun k => l.length - k) 4 0 (by simp only [go_sem, Bool.not_eq_true', Bool.not_eq_false']; rfl) (by simp only [go_sem, Bool.not_eq_true', Bool.not_eq_false']) ?_ ?_
  · exact ⟨Nat.zero_le _, fun j _ h => absurd h (Nat.not_lt_zero j)⟩
  · rintro k ⟨h1, h2⟩
    simp only [go_sem, Bool.not_eq_true', Bool.not_eq_false', List.length_map]
    refine ⟨fun h5 => ?_, fun h5 => ?_⟩
    · have hk : k < l.length := by omega
      refine ⟨by omega, ex_get hk ?_⟩
      (refine acall2 [] (has1_ok l[k] a b) (by simp only [go_sem, Bool.not_eq_true', Bool.not_eq_false']; rfl) (fit_of (by simp only [go_sem, Bool.not_eq_true', Bool.not_eq_false']) (by simp only [go_sem, Bool.not_eq_true', Bool.not_eq_false']) (by simp only [go_sem, Bool.not_eq_true', Bool.not_eq_false']) (by simp only [go_sem, Bool.not_eq_true', Bool.not_eq_false']) (by simp only [go_sem, Bool.not_eq_true', Bool.not_eq_false']) (by simp only [go_sem, Bool.not_eq_true', Bool.not_eq_false']) (by simp only [go_sem, Bool.not_eq_true', Bool.not_eq_false'])) ?_; simp only [go_sem, Bool.not_eq_true', Bool.not_eq_false'])
      refine ⟨fun h6 => ?_, fun h6 => ⟨by omega, ?_⟩⟩
      · rw [idxI_at hk h2 h6]
        (refine ret2 [] (by simp only [go_sem, Bool.not_eq_true', Bool.not_eq_false']; rfl) ?_; simp only [go_sem, Bool.not_eq_true', Bool.not_eq_false'])
      · (refine loop_end [] (k + 1) (by simp only [go_sem, Bool.not_eq_true', Bool.not_eq_false']; rfl) ?_ ?_ ?_; (focus first | omega | (simp only; omega)); (focus (simp only [go_sem, Bool.not_eq_true', Bool.not_eq_false']; done)))
        refine ⟨by omega, fun j hj h7 => ?_⟩
        rcases Nat.lt_succ_iff_lt_or_eq.1 h7 with h8 | h8
        · exact h2 j hj h8
        · subst h8; exact h6
    · rw [idxI_no (fun j hj => h2 j hj (by omega))]
      (refine ret2 [] (by simp only [go_sem, Bool.not_eq_true', Bool.not_eq_false']; rfl) ?_; simp only [go_sem, Bool.not_eq_true', Bool.not_eq_false'])
set_option maxRecDepth 100000 in
theorem any6_ok (l : List Int) (a b : Int) (hl : l.length ≤ 9223372036854775807) : FnOk Try.prog 104 [.sl 1 (l.map cInt), .clo (.func 128) [.hdr 0]] [(0, .cells 135 [.raw (.int .i64 a), .raw (.int .i64 b)])] (.raw (.bool (l.any (offN a b)))) [(0, .cells 135 [.raw (.int .i64 a), .raw (.int .i64 b)])] := by
  refine fn_of_awp Try.func104 rfl (by kernel_rfl) (by kernel_rfl) (Nat.le_of_ble_eq_true rfl) Try.results104 ?_
  simp only [go_sem, Bool.not_eq_true', Bool.not_eq_false']
  (refine acall2 [] (idx6_ok l a b hl) (by simp only [go_sem, Bool.not_eq_true', Bool.not_eq_false']; rfl) (fit_of (by simp only [go_sem, Bool.not_eq_true', Bool.not_eq_false']) (by simp only [go_sem, Bool.not_eq_true', Bool.not_eq_false']) (by simp only [go_sem, Bool.not_eq_true', Bool.not_eq_false']) (by simp only [go_sem, Bool.not_eq_true', Bool.not_eq_false']) (by simp only [go_sem, Bool.not_eq_true', Bool.not_eq_false']) (by simp only [go_sem, Bool.not_eq_true', Bool.not_eq_false']) (by simp only [go_sem, Bool.not_eq_true', Bool.not_eq_false'])) ?_; simp only [go_sem, Bool.not_eq_true', Bool.not_eq_false'])
  rw [← idxI_any]
  (refine ret2 [] (by simp only [go_sem, Bool.not_eq_true', Bool.not_eq_false']; rfl) ?_; simp only [go_sem, Bool.not_eq_true', Bool.not_eq_false'])
set_option maxRecDepth 100000 in
theorem has6_ok (l : List Int) (a b : Int) (hl : l.length ≤ 9223372036854775807) : FnOk Try.prog 121 [.agg [.raw (.int .i64 a), .raw (.int .i64 b)], .sl 1 (l.map cInt)] [] (.raw (.bool (!l.any (offN a b)))) [] := by
  refine fn_of_awp Try.func121 rfl (by kernel_rfl) (by kernel_rfl) (Nat.le_of_ble_eq_true rfl) Try.results121 ?_
  simp only [go_sem, Bool.not_eq_true', Bool.not_eq_false']
  (refine acall2 [] (any6_ok l a b hl) (by simp only [go_sem, Bool.not_eq_true', Bool.not_eq_false']; rfl) (fit_of (by simp only [go_sem, Bool.not_eq_true', Bool.not_eq_false']) (by simp only [go_sem, Bool.not_eq_true', Bool.not_eq_false']) (by simp only [go_sem, Bool.not_eq_true', Bool.not_eq_false']) (by simp only [go_sem, Bool.not_eq_true', Bool.not_eq_false']) (by simp only [go_sem, Bool.not_eq_true', Bool.not_eq_false']) (by simp only [go_sem, Bool.not_eq_true', Bool.not_eq_false']) (by simp only [go_sem, Bool.not_eq_true', Bool.not_eq_false'])) ?_; simp only [go_sem, Bool.not_eq_true', Bool.not_eq_false'])
end Go.Proofs.Ytbgcmnccjfdooaa
/- CHAPTER 06: valid: styles, nodes. -/
/- G -/
/- BOOLS -/
set_option linter.unusedSimpArgs false
set_option linter.unusedVariables false
namespace Go.Proofs.Ytbgcmnccjfdooaa
open Go.RowKit

def hasL (a b : Int) (l : List Int) : Bool := !l.any (offN a b)
def styB (s : LSty) : Bool := hasL 0 1099511627776 [s.top, s.bottom, s.padTop, s.padBottom, s.inset, s.head] && hasL 1 1099511627776 [s.orphans, s.widows] && hasL 0 4 [s.before, s.after] && hasL 0 1 [s.inside] && hasL 0 3 [s.clear]
theorem hasL_ok (l : List Int) (a b : Int) (hl : l.length ≤ 9223372036854775807) : FnOk Try.prog 121 [.agg [.raw (.int .i64 a), .raw (.int .i64 b)], .sl 1 (l.map cInt)] [] (.raw (.bool (hasL a b l))) [] := has6_ok l a b hl
set_option maxRecDepth 100000 in
set_option maxHeartbeats 4000000 in
theorem sty6_ok (s : LSty) : FnOk Try.prog 120 [aSty s] [] (.raw (.bool (styB s))) [] := by
  refine fn_of_swp Try.func120 rfl (by kernel_rfl) (by kernel_rfl) (Nat.le_of_ble_eq_true rfl) Try.results120 ?_
  (refine swp_seqW ?_; simp only [go_sem, Bool.not_eq_true', Bool.not_eq_false'])
  (refine swp_seqW ?_; simp only [go_sem, Bool.not_eq_true', Bool.not_eq_false'])
  (refine swp_seqW ?_; simp only [go_sem, Bool.not_eq_true', Bool.not_eq_false'])
  (refine acallF2 [176 ] [] ( hasL_ok [s.top, s.bottom, s.padTop, s.padBottom, s.inset, s.head] 0 1099511627776 (Nat.le_of_ble_eq_true rfl)) (by simp only [go_sem, Bool.not_eq_true', Bool.not_eq_false']; rfl) (fit_of (by simp only [go_sem, Bool.not_eq_true', Bool.not_eq_false']) (by simp only [go_sem, Bool.not_eq_true', Bool.not_eq_false']) (by simp only [go_sem, Bool.not_eq_true', Bool.not_eq_false']) (by simp only [go_sem, Bool.not_eq_true', Bool.not_eq_false']) (by simp only [go_sem, Bool.not_eq_true', Bool.not_eq_false']) (by simp only [go_sem, Bool.not_eq_true', Bool.not_eq_false']) (by simp only [go_sem, Bool.not_eq_true', Bool.not_eq_false'])) ?_; simp only [go_sem, Bool.not_eq_true', Bool.not_eq_false', Int.reduceToNat, Int.reduceLT, Int.reduceLE, Int.reduceEq, Int.reduceAdd, Int.reduceSub, Int.reduceMul, Int.reduceNeg, Int.reduceNe, decide_false, Int.cast_ofNat_Int, kSet, List.getElem?_cons_succ, List.getElem?_cons_zero, List.set_cons_succ, List.set_cons_zero, exists_eq_left', forall_const, true_implies, List.map])
  refine ⟨fun h1 => ?_, fun h1 => ?_⟩
  · (refine acallF2 [240 ] [] ( hasL_ok [s.orphans, s.widows] 1 1099511627776 (Nat.le_of_ble_eq_true rfl)) (by simp only [go_sem, Bool.not_eq_true', Bool.not_eq_false']; rfl) (fit_of (by simp only [go_sem, Bool.not_eq_true', Bool.not_eq_false']) (by simp only [go_sem, Bool.not_eq_true', Bool.not_eq_false']) (by simp only [go_sem, Bool.not_eq_true', Bool.not_eq_false']) (by simp only [go_sem, Bool.not_eq_true', Bool.not_eq_false']) (by simp only [go_sem, Bool.not_eq_true', Bool.not_eq_false']) (by simp only [go_sem, Bool.not_eq_true', Bool.not_eq_false']) (by simp only [go_sem, Bool.not_eq_true', Bool.not_eq_false'])) ?_; simp only [go_sem, Bool.not_eq_true', Bool.not_eq_false', Int.reduceToNat, Int.reduceLT, Int.reduceLE, Int.reduceEq, Int.reduceAdd, Int.reduceSub, Int.reduceMul, Int.reduceNeg, Int.reduceNe, decide_false, Int.cast_ofNat_Int, kSet, List.getElem?_cons_succ, List.getElem?_cons_zero, List.set_cons_succ, List.set_cons_zero, exists_eq_left', forall_const, true_implies, List.map])
    (refine swp_lastW ?_; simp only [go_sem, Bool.not_eq_true', Bool.not_eq_false', Int.reduceToNat, Int.reduceLT, Int.reduceLE, Int.reduceEq, Int.reduceAdd, Int.reduceSub, Int.reduceMul, Int.reduceNeg, Int.reduceNe, decide_false, Int.cast_ofNat_Int, kSet, List.getElem?_cons_succ, List.getElem?_cons_zero, List.set_cons_succ, List.set_cons_zero, exists_eq_left', forall_const, true_implies])
    refine ⟨fun h2 => ?_, fun h2 => ?_⟩
    · (refine acallF2 [328 ] [] ( hasL_ok [s.before, s.after] 0 4 (Nat.le_of_ble_eq_true rfl)) (by simp only [go_sem, Bool.not_eq_true', Bool.not_eq_false']; rfl) (fit_of (by simp only [go_sem, Bool.not_eq_true', Bool.not_eq_false']) (by simp only [go_sem, Bool.not_eq_true', Bool.not_eq_false']) (by simp only [go_sem, Bool.not_eq_true', Bool.not_eq_false']) (by simp only [go_sem, Bool.not_eq_true', Bool.not_eq_false']) (by simp only [go_sem, Bool.not_eq_true', Bool.not_eq_false']) (by simp only [go_sem, Bool.not_eq_true', Bool.not_eq_false']) (by simp only [go_sem, Bool.not_eq_true', Bool.not_eq_false'])) ?_; simp only [go_sem, Bool.not_eq_true', Bool.not_eq_false', Int.reduceToNat, Int.reduceLT, Int.reduceLE, Int.reduceEq, Int.reduceAdd, Int.reduceSub, Int.reduceMul, Int.reduceNeg, Int.reduceNe, decide_false, Int.cast_ofNat_Int, kSet, List.getElem?_cons_succ, List.getElem?_cons_zero, List.set_cons_succ, List.set_cons_zero, exists_eq_left', forall_const, true_implies, List.map])
      refine ⟨fun h3 => ?_, fun h3 => ?_⟩
      · (refine acallF2 [384 ] [] ( hasL_ok [s.inside] 0 1 (Nat.le_of_ble_eq_true rfl)) (by simp only [go_sem, Bool.not_eq_true', Bool.not_eq_false']; rfl) (fit_of (by simp only [go_sem, Bool.not_eq_true', Bool.not_eq_false']) (by simp only [go_sem, Bool.not_eq_true', Bool.not_eq_false']) (by simp only [go_sem, Bool.not_eq_true', Bool.not_eq_false']) (by simp only [go_sem, Bool.not_eq_true', Bool.not_eq_false']) (by simp only [go_sem, Bool.not_eq_true', Bool.not_eq_false']) (by simp only [go_sem, Bool.not_eq_true', Bool.not_eq_false']) (by simp only [go_sem, Bool.not_eq_true', Bool.not_eq_false'])) ?_; simp only [go_sem, Bool.not_eq_true', Bool.not_eq_false', Int.reduceToNat, Int.reduceLT, Int.reduceLE, Int.reduceEq, Int.reduceAdd, Int.reduceSub, Int.reduceMul, Int.reduceNeg, Int.reduceNe, decide_false, Int.cast_ofNat_Int, kSet, List.getElem?_cons_succ, List.getElem?_cons_zero, List.set_cons_succ, List.set_cons_zero, exists_eq_left', forall_const, true_implies, List.map])
        refine ⟨fun h4 => ?_, fun h4 => ?_⟩
        · (refine acallF2 [440 ] [] ( hasL_ok [s.clear] 0 3 (Nat.le_of_ble_eq_true rfl)) (by simp only [go_sem, Bool.not_eq_true', Bool.not_eq_false']; rfl) (fit_of (by simp only [go_sem, Bool.not_eq_true', Bool.not_eq_false']) (by simp only [go_sem, Bool.not_eq_true', Bool.not_eq_false']) (by simp only [go_sem, Bool.not_eq_true', Bool.not_eq_false']) (by simp only [go_sem, Bool.not_eq_true', Bool.not_eq_false']) (by simp only [go_sem, Bool.not_eq_true', Bool.not_eq_false']) (by simp only [go_sem, Bool.not_eq_true', Bool.not_eq_false']) (by simp only [go_sem, Bool.not_eq_true', Bool.not_eq_false'])) ?_; simp only [go_sem, Bool.not_eq_true', Bool.not_eq_false', Int.reduceToNat, Int.reduceLT, Int.reduceLE, Int.reduceEq, Int.reduceAdd, Int.reduceSub, Int.reduceMul, Int.reduceNeg, Int.reduceNe, decide_false, Int.cast_ofNat_Int, kSet, List.getElem?_cons_succ, List.getElem?_cons_zero, List.set_cons_succ, List.set_cons_zero, exists_eq_left', forall_const, true_implies, List.map])
          simp [styB, *]
        · simp [styB, *]
      · simp [styB, *]
    · simp [styB, *]
  · have e : styB s = false := by simp [styB, h1]
    rw [e]
    (refine swp_lastW ?_; simp only [go_sem, Bool.not_eq_true', Bool.not_eq_false', Int.reduceToNat, Int.reduceLT, Int.reduceLE, Int.reduceEq, Int.reduceAdd, Int.reduceSub, Int.reduceMul, Int.reduceNeg, Int.reduceNe, decide_false, Int.cast_ofNat_Int, kSet, List.getElem?_cons_succ, List.getElem?_cons_zero, List.set_cons_succ, List.set_cons_zero, exists_eq_left', forall_const, true_implies])
def txtB (x : LNo) : Bool := decide (x.line = 0) && decide (x.space = 0) && decide (x.words.length = 0)
def bareB (x : LNo) : Bool := decide (x.st.top = 0) && (decide (x.st.bottom = 0) && (decide (x.st.padTop = 0) && (decide (x.st.padBottom = 0) && (decide (x.st.inset = 0) && (decide (x.st.orphans = 0) && (decide (x.st.widows = 0) && (decide (x.st.head = 0) && (decide (x.st.before = 0) && (decide (x.st.after = 0) && (decide (x.st.inside = 0) && decide (x.st.clear = 0)))))))))))
def nodB (x : LNo) : Bool :=
  if x.kind = 1 then txtB x && decide (x.w = 0) && decide (x.h = 0) && decide (x.side = 0) && styB x.st
  else if x.kind = 2 then bareB x && decide (x.w = 0) && decide (x.h = 0) && decide (x.side = 0) && hasL 1 1099511627776 [x.line] && hasL 1 1099511627776 x.words && hasL 0 1099511627776 [x.space] && decide (0 < x.words.length)
  else if x.kind = 3 then bareB x && txtB x && decide (x.side = 0) && hasL 1 1099511627776 [x.w, x.h]
  else if x.kind = 4 then bareB x && txtB x && hasL 1 1099511627776 [x.w, x.h] && hasL 1 2 [x.side]
  else false
set_option maxRecDepth 100000 in
set_option maxHeartbeats 4000000 in
theorem fits6_ok (x : LNo) (hw : x.words.length ≤ 9223372036854775807) : FnOk Try.prog 97 [aNo x] [] (.raw (.bool (nodB x))) [] := by
  refine fn_of_swp Try.func97 rfl (by kernel_rfl) (by kernel_rfl) (Nat.le_of_ble_eq_true rfl) Try.results97 ?_
  (refine swp_seqW ?_; simp only [go_sem, Bool.not_eq_true', Bool.not_eq_false'])
  (refine swp_seqW ?_; simp only [go_sem, Bool.not_eq_true', Bool.not_eq_false'])
  (refine swp_seqW ?_; simp only [go_sem, Bool.not_eq_true', Bool.not_eq_false'])
  refine swp_cutS (fun b : Bool => ⟨[(1, .hdr 8), (3, .hdr 16), (4, .raw (.bool (bareB x))), (5, .raw (.bool b))], [(8, some (.cells 45 (lNo x))), (16, some (.cells 135 [.raw (.int .i64 1), .raw (.int .i64 1099511627776)]))], none⟩) (fun b => b = txtB x) 4 ?_ ?_
  · (refine swp_lastW ?_; simp only [go_sem, Bool.not_eq_true', Bool.not_eq_false'])
    refine ⟨fun h1 => ⟨fun h2 => ?_, fun h2 => ?_⟩, fun h1 => ?_⟩
    · (refine cut_end [] (decide ((x.words.length : Int) = 0)) (by simp only [go_sem, Bool.not_eq_true', Bool.not_eq_false']; rfl) ?_ ?_; (focus (simp only [go_sem, Bool.not_eq_true', Bool.not_eq_false', bareB]; done)))
      simp only [txtB]; rw [h1, h2]; simp
    · (refine cut_end [] (false) (by simp only [go_sem, Bool.not_eq_true', Bool.not_eq_false']; rfl) ?_ ?_; (focus (simp only [go_sem, Bool.not_eq_true', Bool.not_eq_false', bareB]; done)))
      simp [txtB, h2]
    · (refine cut_end [] (false) (by simp only [go_sem, Bool.not_eq_true', Bool.not_eq_false']; rfl) ?_ ?_; (focus (simp only [go_sem, Bool.not_eq_true', Bool.not_eq_false', bareB]; done)))
      simp [txtB, h1]
  rintro b rfl
  refine swp_seqS ?_
  (refine swp_seqW ?_; simp only [go_sem, Bool.not_eq_true', Bool.not_eq_false'])
  refine swp_block ?_
  (refine swp_seqW ?_; simp only [go_sem, Bool.not_eq_true', Bool.not_eq_false'])
  (refine swp_condW ?_; simp only [go_sem, Bool.not_eq_true', Bool.not_eq_false'])
  refine ⟨fun k1 => ?_, fun k1 => ?_⟩
  · have e : nodB x = (txtB x && decide (x.w = 0) && decide (x.h = 0) && decide (x.side = 0) && styB x.st) := by unfold nodB; rw [if_pos k1]
    rw [e]
    (refine swp_lastW ?_; simp only [go_sem, Bool.not_eq_true', Bool.not_eq_false'])
    repeat' first | contradiction | intro _ | refine And.intro ?_ ?_ | refine ex_get (by omega) ?_ | (show drawB _ _ = true; kernel_rfl) | (refine ret2 [] (by simp only [go_sem, Bool.not_eq_true', Bool.not_eq_false']; rfl) ?_; simp only [go_sem, Bool.not_eq_true', Bool.not_eq_false']) | (refine acall2 [] (sty6_ok x.st) (by simp only [go_sem, Bool.not_eq_true', Bool.not_eq_false']; rfl) (fit_of (by simp only [go_sem, Bool.not_eq_true', Bool.not_eq_false']) (by simp only [go_sem, Bool.not_eq_true', Bool.not_eq_false']) (by simp only [go_sem, Bool.not_eq_true', Bool.not_eq_false']) (by simp only [go_sem, Bool.not_eq_true', Bool.not_eq_false']) (by simp only [go_sem, Bool.not_eq_true', Bool.not_eq_false']) (by simp only [go_sem, Bool.not_eq_true', Bool.not_eq_false']) (by simp only [go_sem, Bool.not_eq_true', Bool.not_eq_false'])) ?_; simp only [go_sem, Bool.not_eq_true', Bool.not_eq_false'])
    all_goals simp [*]
  (refine swp_seqW ?_; simp only [go_sem, Bool.not_eq_true', Bool.not_eq_false'])
  (refine swp_condW ?_; simp only [go_sem, Bool.not_eq_true', Bool.not_eq_false'])
  refine ⟨fun k2 => ?_, fun k2 => ?_⟩
  · have e : nodB x = (bareB x && decide (x.w = 0) && decide (x.h = 0) && decide (x.side = 0) && hasL 1 1099511627776 [x.line] && hasL 1 1099511627776 x.words && hasL 0 1099511627776 [x.space] && decide (0 < x.words.length)) := by unfold nodB; rw [if_neg k1, if_pos k2]
    rw [e]
    (refine swp_lastW ?_; simp only [go_sem, Bool.not_eq_true', Bool.not_eq_false'])
    refine ⟨fun h1 => ⟨fun h2 => ⟨fun h3 => ⟨fun h4 => ?_, fun h4 => ?_⟩, fun h3 => ?_⟩, fun h2 => ?_⟩, fun h1 => ?_⟩
    · (refine acallF2 [240 ] [] ( hasL_ok [x.line] 1 1099511627776 (Nat.le_of_ble_eq_true rfl)) (by simp only [go_sem, Bool.not_eq_true', Bool.not_eq_false']; rfl) (fit_of (by simp only [go_sem, Bool.not_eq_true', Bool.not_eq_false']) (by simp only [go_sem, Bool.not_eq_true', Bool.not_eq_false']) (by simp only [go_sem, Bool.not_eq_true', Bool.not_eq_false']) (by simp only [go_sem, Bool.not_eq_true', Bool.not_eq_false']) (by simp only [go_sem, Bool.not_eq_true', Bool.not_eq_false']) (by simp only [go_sem, Bool.not_eq_true', Bool.not_eq_false']) (by simp only [go_sem, Bool.not_eq_true', Bool.not_eq_false'])) ?_; simp only [go_sem, Bool.not_eq_true', Bool.not_eq_false', Int.reduceToNat, Int.reduceLT, Int.reduceLE, Int.reduceEq, Int.reduceAdd, Int.reduceSub, Int.reduceMul, Int.reduceNeg, Int.reduceNe, decide_false, Int.cast_ofNat_Int, kSet, List.getElem?_cons_succ, List.getElem?_cons_zero, List.set_cons_succ, List.set_cons_zero, exists_eq_left', forall_const, true_implies, List.map])
      refine ⟨fun h5 => ?_, fun h5 => ?_⟩
      · (refine acall2 [] (hasL_ok x.words 1 1099511627776 hw) (by simp only [go_sem, Bool.not_eq_true', Bool.not_eq_false']; rfl) (fit_of (by simp only [go_sem, Bool.not_eq_true', Bool.not_eq_false']) (by simp only [go_sem, Bool.not_eq_true', Bool.not_eq_false']) (by simp only [go_sem, Bool.not_eq_true', Bool.not_eq_false']) (by simp only [go_sem, Bool.not_eq_true', Bool.not_eq_false']) (by simp only [go_sem, Bool.not_eq_true', Bool.not_eq_false']) (by simp only [go_sem, Bool.not_eq_true', Bool.not_eq_false']) (by simp only [go_sem, Bool.not_eq_true', Bool.not_eq_false'])) ?_; simp only [go_sem, Bool.not_eq_true', Bool.not_eq_false'])
        refine ⟨fun h6 => ?_, fun h6 => ?_⟩
        · (refine acallF2 [344 ] [] ( hasL_ok [x.space] 0 1099511627776 (Nat.le_of_ble_eq_true rfl)) (by simp only [go_sem, Bool.not_eq_true', Bool.not_eq_false']; rfl) (fit_of (by simp only [go_sem, Bool.not_eq_true', Bool.not_eq_false']) (by simp only [go_sem, Bool.not_eq_true', Bool.not_eq_false']) (by simp only [go_sem, Bool.not_eq_true', Bool.not_eq_false']) (by simp only [go_sem, Bool.not_eq_true', Bool.not_eq_false']) (by simp only [go_sem, Bool.not_eq_true', Bool.not_eq_false']) (by simp only [go_sem, Bool.not_eq_true', Bool.not_eq_false']) (by simp only [go_sem, Bool.not_eq_true', Bool.not_eq_false'])) ?_; simp only [go_sem, Bool.not_eq_true', Bool.not_eq_false', Int.reduceToNat, Int.reduceLT, Int.reduceLE, Int.reduceEq, Int.reduceAdd, Int.reduceSub, Int.reduceMul, Int.reduceNeg, Int.reduceNe, decide_false, Int.cast_ofNat_Int, kSet, List.getElem?_cons_succ, List.getElem?_cons_zero, List.set_cons_succ, List.set_cons_zero, exists_eq_left', forall_const, true_implies, List.map])
          refine ⟨fun h7 => ?_, fun h7 => ?_⟩ <;> simp [*]
        · simp [*]
      · simp [*]
    all_goals simp [*]
  (refine swp_seqW ?_; simp only [go_sem, Bool.not_eq_true', Bool.not_eq_false'])
  (refine swp_condW ?_; simp only [go_sem, Bool.not_eq_true', Bool.not_eq_false'])
  refine ⟨fun k3 => ?_, fun k3 => ?_⟩
  · have e : nodB x = (bareB x && txtB x && decide (x.side = 0) && hasL 1 1099511627776 [x.w, x.h]) := by unfold nodB; rw [if_neg k1, if_neg k2, if_pos k3]
    rw [e]
    (refine swp_lastW ?_; simp only [go_sem, Bool.not_eq_true', Bool.not_eq_false'])
    refine ⟨fun h1 => ⟨fun h2 => ⟨fun h3 => ?_, fun h3 => ?_⟩, fun h2 => ?_⟩, fun h1 => ?_⟩
    · (refine acallF2 [216 ] [] ( hasL_ok [x.w, x.h] 1 1099511627776 (Nat.le_of_ble_eq_true rfl)) (by simp only [go_sem, Bool.not_eq_true', Bool.not_eq_false']; rfl) (fit_of (by simp only [go_sem, Bool.not_eq_true', Bool.not_eq_false']) (by simp only [go_sem, Bool.not_eq_true', Bool.not_eq_false']) (by simp only [go_sem, Bool.not_eq_true', Bool.not_eq_false']) (by simp only [go_sem, Bool.not_eq_true', Bool.not_eq_false']) (by simp only [go_sem, Bool.not_eq_true', Bool.not_eq_false']) (by simp only [go_sem, Bool.not_eq_true', Bool.not_eq_false']) (by simp only [go_sem, Bool.not_eq_true', Bool.not_eq_false'])) ?_; simp only [go_sem, Bool.not_eq_true', Bool.not_eq_false', Int.reduceToNat, Int.reduceLT, Int.reduceLE, Int.reduceEq, Int.reduceAdd, Int.reduceSub, Int.reduceMul, Int.reduceNeg, Int.reduceNe, decide_false, Int.cast_ofNat_Int, kSet, List.getElem?_cons_succ, List.getElem?_cons_zero, List.set_cons_succ, List.set_cons_zero, exists_eq_left', forall_const, true_implies, List.map])
      simp [*]
    all_goals simp [*]
  (refine swp_seqW ?_; simp only [go_sem, Bool.not_eq_true', Bool.not_eq_false'])
  (refine swp_condW ?_; simp only [go_sem, Bool.not_eq_true', Bool.not_eq_false'])
  refine ⟨fun k4 => ?_, fun k4 => ?_⟩
  · have e : nodB x = (bareB x && txtB x && hasL 1 1099511627776 [x.w, x.h] && hasL 1 2 [x.side]) := by unfold nodB; rw [if_neg k1, if_neg k2, if_neg k3, if_pos k4]
    rw [e]
    (refine swp_lastW ?_; simp only [go_sem, Bool.not_eq_true', Bool.not_eq_false'])
    refine ⟨fun h1 => ⟨fun h2 => ?_, fun h2 => ?_⟩, fun h1 => ?_⟩
    · (refine acallF2 [192 ] [] ( hasL_ok [x.w, x.h] 1 1099511627776 (Nat.le_of_ble_eq_true rfl)) (by simp only [go_sem, Bool.not_eq_true', Bool.not_eq_false']; rfl) (fit_of (by simp only [go_sem, Bool.not_eq_true', Bool.not_eq_false']) (by simp only [go_sem, Bool.not_eq_true', Bool.not_eq_false']) (by simp only [go_sem, Bool.not_eq_true', Bool.not_eq_false']) (by simp only [go_sem, Bool.not_eq_true', Bool.not_eq_false']) (by simp only [go_sem, Bool.not_eq_true', Bool.not_eq_false']) (by simp only [go_sem, Bool.not_eq_true', Bool.not_eq_false']) (by simp only [go_sem, Bool.not_eq_true', Bool.not_eq_false'])) ?_; simp only [go_sem, Bool.not_eq_true', Bool.not_eq_false', Int.reduceToNat, Int.reduceLT, Int.reduceLE, Int.reduceEq, Int.reduceAdd, Int.reduceSub, Int.reduceMul, Int.reduceNeg, Int.reduceNe, decide_false, Int.cast_ofNat_Int, kSet, List.getElem?_cons_succ, List.getElem?_cons_zero, List.set_cons_succ, List.set_cons_zero, exists_eq_left', forall_const, true_implies, List.map])
      refine ⟨fun h3 => ?_, fun h3 => ?_⟩
      · (refine acallF2 [248 ] [] ( hasL_ok [x.side] 1 2 (Nat.le_of_ble_eq_true rfl)) (by simp only [go_sem, Bool.not_eq_true', Bool.not_eq_false']; rfl) (fit_of (by simp only [go_sem, Bool.not_eq_true', Bool.not_eq_false']) (by simp only [go_sem, Bool.not_eq_true', Bool.not_eq_false']) (by simp only [go_sem, Bool.not_eq_true', Bool.not_eq_false']) (by simp only [go_sem, Bool.not_eq_true', Bool.not_eq_false']) (by simp only [go_sem, Bool.not_eq_true', Bool.not_eq_false']) (by simp only [go_sem, Bool.not_eq_true', Bool.not_eq_false']) (by simp only [go_sem, Bool.not_eq_true', Bool.not_eq_false'])) ?_; simp only [go_sem, Bool.not_eq_true', Bool.not_eq_false', Int.reduceToNat, Int.reduceLT, Int.reduceLE, Int.reduceEq, Int.reduceAdd, Int.reduceSub, Int.reduceMul, Int.reduceNeg, Int.reduceNe, decide_false, Int.cast_ofNat_Int, kSet, List.getElem?_cons_succ, List.getElem?_cons_zero, List.set_cons_succ, List.set_cons_zero, exists_eq_left', forall_const, true_implies, List.map])
        simp [*]
      · simp [*]
    all_goals simp [*]
  have e : nodB x = false := by unfold nodB; rw [if_neg k1, if_neg k2, if_neg k3, if_neg k4]
  rw [e]
  (refine swp_lastW ?_; simp only [go_sem, Bool.not_eq_true', Bool.not_eq_false'])
  (refine swp_lastW ?_; simp only [go_sem, Bool.not_eq_true', Bool.not_eq_false'])
end Go.Proofs.Ytbgcmnccjfdooaa
/- CHAPTER 06: valid: nodes within nodes. -/
/- G -/
/- BOOLS -/
set_option linter.unusedSimpArgs false
set_option linter.unusedVariables false
namespace Go.Proofs.Ytbgcmnccjfdooaa
open Go.RowKit

def topI (st : List Int) : Int := st.getD (st.length - 1) 0
def popS (i : Int) : Nat → List Int → List Int
  | 0, st => st
  | f + 1, st => if 1 < st.length ∧ topI st = i then popS i f (st.take (st.length - 1)) else st
def isG : List LNo → Nat → List Int → Bool
  | [], _, _ => true
  | x :: l, i, st => nodB x && decide (1 ≤ x.size) && decide (x.size ≤ topI (popS i st.length st) - i) && !(decide (x.kind ≠ 1) && decide (1 < x.size)) && isG l (i + 1) (popS i st.length st ++ [i + x.size])
def isS (l : List LNo) : Bool := isG l 0 [(l.length : Int)]
theorem popS_sub (i : Int) : ∀ f st, (∀ e ∈ popS i f st, e ∈ st) ∧ (popS i f st).length ≤ st.length ∧ (1 ≤ st.length → 1 ≤ (popS i f st).length)
  | 0, st => ⟨fun _ h => h, Nat.le_refl _, fun h => h⟩
  | f + 1, st => by
    rw [popS]
    split
    · next h =>
      obtain ⟨h1, h2, h3⟩ := popS_sub i f (st.take (st.length - 1))
      simp only [List.length_take] at h2 h3
      exact ⟨fun e he => List.mem_of_mem_take (h1 e he), by omega, fun _ => h3 (by omega)⟩
    · exact ⟨fun _ h => h, Nat.le_refl _, fun h => h⟩
theorem topI_mem {st : List Int} (h : 1 ≤ st.length) : topI st ∈ st := by
  unfold topI
  rw [List.getD_eq_getElem?_getD, List.getElem?_eq_getElem (by omega : st.length - 1 < st.length)]
  exact List.getElem_mem _
theorem topI_get {st : List Int} (h : 1 ≤ st.length) : st[st.length - 1]? = some (topI st) := by
  unfold topI
  rw [List.getD_eq_getElem?_getD, List.getElem?_eq_getElem (by omega : st.length - 1 < st.length)]
  rfl
theorem tm1 (k : Nat) : ((k : Int) - 1).toNat = k - 1 := by omega
theorem ex_i {α : Type} {o : Option α} {a : α} {P : α → Prop} (h : o = some a) (p : P a) : ∃ x, o = some x ∧ P x := ⟨a, h, p⟩
structure LIv6 where
  i : Nat
  st : List Int
set_option maxRecDepth 100000 in
set_option maxHeartbeats 4000000 in
theorem is6_ok (l : List LNo) (hl : l.length ≤ 1000) (hw : ∀ x ∈ l, x.words.length ≤ 9223372036854775807) : FnOk Try.prog 69 [.sl 20 (l.map cNo)] [] (.raw (.bool (isS l))) [] := by
  refine fn_of_swp Try.func69 rfl (by kernel_rfl) (by kernel_rfl) (Nat.le_of_ble_eq_true rfl) Try.results69 ?_
  (refine swp_seqW ?_; simp only [go_sem, Bool.not_eq_true', Bool.not_eq_false'])
  (refine swp_seqW ?_; simp only [go_sem, Bool.not_eq_true', Bool.not_eq_false', List.length_map])
  refine swp_cutS (fun _ : Unit => ⟨[], [], none⟩) (fun _ => isS l = true) 4 ?_ ?_
  · (refine swp_seqW ?_; simp only [go_sem, Bool.not_eq_true', Bool.not_eq_false', List.length_map])
    refine swp_block ?_
    refine swp_loop2 [] (fun z : LIv6 => ⟨[(3, .hdr 8), (9, .sl 20 (l.map cNo)), (10, .raw (.int .i64 l.length)), (11, .raw (.int .i64 z.i))], [(8, some (.row 3 1 (z.st.map cInt)))], none⟩) (fun z => z.i ≤ l.length ∧ 1 ≤ z.st.length ∧ z.st.length ≤ z.i + 1 ∧ (∀ e ∈ z.st, 0 ≤ e ∧ e ≤ l.length) ∧ isG (l.drop z.i) z.i z.st = isS l) (fun z => l.length - z.i) 40 ⟨0, [(l.length : Int)]⟩ (by simp only [go_sem, Bool.not_eq_true', Bool.not_eq_false']; rfl) (by simp only [go_sem, Bool.not_eq_true', Bool.not_eq_false']) ?_ ?_
    · exact ⟨Nat.zero_le _, Nat.le_refl _, Nat.le_refl _, fun e he => by simp at he; omega, rfl⟩
    · rintro ⟨i, st⟩ ⟨q1, q2, q3, q4, q5⟩
      simp only at q1 q2 q3 q4 q5
      (refine swp_seqW ?_; simp only [go_sem, Bool.not_eq_true', Bool.not_eq_false'])
      (refine swp_seqW ?_; simp only [go_sem, Bool.not_eq_true', Bool.not_eq_false'])
      refine ⟨fun h5 => ?_, fun h5 => ?_⟩
      rotate_left
      · (refine cut_end [] (()) (by simp only [go_sem, Bool.not_eq_true', Bool.not_eq_false']; rfl) ?_ ?_; (focus (simp only [go_sem, Bool.not_eq_true', Bool.not_eq_false']; done)))
        rw [← q5, List.drop_eq_nil_of_le (by omega)]; rfl
      have hi : i < l.length := by omega
      rw [List.drop_eq_getElem_cons hi, isG] at q5
      have hx := hw l[i] (List.getElem_mem hi)
      have hp := popS_sub i st.length st
      generalize hst : popS i st.length st = st2 at q5 hp
      refine swp_seqS ?_
      refine swp_block ?_
      (refine swp_seqW ?_; simp only [go_sem, Bool.not_eq_true', Bool.not_eq_false'])
      refine ⟨by omega, ex_get hi ?_⟩
      generalize l[i] = x at q5 hx ⊢
      refine swp_cutS (fun _ : Unit => ⟨[(3, .hdr 8), (4, .raw (.int .i64 i)), (5, .hdr 16), (9, .sl 20 (l.map cNo)), (10, .raw (.int .i64 l.length)), (11, .raw (.int .i64 i))], [(8, some (.row 3 1 (st2.map cInt))), (16, some (.cells 45 (lNo x)))], none⟩) (fun _ => True) 60 ?_ ?_
      · refine swp_block ?_
        refine swp_loop2 [] (fun s : List Int => ⟨[(3, .hdr 8), (4, .raw (.int .i64 i)), (5, .hdr 16), (9, .sl 20 (l.map cNo)), (10, .raw (.int .i64 l.length)), (11, .raw (.int .i64 i))], [(8, some (.row 3 1 (s.map cInt))), (16, some (.cells 45 (lNo x)))], none⟩) (fun s => 1 ≤ s.length ∧ s.length ≤ 1001 ∧ ∃ f, s.length ≤ f ∧ popS i f s = st2) (fun s => s.length) 80 st (by simp only [go_sem, Bool.not_eq_true', Bool.not_eq_false']; rfl) (by simp only [go_sem, Bool.not_eq_true', Bool.not_eq_false']) ?_ ?_
        · exact ⟨q2, by omega, st.length, Nat.le_refl _, hst⟩
        · rintro s ⟨p1, p2, f, p3, p4⟩
          obtain ⟨f, rfl⟩ : ∃ g, f = g + 1 := ⟨f - 1, by omega⟩
          rw [popS] at p4
          (refine swp_lastW ?_; simp only [go_sem, Bool.not_eq_true', Bool.not_eq_false', List.length_map, tm1])
          refine ⟨fun h6 => ⟨by omega, by omega, _, topI_get p1, fun h7 => ⟨by omega, by omega, ?_⟩, fun h7 => ?_⟩, fun h6 => ?_⟩
          · rw [if_pos ⟨by omega, h7⟩] at p4
            have e : (s.take (s.length - 1)).length = s.length - 1 := by simp
            (refine loop_end [] (s.take (s.length - 1)) (by simp only [go_sem, Bool.not_eq_true', Bool.not_eq_false']; rfl) ?_ ?_ ?_; (focus first | omega | (simp only; omega)); (focus (simp only [go_sem, Bool.not_eq_true', Bool.not_eq_false']; done)))
            exact ⟨by omega, by omega, f, by omega, p4⟩
          · rw [if_neg (fun q => h7 q.2)] at p4
            subst p4
            (refine cut_end [] (()) (by simp only [go_sem, Bool.not_eq_true', Bool.not_eq_false']; rfl) ?_ ?_; (focus (simp only [go_sem, Bool.not_eq_true', Bool.not_eq_false']; done)))
            trivial
          · rw [if_neg (fun q => h6 (by omega))] at p4
            subst p4
            (refine cut_end [] (()) (by simp only [go_sem, Bool.not_eq_true', Bool.not_eq_false']; rfl) ?_ ?_; (focus (simp only [go_sem, Bool.not_eq_true', Bool.not_eq_false']; done)))
            trivial
      rintro - -
      (refine swp_seqW ?_; simp only [go_sem, Bool.not_eq_true', Bool.not_eq_false'])
      have hp1 : 1 ≤ st2.length := hp.2.2 q2
      have hp2 := q4 _ (hp.1 _ (topI_mem hp1))
      (refine acall2 [] (fits6_ok x hx) (by simp only [go_sem, Bool.not_eq_true', Bool.not_eq_false']; rfl) (fit_of (by simp only [go_sem, Bool.not_eq_true', Bool.not_eq_false']) (by simp only [go_sem, Bool.not_eq_true', Bool.not_eq_false']) (by simp only [go_sem, Bool.not_eq_true', Bool.not_eq_false']) (by simp only [go_sem, Bool.not_eq_true', Bool.not_eq_false']) (by simp only [go_sem, Bool.not_eq_true', Bool.not_eq_false']) (by simp only [go_sem, Bool.not_eq_true', Bool.not_eq_false']) (by simp only [go_sem, Bool.not_eq_true', Bool.not_eq_false'])) ?_; simp only [go_sem, Bool.not_eq_true', Bool.not_eq_false', List.length_map, tm1])
      repeat' first | refine And.intro ?_ ?_ | intro _ | refine ex_i (topI_get hp1) ?_
      all_goals first
        | omega
        | (show drawB _ _ = true; kernel_rfl)
        | (refine Bool.eq_false_iff.2 (fun q => ?_)
           rw [← q5] at q
           simp only [Bool.and_eq_true, Bool.not_eq_true', Bool.and_eq_false_iff, decide_eq_true_eq, decide_eq_false_iff_not] at q
           obtain ⟨⟨⟨⟨u1, u2⟩, u3⟩, u4⟩, u5⟩ := q
           first
             | omega
             | (simp_all; done))
        | skip
      all_goals
        have u : (nodB x && decide (1 ≤ x.size) && decide (x.size ≤ topI st2 - ↑i) && !(decide (x.kind ≠ 1) && decide (1 < x.size))) = true := by
          simp only [Bool.and_eq_true, Bool.not_eq_true', Bool.and_eq_false_iff, decide_eq_true_eq, decide_eq_false_iff_not]
          exact ⟨⟨⟨by assumption, by omega⟩, by omega⟩, by omega⟩
        rw [u, Bool.true_and] at q5
        (refine swp_lastW ?_; simp only [go_sem, Bool.not_eq_true', Bool.not_eq_false', List.length_map])
        refine ⟨by omega, ⟨by omega, by omega⟩, ?_⟩
        (refine swp_lastW ?_; simp only [go_sem, Bool.not_eq_true', Bool.not_eq_false'])
        refine ⟨by omega, ?_⟩
        have e2 : (st2 ++ [(i : Int) + x.size]).length = st2.length + 1 := by simp
        (refine loop_end [] (⟨i + 1, st2 ++ [(i : Int) + x.size]⟩) (by simp only [go_sem, Bool.not_eq_true', Bool.not_eq_false']; rfl) ?_ ?_ ?_; (focus first | omega | (simp only; omega)); (focus (simp only [go_sem, Bool.not_eq_true', Bool.not_eq_false', List.map_append]; done)))
        refine ⟨by simp only; omega, by simp only; omega, by simp only; omega, fun e he => ?_, q5⟩
        rcases List.mem_append.1 he with h | h
        · exact q4 _ (hp.1 _ h)
        · simp only [List.mem_singleton] at h; omega
  rintro - hs
  rw [hs]
  (refine swp_lastW ?_; simp only [go_sem, Bool.not_eq_true', Bool.not_eq_false'])
end Go.Proofs.Ytbgcmnccjfdooaa
/- CHAPTER 08: tree: of, has, parent. -/
/- G -/
/- BOOLS -/
set_option linter.unusedSimpArgs false
set_option linter.unusedVariables false
namespace Go.Proofs.Ytbgcmnccjfdooaa
open Go.RowKit

theorem isG_sizes (N : Int) : ∀ (l : List LNo) (i : Nat) (st : List Int), isG l i st = true → 1 ≤ st.length → (∀ e ∈ st, e ≤ N) → ∀ x ∈ l, 1 ≤ x.size ∧ x.size ≤ N
  | [], _, _, _, _, _, x, hx => by cases hx
  | y :: l, i, st, h, h1, h2, x, hx => by
    rw [isG] at h
    simp only [Bool.and_eq_true, Bool.not_eq_true', Bool.and_eq_false_iff, decide_eq_true_eq, decide_eq_false_iff_not] at h
    obtain ⟨⟨⟨⟨u1, u2⟩, u3⟩, u4⟩, u5⟩ := h
    have hp := popS_sub i st.length st
    have ht := h2 _ (hp.1 _ (topI_mem (hp.2.2 h1)))
    rcases List.mem_cons.1 hx with e | e
    · subst e; exact ⟨u2, by omega⟩
    · refine isG_sizes N l (i + 1) _ u5 (by simp) (fun e he => ?_) x e
      rcases List.mem_append.1 he with h | h
      · exact h2 _ (hp.1 _ h)
      · simp only [List.mem_singleton] at h; omega
theorem isS_sizes {l : List LNo} (h : isS l = true) : ∀ x ∈ l, 1 ≤ x.size ∧ x.size ≤ l.length := isG_sizes _ l 0 _ h (Nat.le_refl _) (fun e he => by simp at he; omega)
def docN (l : List LNo) : List LNo := if isS l = true then l else []
theorem docN_len (l : List LNo) : (docN l).length ≤ l.length := by
  unfold docN
  split
  · exact Nat.le_refl _
  · exact Nat.zero_le _
theorem docN_sizes (l : List LNo) : ∀ x ∈ docN l, 1 ≤ x.size ∧ x.size ≤ (docN l).length := by
  unfold docN
  split
  · next h => exact isS_sizes h
  · intro x hx; cases hx
set_option maxRecDepth 100000 in
theorem of8_ok (l : List LNo) (hl : l.length ≤ 1000) (hw : ∀ x ∈ l, x.words.length ≤ 9223372036854775807) : FnOk Try.prog 73 [.sl 20 (l.map cNo)] [] (.agg [.sl 20 ((docN l).map cNo)]) [] := by
  refine fn_of_awp Try.func73 rfl (by kernel_rfl) (by kernel_rfl) (Nat.le_of_ble_eq_true rfl) Try.results73 ?_
  simp only [go_sem, Bool.not_eq_true', Bool.not_eq_false']
  (refine acall2 [] (is6_ok l hl hw) (by simp only [go_sem, Bool.not_eq_true', Bool.not_eq_false']; rfl) (fit_of (by simp only [go_sem, Bool.not_eq_true', Bool.not_eq_false']) (by simp only [go_sem, Bool.not_eq_true', Bool.not_eq_false']) (by simp only [go_sem, Bool.not_eq_true', Bool.not_eq_false']) (by simp only [go_sem, Bool.not_eq_true', Bool.not_eq_false']) (by simp only [go_sem, Bool.not_eq_true', Bool.not_eq_false']) (by simp only [go_sem, Bool.not_eq_true', Bool.not_eq_false']) (by simp only [go_sem, Bool.not_eq_true', Bool.not_eq_false'])) ?_; simp only [go_sem, Bool.not_eq_true', Bool.not_eq_false'])
  refine ⟨fun h => ?_, fun h => ?_⟩
  · have e : docN l = [] := by simp [docN, h]
    rw [e]
    (refine ret2 [40] (by simp only [go_sem, Bool.not_eq_true', Bool.not_eq_false', List.map]; rfl) ?_; simp only [go_sem, Bool.not_eq_true', Bool.not_eq_false', List.map])
  · have e : docN l = l := by simp [docN, h]
    rw [e]
    (refine ret2 [] (by simp only [go_sem, Bool.not_eq_true', Bool.not_eq_false']; rfl) ?_; simp only [go_sem, Bool.not_eq_true', Bool.not_eq_false'])
def hasN (l : List LNo) (a : Int) : Bool := decide (0 ≤ a) && decide (a < l.length)
set_option maxRecDepth 100000 in
theorem has8_ok (l : List LNo) (a : Int) : FnOk Try.prog 74 [.sl 20 (l.map cNo), .raw (.int .i64 a)] [] (.raw (.bool (hasN l a))) [] := by
  refine fn_of_awp Try.func74 rfl (by kernel_rfl) (by kernel_rfl) (Nat.le_of_ble_eq_true rfl) Try.results74 ?_
  simp only [go_sem, Bool.not_eq_true', Bool.not_eq_false', List.length_map]
  repeat' first | contradiction | intro _ | refine And.intro ?_ ?_ | refine ex_get (by omega) ?_ | (show drawB _ _ = true; kernel_rfl) | (refine ret2 [] (by simp only [go_sem, Bool.not_eq_true', Bool.not_eq_false']; rfl) ?_; simp only [go_sem, Bool.not_eq_true', Bool.not_eq_false'])
  all_goals (simp [hasN] <;> omega)
def sizN (l : List LNo) (k : Nat) : Int := match l[k]? with | some x => x.size | none => 0
theorem sizN_get {l : List LNo} {k : Nat} (hk : k < l.length) : sizN l k = l[k].size := by unfold sizN; rw [List.getElem?_eq_getElem hk]
/-- the parent of a place, among nodes below k. -/
def parI (l : List LNo) (a : Int) : Nat → Int
  | 0 => -1
  | k + 1 => if a < k + sizN l k then k else parI l a k
theorem parI_lt (l : List LNo) (a : Int) : ∀ k, -1 ≤ parI l a k ∧ parI l a k < k
  | 0 => by simp [parI]
  | k + 1 => by
    rw [parI]
    have := parI_lt l a k
    split <;> omega
set_option maxRecDepth 100000 in
theorem par8_ok (l : List LNo) (a : Nat) (hl : l.length ≤ 1000) (hs : ∀ x ∈ l, 1 ≤ x.size ∧ x.size ≤ l.length) (ha : a < l.length) : FnOk Try.prog 109 [.sl 20 (l.map cNo), .raw (.int .i64 a)] [] (.raw (.int .i64 (parI l a a))) [] := by
  refine fn_of_awp Try.func109 rfl (by kernel_rfl) (by kernel_rfl) (Nat.le_of_ble_eq_true rfl) Try.results109 ?_
  simp only [go_sem, Bool.not_eq_true', Bool.not_eq_false', List.length_map]
  refine ⟨by omega, ?_⟩
  refine aloop2 [] (fun k : Nat => ⟨[(0, .sl 20 (l.map cNo)), (1, .raw (.int .i64 a)), (5, .raw (.int .i64 ((k : Int) - 1)))], [], none⟩) (fun k => k ≤ a ∧ parI l a k = parI l a a) (fun k => k) 4 a (by simp only [go_sem, Bool.not_eq_true', Bool.not_eq_false']; rfl) (by simp only [go_sem, Bool.not_eq_true', Bool.not_eq_false']) ?_ ?_
  · exact ⟨Nat.le_refl _, rfl⟩
  · rintro k ⟨h1, h2⟩
    cases k with
    | zero =>
      simp only [go_sem, Bool.not_eq_true', Bool.not_eq_false', List.length_map]
      refine ⟨fun q => absurd q (by omega), fun _ => ?_⟩
      rw [← h2]; rfl
    | succ k =>
      have hk : k < l.length := by omega
      have hz := hs l[k] (List.getElem_mem hk)
      rw [parI, sizN_get hk] at h2
      simp only [go_sem, Bool.not_eq_true', Bool.not_eq_false', List.length_map, Int.add_sub_cancel, Int.toNat_natCast]
      refine ⟨fun _ => ⟨by omega, ex_get hk ⟨by omega, fun h5 => ?_, fun h5 => ⟨by omega, ?_⟩⟩⟩, fun q => absurd (by omega) q⟩
      · rw [if_pos h5] at h2; exact h2.symm
      · rw [if_neg h5] at h2
        (refine loop_end [] (k) (by simp only [go_sem, Bool.not_eq_true', Bool.not_eq_false']; rfl) ?_ ?_ ?_; (focus first | omega | (simp only; omega)); (focus (simp only [go_sem, Bool.not_eq_true', Bool.not_eq_false']; done)))
        exact ⟨by omega, h2⟩
set_option maxRecDepth 100000 in
theorem above8_ok (l : List LNo) (a : Int) : FnOk Try.prog 85 [.agg [.sl 20 (l.map cNo)], .raw (.int .i64 a)] [] (.clo (.func 108) [.hdr 8, .hdr 9]) [(8, .cells 86 [.sl 20 (l.map cNo)]), (9, .cells 3 [.raw (.int .i64 a)])] := by
  refine fn_of_awp Try.func85 rfl (by kernel_rfl) (by kernel_rfl) (Nat.le_of_ble_eq_true rfl) Try.results85 ?_
  simp only [go_sem, Bool.not_eq_true', Bool.not_eq_false']
  (refine ret2 [] (by simp only [go_sem, Bool.not_eq_true', Bool.not_eq_false']; rfl) ?_; simp only [go_sem, Bool.not_eq_true', Bool.not_eq_false'])
end Go.Proofs.Ytbgcmnccjfdooaa
/- CHAPTER 08: tree: Parent, Above. -/
/- G -/
/- BOOLS -/
set_option linter.unusedSimpArgs false
set_option linter.unusedVariables false
namespace Go.Proofs.Ytbgcmnccjfdooaa
open Go.RowKit

/-- the parent of any place. -/
def parN (l : List LNo) (a : Int) : Int := if hasN l a = true then parI l a a.toNat else -1
set_option maxRecDepth 100000 in
set_option maxHeartbeats 4000000 in
theorem parent8_ok (l : List LNo) (a : Int) (hl : l.length ≤ 1000) (hw : ∀ x ∈ l, x.words.length ≤ 9223372036854775807) : FnOk Try.prog 46 [.sl 20 (l.map cNo), .raw (.int .i64 a)] [] (.raw (.int .i64 (parN (docN l) a))) [] := by
  have hd := docN_len l
  have hz := docN_sizes l
  refine fn_of_awp Try.func46 rfl (by kernel_rfl) (by kernel_rfl) (Nat.le_of_ble_eq_true rfl) Try.results46 ?_
  simp only [go_sem, Bool.not_eq_true', Bool.not_eq_false']
  (refine acall2 [] (of8_ok l hl hw) (by simp only [go_sem, Bool.not_eq_true', Bool.not_eq_false']; rfl) (fit_of (by simp only [go_sem, Bool.not_eq_true', Bool.not_eq_false']) (by simp only [go_sem, Bool.not_eq_true', Bool.not_eq_false']) (by simp only [go_sem, Bool.not_eq_true', Bool.not_eq_false']) (by simp only [go_sem, Bool.not_eq_true', Bool.not_eq_false']) (by simp only [go_sem, Bool.not_eq_true', Bool.not_eq_false']) (by simp only [go_sem, Bool.not_eq_true', Bool.not_eq_false']) (by simp only [go_sem, Bool.not_eq_true', Bool.not_eq_false'])) ?_; simp only [go_sem, Bool.not_eq_true', Bool.not_eq_false'])
  (refine acall2 [] (above8_ok (docN l) a) (by simp only [go_sem, Bool.not_eq_true', Bool.not_eq_false']; rfl) (fit_of (by simp only [go_sem, Bool.not_eq_true', Bool.not_eq_false']) (by simp only [go_sem, Bool.not_eq_true', Bool.not_eq_false']) (by simp only [go_sem, Bool.not_eq_true', Bool.not_eq_false']) (by simp only [go_sem, Bool.not_eq_true', Bool.not_eq_false']) (by simp only [go_sem, Bool.not_eq_true', Bool.not_eq_false']) (by simp only [go_sem, Bool.not_eq_true', Bool.not_eq_false']) (by simp only [go_sem, Bool.not_eq_true', Bool.not_eq_false'])) ?_; simp only [go_sem, Bool.not_eq_true', Bool.not_eq_false'])
  generalize docN l = d at hd hz
  (refine arange (by simp only [go_sem, Bool.not_eq_true', Bool.not_eq_false']; rfl) Try.func108 rfl (by kernel_rfl) (by kernel_rfl) (Nat.le_of_ble_eq_true rfl) Try.results108 ?_; intro tm1 lc1 hfit1 hps1 hasg1 hbody1; simp only [List.toList_toArray] at hps1; simp only [go_sem, Bool.not_eq_true', Bool.not_eq_false'])
  (refine acall2 [] (has8_ok d a) (by simp only [go_sem, Bool.not_eq_true', Bool.not_eq_false']; rfl) (fit_of (by simp only [go_sem, Bool.not_eq_true', Bool.not_eq_false']) (by simp only [go_sem, Bool.not_eq_true', Bool.not_eq_false']) (by simp only [go_sem, Bool.not_eq_true', Bool.not_eq_false']) (by simp only [go_sem, Bool.not_eq_true', Bool.not_eq_false']) (by simp only [go_sem, Bool.not_eq_true', Bool.not_eq_false']) (by simp only [go_sem, Bool.not_eq_true', Bool.not_eq_false']) (by simp only [go_sem, Bool.not_eq_true', Bool.not_eq_false'])) ?_; simp only [go_sem, Bool.not_eq_true', Bool.not_eq_false'])
  refine ⟨fun h1 => ?_, fun h1 => ?_⟩
  · have e : parN d a = -1 := by simp [parN, h1]
    rw [e]
  simp only [hasN, Bool.and_eq_true, decide_eq_true_eq] at h1
  obtain ⟨b, rfl⟩ : ∃ b : Nat, a = b := ⟨a.toNat, by omega⟩
  have e : parN d b = parI d b b := by
    unfold parN
    rw [if_pos (by simp only [hasN, Bool.and_eq_true, decide_eq_true_eq]; exact h1)]
    rfl
  rw [e]
  (refine acall2 [] (par8_ok d b (by omega) hz (by omega)) (by simp only [go_sem, Bool.not_eq_true', Bool.not_eq_false']; rfl) (fit_of (by simp only [go_sem, Bool.not_eq_true', Bool.not_eq_false']) (by simp only [go_sem, Bool.not_eq_true', Bool.not_eq_false']) (by simp only [go_sem, Bool.not_eq_true', Bool.not_eq_false']) (by simp only [go_sem, Bool.not_eq_true', Bool.not_eq_false']) (by simp only [go_sem, Bool.not_eq_true', Bool.not_eq_false']) (by simp only [go_sem, Bool.not_eq_true', Bool.not_eq_false']) (by simp only [go_sem, Bool.not_eq_true', Bool.not_eq_false'])) ?_; simp only [go_sem, Bool.not_eq_true', Bool.not_eq_false'])
  have hp := parI_lt d b b
  generalize parI d b b = p at hp
  refine aloop2 [] (fun _ : Unit => ⟨[(0, .hdr 48), (1, .hdr 40), (2, .hdr 41), (4, .raw (.int .i64 p))], [(48, some (.loop tm1 lc1 .ready)), (49, some (.frm tm1 [(4, .hdr 8)])), (40, some (.cells 86 [.sl 20 (d.map cNo)])), (41, some (.cells 3 [.raw (.int .i64 b)])), (8, some (.cells 3 [.raw (.int .i64 0)]))], none⟩) (fun _ => True) (fun _ => 0) 100 () (by simp only [go_sem, Bool.not_eq_true', Bool.not_eq_false']; rfl) (by simp only [go_sem, Bool.not_eq_true', Bool.not_eq_false']) ?_ ?_
  · trivial
  · rintro - -
    simp only [go_sem, Bool.not_eq_true', Bool.not_eq_false']
    refine ⟨fun h2 => ?_, fun h2 => ?_⟩
    · refine ayield rfl ?_
      simp only [go_sem, Bool.not_eq_true', Bool.not_eq_false', hfit1, hps1, hasg1, hbody1]
    · omega
end Go.Proofs.Ytbgcmnccjfdooaa
/- CHAPTER 08: tree: Holds, Kids. -/
/- G -/
/- BOOLS -/
set_option linter.unusedSimpArgs false
set_option linter.unusedVariables false
namespace Go.Proofs.Ytbgcmnccjfdooaa
open Go.RowKit

def holN (l : List LNo) (a b : Int) : Bool := hasN l a && hasN l b && decide (a ≤ b) && decide (b < a + sizN l a.toNat)
theorem docN_eq {l : List LNo} {a : Int} (h : hasN (docN l) a = true) : docN l = l ∧ 0 ≤ a ∧ a < l.length := by
  unfold docN at h ⊢
  split at h
  · next q =>
    simp only [hasN, Bool.and_eq_true, decide_eq_true_eq] at h
    rw [if_pos q]
    exact ⟨rfl, h⟩
  · simp only [hasN, Bool.and_eq_true, decide_eq_true_eq, List.length_nil] at h
    omega
set_option maxRecDepth 100000 in
set_option maxHeartbeats 4000000 in
theorem holds8_ok (l : List LNo) (a b : Int) (hl : l.length ≤ 1000) (hw : ∀ x ∈ l, x.words.length ≤ 9223372036854775807) : FnOk Try.prog 28 [.sl 20 (l.map cNo), .raw (.int .i64 a), .raw (.int .i64 b)] [] (.raw (.bool (holN (docN l) a b))) [] := by
  have hz := docN_sizes l
  have hq : ∀ a, hasN (docN l) a = true → docN l = l ∧ 0 ≤ a ∧ a < l.length := fun a h => docN_eq h
  refine fn_of_awp Try.func28 rfl (by kernel_rfl) (by kernel_rfl) (Nat.le_of_ble_eq_true rfl) Try.results28 ?_
  simp only [go_sem, Bool.not_eq_true', Bool.not_eq_false']
  (refine acall2 [] (of8_ok l hl hw) (by simp only [go_sem, Bool.not_eq_true', Bool.not_eq_false']; rfl) (fit_of (by simp only [go_sem, Bool.not_eq_true', Bool.not_eq_false']) (by simp only [go_sem, Bool.not_eq_true', Bool.not_eq_false']) (by simp only [go_sem, Bool.not_eq_true', Bool.not_eq_false']) (by simp only [go_sem, Bool.not_eq_true', Bool.not_eq_false']) (by simp only [go_sem, Bool.not_eq_true', Bool.not_eq_false']) (by simp only [go_sem, Bool.not_eq_true', Bool.not_eq_false']) (by simp only [go_sem, Bool.not_eq_true', Bool.not_eq_false'])) ?_; simp only [go_sem, Bool.not_eq_true', Bool.not_eq_false'])
  generalize docN l = d at hz hq
  (refine acall2 [] (has8_ok d a) (by simp only [go_sem, Bool.not_eq_true', Bool.not_eq_false']; rfl) (fit_of (by simp only [go_sem, Bool.not_eq_true', Bool.not_eq_false']) (by simp only [go_sem, Bool.not_eq_true', Bool.not_eq_false']) (by simp only [go_sem, Bool.not_eq_true', Bool.not_eq_false']) (by simp only [go_sem, Bool.not_eq_true', Bool.not_eq_false']) (by simp only [go_sem, Bool.not_eq_true', Bool.not_eq_false']) (by simp only [go_sem, Bool.not_eq_true', Bool.not_eq_false']) (by simp only [go_sem, Bool.not_eq_true', Bool.not_eq_false'])) ?_; simp only [go_sem, Bool.not_eq_true', Bool.not_eq_false', List.length_map])
  refine ⟨fun h1 => ?_, fun h1 => ?_⟩
  · (refine acall2 [] (has8_ok d b) (by simp only [go_sem, Bool.not_eq_true', Bool.not_eq_false']; rfl) (fit_of (by simp only [go_sem, Bool.not_eq_true', Bool.not_eq_false']) (by simp only [go_sem, Bool.not_eq_true', Bool.not_eq_false']) (by simp only [go_sem, Bool.not_eq_true', Bool.not_eq_false']) (by simp only [go_sem, Bool.not_eq_true', Bool.not_eq_false']) (by simp only [go_sem, Bool.not_eq_true', Bool.not_eq_false']) (by simp only [go_sem, Bool.not_eq_true', Bool.not_eq_false']) (by simp only [go_sem, Bool.not_eq_true', Bool.not_eq_false'])) ?_; simp only [go_sem, Bool.not_eq_true', Bool.not_eq_false', List.length_map])
    obtain ⟨e, k1, k2⟩ := hq a h1
    subst e
    obtain ⟨n, rfl⟩ : ∃ n : Nat, a = n := ⟨a.toNat, by omega⟩
    have hn : n < d.length := by omega
    have hs := hz d[n] (List.getElem_mem hn)
    refine ⟨fun h2 => ⟨fun h3 => ⟨⟨k1, k2⟩, d[n], List.getElem?_eq_getElem hn, by omega, ?_⟩, fun h3 => ?_⟩, fun h2 => ?_⟩
    · simp [holN, h1, h2, h3, sizN_get hn]
    · simp [holN, h3]
    · simp [holN, h2]
  · simp [holN, h1]
theorem isG_ends (N : Int) : ∀ (l : List LNo) (i : Nat) (st : List Int), isG l i st = true → 1 ≤ st.length → (∀ e ∈ st, e ≤ N) → ∀ k (hk : k < l.length), i + k + l[k].size ≤ N
  | [], _, _, _, _, _, k, hk => absurd hk (Nat.not_lt_zero _)
  | y :: l, i, st, h, h1, h2, k, hk => by
    rw [isG] at h
    simp only [Bool.and_eq_true, Bool.not_eq_true', Bool.and_eq_false_iff, decide_eq_true_eq, decide_eq_false_iff_not] at h
    obtain ⟨⟨⟨⟨u1, u2⟩, u3⟩, u4⟩, u5⟩ := h
    have hp := popS_sub i st.length st
    have ht := h2 _ (hp.1 _ (topI_mem (hp.2.2 h1)))
    cases k with
    | zero => show (i : Int) + (0 : Nat) + y.size ≤ N; omega
    | succ k =>
      have := isG_ends N l (i + 1) _ u5 (by simp) (fun e he => by
        rcases List.mem_append.1 he with h | h
        · exact h2 _ (hp.1 _ h)
        · simp only [List.mem_singleton] at h; omega) k (by simp only [List.length_cons] at hk; omega)
      simp only [List.getElem_cons_succ]
      omega
theorem docN_ends (l : List LNo) : ∀ k (hk : k < (docN l).length), k + (docN l)[k].size ≤ (docN l).length := by
  by_cases h : isS l = true
  · have e : docN l = l := by simp [docN, h]
    rw [e]
    intro k hk
    have := isG_ends l.length l 0 _ h (Nat.le_refl _) (fun e he => by simp at he; omega) k hk
    omega
  · have e : docN l = [] := by simp [docN, h]
    rw [e]
    intro k hk
    exact absurd hk (Nat.not_lt_zero _)
def kidS (l : List LNo) (e : Int) : Nat → Nat → List Int
  | 0, _ => []
  | f + 1, k => if (k : Int) < e then (k : Int) :: kidS l e f (k + (sizN l k).toNat) else []
def kidN (l : List LNo) (a : Int) : List Int :=
  if a = -1 then kidS l l.length l.length 0
  else if hasN l a = true then kidS l (a + sizN l a.toNat) l.length (a.toNat + 1) else []
theorem docN_or (l : List LNo) : docN l = l ∨ docN l = [] := by
  unfold docN
  split
  · exact Or.inl rfl
  · exact Or.inr rfl
structure LKd where
  e : Int
  k : Nat
  acc : List Int
end Go.Proofs.Ytbgcmnccjfdooaa
/- CHAPTER 08: tree: Above. -/
/- G -/
/- BOOLS -/
set_option linter.unusedSimpArgs false
set_option linter.unusedVariables false
namespace Go.Proofs.Ytbgcmnccjfdooaa
open Go.RowKit

def abvL (l : List LNo) : Nat → Int → List Int
  | 0, _ => []
  | f + 1, p => if 0 ≤ p then p :: abvL l f (parI l p p.toNat) else []
def abvN (l : List LNo) (a : Int) : List Int := if hasN l a = true then abvL l l.length (parI l a a.toNat) else []
structure LAb where
  p : Int
  acc : List Int
set_option maxRecDepth 100000 in
set_option maxHeartbeats 4000000 in
theorem appSeq8_ok (d : List LNo) (a : Int) (hl : d.length ≤ 1000) (hz : ∀ x ∈ d, 1 ≤ x.size ∧ x.size ≤ d.length) : FnOk Try.prog 101 [.raw (.slice none 0 0), .clo (.func 108) [.hdr 1, .hdr 2]] [(1, .cells 86 [.sl 20 (d.map cNo)]), (2, .cells 3 [.raw (.int .i64 a)])] (.hdr 8) [(8, .row 3 1 ((abvN d a).map cInt))] := by
  refine fn_of_awp Try.func101 rfl (by kernel_rfl) (by kernel_rfl) (Nat.le_of_ble_eq_true rfl) Try.results101 ?_
  simp only [go_sem, Bool.not_eq_true', Bool.not_eq_false']
  (refine arange (by simp only [go_sem, Bool.not_eq_true', Bool.not_eq_false']; rfl) Try.func108 rfl (by kernel_rfl) (by kernel_rfl) (Nat.le_of_ble_eq_true rfl) Try.results108 ?_; intro tm1 lc1 hfit1 hps1 hasg1 hbody1; simp only [List.toList_toArray] at hps1; simp only [go_sem, Bool.not_eq_true', Bool.not_eq_false'])
  (refine acall2 [] (has8_ok d a) (by simp only [go_sem, Bool.not_eq_true', Bool.not_eq_false']; rfl) (fit_of (by simp only [go_sem, Bool.not_eq_true', Bool.not_eq_false']) (by simp only [go_sem, Bool.not_eq_true', Bool.not_eq_false']) (by simp only [go_sem, Bool.not_eq_true', Bool.not_eq_false']) (by simp only [go_sem, Bool.not_eq_true', Bool.not_eq_false']) (by simp only [go_sem, Bool.not_eq_true', Bool.not_eq_false']) (by simp only [go_sem, Bool.not_eq_true', Bool.not_eq_false']) (by simp only [go_sem, Bool.not_eq_true', Bool.not_eq_false'])) ?_; simp only [go_sem, Bool.not_eq_true', Bool.not_eq_false'])
  refine ⟨fun h1 => ?_, fun h1 => ?_⟩
  · have e : abvN d a = [] := by simp [abvN, h1]
    rw [e]
    (refine ret2 [] (by simp only [go_sem, Bool.not_eq_true', Bool.not_eq_false', List.map]; rfl) ?_; simp only [go_sem, Bool.not_eq_true', Bool.not_eq_false', List.map])
  have e : abvN d a = abvL d d.length (parI d a a.toNat) := by simp [abvN, h1]
  simp only [hasN, Bool.and_eq_true, decide_eq_true_eq] at h1
  obtain ⟨b, rfl⟩ : ∃ b : Nat, a = b := ⟨a.toNat, by omega⟩
  simp only [Int.toNat_natCast] at e
  (refine acall2 [] (par8_ok d b hl hz (by omega)) (by simp only [go_sem, Bool.not_eq_true', Bool.not_eq_false']; rfl) (fit_of (by simp only [go_sem, Bool.not_eq_true', Bool.not_eq_false']) (by simp only [go_sem, Bool.not_eq_true', Bool.not_eq_false']) (by simp only [go_sem, Bool.not_eq_true', Bool.not_eq_false']) (by simp only [go_sem, Bool.not_eq_true', Bool.not_eq_false']) (by simp only [go_sem, Bool.not_eq_true', Bool.not_eq_false']) (by simp only [go_sem, Bool.not_eq_true', Bool.not_eq_false']) (by simp only [go_sem, Bool.not_eq_true', Bool.not_eq_false'])) ?_; simp only [go_sem, Bool.not_eq_true', Bool.not_eq_false'])
  have hp := parI_lt d b b
  generalize parI d b b = p at hp e
  refine aloop2 [] (fun z : LAb => ⟨[(0, .hdr 32), (1, .hdr 1), (2, .hdr 2), (4, .raw (.int .i64 z.p))], [(32, some (.loop tm1 lc1 .ready)), (33, some (.frm tm1 [(2, .hdr 8)])), (1, some (.cells 86 [.sl 20 (d.map cNo)])), (2, some (.cells 3 [.raw (.int .i64 b)])), (8, some (.cells 23 [.hdr 9])), (9, some (.row 3 1 (z.acc.map cInt)))], none⟩) (fun z => (∃ f, z.acc ++ abvL d f z.p = abvN d b ∧ z.p + 1 ≤ f) ∧ -1 ≤ z.p ∧ z.p < d.length ∧ z.acc.length + (z.p + 1) ≤ d.length) (fun z => (z.p + 1).toNat) 100 ⟨p, []⟩ (by simp only [go_sem, Bool.not_eq_true', Bool.not_eq_false']; rfl) (by simp only [go_sem, Bool.not_eq_true', Bool.not_eq_false']) ?_ ?_
  · exact ⟨⟨d.length, e.symm, by simp only; omega⟩, by simp only; omega, by simp only; omega, by simp only [List.length_nil]; omega⟩
  · rintro ⟨p, acc⟩ ⟨⟨f, q1, q2⟩, q3, q4, q5⟩
    simp only at q1 q2 q3 q4 q5
    simp only [go_sem, Bool.not_eq_true', Bool.not_eq_false']
    refine ⟨fun h2 => ?_, fun h2 => ?_⟩
    · obtain ⟨n, rfl⟩ : ∃ n : Nat, p = n := ⟨p.toNat, by omega⟩
      obtain ⟨f, rfl⟩ : ∃ g, f = g + 1 := ⟨f - 1, by omega⟩
      rw [abvL, if_pos h2] at q1
      simp only [Int.toNat_natCast] at q1
      (refine ayield rfl ?_; simp only [go_sem, Bool.not_eq_true', Bool.not_eq_false', hfit1, hps1, hasg1, hbody1]; intro tmI1)
      refine ⟨⟨by omega, by omega⟩, ?_⟩
      have hp2 := parI_lt d n n
      (refine acall2 [] (par8_ok d n hl hz (by omega)) (by simp only [go_sem, Bool.not_eq_true', Bool.not_eq_false']; rfl) (fit_of (by simp only [go_sem, Bool.not_eq_true', Bool.not_eq_false']) (by simp only [go_sem, Bool.not_eq_true', Bool.not_eq_false']) (by simp only [go_sem, Bool.not_eq_true', Bool.not_eq_false']) (by simp only [go_sem, Bool.not_eq_true', Bool.not_eq_false']) (by simp only [go_sem, Bool.not_eq_true', Bool.not_eq_false']) (by simp only [go_sem, Bool.not_eq_true', Bool.not_eq_false']) (by simp only [go_sem, Bool.not_eq_true', Bool.not_eq_false'])) ?_; simp only [go_sem, Bool.not_eq_true', Bool.not_eq_false'])
      generalize parI d n n = p2 at hp2 q1
      have e2 : (acc ++ [(n : Int)]).length = acc.length + 1 := by simp
      (refine loop_end [] (⟨p2, acc ++ [(n : Int)]⟩) (by simp only [go_sem, Bool.not_eq_true', Bool.not_eq_false']; rfl) ?_ ?_ ?_; (focus first | omega | (simp only; omega)); (focus (simp only [go_sem, Bool.not_eq_true', Bool.not_eq_false', List.map_append]; done)))
      exact ⟨⟨f, by rw [← q1]; simp, by simp only; omega⟩, by simp only; omega, by simp only; omega, by simp only; omega⟩
    · have e3 : acc = abvN d b := by
        rw [← q1]
        cases f with
        | zero => simp [abvL]
        | succ f => rw [abvL, if_neg h2]; simp
      rw [e3]
      (refine ret2 [] (by simp only [go_sem, Bool.not_eq_true', Bool.not_eq_false']; rfl) ?_; simp only [go_sem, Bool.not_eq_true', Bool.not_eq_false'])
set_option maxRecDepth 100000 in
theorem collect8_ok (d : List LNo) (a : Int) (hl : d.length ≤ 1000) (hz : ∀ x ∈ d, 1 ≤ x.size ∧ x.size ≤ d.length) : FnOk Try.prog 77 [.clo (.func 108) [.hdr 1, .hdr 2]] [(1, .cells 86 [.sl 20 (d.map cNo)]), (2, .cells 3 [.raw (.int .i64 a)])] (.hdr 8) [(8, .row 3 1 ((abvN d a).map cInt))] := by
  refine fn_of_awp Try.func77 rfl (by kernel_rfl) (by kernel_rfl) (Nat.le_of_ble_eq_true rfl) Try.results77 ?_
  simp only [go_sem, Bool.not_eq_true', Bool.not_eq_false']
  (refine acall2 [] (appSeq8_ok d a hl hz) (by simp only [go_sem, Bool.not_eq_true', Bool.not_eq_false']; rfl) (fit_of (by simp only [go_sem, Bool.not_eq_true', Bool.not_eq_false']) (by simp only [go_sem, Bool.not_eq_true', Bool.not_eq_false']) (by simp only [go_sem, Bool.not_eq_true', Bool.not_eq_false']) (by simp only [go_sem, Bool.not_eq_true', Bool.not_eq_false']) (by simp only [go_sem, Bool.not_eq_true', Bool.not_eq_false']) (by simp only [go_sem, Bool.not_eq_true', Bool.not_eq_false']) (by simp only [go_sem, Bool.not_eq_true', Bool.not_eq_false'])) ?_; simp only [go_sem, Bool.not_eq_true', Bool.not_eq_false'])
  (refine ret2 [] (by simp only [go_sem, Bool.not_eq_true', Bool.not_eq_false']; rfl) ?_; simp only [go_sem, Bool.not_eq_true', Bool.not_eq_false'])
set_option maxRecDepth 100000 in
theorem above9_ok (l : List LNo) (a : Int) (hl : l.length ≤ 1000) (hw : ∀ x ∈ l, x.words.length ≤ 9223372036854775807) : FnOk Try.prog 117 [.sl 20 (l.map cNo), .raw (.int .i64 a)] [] (.hdr 8) [(8, .row 3 1 ((abvN (docN l) a).map cInt))] := by
  have hd := docN_len l
  have hz := docN_sizes l
  refine fn_of_awp Try.func117 rfl (by kernel_rfl) (by kernel_rfl) (Nat.le_of_ble_eq_true rfl) Try.results117 ?_
  simp only [go_sem, Bool.not_eq_true', Bool.not_eq_false']
  (refine acall2 [] (of8_ok l hl hw) (by simp only [go_sem, Bool.not_eq_true', Bool.not_eq_false']; rfl) (fit_of (by simp only [go_sem, Bool.not_eq_true', Bool.not_eq_false']) (by simp only [go_sem, Bool.not_eq_true', Bool.not_eq_false']) (by simp only [go_sem, Bool.not_eq_true', Bool.not_eq_false']) (by simp only [go_sem, Bool.not_eq_true', Bool.not_eq_false']) (by simp only [go_sem, Bool.not_eq_true', Bool.not_eq_false']) (by simp only [go_sem, Bool.not_eq_true', Bool.not_eq_false']) (by simp only [go_sem, Bool.not_eq_true', Bool.not_eq_false'])) ?_; simp only [go_sem, Bool.not_eq_true', Bool.not_eq_false'])
  (refine acall2 [] (above8_ok (docN l) a) (by simp only [go_sem, Bool.not_eq_true', Bool.not_eq_false']; rfl) (fit_of (by simp only [go_sem, Bool.not_eq_true', Bool.not_eq_false']) (by simp only [go_sem, Bool.not_eq_true', Bool.not_eq_false']) (by simp only [go_sem, Bool.not_eq_true', Bool.not_eq_false']) (by simp only [go_sem, Bool.not_eq_true', Bool.not_eq_false']) (by simp only [go_sem, Bool.not_eq_true', Bool.not_eq_false']) (by simp only [go_sem, Bool.not_eq_true', Bool.not_eq_false']) (by simp only [go_sem, Bool.not_eq_true', Bool.not_eq_false'])) ?_; simp only [go_sem, Bool.not_eq_true', Bool.not_eq_false'])
  (refine acall2 [] (collect8_ok (docN l) a (by omega) hz) (by simp only [go_sem, Bool.not_eq_true', Bool.not_eq_false']; rfl) (fit_of (by simp only [go_sem, Bool.not_eq_true', Bool.not_eq_false']) (by simp only [go_sem, Bool.not_eq_true', Bool.not_eq_false']) (by simp only [go_sem, Bool.not_eq_true', Bool.not_eq_false']) (by simp only [go_sem, Bool.not_eq_true', Bool.not_eq_false']) (by simp only [go_sem, Bool.not_eq_true', Bool.not_eq_false']) (by simp only [go_sem, Bool.not_eq_true', Bool.not_eq_false']) (by simp only [go_sem, Bool.not_eq_true', Bool.not_eq_false'])) ?_; simp only [go_sem, Bool.not_eq_true', Bool.not_eq_false'])
  (refine ret2 [] (by simp only [go_sem, Bool.not_eq_true', Bool.not_eq_false']; rfl) ?_; simp only [go_sem, Bool.not_eq_true', Bool.not_eq_false'])
end Go.Proofs.Ytbgcmnccjfdooaa
/- CHAPTER 08: tree: Rooms (under way). -/
/- G -/
/- BOOLS -/
set_option linter.unusedSimpArgs false
set_option linter.unusedVariables false
namespace Go.Proofs.Ytbgcmnccjfdooaa
open Go.RowKit

structure LRm where
  x : Int
  w : Int
deriving DecidableEq
def cRm (r : LRm) : List PV := [.raw (.int .i64 r.x), .raw (.int .i64 r.w)]
attribute [go_sem] cRm
def insN (l : List LNo) (k : Nat) : Int := match l[k]? with | some x => x.st.inset | none => 0
theorem insN_get {l : List LNo} {k : Nat} (hk : k < l.length) : insN l k = l[k].st.inset := by unfold insN; rw [List.getElem?_eq_getElem hk]
def inR (l : List LNo) (k : Nat) (r : LRm) : LRm := ⟨min (r.x + insN l k) 1099511627776, max (r.w - 2 * insN l k) 1⟩
def putS (l : List LNo) : Nat → Nat → Int → LRm → List LRm
  | 0, _, _, _ => []
  | f + 1, k, e, r => if (k : Int) < e then r :: (putS l f (k + 1) (k + sizN l k) (inR l k r) ++ putS l f (k + (sizN l k).toNat) e r) else []
def okR (r : LRm) : Prop := 0 ≤ r.x ∧ r.x ≤ 1099511627776 ∧ 1 ≤ r.w ∧ r.w ≤ 1099511627776
def nst (l : List LNo) : Nat → Nat → Int → Prop
  | 0, _, _ => False
  | f + 1, k, e => (k : Int) ≤ e ∧ ((k : Int) < e → 1 ≤ sizN l k ∧ k + sizN l k ≤ e ∧ nst l f (k + 1) (k + sizN l k) ∧ nst l f (k + (sizN l k).toNat) e)
theorem putS_len (l : List LNo) : ∀ (f k : Nat) (e : Int) (r : LRm), nst l f k e → ((putS l f k e r).length : Int) = e - k
  | 0, k, e, r, h => absurd h (by simp [nst])
  | f + 1, k, e, r, h => by
    obtain ⟨h1, h2⟩ := h
    rw [putS]
    split
    · next q =>
      obtain ⟨u1, u2, u3, u4⟩ := h2 q
      have e1 := putS_len l f (k + 1) (k + sizN l k) (inR l k r) u3
      have e2 := putS_len l f (k + (sizN l k).toNat) e r u4
      simp only [List.length_cons, List.length_append]
      omega
    · simp only [List.length_nil]; omega
theorem nst_le (l : List LNo) {f k : Nat} {e : Int} (h : nst l f k e) : (k : Int) ≤ e := by
  cases f with
  | zero => exact absurd h (by simp [nst])
  | succ f => exact h.1
structure LPt where
  k : Nat
  acc : List LRm
end Go.Proofs.Ytbgcmnccjfdooaa
/- CHAPTER 08: tree: Rooms. -/
/- G -/
/- BOOLS -/
set_option linter.unusedSimpArgs false
set_option linter.unusedVariables false
namespace Go.Proofs.Ytbgcmnccjfdooaa
open Go.RowKit

def romN (l : List LNo) (w : Int) : List LRm := if 1 ≤ w ∧ w ≤ 1099511627776 then putS l (l.length + 1) 0 (docN l).length ⟨0, w⟩ else []
end Go.Proofs.Ytbgcmnccjfdooaa
/- CHAPTER 08: nodes of a document lie within one another. -/
/- G -/
set_option linter.unusedSimpArgs false
set_option linter.unusedVariables false
namespace Go.Proofs.Ytbgcmnccjfdooaa
open Go.RowKit

theorem nst_fuel (l : List LNo) : ∀ (g f k : Nat) (e : Int), nst l f k e → e - k < g → nst l g k e
  | 0, f, k, e, h, q => absurd (nst_le l h) (by omega)
  | g + 1, 0, k, e, h, q => absurd h (by simp [nst])
  | g + 1, f + 1, k, e, h, q => by
    obtain ⟨h1, h2⟩ := h
    refine ⟨h1, fun h => ?_⟩
    obtain ⟨u1, u2, u3, u4⟩ := h2 h
    exact ⟨u1, u2, nst_fuel l g f _ _ u3 (by omega), nst_fuel l g f _ _ u4 (by omega)⟩
def chn (l : List LNo) : Nat → List Int → Prop
  | _, [] => True
  | k, e :: s => (∃ f, nst l f k e) ∧ chn l e.toNat s
theorem topI_rev (a : Int) (t : List Int) : topI (a :: t).reverse = a := by
  unfold topI
  simp [List.getD_eq_getElem?_getD]
theorem take_rev (a : Int) (t : List Int) : (a :: t).reverse.take ((a :: t).reverse.length - 1) = t.reverse := by
  simp
def popR (i : Int) : List Int → List Int
  | a :: b :: t => if a = i then popR i (b :: t) else a :: b :: t
  | s => s
theorem popS_rev (i : Int) : ∀ (f : Nat) (R : List Int), R.length ≤ f → popS i f R.reverse = (popR i R).reverse
  | 0, R, h => by
    obtain rfl : R = [] := List.eq_nil_of_length_eq_zero (by omega)
    rfl
  | f + 1, [], h => by simp [popS, popR]
  | f + 1, [a], h => by simp [popS, popR]
  | f + 1, a :: b :: t, h => by
    rw [popS, topI_rev, take_rev, popR]
    by_cases q : a = i
    · rw [if_pos ⟨by simp, q⟩, if_pos q]
      exact popS_rev i f (b :: t) (by simp only [List.length_cons] at h ⊢; omega)
    · rw [if_neg (fun z => q z.2), if_neg q]
def gdR (k N : Int) : List Int → Prop
  | [] => False
  | [a] => k ≤ a ∧ a = N
  | a :: b :: t => k ≤ a ∧ gdR a N (b :: t)
theorem gdR_le {k N : Int} : ∀ {R : List Int}, gdR k N R → k ≤ N
  | [], h => absurd h (by simp [gdR])
  | [a], h => by obtain ⟨h1, h2⟩ := h; omega
  | a :: b :: t, h => by obtain ⟨h1, h2⟩ := h; have := gdR_le h2; omega
theorem gdR_to {k k2 N a : Int} {t : List Int} (h : gdR k N (a :: t)) (q : k2 ≤ a) : gdR k2 N (a :: t) := by
  cases t with
  | nil => exact ⟨q, h.2⟩
  | cons b t => exact ⟨q, h.2⟩
theorem popR_gd {k N : Int} (hk : k < N) : ∀ (R : List Int), gdR k N R → gdR (k + 1) N (popR k R)
  | [], h => absurd h (by simp [gdR])
  | [a], h => by obtain ⟨h1, h2⟩ := h; exact ⟨by omega, h2⟩
  | a :: b :: t, h => by
    rw [popR]
    split
    · next q => subst q; exact popR_gd hk (b :: t) h.2
    · next q => exact ⟨by have := h.1; omega, h.2⟩
theorem nst_same (l : List LNo) (k : Nat) : nst l 1 k k := ⟨Int.le_refl _, fun h => absurd h (by omega)⟩
theorem popR_chn (l : List LNo) (k : Nat) : ∀ (R : List Int), chn l k (popR k R) → chn l k R
  | [], h => h
  | [a], h => h
  | a :: b :: t, h => by
    rw [popR] at h
    split at h
    · next q => subst q; exact ⟨⟨1, nst_same l k⟩, popR_chn l k (b :: t) h⟩
    · exact h
theorem chn_end (l : List LNo) (k : Nat) : ∀ (R : List Int), gdR k k R → chn l k R
  | [], h => trivial
  | [a], h => by obtain ⟨h1, h2⟩ := h; subst h2; exact ⟨⟨1, nst_same l k⟩, trivial⟩
  | a :: b :: t, h => by
    obtain ⟨h1, h2⟩ := h
    have h3 := gdR_le h2
    obtain rfl : a = k := by omega
    exact ⟨⟨1, nst_same l k⟩, chn_end l k (b :: t) h2⟩
theorem isG_chn (l : List LNo) : ∀ (m k : Nat) (R : List Int), m + k = l.length → gdR k l.length R → isG (l.drop k) k R.reverse = true → chn l k R
  | 0, k, R, hm, hg, h => by
    have e : (l.length : Int) = k := by omega
    rw [e] at hg
    exact chn_end l k R hg
  | m + 1, k, R, hm, hg, h => by
    have hk : k < l.length := by omega
    rw [List.drop_eq_getElem_cons hk, isG, popS_rev _ _ _ (by simp)] at h
    simp only [Bool.and_eq_true, Bool.not_eq_true', Bool.and_eq_false_iff, decide_eq_true_eq, decide_eq_false_iff_not] at h
    obtain ⟨⟨⟨⟨u1, u2⟩, u3⟩, u4⟩, u5⟩ := h
    have hg2 := popR_gd (by omega) R hg
    refine popR_chn l k R ?_
    generalize popR (k : Int) R = R2 at u3 u5 hg2 ⊢
    cases R2 with
    | nil => exact absurd hg2 (by simp [gdR])
    | cons e t =>
      rw [topI_rev] at u3
      have hs := sizN_get hk
      obtain ⟨s, hs2⟩ : ∃ s : Nat, l[k].size = s := ⟨l[k].size.toNat, by omega⟩
      rw [hs2] at u2 u3 u5 hs
      have hR : (e :: t).reverse ++ [(k : Int) + (s : Int)] = (((k : Int) + (s : Int)) :: e :: t).reverse := by simp
      rw [hR] at u5
      have hc := isG_chn l m (k + 1) (((k : Int) + (s : Int)) :: e :: t) (by omega) ⟨by omega, gdR_to hg2 (by omega)⟩ u5
      obtain ⟨⟨f1, n1⟩, ⟨f2, n2⟩, hc⟩ := hc
      have ek : ((k : Int) + (s : Int)).toNat = k + s := by omega
      rw [ek] at n2
      refine ⟨⟨f1 + f2 + (e - k).toNat + 1 + s, ?_⟩, hc⟩
      refine nst_fuel l _ ((e - k).toNat + s + 1) k e ⟨by omega, fun _ => ⟨by omega, by omega, ?_, ?_⟩⟩ (by omega)
      · rw [hs]; exact nst_fuel l _ f1 (k + 1) _ n1 (by omega)
      · rw [hs, Int.toNat_natCast]; exact nst_fuel l _ f2 (k + s) e n2 (by omega)
theorem isS_nst {l : List LNo} (h : isS l = true) : nst l (l.length + 1) 0 l.length := by
  have hc := isG_chn l l.length 0 [(l.length : Int)] (by omega) ⟨by omega, rfl⟩ h
  obtain ⟨⟨f, n⟩, -⟩ := hc
  exact nst_fuel l _ f 0 _ n (by omega)
end Go.Proofs.Ytbgcmnccjfdooaa
/- CHAPTER 08: tree: Rooms, of any nodes. -/
/- G -/
/- BOOLS -/
set_option linter.unusedSimpArgs false
set_option linter.unusedVariables false
namespace Go.Proofs.Ytbgcmnccjfdooaa
open Go.RowKit

theorem nodB_ins {x : LNo} (h : nodB x = true) : 0 ≤ x.st.inset ∧ x.st.inset ≤ 1099511627776 := by
  unfold nodB at h
  have hb : bareB x = true → 0 ≤ x.st.inset ∧ x.st.inset ≤ 1099511627776 := by
    intro q
    simp only [bareB, Bool.and_eq_true, decide_eq_true_eq] at q
    omega
  split at h
  · simp only [Bool.and_eq_true, styB, hasL, Bool.not_eq_true', List.any_cons, Bool.or_eq_false_iff, offN, decide_eq_false_iff_not] at h
    omega
  · split at h
    · simp only [Bool.and_eq_true] at h
      exact hb h.1.1.1.1.1.1.1
    · split at h
      · simp only [Bool.and_eq_true] at h
        exact hb h.1.1.1
      · split at h
        · simp only [Bool.and_eq_true] at h
          exact hb h.1.1.1
        · cases h
theorem isG_nod : ∀ (l : List LNo) (i : Nat) (st : List Int), isG l i st = true → ∀ x ∈ l, nodB x = true
  | [], _, _, _, x, hx => by cases hx
  | y :: l, i, st, h, x, hx => by
    rw [isG] at h
    simp only [Bool.and_eq_true] at h
    rcases List.mem_cons.1 hx with e | e
    · subst e; exact h.1.1.1.1
    · exact isG_nod l (i + 1) _ h.2 x e
theorem isS_ins {l : List LNo} (h : isS l = true) : ∀ x ∈ l, 0 ≤ x.st.inset ∧ x.st.inset ≤ 1099511627776 := fun x hx => nodB_ins (isG_nod l 0 _ h x hx)
end Go.Proofs.Ytbgcmnccjfdooaa
/- CHAPTER 05: nodes in memory of their own; are nodes the same? -/
/- G -/
/- BOOLS -/
set_option linter.unusedSimpArgs false
set_option linter.unusedVariables false
namespace Go.Proofs.Ytbgcmnccjfdooaa
open Go.RowKit

set_option maxRecDepth 100000 in
set_option maxHeartbeats 4000000 in
theorem own5_ok (l : List LNo) (hl : l.length ≤ 1000) (hw : ∀ x ∈ l, x.words.length ≤ 1000) : FnOk Try.prog 17 [.sl 20 (l.map cNo)] [] (.hdr 8) [(8, .row 45 20 (l.map cNo))] := by
  refine fn_of_swp Try.func17 rfl (by kernel_rfl) (by kernel_rfl) (Nat.le_of_ble_eq_true rfl) Try.results17 ?_
  (refine swp_seqW ?_; simp only [go_sem, Bool.not_eq_true', Bool.not_eq_false'])
  (refine swp_seqW ?_; simp only [go_sem, Bool.not_eq_true', Bool.not_eq_false'])
  refine swp_cutS (fun _ : Unit => ⟨[(3, .hdr 8)], [(8, some (.row 45 20 (l.map cNo)))], none⟩) (fun _ => True) 3 ?_ ?_
  · (refine swp_seqW ?_; simp only [go_sem, Bool.not_eq_true', Bool.not_eq_false'])
    refine swp_block ?_
    refine swp_loop2 [] (fun k : Nat => ⟨[(0, .sl 20 (l.map cNo)), (3, .hdr 8), (4, .raw (.int .i64 k))], [(8, some (.row 45 20 ((l.take k).map cNo)))], none⟩) (fun k => k ≤ l.length) (fun k => l.length - k) 4 0 (by simp only [go_sem, Bool.not_eq_true', Bool.not_eq_false']; rfl) (by simp only [go_sem, Bool.not_eq_true', Bool.not_eq_false']) ?_ ?_
    · exact Nat.zero_le _
    · intro k hk
      (refine swp_seqW ?_; simp only [go_sem, Bool.not_eq_true', Bool.not_eq_false', List.length_map])
      refine ⟨fun h5 => ?_, fun h5 => ?_⟩
      · have hkl : k < l.length := by omega
        have hx := hw l[k] (List.getElem_mem hkl)
        have e1 : (l.take (k + 1)).map cNo = (l.take k).map cNo ++ [cNo l[k]] := by rw [List.take_succ_eq_append_getElem hkl, List.map_append]; rfl
        have e2 : (l.take k).length = k := by simp; omega
        refine swp_seqS ?_
        refine swp_block ?_
        (refine swp_seqW ?_; simp only [go_sem, Bool.not_eq_true', Bool.not_eq_false'])
        refine ⟨by omega, ex_get hkl ?_⟩
        (refine swp_seqW ?_; simp only [go_sem, Bool.not_eq_true', Bool.not_eq_false'])
        refine ⟨by omega, ex_get hkl ⟨⟨by omega, by omega⟩, ?_⟩⟩
        generalize l[k] = x at e1 hx
        (refine swp_lastW ?_; simp only [go_sem, Bool.not_eq_true', Bool.not_eq_false', List.length_map])
        refine ⟨⟨by omega, by omega⟩, ?_⟩
        (refine swp_lastW ?_; simp only [go_sem, Bool.not_eq_true', Bool.not_eq_false'])
        refine ⟨⟨by omega, by omega⟩, ?_⟩
        (refine loop_end [] (k + 1) (by simp only [go_sem, Bool.not_eq_true', Bool.not_eq_false']; rfl) ?_ ?_ ?_; (focus first | omega | (simp only; omega)); (focus (simp only [go_sem, Bool.not_eq_true', Bool.not_eq_false', e1]; done)))
        omega
      · have e3 : l.take k = l := List.take_of_length_le (by omega)
        rw [e3]
        (refine cut_end [] (()) (by simp only [go_sem, Bool.not_eq_true', Bool.not_eq_false']; rfl) ?_ ?_; (focus (simp only [go_sem, Bool.not_eq_true', Bool.not_eq_false']; done)))
        trivial
  rintro - -
  (refine swp_lastW ?_; simp only [go_sem, Bool.not_eq_true', Bool.not_eq_false'])
  (refine ret2 [] (by simp only [go_sem, Bool.not_eq_true', Bool.not_eq_false']; rfl) ?_; simp only [go_sem, Bool.not_eq_true', Bool.not_eq_false'])
set_option maxRecDepth 100000 in
set_option maxHeartbeats 4000000 in
theorem one5s_ok (x : LNo) (hw : x.words.length ≤ 9223372036854775807) : FnOk Try.prog 71 [aNo x, aNo x] [] (.raw (.bool true)) [] := by
  refine fn_of_swp Try.func71 rfl (by kernel_rfl) (by kernel_rfl) (Nat.le_of_ble_eq_true rfl) Try.results71 ?_
  (refine swp_seqW ?_; simp only [go_sem, Bool.not_eq_true', Bool.not_eq_false'])
  (refine swp_seqW ?_; simp only [go_sem, Bool.not_eq_true', Bool.not_eq_false'])
  refine swp_cutS (fun _ : Unit => ⟨[(2, .hdr 8), (3, .hdr 16)], [(8, some (.cells 45 (lNo x))), (16, some (.cells 45 (lNo x)))], none⟩) (fun _ => True) 4 ?_ ?_
  · (refine swp_seqW ?_; simp only [go_sem, Bool.not_eq_true', Bool.not_eq_false'])
    refine swp_block ?_
    refine swp_loop2 [] (fun k : Nat => ⟨[(2, .hdr 8), (3, .hdr 16), (5, .raw (.int .i64 k))], [(8, some (.cells 45 (lNo x))), (16, some (.cells 45 (lNo x)))], none⟩) (fun k => k ≤ x.words.length) (fun k => x.words.length - k) 5 0 (by simp only [go_sem, Bool.not_eq_true', Bool.not_eq_false']; rfl) (by simp only [go_sem, Bool.not_eq_true', Bool.not_eq_false']) ?_ ?_
    · exact Nat.zero_le _
    · intro k hk
      (refine swp_lastW ?_; simp only [go_sem, Bool.not_eq_true', Bool.not_eq_false', List.length_map])
      refine ⟨fun h5 => ?_, fun h5 => ?_⟩
      · have hkl : k < x.words.length := by omega
        repeat' first | contradiction | intro _ | refine And.intro ?_ ?_ | refine ex_get (by omega) ?_ | (show drawB _ _ = true; kernel_rfl) | (refine ret2 [] (by simp only [go_sem, Bool.not_eq_true', Bool.not_eq_false']; rfl) ?_; simp only [go_sem, Bool.not_eq_true', Bool.not_eq_false'])
        all_goals first
          | omega
          | ((refine loop_end [] (k + 1) (by simp only [go_sem, Bool.not_eq_true', Bool.not_eq_false']; rfl) ?_ ?_ ?_; (focus first | omega | (simp only; omega)); (focus (simp only [go_sem, Bool.not_eq_true', Bool.not_eq_false']; done)))
             omega)
      · (refine cut_end [] (()) (by simp only [go_sem, Bool.not_eq_true', Bool.not_eq_false']; rfl) ?_ ?_; (focus (simp only [go_sem, Bool.not_eq_true', Bool.not_eq_false']; done)))
        trivial
  rintro - -
  (refine swp_lastW ?_; simp only [go_sem, Bool.not_eq_true', Bool.not_eq_false'])
set_option maxRecDepth 100000 in
set_option maxHeartbeats 4000000 in
theorem same5_ok (l : List LNo) (hl : l.length ≤ 1000) (hw : ∀ x ∈ l, x.words.length ≤ 9223372036854775807) : FnOk Try.prog 22 [.sl 20 (l.map cNo), .sl 20 (l.map cNo)] [] (.raw (.bool true)) [] := by
  refine fn_of_swp Try.func22 rfl (by kernel_rfl) (by kernel_rfl) (Nat.le_of_ble_eq_true rfl) Try.results22 ?_
  (refine swp_seqW ?_; simp only [go_sem, Bool.not_eq_true', Bool.not_eq_false'])
  (refine swp_seqW ?_; simp only [go_sem, Bool.not_eq_true', Bool.not_eq_false'])
  refine swp_cutS (fun _ : Unit => ⟨[], [], none⟩) (fun _ => True) 4 ?_ ?_
  · (refine swp_seqW ?_; simp only [go_sem, Bool.not_eq_true', Bool.not_eq_false'])
    refine swp_block ?_
    refine swp_loop2 [] (fun k : Nat => ⟨[(0, .sl 20 (l.map cNo)), (1, .sl 20 (l.map cNo)), (5, .raw (.int .i64 k))], [], none⟩) (fun k => k ≤ l.length) (fun k => l.length - k) 5 0 (by simp only [go_sem, Bool.not_eq_true', Bool.not_eq_false']; rfl) (by simp only [go_sem, Bool.not_eq_true', Bool.not_eq_false']) ?_ ?_
    · exact Nat.zero_le _
    · intro k hk
      (refine swp_lastW ?_; simp only [go_sem, Bool.not_eq_true', Bool.not_eq_false', List.length_map])
      refine ⟨fun h5 => ?_, fun h5 => ?_⟩
      · have hkl : k < l.length := by omega
        repeat' first | contradiction | intro _ | refine And.intro ?_ ?_ | refine ex_get (by omega) ?_ | (show drawB _ _ = true; kernel_rfl) | (refine ret2 [] (by simp only [go_sem, Bool.not_eq_true', Bool.not_eq_false']; rfl) ?_; simp only [go_sem, Bool.not_eq_true', Bool.not_eq_false']) | (refine acall2 [] (one5s_ok l[k] (hw _ (List.getElem_mem hkl))) (by simp only [go_sem, Bool.not_eq_true', Bool.not_eq_false']; rfl) (fit_of (by simp only [go_sem, Bool.not_eq_true', Bool.not_eq_false']) (by simp only [go_sem, Bool.not_eq_true', Bool.not_eq_false']) (by simp only [go_sem, Bool.not_eq_true', Bool.not_eq_false']) (by simp only [go_sem, Bool.not_eq_true', Bool.not_eq_false']) (by simp only [go_sem, Bool.not_eq_true', Bool.not_eq_false']) (by simp only [go_sem, Bool.not_eq_true', Bool.not_eq_false']) (by simp only [go_sem, Bool.not_eq_true', Bool.not_eq_false'])) ?_; simp only [go_sem, Bool.not_eq_true', Bool.not_eq_false'])
        all_goals first
          | omega
          | ((refine loop_end [] (k + 1) (by simp only [go_sem, Bool.not_eq_true', Bool.not_eq_false']; rfl) ?_ ?_ ?_; (focus first | omega | (simp only; omega)); (focus (simp only [go_sem, Bool.not_eq_true', Bool.not_eq_false']; done)))
             omega)
      · (refine cut_end [] (()) (by simp only [go_sem, Bool.not_eq_true', Bool.not_eq_false']; rfl) ?_ ?_; (focus (simp only [go_sem, Bool.not_eq_true', Bool.not_eq_false']; done)))
        trivial
  rintro - -
  (refine swp_lastW ?_; simp only [go_sem, Bool.not_eq_true', Bool.not_eq_false'])
end Go.Proofs.Ytbgcmnccjfdooaa
/- CHAPTER 06: the document's answer: which nodes are a document's. -/
/- G -/
/- BOOLS -/
set_option linter.unusedSimpArgs false
set_option linter.unusedVariables false
namespace Go.Proofs.Ytbgcmnccjfdooaa
open Go.RowKit

def frB (n a b : Int) : Bool := decide (a ≤ n) && decide (n ≤ b)
set_option maxRecDepth 100000 in
theorem from6_ok (n a b : Int) : FnOk Try.prog 119 [.raw (.int .i64 n), .raw (.int .i64 a), .raw (.int .i64 b)] [] (.raw (.bool (frB n a b))) [] := by
  refine fn_of_awp Try.func119 rfl (by kernel_rfl) (by kernel_rfl) (Nat.le_of_ble_eq_true rfl) Try.results119 ?_
  simp only [go_sem, Bool.not_eq_true', Bool.not_eq_false']
  repeat' first | contradiction | intro _ | refine And.intro ?_ ?_ | refine ex_get (by omega) ?_ | (show drawB _ _ = true; kernel_rfl) | (refine ret2 [] (by simp only [go_sem, Bool.not_eq_true', Bool.not_eq_false']; rfl) ?_; simp only [go_sem, Bool.not_eq_true', Bool.not_eq_false'])
  all_goals (simp [frB] <;> omega)
theorem offN_fr (n a b : Int) : offN a b n = !frB n a b := by
  simp only [offN, frB]
  by_cases h1 : n < a
  · have : ¬ a ≤ n := by omega
    simp [h1, this]
  · have : a ≤ n := by omega
    by_cases h2 : b < n
    · have : ¬ n ≤ b := by omega
      simp [*]
    · have : n ≤ b := by omega
      simp [*]
theorem styB_fr (s : LSty) : styB s = (frB s.top 0 1099511627776 && frB s.bottom 0 1099511627776 && frB s.padTop 0 1099511627776 && frB s.padBottom 0 1099511627776 && frB s.inset 0 1099511627776 && frB s.orphans 1 1099511627776 && frB s.widows 1 1099511627776 && frB s.head 0 1099511627776 && frB s.before 0 4 && frB s.after 0 4 && frB s.inside 0 1 && frB s.clear 0 3) := by
  simp only [styB, hasL, List.any_cons, List.any_nil, offN_fr, Bool.not_or, Bool.not_not, Bool.or_false]
  ac_rfl
set_option maxRecDepth 100000 in
set_option maxHeartbeats 4000000 in
theorem block6_ok (s : LSty) : FnOk Try.prog 118 [aSty s] [] (.raw (.bool (styB s))) [] := by
  rw [styB_fr]
  refine fn_of_awp Try.func118 rfl (by kernel_rfl) (by kernel_rfl) (Nat.le_of_ble_eq_true rfl) Try.results118 ?_
  simp only [go_sem, Bool.not_eq_true', Bool.not_eq_false']
  (refine acall2 [] (from6_ok s.top 0 1099511627776) (by simp only [go_sem, Bool.not_eq_true', Bool.not_eq_false']; rfl) (fit_of (by simp only [go_sem, Bool.not_eq_true', Bool.not_eq_false']) (by simp only [go_sem, Bool.not_eq_true', Bool.not_eq_false']) (by simp only [go_sem, Bool.not_eq_true', Bool.not_eq_false']) (by simp only [go_sem, Bool.not_eq_true', Bool.not_eq_false']) (by simp only [go_sem, Bool.not_eq_true', Bool.not_eq_false']) (by simp only [go_sem, Bool.not_eq_true', Bool.not_eq_false']) (by simp only [go_sem, Bool.not_eq_true', Bool.not_eq_false'])) ?_; simp only [go_sem, Bool.not_eq_true', Bool.not_eq_false'])
  refine ⟨fun h1 => ?_, fun h1 => by simp [h1]⟩
  (refine acall2 [] (from6_ok s.bottom 0 1099511627776) (by simp only [go_sem, Bool.not_eq_true', Bool.not_eq_false']; rfl) (fit_of (by simp only [go_sem, Bool.not_eq_true', Bool.not_eq_false']) (by simp only [go_sem, Bool.not_eq_true', Bool.not_eq_false']) (by simp only [go_sem, Bool.not_eq_true', Bool.not_eq_false']) (by simp only [go_sem, Bool.not_eq_true', Bool.not_eq_false']) (by simp only [go_sem, Bool.not_eq_true', Bool.not_eq_false']) (by simp only [go_sem, Bool.not_eq_true', Bool.not_eq_false']) (by simp only [go_sem, Bool.not_eq_true', Bool.not_eq_false'])) ?_; simp only [go_sem, Bool.not_eq_true', Bool.not_eq_false'])
  refine ⟨fun h2 => ?_, fun h2 => by simp [h2]⟩
  (refine acall2 [] (from6_ok s.padTop 0 1099511627776) (by simp only [go_sem, Bool.not_eq_true', Bool.not_eq_false']; rfl) (fit_of (by simp only [go_sem, Bool.not_eq_true', Bool.not_eq_false']) (by simp only [go_sem, Bool.not_eq_true', Bool.not_eq_false']) (by simp only [go_sem, Bool.not_eq_true', Bool.not_eq_false']) (by simp only [go_sem, Bool.not_eq_true', Bool.not_eq_false']) (by simp only [go_sem, Bool.not_eq_true', Bool.not_eq_false']) (by simp only [go_sem, Bool.not_eq_true', Bool.not_eq_false']) (by simp only [go_sem, Bool.not_eq_true', Bool.not_eq_false'])) ?_; simp only [go_sem, Bool.not_eq_true', Bool.not_eq_false'])
  refine ⟨fun h3 => ?_, fun h3 => by simp [h3]⟩
  (refine acall2 [] (from6_ok s.padBottom 0 1099511627776) (by simp only [go_sem, Bool.not_eq_true', Bool.not_eq_false']; rfl) (fit_of (by simp only [go_sem, Bool.not_eq_true', Bool.not_eq_false']) (by simp only [go_sem, Bool.not_eq_true', Bool.not_eq_false']) (by simp only [go_sem, Bool.not_eq_true', Bool.not_eq_false']) (by simp only [go_sem, Bool.not_eq_true', Bool.not_eq_false']) (by simp only [go_sem, Bool.not_eq_true', Bool.not_eq_false']) (by simp only [go_sem, Bool.not_eq_true', Bool.not_eq_false']) (by simp only [go_sem, Bool.not_eq_true', Bool.not_eq_false'])) ?_; simp only [go_sem, Bool.not_eq_true', Bool.not_eq_false'])
  refine ⟨fun h4 => ?_, fun h4 => by simp [h4]⟩
  (refine acall2 [] (from6_ok s.inset 0 1099511627776) (by simp only [go_sem, Bool.not_eq_true', Bool.not_eq_false']; rfl) (fit_of (by simp only [go_sem, Bool.not_eq_true', Bool.not_eq_false']) (by simp only [go_sem, Bool.not_eq_true', Bool.not_eq_false']) (by simp only [go_sem, Bool.not_eq_true', Bool.not_eq_false']) (by simp only [go_sem, Bool.not_eq_true', Bool.not_eq_false']) (by simp only [go_sem, Bool.not_eq_true', Bool.not_eq_false']) (by simp only [go_sem, Bool.not_eq_true', Bool.not_eq_false']) (by simp only [go_sem, Bool.not_eq_true', Bool.not_eq_false'])) ?_; simp only [go_sem, Bool.not_eq_true', Bool.not_eq_false'])
  refine ⟨fun h5 => ?_, fun h5 => by simp [h5]⟩
  (refine acall2 [] (from6_ok s.orphans 1 1099511627776) (by simp only [go_sem, Bool.not_eq_true', Bool.not_eq_false']; rfl) (fit_of (by simp only [go_sem, Bool.not_eq_true', Bool.not_eq_false']) (by simp only [go_sem, Bool.not_eq_true', Bool.not_eq_false']) (by simp only [go_sem, Bool.not_eq_true', Bool.not_eq_false']) (by simp only [go_sem, Bool.not_eq_true', Bool.not_eq_false']) (by simp only [go_sem, Bool.not_eq_true', Bool.not_eq_false']) (by simp only [go_sem, Bool.not_eq_true', Bool.not_eq_false']) (by simp only [go_sem, Bool.not_eq_true', Bool.not_eq_false'])) ?_; simp only [go_sem, Bool.not_eq_true', Bool.not_eq_false'])
  refine ⟨fun h6 => ?_, fun h6 => by simp [h6]⟩
  (refine acall2 [] (from6_ok s.widows 1 1099511627776) (by simp only [go_sem, Bool.not_eq_true', Bool.not_eq_false']; rfl) (fit_of (by simp only [go_sem, Bool.not_eq_true', Bool.not_eq_false']) (by simp only [go_sem, Bool.not_eq_true', Bool.not_eq_false']) (by simp only [go_sem, Bool.not_eq_true', Bool.not_eq_false']) (by simp only [go_sem, Bool.not_eq_true', Bool.not_eq_false']) (by simp only [go_sem, Bool.not_eq_true', Bool.not_eq_false']) (by simp only [go_sem, Bool.not_eq_true', Bool.not_eq_false']) (by simp only [go_sem, Bool.not_eq_true', Bool.not_eq_false'])) ?_; simp only [go_sem, Bool.not_eq_true', Bool.not_eq_false'])
  refine ⟨fun h7 => ?_, fun h7 => by simp [h7]⟩
  (refine acall2 [] (from6_ok s.head 0 1099511627776) (by simp only [go_sem, Bool.not_eq_true', Bool.not_eq_false']; rfl) (fit_of (by simp only [go_sem, Bool.not_eq_true', Bool.not_eq_false']) (by simp only [go_sem, Bool.not_eq_true', Bool.not_eq_false']) (by simp only [go_sem, Bool.not_eq_true', Bool.not_eq_false']) (by simp only [go_sem, Bool.not_eq_true', Bool.not_eq_false']) (by simp only [go_sem, Bool.not_eq_true', Bool.not_eq_false']) (by simp only [go_sem, Bool.not_eq_true', Bool.not_eq_false']) (by simp only [go_sem, Bool.not_eq_true', Bool.not_eq_false'])) ?_; simp only [go_sem, Bool.not_eq_true', Bool.not_eq_false'])
  refine ⟨fun h8 => ?_, fun h8 => by simp [h8]⟩
  (refine acall2 [] (from6_ok s.before 0 4) (by simp only [go_sem, Bool.not_eq_true', Bool.not_eq_false']; rfl) (fit_of (by simp only [go_sem, Bool.not_eq_true', Bool.not_eq_false']) (by simp only [go_sem, Bool.not_eq_true', Bool.not_eq_false']) (by simp only [go_sem, Bool.not_eq_true', Bool.not_eq_false']) (by simp only [go_sem, Bool.not_eq_true', Bool.not_eq_false']) (by simp only [go_sem, Bool.not_eq_true', Bool.not_eq_false']) (by simp only [go_sem, Bool.not_eq_true', Bool.not_eq_false']) (by simp only [go_sem, Bool.not_eq_true', Bool.not_eq_false'])) ?_; simp only [go_sem, Bool.not_eq_true', Bool.not_eq_false'])
  refine ⟨fun h9 => ?_, fun h9 => by simp [h9]⟩
  (refine acall2 [] (from6_ok s.after 0 4) (by simp only [go_sem, Bool.not_eq_true', Bool.not_eq_false']; rfl) (fit_of (by simp only [go_sem, Bool.not_eq_true', Bool.not_eq_false']) (by simp only [go_sem, Bool.not_eq_true', Bool.not_eq_false']) (by simp only [go_sem, Bool.not_eq_true', Bool.not_eq_false']) (by simp only [go_sem, Bool.not_eq_true', Bool.not_eq_false']) (by simp only [go_sem, Bool.not_eq_true', Bool.not_eq_false']) (by simp only [go_sem, Bool.not_eq_true', Bool.not_eq_false']) (by simp only [go_sem, Bool.not_eq_true', Bool.not_eq_false'])) ?_; simp only [go_sem, Bool.not_eq_true', Bool.not_eq_false'])
  refine ⟨fun h10 => ?_, fun h10 => by simp [h10]⟩
  (refine acall2 [] (from6_ok s.inside 0 1) (by simp only [go_sem, Bool.not_eq_true', Bool.not_eq_false']; rfl) (fit_of (by simp only [go_sem, Bool.not_eq_true', Bool.not_eq_false']) (by simp only [go_sem, Bool.not_eq_true', Bool.not_eq_false']) (by simp only [go_sem, Bool.not_eq_true', Bool.not_eq_false']) (by simp only [go_sem, Bool.not_eq_true', Bool.not_eq_false']) (by simp only [go_sem, Bool.not_eq_true', Bool.not_eq_false']) (by simp only [go_sem, Bool.not_eq_true', Bool.not_eq_false']) (by simp only [go_sem, Bool.not_eq_true', Bool.not_eq_false'])) ?_; simp only [go_sem, Bool.not_eq_true', Bool.not_eq_false'])
  refine ⟨fun h11 => ?_, fun h11 => by simp [h11]⟩
  (refine acall2 [] (from6_ok s.clear 0 3) (by simp only [go_sem, Bool.not_eq_true', Bool.not_eq_false']; rfl) (fit_of (by simp only [go_sem, Bool.not_eq_true', Bool.not_eq_false']) (by simp only [go_sem, Bool.not_eq_true', Bool.not_eq_false']) (by simp only [go_sem, Bool.not_eq_true', Bool.not_eq_false']) (by simp only [go_sem, Bool.not_eq_true', Bool.not_eq_false']) (by simp only [go_sem, Bool.not_eq_true', Bool.not_eq_false']) (by simp only [go_sem, Bool.not_eq_true', Bool.not_eq_false']) (by simp only [go_sem, Bool.not_eq_true', Bool.not_eq_false'])) ?_; simp only [go_sem, Bool.not_eq_true', Bool.not_eq_false'])
  simp [*]
theorem hasL_words {l : List Int} {a b : Int} (h : ∀ j (hj : j < l.length), offN a b l[j] = false) : hasL a b l = true := by
  unfold hasL
  rw [Bool.not_eq_true', List.any_eq_false]
  intro x hx
  obtain ⟨j, hj, rfl⟩ := List.getElem_of_mem hx
  rw [h j hj]; decide
theorem hasL_not {l : List Int} {a b : Int} {k : Nat} (hk : k < l.length) (h : frB l[k] a b = false) : hasL a b l = false := by
  unfold hasL
  rw [Bool.not_eq_false', List.any_eq_true]
  exact ⟨l[k], List.getElem_mem hk, by rw [offN_fr, h]; rfl⟩
theorem hasL_1 (n a b : Int) : hasL a b [n] = frB n a b := by simp [hasL, offN_fr]
theorem hasL_2 (n m a b : Int) : hasL a b [n, m] = (frB n a b && frB m a b) := by simp [hasL, offN_fr]
set_option maxRecDepth 100000 in
set_option maxHeartbeats 4000000 in
theorem one6_ok (x : LNo) (hw : x.words.length ≤ 9223372036854775807) : FnOk Try.prog 95 [aNo x] [] (.raw (.bool (nodB x))) [] := by
  refine fn_of_swp Try.func95 rfl (by kernel_rfl) (by kernel_rfl) (Nat.le_of_ble_eq_true rfl) Try.results95 ?_
  (refine swp_seqW ?_; simp only [go_sem, Bool.not_eq_true', Bool.not_eq_false'])
  (refine swp_seqW ?_; simp only [go_sem, Bool.not_eq_true', Bool.not_eq_false'])
  refine swp_seqS ?_
  (refine swp_seqW ?_; simp only [go_sem, Bool.not_eq_true', Bool.not_eq_false'])
  (refine swp_condW ?_; simp only [go_sem, Bool.not_eq_true', Bool.not_eq_false'])
  refine ⟨fun k1 => ?_, fun k1 => ?_⟩
  · have e : nodB x = (txtB x && decide (x.w = 0) && decide (x.h = 0) && decide (x.side = 0) && styB x.st) := by unfold nodB; rw [if_pos k1]
    rw [e]
    (refine swp_lastW ?_; simp only [go_sem, Bool.not_eq_true', Bool.not_eq_false'])
    (refine acall2 [] (block6_ok x.st) (by simp only [go_sem, Bool.not_eq_true', Bool.not_eq_false']; rfl) (fit_of (by simp only [go_sem, Bool.not_eq_true', Bool.not_eq_false']) (by simp only [go_sem, Bool.not_eq_true', Bool.not_eq_false']) (by simp only [go_sem, Bool.not_eq_true', Bool.not_eq_false']) (by simp only [go_sem, Bool.not_eq_true', Bool.not_eq_false']) (by simp only [go_sem, Bool.not_eq_true', Bool.not_eq_false']) (by simp only [go_sem, Bool.not_eq_true', Bool.not_eq_false']) (by simp only [go_sem, Bool.not_eq_true', Bool.not_eq_false'])) ?_; simp only [go_sem, Bool.not_eq_true', Bool.not_eq_false'])
    refine ⟨fun h1 => ?_, fun h1 => by simp [*]⟩
    repeat' first | contradiction | intro _ | refine And.intro ?_ ?_ | refine ex_get (by omega) ?_ | (show drawB _ _ = true; kernel_rfl) | (refine ret2 [] (by simp only [go_sem, Bool.not_eq_true', Bool.not_eq_false']; rfl) ?_; simp only [go_sem, Bool.not_eq_true', Bool.not_eq_false'])
    all_goals first
      | (simp [txtB, *]; done)
      | (simp [txtB, *]; intro _; exact List.eq_nil_of_length_eq_zero (by omega))
      | (simp [txtB, *]; intro q; simp [q] at *)
  (refine swp_lastW ?_; simp only [go_sem, Bool.not_eq_true', Bool.not_eq_false'])
  refine swp_seqS ?_
  (refine swp_seqW ?_; simp only [go_sem, Bool.not_eq_true', Bool.not_eq_false'])
  (refine swp_condW ?_; simp only [go_sem, Bool.not_eq_true', Bool.not_eq_false'])
  refine ⟨fun k2 => ?_, fun k2 => ?_⟩
  · have e : nodB x = false := by
      unfold nodB
      rw [if_neg k1]
      have : bareB x = false := by simp [bareB]; simp_all
      simp [this]
    rw [e]
    (refine swp_lastW ?_; simp only [go_sem, Bool.not_eq_true', Bool.not_eq_false'])
  (refine swp_lastW ?_; simp only [go_sem, Bool.not_eq_true', Bool.not_eq_false'])
  have hb : bareB x = true := by simp [bareB]; simp_all
  clear k2
  refine swp_seqS ?_
  (refine swp_seqW ?_; simp only [go_sem, Bool.not_eq_true', Bool.not_eq_false'])
  (refine swp_condW ?_; simp only [go_sem, Bool.not_eq_true', Bool.not_eq_false'])
  refine ⟨fun k2 => ?_, fun k2 => ?_⟩
  · have e : nodB x = (bareB x && decide (x.w = 0) && decide (x.h = 0) && decide (x.side = 0) && hasL 1 1099511627776 [x.line] && hasL 1 1099511627776 x.words && hasL 0 1099511627776 [x.space] && decide (0 < x.words.length)) := by unfold nodB; rw [if_neg k1, if_pos k2]
    rw [e]
    refine swp_cutS (fun _ : Unit => ⟨[(1, .hdr 8), (3, .raw (.int .i64 1099511627776))], [(8, some (.cells 45 (lNo x)))], none⟩) (fun _ => hasL 1 1099511627776 x.words = true) 3 ?_ ?_
    · (refine swp_seqW ?_; simp only [go_sem, Bool.not_eq_true', Bool.not_eq_false'])
      refine swp_block ?_
      refine swp_loop2 [] (fun k : Nat => ⟨[(1, .hdr 8), (3, .raw (.int .i64 1099511627776)), (4, .raw (.int .i64 k))], [(8, some (.cells 45 (lNo x)))], none⟩) (fun k => k ≤ x.words.length ∧ ∀ j (hj : j < x.words.length), j < k → offN 1 1099511627776 x.words[j] = false) (fun k => x.words.length - k) 4 0 (by simp only [go_sem, Bool.not_eq_true', Bool.not_eq_false']; rfl) (by simp only [go_sem, Bool.not_eq_true', Bool.not_eq_false']) ?_ ?_
      · exact ⟨Nat.zero_le _, fun j _ h => absurd h (Nat.not_lt_zero j)⟩
      · rintro k ⟨hk, ha⟩
        (refine swp_lastW ?_; simp only [go_sem, Bool.not_eq_true', Bool.not_eq_false', List.length_map])
        refine ⟨fun h5 => ?_, fun h5 => ?_⟩
        · have hkl : k < x.words.length := by omega
          refine ⟨by omega, ex_get hkl ?_⟩
          (refine acall2 [] (from6_ok x.words[k] 1 1099511627776) (by simp only [go_sem, Bool.not_eq_true', Bool.not_eq_false']; rfl) (fit_of (by simp only [go_sem, Bool.not_eq_true', Bool.not_eq_false']) (by simp only [go_sem, Bool.not_eq_true', Bool.not_eq_false']) (by simp only [go_sem, Bool.not_eq_true', Bool.not_eq_false']) (by simp only [go_sem, Bool.not_eq_true', Bool.not_eq_false']) (by simp only [go_sem, Bool.not_eq_true', Bool.not_eq_false']) (by simp only [go_sem, Bool.not_eq_true', Bool.not_eq_false']) (by simp only [go_sem, Bool.not_eq_true', Bool.not_eq_false'])) ?_; simp only [go_sem, Bool.not_eq_true', Bool.not_eq_false'])
          refine ⟨fun h6 => ?_, fun h6 => ⟨by omega, ?_⟩⟩
          · simp [hasL_not hkl h6]
          · (refine loop_end [] (k + 1) (by simp only [go_sem, Bool.not_eq_true', Bool.not_eq_false']; rfl) ?_ ?_ ?_; (focus first | omega | (simp only; omega)); (focus (simp only [go_sem, Bool.not_eq_true', Bool.not_eq_false']; done)))
            refine ⟨by omega, fun j hj h7 => ?_⟩
            rcases Nat.lt_succ_iff_lt_or_eq.1 h7 with h8 | h8
            · exact ha j hj h8
            · subst h8; rw [offN_fr, h6]; rfl
        · (refine cut_end [] (()) (by simp only [go_sem, Bool.not_eq_true', Bool.not_eq_false']; rfl) ?_ ?_; (focus (simp only [go_sem, Bool.not_eq_true', Bool.not_eq_false']; done)))
          exact hasL_words fun j hj => ha j hj (by omega)
    rintro - hwd
    rw [hasL_1, hasL_1]
    (refine swp_lastW ?_; simp only [go_sem, Bool.not_eq_true', Bool.not_eq_false', List.length_map])
    refine ⟨fun h1 => ?_, fun h1 => by simp [show x.words.length = 0 by omega]⟩
    (refine acall2 [] (from6_ok x.line 1 1099511627776) (by simp only [go_sem, Bool.not_eq_true', Bool.not_eq_false']; rfl) (fit_of (by simp only [go_sem, Bool.not_eq_true', Bool.not_eq_false']) (by simp only [go_sem, Bool.not_eq_true', Bool.not_eq_false']) (by simp only [go_sem, Bool.not_eq_true', Bool.not_eq_false']) (by simp only [go_sem, Bool.not_eq_true', Bool.not_eq_false']) (by simp only [go_sem, Bool.not_eq_true', Bool.not_eq_false']) (by simp only [go_sem, Bool.not_eq_true', Bool.not_eq_false']) (by simp only [go_sem, Bool.not_eq_true', Bool.not_eq_false'])) ?_; simp only [go_sem, Bool.not_eq_true', Bool.not_eq_false'])
    refine ⟨fun h2 => ?_, fun h2 => by simp [h2]⟩
    (refine acall2 [] (from6_ok x.space 0 1099511627776) (by simp only [go_sem, Bool.not_eq_true', Bool.not_eq_false']; rfl) (fit_of (by simp only [go_sem, Bool.not_eq_true', Bool.not_eq_false']) (by simp only [go_sem, Bool.not_eq_true', Bool.not_eq_false']) (by simp only [go_sem, Bool.not_eq_true', Bool.not_eq_false']) (by simp only [go_sem, Bool.not_eq_true', Bool.not_eq_false']) (by simp only [go_sem, Bool.not_eq_true', Bool.not_eq_false']) (by simp only [go_sem, Bool.not_eq_true', Bool.not_eq_false']) (by simp only [go_sem, Bool.not_eq_true', Bool.not_eq_false'])) ?_; simp only [go_sem, Bool.not_eq_true', Bool.not_eq_false'])
    refine ⟨fun h3 => ?_, fun h3 => by simp [h3]⟩
    repeat' first | contradiction | intro _ | refine And.intro ?_ ?_ | refine ex_get (by omega) ?_ | (show drawB _ _ = true; kernel_rfl) | (refine ret2 [] (by simp only [go_sem, Bool.not_eq_true', Bool.not_eq_false']; rfl) ?_; simp only [go_sem, Bool.not_eq_true', Bool.not_eq_false'])
    all_goals first
      | (simp [*]; done)
      | (simp [*]; omega)
  (refine swp_lastW ?_; simp only [go_sem, Bool.not_eq_true', Bool.not_eq_false'])
  by_cases k5 : txtB x = true ∧ frB x.w 1 1099511627776 = true ∧ frB x.h 1 1099511627776 = true
  rotate_left
  · have e : nodB x = false := by
      unfold nodB
      rw [if_neg k1, if_neg k2, hasL_2]
      cases h1 : txtB x <;> cases h2 : frB x.w 1 1099511627776 <;> cases h3 : frB x.h 1 1099511627776 <;> simp_all
    rw [e]
    refine swp_seqS ?_
    (refine swp_seqW ?_; simp only [go_sem, Bool.not_eq_true', Bool.not_eq_false', List.length_map])
    refine ⟨fun z1 => ⟨fun z2 => ⟨fun z3 => ?_, fun z3 => ?_⟩, fun z2 => ?_⟩, fun z1 => ?_⟩
    · (refine acall2 [] (from6_ok x.w 1 1099511627776) (by simp only [go_sem, Bool.not_eq_true', Bool.not_eq_false']; rfl) (fit_of (by simp only [go_sem, Bool.not_eq_true', Bool.not_eq_false']) (by simp only [go_sem, Bool.not_eq_true', Bool.not_eq_false']) (by simp only [go_sem, Bool.not_eq_true', Bool.not_eq_false']) (by simp only [go_sem, Bool.not_eq_true', Bool.not_eq_false']) (by simp only [go_sem, Bool.not_eq_true', Bool.not_eq_false']) (by simp only [go_sem, Bool.not_eq_true', Bool.not_eq_false']) (by simp only [go_sem, Bool.not_eq_true', Bool.not_eq_false'])) ?_; simp only [go_sem, Bool.not_eq_true', Bool.not_eq_false'])
      refine ⟨fun z4 => ?_, fun z4 => ?_⟩
      · (refine acall2 [] (from6_ok x.h 1 1099511627776) (by simp only [go_sem, Bool.not_eq_true', Bool.not_eq_false']; rfl) (fit_of (by simp only [go_sem, Bool.not_eq_true', Bool.not_eq_false']) (by simp only [go_sem, Bool.not_eq_true', Bool.not_eq_false']) (by simp only [go_sem, Bool.not_eq_true', Bool.not_eq_false']) (by simp only [go_sem, Bool.not_eq_true', Bool.not_eq_false']) (by simp only [go_sem, Bool.not_eq_true', Bool.not_eq_false']) (by simp only [go_sem, Bool.not_eq_true', Bool.not_eq_false']) (by simp only [go_sem, Bool.not_eq_true', Bool.not_eq_false'])) ?_; simp only [go_sem, Bool.not_eq_true', Bool.not_eq_false'])
        (refine swp_condW ?_; simp only [go_sem, Bool.not_eq_true', Bool.not_eq_false'])
        refine ⟨fun z5 => ?_, fun z5 => absurd ⟨by simp only [txtB, Bool.and_eq_true, decide_eq_true_eq]; omega, z4, z5⟩ k5⟩
        (refine swp_lastW ?_; simp only [go_sem, Bool.not_eq_true', Bool.not_eq_false'])
      · (refine swp_condW ?_; simp only [go_sem, Bool.not_eq_true', Bool.not_eq_false'])
        (refine swp_lastW ?_; simp only [go_sem, Bool.not_eq_true', Bool.not_eq_false'])
    all_goals
      (refine swp_condW ?_; simp only [go_sem, Bool.not_eq_true', Bool.not_eq_false'])
      (refine swp_lastW ?_; simp only [go_sem, Bool.not_eq_true', Bool.not_eq_false'])
  obtain ⟨k6, k7, k8⟩ := k5
  have e : nodB x = (decide (x.kind = 3) && decide (x.side = 0) || decide (x.kind = 4) && frB x.side 1 2) := by
    unfold nodB
    rw [if_neg k1, if_neg k2, hasL_2, hasL_1]
    by_cases k3 : x.kind = 3
    · simp [*]
    · by_cases k4 : x.kind = 4 <;> simp [*]
  rw [e]
  simp only [txtB, Bool.and_eq_true, decide_eq_true_eq] at k6
  obtain ⟨⟨q1, q2⟩, q3⟩ := k6
  refine swp_seqS ?_
  (refine swp_seqW ?_; simp only [go_sem, Bool.not_eq_true', Bool.not_eq_false', List.length_map])
  refine ⟨fun z1 => ⟨fun z2 => ⟨fun z3 => ?_, fun z3 => absurd (by omega) z3⟩, fun z2 => absurd q2 z2⟩, fun z1 => absurd q1 z1⟩
  (refine acall2 [] (from6_ok x.w 1 1099511627776) (by simp only [go_sem, Bool.not_eq_true', Bool.not_eq_false']; rfl) (fit_of (by simp only [go_sem, Bool.not_eq_true', Bool.not_eq_false']) (by simp only [go_sem, Bool.not_eq_true', Bool.not_eq_false']) (by simp only [go_sem, Bool.not_eq_true', Bool.not_eq_false']) (by simp only [go_sem, Bool.not_eq_true', Bool.not_eq_false']) (by simp only [go_sem, Bool.not_eq_true', Bool.not_eq_false']) (by simp only [go_sem, Bool.not_eq_true', Bool.not_eq_false']) (by simp only [go_sem, Bool.not_eq_true', Bool.not_eq_false'])) ?_; simp only [go_sem, Bool.not_eq_true', Bool.not_eq_false', k7])
  (refine acall2 [] (from6_ok x.h 1 1099511627776) (by simp only [go_sem, Bool.not_eq_true', Bool.not_eq_false']; rfl) (fit_of (by simp only [go_sem, Bool.not_eq_true', Bool.not_eq_false']) (by simp only [go_sem, Bool.not_eq_true', Bool.not_eq_false']) (by simp only [go_sem, Bool.not_eq_true', Bool.not_eq_false']) (by simp only [go_sem, Bool.not_eq_true', Bool.not_eq_false']) (by simp only [go_sem, Bool.not_eq_true', Bool.not_eq_false']) (by simp only [go_sem, Bool.not_eq_true', Bool.not_eq_false']) (by simp only [go_sem, Bool.not_eq_true', Bool.not_eq_false'])) ?_; simp only [go_sem, Bool.not_eq_true', Bool.not_eq_false', k8])
  (refine swp_condW ?_; simp only [go_sem, Bool.not_eq_true', Bool.not_eq_false', k8])
  (refine swp_lastW ?_; simp only [go_sem, Bool.not_eq_true', Bool.not_eq_false'])
  (refine swp_lastW ?_; simp only [go_sem, Bool.not_eq_true', Bool.not_eq_false'])
  refine ⟨fun k3 => ⟨fun z4 => ?_, fun z4 => ?_⟩, fun k3 => ⟨fun k4 => ?_, fun k4 => ?_⟩⟩
  · simp [*]
  · simp [*]
  · (refine acall2 [] (from6_ok x.side 1 2) (by simp only [go_sem, Bool.not_eq_true', Bool.not_eq_false']; rfl) (fit_of (by simp only [go_sem, Bool.not_eq_true', Bool.not_eq_false']) (by simp only [go_sem, Bool.not_eq_true', Bool.not_eq_false']) (by simp only [go_sem, Bool.not_eq_true', Bool.not_eq_false']) (by simp only [go_sem, Bool.not_eq_true', Bool.not_eq_false']) (by simp only [go_sem, Bool.not_eq_true', Bool.not_eq_false']) (by simp only [go_sem, Bool.not_eq_true', Bool.not_eq_false']) (by simp only [go_sem, Bool.not_eq_true', Bool.not_eq_false'])) ?_; simp only [go_sem, Bool.not_eq_true', Bool.not_eq_false'])
    simp [*]
  · simp [*]
end Go.Proofs.Ytbgcmnccjfdooaa
/- CHAPTER 06: the document's answer: rows within rows. -/
/- G -/
/- BOOLS -/
set_option linter.unusedSimpArgs false
set_option linter.unusedVariables false
namespace Go.Proofs.Ytbgcmnccjfdooaa
open Go.RowKit

def kinN (l : List LNo) (k : Nat) : Int := match l[k]? with | some x => x.kind | none => 0
theorem kinN_get {l : List LNo} {k : Nat} (hk : k < l.length) : kinN l k = l[k].kind := by unfold kinN; rw [List.getElem?_eq_getElem hk]
def rowB (l : List LNo) : Nat → Nat → Int → Bool
  | 0, _, _ => true
  | f + 1, k, e => if (k : Int) < e then decide (1 ≤ sizN l k) && decide (sizN l k ≤ e - k) && !(decide (kinN l k ≠ 1) && decide (1 < sizN l k)) && rowB l f (k + 1) (k + sizN l k) && rowB l f (k + (sizN l k).toNat) e else true
set_option maxRecDepth 100000 in
set_option maxHeartbeats 4000000 in
theorem rows6_ok (l : List LNo) (hl : l.length ≤ 1000) : ∀ (f : Nat) (k : Nat) (e : Int), e ≤ l.length → 0 ≤ e → e - k < f → k ≤ l.length → FnOk Try.prog 96 [.sl 20 (l.map cNo), .raw (.int .i64 k), .raw (.int .i64 e)] [] (.raw (.bool (rowB l f k e))) [] := by
  intro f
  induction f using Nat.strongRecOn with
  | ind f ih =>
    intro k e h1 h0 h2 h3
    refine fn_of_swp Try.func96 rfl (by kernel_rfl) (by kernel_rfl) (Nat.le_of_ble_eq_true rfl) Try.results96 ?_
    (refine swp_seqW ?_; simp only [go_sem, Bool.not_eq_true', Bool.not_eq_false'])
    refine swp_cutS (fun _ : Unit => ⟨[], [], none⟩) (fun _ => rowB l f k e = true) 3 ?_ ?_
    · refine swp_block ?_
      refine swp_loop2 [] (fun k : Nat => ⟨[(0, .sl 20 (l.map cNo)), (1, .raw (.int .i64 k)), (2, .raw (.int .i64 e))], [], none⟩) (fun z => ∃ g, g ≤ f ∧ e - z < g ∧ rowB l g z e = rowB l f k e ∧ z ≤ l.length) (fun z => l.length - z) 3 k (by simp only [go_sem, Bool.not_eq_true', Bool.not_eq_false']; rfl) (by simp only [go_sem, Bool.not_eq_true', Bool.not_eq_false']) ?_ ?_
      · exact ⟨f, Nat.le_refl _, h2, rfl, h3⟩
      · rintro kk ⟨g, g1, g2, g3, g4⟩
        (refine swp_seqW ?_; simp only [go_sem, Bool.not_eq_true', Bool.not_eq_false'])
        refine ⟨fun q => ?_, fun q => ?_⟩
        · obtain ⟨g, rfl⟩ : ∃ g', g = g' + 1 := ⟨g - 1, by omega⟩
          have hk : kk < l.length := by omega
          have hsz := sizN_get hk
          have hkn := kinN_get hk
          rw [rowB, if_pos q, hsz, hkn] at g3
          refine swp_block ?_
          (refine swp_seqW ?_; simp only [go_sem, Bool.not_eq_true', Bool.not_eq_false'])
          refine ⟨by omega, ex_get hk ?_⟩
          have ihx := ih g (by omega) (kk + 1)
          generalize l[kk] = x at g3
          refine swp_seqS ?_
          (refine swp_seqW ?_; simp only [go_sem, Bool.not_eq_true', Bool.not_eq_false'])
          obtain ⟨m, hm⟩ : ∃ m : Int, m = kk + x.size := ⟨_, rfl⟩
          refine ⟨fun z1 => ⟨by omega, fun z2 => ⟨fun z3 => ⟨fun z4 => ?_, fun z4 => ?_⟩, fun z3 => ?_⟩, fun z2 => ?_⟩, fun z1 => ?_⟩
          rotate_left
          · have e0 : rowB l f k e = false := by rw [← g3]; simp [z3, z4]
            (refine swp_condW ?_; simp only [go_sem, Bool.not_eq_true', Bool.not_eq_false'])
            (refine swp_lastW ?_; simp only [go_sem, Bool.not_eq_true', Bool.not_eq_false', e0])
          rotate_left
          · have e0 : rowB l f k e = false := by rw [← g3]; have : ¬ x.size ≤ e - kk := by omega
                                                 simp [this]
            (refine swp_condW ?_; simp only [go_sem, Bool.not_eq_true', Bool.not_eq_false'])
            (refine swp_lastW ?_; simp only [go_sem, Bool.not_eq_true', Bool.not_eq_false', e0])
          · have e0 : rowB l f k e = false := by rw [← g3]; have : ¬ 1 ≤ x.size := by omega
                                                 simp [this]
            (refine swp_condW ?_; simp only [go_sem, Bool.not_eq_true', Bool.not_eq_false'])
            (refine swp_lastW ?_; simp only [go_sem, Bool.not_eq_true', Bool.not_eq_false', e0])
          all_goals
            have e1 : (decide (1 ≤ x.size) && decide (x.size ≤ e - ↑kk) && !(decide (x.kind ≠ 1) && decide (1 < x.size))) = true := by
              have a1 : 1 ≤ x.size := by omega
              have a2 : x.size ≤ e - kk := by omega
              simp [a1, a2]
              omega
            rw [e1, Bool.true_and] at g3
            refine ⟨by omega, by omega, ?_⟩
            rw [← hm] at g3 ⊢
            (refine acall2 [] (ihx m (by omega) (by omega) (by omega) (by omega)) (by simp only [go_sem, Bool.not_eq_true', Bool.not_eq_false']; rfl) (fit_of (by simp only [go_sem, Bool.not_eq_true', Bool.not_eq_false']) (by simp only [go_sem, Bool.not_eq_true', Bool.not_eq_false']) (by simp only [go_sem, Bool.not_eq_true', Bool.not_eq_false']) (by simp only [go_sem, Bool.not_eq_true', Bool.not_eq_false']) (by simp only [go_sem, Bool.not_eq_true', Bool.not_eq_false']) (by simp only [go_sem, Bool.not_eq_true', Bool.not_eq_false']) (by simp only [go_sem, Bool.not_eq_true', Bool.not_eq_false'])) ?_; simp only [go_sem, Bool.not_eq_true', Bool.not_eq_false'])
            (refine swp_condW ?_; simp only [go_sem, Bool.not_eq_true', Bool.not_eq_false'])
            refine ⟨fun z5 => ?_, fun z5 => ?_⟩
            · have e0 : rowB l f k e = false := by rw [← g3, z5]; rfl
              (refine swp_lastW ?_; simp only [go_sem, Bool.not_eq_true', Bool.not_eq_false', e0])
            · rw [z5, Bool.true_and] at g3
              (refine swp_lastW ?_; simp only [go_sem, Bool.not_eq_true', Bool.not_eq_false'])
              (refine swp_lastW ?_; simp only [go_sem, Bool.not_eq_true', Bool.not_eq_false'])
              obtain ⟨s, hs⟩ : ∃ s : Nat, x.size = s := ⟨x.size.toNat, by omega⟩
              rw [hs] at g3 ⊢
              simp only [Int.toNat_natCast] at g3
              refine ⟨by omega, ?_⟩
              (refine loop_end [] (kk + s) (by simp only [go_sem, Bool.not_eq_true', Bool.not_eq_false']; rfl) ?_ ?_ ?_; (focus first | omega | (simp only; omega)); (focus (simp only [go_sem, Bool.not_eq_true', Bool.not_eq_false']; done)))
              exact ⟨g, by omega, by omega, g3, by omega⟩
        · (refine cut_end [] (()) (by simp only [go_sem, Bool.not_eq_true', Bool.not_eq_false']; rfl) ?_ ?_; (focus (simp only [go_sem, Bool.not_eq_true', Bool.not_eq_false']; done)))
          rw [← g3]
          cases g with
          | zero => rfl
          | succ g => rw [rowB, if_neg q]
    rintro - hb
    rw [hb]
    (refine swp_lastW ?_; simp only [go_sem, Bool.not_eq_true', Bool.not_eq_false'])
def isR (l : List LNo) : Bool := l.all nodB && rowB l (l.length + 1) 0 l.length
set_option maxRecDepth 100000 in
set_option maxHeartbeats 4000000 in
theorem isR_ok (l : List LNo) (hl : l.length ≤ 1000) (hw : ∀ x ∈ l, x.words.length ≤ 9223372036854775807) : FnOk Try.prog 68 [.sl 20 (l.map cNo)] [] (.raw (.bool (isR l))) [] := by
  refine fn_of_swp Try.func68 rfl (by kernel_rfl) (by kernel_rfl) (Nat.le_of_ble_eq_true rfl) Try.results68 ?_
  (refine swp_seqW ?_; simp only [go_sem, Bool.not_eq_true', Bool.not_eq_false'])
  refine swp_cutS (fun _ : Unit => ⟨[(0, .sl 20 (l.map cNo))], [], none⟩) (fun _ => l.all nodB = true) 3 ?_ ?_
  · (refine swp_seqW ?_; simp only [go_sem, Bool.not_eq_true', Bool.not_eq_false'])
    refine swp_block ?_
    refine swp_loop2 [] (fun k : Nat => ⟨[(0, .sl 20 (l.map cNo)), (3, .raw (.int .i64 k))], [], none⟩) (fun k => k ≤ l.length ∧ ∀ j (hj : j < l.length), j < k → nodB l[j] = true) (fun k => l.length - k) 4 0 (by simp only [go_sem, Bool.not_eq_true', Bool.not_eq_false']; rfl) (by simp only [go_sem, Bool.not_eq_true', Bool.not_eq_false']) ?_ ?_
    · exact ⟨Nat.zero_le _, fun j _ h => absurd h (Nat.not_lt_zero j)⟩
    · rintro k ⟨hk, ha⟩
      (refine swp_lastW ?_; simp only [go_sem, Bool.not_eq_true', Bool.not_eq_false', List.length_map])
      refine ⟨fun h5 => ?_, fun h5 => ?_⟩
      · have hkl : k < l.length := by omega
        refine ⟨by omega, ex_get hkl ?_⟩
        (refine acall2 [] (one6_ok l[k] (hw _ (List.getElem_mem hkl))) (by simp only [go_sem, Bool.not_eq_true', Bool.not_eq_false']; rfl) (fit_of (by simp only [go_sem, Bool.not_eq_true', Bool.not_eq_false']) (by simp only [go_sem, Bool.not_eq_true', Bool.not_eq_false']) (by simp only [go_sem, Bool.not_eq_true', Bool.not_eq_false']) (by simp only [go_sem, Bool.not_eq_true', Bool.not_eq_false']) (by simp only [go_sem, Bool.not_eq_true', Bool.not_eq_false']) (by simp only [go_sem, Bool.not_eq_true', Bool.not_eq_false']) (by simp only [go_sem, Bool.not_eq_true', Bool.not_eq_false'])) ?_; simp only [go_sem, Bool.not_eq_true', Bool.not_eq_false'])
        refine ⟨fun h6 => ?_, fun h6 => ⟨by omega, ?_⟩⟩
        · have : l.all nodB = false := by
            rw [List.all_eq_false]
            exact ⟨l[k], List.getElem_mem hkl, by rw [h6]; decide⟩
          simp [isR, this]
        · (refine loop_end [] (k + 1) (by simp only [go_sem, Bool.not_eq_true', Bool.not_eq_false']; rfl) ?_ ?_ ?_; (focus first | omega | (simp only; omega)); (focus (simp only [go_sem, Bool.not_eq_true', Bool.not_eq_false']; done)))
          refine ⟨by omega, fun j hj h7 => ?_⟩
          rcases Nat.lt_succ_iff_lt_or_eq.1 h7 with h8 | h8
          · exact ha j hj h8
          · subst h8; exact h6
      · (refine cut_end [] (()) (by simp only [go_sem, Bool.not_eq_true', Bool.not_eq_false']; rfl) ?_ ?_; (focus (simp only [go_sem, Bool.not_eq_true', Bool.not_eq_false']; done)))
        rw [List.all_eq_true]
        intro x hx
        obtain ⟨j, hj, rfl⟩ := List.getElem_of_mem hx
        exact ha j hj (by omega)
  rintro - hb
  have e : isR l = rowB l (l.length + 1) 0 l.length := by simp [isR, hb]
  rw [e]
  (refine swp_lastW ?_; simp only [go_sem, Bool.not_eq_true', Bool.not_eq_false', List.length_map])
  (refine acall2 [] (rows6_ok l hl (l.length + 1) 0 l.length (by omega) (by omega) (by omega) (by omega)) (by simp only [go_sem, Bool.not_eq_true', Bool.not_eq_false']; rfl) (fit_of (by simp only [go_sem, Bool.not_eq_true', Bool.not_eq_false']) (by simp only [go_sem, Bool.not_eq_true', Bool.not_eq_false']) (by simp only [go_sem, Bool.not_eq_true', Bool.not_eq_false']) (by simp only [go_sem, Bool.not_eq_true', Bool.not_eq_false']) (by simp only [go_sem, Bool.not_eq_true', Bool.not_eq_false']) (by simp only [go_sem, Bool.not_eq_true', Bool.not_eq_false']) (by simp only [go_sem, Bool.not_eq_true', Bool.not_eq_false'])) ?_; simp only [go_sem, Bool.not_eq_true', Bool.not_eq_false'])
end Go.Proofs.Ytbgcmnccjfdooaa
/- CHAPTERS 06, 08: nodes of a document: the program's test is the answer's; who stands in whom. -/
/- G -/
set_option linter.unusedSimpArgs false
set_option linter.unusedVariables false
namespace Go.Proofs.Ytbgcmnccjfdooaa
open Go.RowKit

def leafB (x : LNo) : Bool := !(decide (x.kind ≠ 1) && decide (1 < x.size))
theorem isG_leaf : ∀ (l : List LNo) (i : Nat) (st : List Int), isG l i st = true → ∀ x ∈ l, leafB x = true
  | [], _, _, _, x, hx => by cases hx
  | y :: l, i, st, h, x, hx => by
    rw [isG] at h
    simp only [Bool.and_eq_true] at h
    rcases List.mem_cons.1 hx with e | e
    · subst e; exact h.1.2
    · exact isG_leaf l (i + 1) _ h.2 x e
theorem popR_chn2 (l : List LNo) (k : Nat) : ∀ (R : List Int), chn l k R → chn l k (popR k R)
  | [], h => h
  | [a], h => h
  | a :: b :: t, h => by
    rw [popR]
    split
    · next q => subst q; exact popR_chn2 l k (b :: t) (by have := h.2; rwa [Int.toNat_natCast] at this)
    · exact h
theorem isG_of (l : List LNo) (hn : ∀ x ∈ l, nodB x = true) (hf : ∀ x ∈ l, leafB x = true) : ∀ (m k : Nat) (R : List Int), m + k = l.length → gdR k l.length R → chn l k R → isG (l.drop k) k R.reverse = true
  | 0, k, R, hm, hg, h => by
    rw [List.drop_of_length_le (by omega)]; rfl
  | m + 1, k, R, hm, hg, h => by
    have hk : k < l.length := by omega
    have hg2 := popR_gd (by omega) R hg
    have h2 := popR_chn2 l k R h
    rw [List.drop_eq_getElem_cons hk, isG, popS_rev _ _ _ (by simp)]
    generalize popR (k : Int) R = R2 at hg2 h2 ⊢
    have hs := sizN_get hk
    cases R2 with
    | nil => exact absurd hg2 (by simp [gdR])
    | cons e t =>
      obtain ⟨⟨f, n1⟩, c1⟩ := h2
      have hke : (k : Int) < e := by
        cases t with
        | nil => have := hg2.1; omega
        | cons b t => have := hg2.1; omega
      cases f with
      | zero => exact absurd n1 (by simp [nst])
      | succ f =>
        obtain ⟨u1, u2, u3, u4⟩ := n1.2 hke
        rw [hs] at u1 u2 u3 u4
        obtain ⟨s, hs2⟩ : ∃ s : Nat, l[k].size = s := ⟨l[k].size.toNat, by omega⟩
        rw [topI_rev]
        have e1 := hn l[k] (List.getElem_mem hk)
        have e2 := hf l[k] (List.getElem_mem hk)
        unfold leafB at e2
        rw [hs2] at u1 u2 u3 u4
        have hR : (e :: t).reverse ++ [(k : Int) + (s : Int)] = (((k : Int) + (s : Int)) :: e :: t).reverse := by simp
        rw [e1, e2, hs2, hR]
        simp only [Bool.and_eq_true, decide_eq_true_eq, Bool.true_and]
        refine ⟨⟨⟨u1, by omega⟩, trivial⟩, isG_of l hn hf m (k + 1) _ (by omega) ⟨by omega, gdR_to hg2 (by omega)⟩ ⟨⟨f, u3⟩, ⟨f, ?_⟩, c1⟩⟩
        have ek : ((k : Int) + (s : Int)).toNat = k + s := by omega
        rw [ek]
        rw [Int.toNat_natCast] at u4
        exact u4
theorem rowB_nst (l : List LNo) : ∀ (f k : Nat) (e : Int), rowB l f k e = true → (k : Int) ≤ e → e - k < f → nst l f k e
  | 0, k, e, h, h1, h2 => by omega
  | f + 1, k, e, h, h1, h2 => by
    refine ⟨h1, fun q => ?_⟩
    rw [rowB, if_pos q] at h
    simp only [Bool.and_eq_true, decide_eq_true_eq] at h
    obtain ⟨⟨⟨⟨u1, u2⟩, -⟩, u3⟩, u4⟩ := h
    exact ⟨u1, by omega, rowB_nst l f _ _ u3 (by omega) (by omega), rowB_nst l f _ _ u4 (by omega) (by omega)⟩
theorem rowB_leaf (l : List LNo) : ∀ (f k : Nat) (e : Int), rowB l f k e = true → e - k < f → e ≤ l.length → ∀ j (hj : j < l.length), k ≤ j → (j : Int) < e → leafB l[j] = true
  | 0, k, e, h, h2, h3, j, hj, h4, h5 => by omega
  | f + 1, k, e, h, h2, h3, j, hj, h4, h5 => by
    rw [rowB, if_pos (by omega)] at h
    simp only [Bool.and_eq_true, decide_eq_true_eq] at h
    obtain ⟨⟨⟨⟨u1, u2⟩, u0⟩, u3⟩, u4⟩ := h
    by_cases h6 : j = k
    · subst h6
      rw [kinN_get hj, sizN_get hj] at u0
      exact u0
    · by_cases h7 : (j : Int) < k + sizN l k
      · exact rowB_leaf l f _ _ u3 (by omega) (by omega) j hj (by omega) h7
      · exact rowB_leaf l f _ _ u4 (by omega) h3 j hj (by omega) h5
theorem nst_rowB (l : List LNo) (hf : ∀ x ∈ l, leafB x = true) : ∀ (f k : Nat) (e : Int), nst l f k e → e ≤ l.length → rowB l f k e = true
  | 0, k, e, h, h2 => rfl
  | f + 1, k, e, h, h2 => by
    rw [rowB]
    split
    · next q =>
      obtain ⟨u1, u2, u3, u4⟩ := h.2 q
      have hk : k < l.length := by omega
      have e2 := hf l[k] (List.getElem_mem hk)
      unfold leafB at e2
      rw [kinN_get hk, sizN_get hk] at *
      rw [e2, nst_rowB l hf f _ _ u3 (by omega), nst_rowB l hf f _ _ u4 h2]
      simp only [Bool.and_eq_true, decide_eq_true_eq, Bool.and_true]
      omega
    · rfl
theorem isR_eq (l : List LNo) : isR l = isS l := by
  rw [Bool.eq_iff_iff]
  constructor
  · intro h
    simp only [isR, Bool.and_eq_true, List.all_eq_true] at h
    obtain ⟨h1, h2⟩ := h
    have h3 := rowB_nst l _ _ _ h2 (by omega) (by omega)
    have h4 := rowB_leaf l _ _ _ h2 (by omega) (by omega)
    refine isG_of l h1 (fun x hx => ?_) l.length 0 [(l.length : Int)] (by omega) ⟨by omega, rfl⟩ ⟨⟨_, h3⟩, trivial⟩
    obtain ⟨j, hj, rfl⟩ := List.getElem_of_mem hx
    exact h4 j hj (by omega) (by omega)
  · intro h
    simp only [isR, Bool.and_eq_true, List.all_eq_true]
    exact ⟨isG_nod l 0 _ h, nst_rowB l (isG_leaf l 0 _ h) _ _ _ (isS_nst h) (by omega)⟩
theorem isR2_ok (l : List LNo) (hl : l.length ≤ 1000) (hw : ∀ x ∈ l, x.words.length ≤ 9223372036854775807) : FnOk Try.prog 68 [.sl 20 (l.map cNo)] [] (.raw (.bool (isS l))) [] := by
  rw [← isR_eq]
  exact isR_ok l hl hw
end Go.Proofs.Ytbgcmnccjfdooaa
/- CHAPTER 08: the document's answer: who stands in whom. -/
/- G -/
/- BOOLS -/
set_option linter.unusedSimpArgs false
set_option linter.unusedVariables false
namespace Go.Proofs.Ytbgcmnccjfdooaa
open Go.RowKit

theorem does_subw {P : Program} {n : Nat} {S : AS} {o : Oper} {x y : Operand} {t u : TypeId} {k l : Int} (ho : o.op = .binOp .sub t x y u) (hx : S.val x = .raw (.int .i64 k)) (hy : S.val y = .raw (.int .i64 l)) : DoesAt P o S n ⟨.raw (.int .i64 (IntKind.i64.wrap (k - l))), [], []⟩ :=
  does_pure rfl fun c p ρ a w hm => ⟨_, by
    unfold execOp; rw [ho]
    refine run_v (v := .int .i64 (IntKind.i64.wrap (k - l))) ?_
    simp [hm.raw hx, hm.raw hy, eqGuard, binOp, Op.intArith], by simp [Rep]⟩
set_option maxRecDepth 100000 in
theorem has8r_ok (l : List LNo) (a : Int) : FnOk Try.prog 122 [.sl 20 (l.map cNo), .raw (.int .i64 a)] [] (.raw (.bool (hasN l a))) [] := by
  refine fn_of_awp Try.func122 rfl (by kernel_rfl) (by kernel_rfl) (Nat.le_of_ble_eq_true rfl) Try.results122 ?_
  simp only [go_sem, Bool.not_eq_true', Bool.not_eq_false', List.length_map]
  repeat' first | contradiction | intro _ | refine And.intro ?_ ?_ | refine ex_get (by omega) ?_ | (show drawB _ _ = true; kernel_rfl) | (refine ret2 [] (by simp only [go_sem, Bool.not_eq_true', Bool.not_eq_false']; rfl) ?_; simp only [go_sem, Bool.not_eq_true', Bool.not_eq_false'])
  all_goals (simp [hasN] <;> omega)
set_option maxRecDepth 100000 in
set_option maxHeartbeats 4000000 in
theorem holds8r_ok (l : List LNo) (a b : Int) (hl : l.length ≤ 1000) : FnOk Try.prog 99 [.sl 20 (l.map cNo), .raw (.int .i64 a), .raw (.int .i64 b)] [] (.raw (.bool (holN l a b))) [] := by
  refine fn_of_awp Try.func99 rfl (by kernel_rfl) (by kernel_rfl) (Nat.le_of_ble_eq_true rfl) Try.results99 ?_
  simp only [go_sem, Bool.not_eq_true', Bool.not_eq_false']
  (refine acall2 [] (has8r_ok l a) (by simp only [go_sem, Bool.not_eq_true', Bool.not_eq_false']; rfl) (fit_of (by simp only [go_sem, Bool.not_eq_true', Bool.not_eq_false']) (by simp only [go_sem, Bool.not_eq_true', Bool.not_eq_false']) (by simp only [go_sem, Bool.not_eq_true', Bool.not_eq_false']) (by simp only [go_sem, Bool.not_eq_true', Bool.not_eq_false']) (by simp only [go_sem, Bool.not_eq_true', Bool.not_eq_false']) (by simp only [go_sem, Bool.not_eq_true', Bool.not_eq_false']) (by simp only [go_sem, Bool.not_eq_true', Bool.not_eq_false'])) ?_; simp only [go_sem, Bool.not_eq_true', Bool.not_eq_false', List.length_map])
  refine ⟨fun h1 => ?_, fun h1 => by simp [holN, h1]⟩
  (refine acall2 [] (has8r_ok l b) (by simp only [go_sem, Bool.not_eq_true', Bool.not_eq_false']; rfl) (fit_of (by simp only [go_sem, Bool.not_eq_true', Bool.not_eq_false']) (by simp only [go_sem, Bool.not_eq_true', Bool.not_eq_false']) (by simp only [go_sem, Bool.not_eq_true', Bool.not_eq_false']) (by simp only [go_sem, Bool.not_eq_true', Bool.not_eq_false']) (by simp only [go_sem, Bool.not_eq_true', Bool.not_eq_false']) (by simp only [go_sem, Bool.not_eq_true', Bool.not_eq_false']) (by simp only [go_sem, Bool.not_eq_true', Bool.not_eq_false'])) ?_; simp only [go_sem, Bool.not_eq_true', Bool.not_eq_false', List.length_map])
  have k1 := h1
  simp only [hasN, Bool.and_eq_true, decide_eq_true_eq] at k1
  obtain ⟨n, rfl⟩ : ∃ n : Nat, a = n := ⟨a.toNat, by omega⟩
  have hn : n < l.length := by omega
  have e : holN l n b = (hasN l b && decide ((n : Int) ≤ b) && decide (b < n + l[n].size)) := by simp [holN, h1, sizN_get hn]
  rw [e]
  refine ⟨fun h2 => ?_, fun h2 => by simp [h2]⟩
  have k2 := h2
  simp only [hasN, Bool.and_eq_true, decide_eq_true_eq] at k2
  repeat' first | contradiction | intro _ | refine And.intro ?_ ?_ | refine ex_get (by omega) ?_ | (show drawB _ _ = true; kernel_rfl) | (refine ret2 [] (by simp only [go_sem, Bool.not_eq_true', Bool.not_eq_false']; rfl) ?_; simp only [go_sem, Bool.not_eq_true', Bool.not_eq_false'])
  all_goals first
    | omega
    | (simp [*]; done)
    | (simp [*]; omega)
/-- the places above, among those below k. -/
def abvD (l : List LNo) (a : Int) : Nat → List Int
  | 0 => []
  | k + 1 => if a < k + sizN l k then (k : Int) :: abvD l a k else abvD l a k
def abvR (l : List LNo) (a : Int) : List Int := if hasN l a = true then abvD l a a.toNat else []
theorem abvD_len (l : List LNo) (a : Int) : ∀ k, (abvD l a k).length ≤ k
  | 0 => Nat.le_refl _
  | k + 1 => by
    rw [abvD]
    have := abvD_len l a k
    split
    · simp only [List.length_cons]; omega
    · omega
theorem holN_lt {l : List LNo} {a : Int} {k : Nat} (h : hasN l a = true) (hk : (k : Int) < a) : holN l k a = decide (a < k + sizN l k) := by
  have h1 := h
  simp only [hasN, Bool.and_eq_true, decide_eq_true_eq] at h1
  have h2 : hasN l k = true := by simp only [hasN, Bool.and_eq_true, decide_eq_true_eq]; omega
  have h3 : (k : Int) ≤ a := by omega
  simp [holN, h, h2, h3]
set_option maxRecDepth 100000 in
set_option maxHeartbeats 4000000 in
theorem above8r_ok (l : List LNo) (a : Int) (ha : -9223372036854775808 ≤ a ∧ a ≤ 9223372036854775807) (hl : l.length ≤ 1000) : FnOk Try.prog 107 [.sl 20 (l.map cNo), .raw (.int .i64 a)] [] (.hdr 8) [(8, .row 3 1 ((abvR l a).map cInt))] := by
  refine fn_of_swp Try.func107 rfl (by kernel_rfl) (by kernel_rfl) (Nat.le_of_ble_eq_true rfl) Try.results107 ?_
  (refine swp_seqW ?_; simp only [go_sem, Bool.not_eq_true', Bool.not_eq_false'])
  (refine swp_seqW ?_; simp only [go_sem, Bool.not_eq_true', Bool.not_eq_false'])
  refine swp_cutS (fun _ : Unit => ⟨[(5, .hdr 8)], [(8, some (.row 3 1 ((abvR l a).map cInt)))], none⟩) (fun _ => True) 3 ?_ ?_
  · refine swp_cutS (fun p : Int => ⟨[(0, .sl 20 (l.map cNo)), (1, .raw (.int .i64 a)), (5, .hdr 8), (6, .raw (.int .i64 p))], [(8, some (.row 3 1 []))], none⟩) (fun p => hasN l a = true → p = a - 1) 3 ?_ ?_
    · by_cases hm : a = -9223372036854775808
      · refine swp_region (sli_cons rfl (does_move _ (.inl rfl)) (sli_cons rfl (does_subw (k := a) (l := 1) rfl (by simp only [go_sem, Bool.not_eq_true', Bool.not_eq_false']) (by simp only [go_sem, Bool.not_eq_true', Bool.not_eq_false'])) (sli_cons rfl (does_move _ (.inr rfl)) (sli_nil ?_))))
        simp only [go_sem, Bool.not_eq_true', Bool.not_eq_false']
        (refine cut_end [] (IntKind.i64.wrap (a - 1)) (by simp only [go_sem, Bool.not_eq_true', Bool.not_eq_false']; rfl) ?_ ?_; (focus (simp only [go_sem, Bool.not_eq_true', Bool.not_eq_false']; done)))
        intro h
        simp only [hasN, Bool.and_eq_true, decide_eq_true_eq] at h
        omega
      · (refine swp_lastW ?_; simp only [go_sem, Bool.not_eq_true', Bool.not_eq_false'])
        refine ⟨by omega, ?_⟩
        (refine cut_end [] (a - 1) (by simp only [go_sem, Bool.not_eq_true', Bool.not_eq_false']; rfl) ?_ ?_; (focus (simp only [go_sem, Bool.not_eq_true', Bool.not_eq_false']; done)))
        exact fun _ => rfl
    rintro p0 hp0
    refine swp_block ?_
    refine swp_loop2 [] (fun z : LAb => ⟨[(0, .sl 20 (l.map cNo)), (1, .raw (.int .i64 a)), (5, .hdr 8), (6, .raw (.int .i64 z.p))], [(8, some (.row 3 1 (z.acc.map cInt)))], none⟩) (fun z => (hasN l a = false → z.acc = []) ∧ (hasN l a = true → ∃ k : Nat, z.p = k - 1 ∧ k ≤ a.toNat ∧ z.acc ++ abvD l a k = abvR l a ∧ z.acc.length + k ≤ a.toNat)) (fun z => (z.p + 1).toNat) 4 ⟨p0, []⟩ (by simp only [go_sem, Bool.not_eq_true', Bool.not_eq_false']; rfl) (by simp only [go_sem, Bool.not_eq_true', Bool.not_eq_false']) ?_ ?_
    · refine ⟨fun _ => rfl, fun h => ⟨a.toNat, ?_, Nat.le_refl _, ?_, ?_⟩⟩
      · simp only [hp0 h]
        simp only [hasN, Bool.and_eq_true, decide_eq_true_eq] at h
        omega
      · simp [abvR, h]
      · simp
    · rintro ⟨p, acc⟩ ⟨q1, q2⟩
      simp only at q1 q2
      (refine swp_seqW ?_; simp only [go_sem, Bool.not_eq_true', Bool.not_eq_false'])
      refine ⟨fun h1 => ?_, fun h1 => ?_⟩
      · (refine acall2 [] (has8r_ok l a) (by simp only [go_sem, Bool.not_eq_true', Bool.not_eq_false']; rfl) (fit_of (by simp only [go_sem, Bool.not_eq_true', Bool.not_eq_false']) (by simp only [go_sem, Bool.not_eq_true', Bool.not_eq_false']) (by simp only [go_sem, Bool.not_eq_true', Bool.not_eq_false']) (by simp only [go_sem, Bool.not_eq_true', Bool.not_eq_false']) (by simp only [go_sem, Bool.not_eq_true', Bool.not_eq_false']) (by simp only [go_sem, Bool.not_eq_true', Bool.not_eq_false']) (by simp only [go_sem, Bool.not_eq_true', Bool.not_eq_false'])) ?_; simp only [go_sem, Bool.not_eq_true', Bool.not_eq_false'])
        refine ⟨fun h2 => ?_, fun h2 => ?_⟩
        · obtain ⟨k, e1, e2, e3, e4⟩ := q2 h2
          obtain ⟨k, rfl⟩ : ∃ k', k = k' + 1 := ⟨k - 1, by omega⟩
          obtain rfl : p = k := by omega
          have h3 := h2
          simp only [hasN, Bool.and_eq_true, decide_eq_true_eq] at h3
          have hh := holN_lt (l := l) (a := a) (k := k) h2 (by omega)
          rw [abvD] at e3
          refine swp_cutS (fun acc : List Int => ⟨[(0, .sl 20 (l.map cNo)), (1, .raw (.int .i64 a)), (5, .hdr 8), (6, .raw (.int .i64 k))], [(8, some (.row 3 1 (acc.map cInt)))], none⟩) (fun acc => acc ++ abvD l a k = abvR l a ∧ acc.length + k ≤ a.toNat) 3 ?_ ?_
          · refine swp_block ?_
            (refine swp_seqW ?_; simp only [go_sem, Bool.not_eq_true', Bool.not_eq_false'])
            (refine acall2 [] (holds8r_ok l k a hl) (by simp only [go_sem, Bool.not_eq_true', Bool.not_eq_false']; rfl) (fit_of (by simp only [go_sem, Bool.not_eq_true', Bool.not_eq_false']) (by simp only [go_sem, Bool.not_eq_true', Bool.not_eq_false']) (by simp only [go_sem, Bool.not_eq_true', Bool.not_eq_false']) (by simp only [go_sem, Bool.not_eq_true', Bool.not_eq_false']) (by simp only [go_sem, Bool.not_eq_true', Bool.not_eq_false']) (by simp only [go_sem, Bool.not_eq_true', Bool.not_eq_false']) (by simp only [go_sem, Bool.not_eq_true', Bool.not_eq_false'])) ?_; simp only [go_sem, Bool.not_eq_true', Bool.not_eq_false'])
            rw [hh]
            (refine swp_condW ?_; simp only [go_sem, Bool.not_eq_true', Bool.not_eq_false'])
            refine ⟨fun h4 => ?_, fun h4 => ?_⟩
            · (refine swp_lastW ?_; simp only [go_sem, Bool.not_eq_true', Bool.not_eq_false', List.length_map])
              refine ⟨⟨by omega, by omega⟩, ?_⟩
              rw [if_pos h4] at e3
              (refine cut_end [] (acc ++ [(k : Int)]) (by simp only [go_sem, Bool.not_eq_true', Bool.not_eq_false']; rfl) ?_ ?_; (focus (simp only [go_sem, Bool.not_eq_true', Bool.not_eq_false', List.map_append]; done)))
              exact ⟨by rw [← e3]; simp, by simp; omega⟩
            · (refine swp_lastW ?_; simp only [go_sem, Bool.not_eq_true', Bool.not_eq_false'])
              rw [if_neg h4] at e3
              (refine cut_end [] (acc) (by simp only [go_sem, Bool.not_eq_true', Bool.not_eq_false']; rfl) ?_ ?_; (focus (simp only [go_sem, Bool.not_eq_true', Bool.not_eq_false']; done)))
              exact ⟨e3, by omega⟩
          rintro acc ⟨e5, e6⟩
          (refine swp_lastW ?_; simp only [go_sem, Bool.not_eq_true', Bool.not_eq_false'])
          refine ⟨by omega, ?_⟩
          (refine loop_end [] (⟨(k : Int) - 1, acc⟩) (by simp only [go_sem, Bool.not_eq_true', Bool.not_eq_false']; rfl) ?_ ?_ ?_; (focus first | omega | (simp only; omega)); (focus (simp only [go_sem, Bool.not_eq_true', Bool.not_eq_false']; done)))
          exact ⟨fun h => by (rw [h2] at h; cases h), fun _ => ⟨k, rfl, by omega, e5, e6⟩⟩
        · have e : acc = abvR l a := by rw [q1 h2]; simp [abvR, h2]
          rw [e]
          (refine cut_end [] (()) (by simp only [go_sem, Bool.not_eq_true', Bool.not_eq_false']; rfl) ?_ ?_; (focus (simp only [go_sem, Bool.not_eq_true', Bool.not_eq_false']; done)))
          trivial
      · have e : acc = abvR l a := by
          cases h2 : hasN l a with
          | false => rw [q1 h2]; simp [abvR, h2]
          | true =>
            obtain ⟨k, e1, e2, e3, e4⟩ := q2 h2
            obtain rfl : k = 0 := by omega
            rw [← e3]; simp [abvD]
        rw [e]
        (refine cut_end [] (()) (by simp only [go_sem, Bool.not_eq_true', Bool.not_eq_false']; rfl) ?_ ?_; (focus (simp only [go_sem, Bool.not_eq_true', Bool.not_eq_false']; done)))
        trivial
  rintro - -
  (refine swp_lastW ?_; simp only [go_sem, Bool.not_eq_true', Bool.not_eq_false'])
  (refine ret2 [] (by simp only [go_sem, Bool.not_eq_true', Bool.not_eq_false']; rfl) ?_; simp only [go_sem, Bool.not_eq_true', Bool.not_eq_false'])
end Go.Proofs.Ytbgcmnccjfdooaa
/- CHAPTER 08: the document's answer: parents, kids, rooms. -/
/- G -/
/- BOOLS -/
set_option linter.unusedSimpArgs false
set_option linter.unusedVariables false
namespace Go.Proofs.Ytbgcmnccjfdooaa
open Go.RowKit

set_option maxRecDepth 100000 in
theorem ints8_ok (a : List Int) (b : List Int) (hl : a.length ≤ 1000) (hb : b.length ≤ 1000) : FnOk Try.prog 23 [.sl 1 (a.map cInt), .sl 1 (b.map cInt)] [] (.raw (.bool (decide (a = b)))) [] := by
  refine fn_of_awp Try.func23 rfl (by kernel_rfl) (by kernel_rfl) (Nat.le_of_ble_eq_true rfl) Try.results23 ?_
  simp only [go_sem, Bool.not_eq_true', Bool.not_eq_false', List.length_map]
  refine ⟨fun h => ?_, fun h => ?_⟩
  · exact fun e => h (by rw [e])
  refine aloop2 [] (fun k : Nat => ⟨[(0, .sl 1 (a.map cInt)), (1, .sl 1 (b.map cInt)), (5, .raw (.int .i64 k))], [], none⟩) (fun k => k ≤ a.length ∧ a.take k = b.take k) (fun k => a.length - k) 4 0 (by simp only [go_sem, Bool.not_eq_true', Bool.not_eq_false']; rfl) (by simp only [go_sem, Bool.not_eq_true', Bool.not_eq_false']) ?_ ?_
  · exact ⟨Nat.zero_le _, rfl⟩
  · rintro k ⟨hk, ht⟩
    simp only [go_sem, Bool.not_eq_true', Bool.not_eq_false', List.length_map]
    have hlen : a.length = b.length := by omega
    refine ⟨fun h5 => ?_, fun h5 => ?_⟩
    · have ka : k < a.length := by omega
      have kb : k < b.length := by omega
      repeat' first | contradiction | intro _ | refine And.intro ?_ ?_ | refine ex_get (by omega) ?_ | (show drawB _ _ = true; kernel_rfl) | (refine ret2 [] (by simp only [go_sem, Bool.not_eq_true', Bool.not_eq_false']; rfl) ?_; simp only [go_sem, Bool.not_eq_true', Bool.not_eq_false'])
      all_goals first
        | omega
        | (have e : a = b := by assumption
           subst e
           simp_all; done)
        | ((refine loop_end [] (k + 1) (by simp only [go_sem, Bool.not_eq_true', Bool.not_eq_false']; rfl) ?_ ?_ ?_; (focus first | omega | (simp only; omega)); (focus (simp only [go_sem, Bool.not_eq_true', Bool.not_eq_false']; done)))
           refine ⟨by omega, ?_⟩
           rw [List.take_succ_eq_append_getElem ka, List.take_succ_eq_append_getElem kb, ht]
           simp_all)
    · have e : a = b := by
        have h1 : a.take k = a := List.take_of_length_le (by omega)
        have h2 : b.take k = b := List.take_of_length_le (by omega)
        rw [← h1, ← h2, ht]
      first | exact e | (rw [decide_eq_true e])
theorem abvD_head (l : List LNo) (a : Int) : ∀ k, (abvD l a k).headD (-1) = parI l a k
  | 0 => rfl
  | k + 1 => by
    rw [abvD, parI]
    split
    · rfl
    · exact abvD_head l a k
theorem abvR_head (l : List LNo) (a : Int) : (abvR l a).headD (-1) = parN l a := by
  unfold abvR parN
  split
  · exact abvD_head l a _
  · rfl
theorem headD_el {l : List Int} (h : 0 < l.length) : l.headD (-1) = l[0] := by
  cases l with
  | nil => exact absurd h (by simp)
  | cons a l => rfl
theorem headD_nil {l : List Int} (h : l.length = 0) : l.headD (-1) = -1 := by
  rw [List.eq_nil_of_length_eq_zero h]; rfl
set_option maxRecDepth 100000 in
set_option maxHeartbeats 4000000 in
theorem parent8r_ok (l : List LNo) (a : Int) (ha : -9223372036854775808 ≤ a ∧ a ≤ 9223372036854775807) (hl : l.length ≤ 1000) : FnOk Try.prog 84 [.sl 20 (l.map cNo), .raw (.int .i64 a)] [] (.raw (.int .i64 (parN l a))) [] := by
  have h0 := abvR_head l a
  refine fn_of_awp Try.func84 rfl (by kernel_rfl) (by kernel_rfl) (Nat.le_of_ble_eq_true rfl) Try.results84 ?_
  simp only [go_sem, Bool.not_eq_true', Bool.not_eq_false']
  (refine acall2 [] (above8r_ok l a ha hl) (by simp only [go_sem, Bool.not_eq_true', Bool.not_eq_false']; rfl) (fit_of (by simp only [go_sem, Bool.not_eq_true', Bool.not_eq_false']) (by simp only [go_sem, Bool.not_eq_true', Bool.not_eq_false']) (by simp only [go_sem, Bool.not_eq_true', Bool.not_eq_false']) (by simp only [go_sem, Bool.not_eq_true', Bool.not_eq_false']) (by simp only [go_sem, Bool.not_eq_true', Bool.not_eq_false']) (by simp only [go_sem, Bool.not_eq_true', Bool.not_eq_false']) (by simp only [go_sem, Bool.not_eq_true', Bool.not_eq_false'])) ?_; simp only [go_sem, Bool.not_eq_true', Bool.not_eq_false', List.length_map])
  rw [← h0]
  generalize abvR l a = r
  repeat' first | contradiction | intro _ | refine And.intro ?_ ?_ | refine ex_get (by omega) ?_ | (show drawB _ _ = true; kernel_rfl) | (refine ret2 [] (by simp only [go_sem, Bool.not_eq_true', Bool.not_eq_false']; rfl) ?_; simp only [go_sem, Bool.not_eq_true', Bool.not_eq_false'])
  all_goals first
    | omega
    | exact headD_nil (by omega)
    | exact headD_el (by omega)
def kidR (l : List LNo) (a : Int) (k : Nat) : List Int := ((List.range k).filter (fun i : Nat => decide (parN l i = a))).map (fun i : Nat => (i : Int))
theorem kidR_zero (l : List LNo) (a : Int) : kidR l a 0 = [] := by simp [kidR]
theorem kidR_succ (l : List LNo) (a : Int) (k : Nat) : kidR l a (k + 1) = if parN l k = a then kidR l a k ++ [(k : Int)] else kidR l a k := by
  unfold kidR
  rw [List.range_succ, List.filter_append, List.map_append]
  split
  · next h => simp [h]
  · next h => simp [h]
theorem kidR_len (l : List LNo) (a : Int) (k : Nat) : (kidR l a k).length ≤ k := by
  unfold kidR
  rw [List.length_map]
  have := List.length_filter_le (fun i : Nat => decide (parN l i = a)) (List.range k)
  rw [List.length_range] at this
  exact this
end Go.Proofs.Ytbgcmnccjfdooaa
/- CHAPTER 08: the document's answer: rooms. -/
/- G -/
/- BOOLS -/
set_option linter.unusedSimpArgs false
set_option linter.unusedVariables false
namespace Go.Proofs.Ytbgcmnccjfdooaa
open Go.RowKit

def rmR (l : List LNo) (w : Int) : Nat → Nat → LRm
  | 0, _ => ⟨0, w⟩
  | f + 1, i => if parN l i < 0 then ⟨0, w⟩ else inR l (parN l i).toNat (rmR l w f (parN l i).toNat)
theorem parN_lt (l : List LNo) (i : Nat) : -1 ≤ parN l i ∧ parN l i < i := by
  unfold parN
  split
  · exact parI_lt l i _
  · omega
theorem inR_ok {l : List LNo} (hi : ∀ x ∈ l, 0 ≤ x.st.inset ∧ x.st.inset ≤ 1099511627776) {k : Nat} {r : LRm} (h : okR r) : okR (inR l k r) := by
  obtain ⟨h1, h2, h3, h4⟩ := h
  have : 0 ≤ insN l k ∧ insN l k ≤ 1099511627776 := by
    unfold insN
    cases e : l[k]? with
    | none => simp
    | some x => exact hi x (List.mem_of_getElem? e)
  refine ⟨?_, ?_, ?_, ?_⟩ <;> (simp only [inR]; omega)
theorem rmR_ok {l : List LNo} (hi : ∀ x ∈ l, 0 ≤ x.st.inset ∧ x.st.inset ≤ 1099511627776) {w : Int} (hw : 1 ≤ w ∧ w ≤ 1099511627776) : ∀ f i, okR (rmR l w f i)
  | 0, i => ⟨by simp [rmR], by simp [rmR], hw.1, hw.2⟩
  | f + 1, i => by
    rw [rmR]
    split
    · exact ⟨by simp, by simp, hw.1, hw.2⟩
    · exact inR_ok hi (rmR_ok hi hw f _)
theorem rmR_fuel (l : List LNo) (w : Int) : ∀ f g i, i < f → i < g → rmR l w f i = rmR l w g i
  | 0, _, i, h, _ => absurd h (Nat.not_lt_zero _)
  | _ + 1, 0, i, _, h => absurd h (Nat.not_lt_zero _)
  | f + 1, g + 1, i, h1, h2 => by
    have hp := parN_lt l i
    rw [rmR, rmR]
    split
    · rfl
    · rw [rmR_fuel l w f g _ (by omega) (by omega)]
def rmsR (l : List LNo) (w : Int) (k : Nat) : List LRm := (List.range k).map (fun i => rmR l w l.length i)
theorem rmsR_zero (l : List LNo) (w : Int) : rmsR l w 0 = [] := by simp [rmsR]
theorem rmsR_succ (l : List LNo) (w : Int) (k : Nat) : rmsR l w (k + 1) = rmsR l w k ++ [rmR l w l.length k] := by
  unfold rmsR
  rw [List.range_succ, List.map_append]; rfl
theorem rmsR_len (l : List LNo) (w : Int) (k : Nat) : (rmsR l w k).length = k := by simp [rmsR]
def rmsN (l : List LNo) (w : Int) : List LRm := if 1 ≤ w ∧ w ≤ 1099511627776 then rmsR l w l.length else []
end Go.Proofs.Ytbgcmnccjfdooaa
/- CHAPTER 08: the plain law: the program's trees are the answer's. -/
/- G -/
set_option linter.unusedSimpArgs false
set_option linter.unusedVariables false
namespace Go.Proofs.Ytbgcmnccjfdooaa
open Go.RowKit

theorem nst_lam (l : List LNo) : ∀ (f k : Nat) (e : Int), nst l f k e → ∀ j : Nat, k ≤ j → (j : Int) < e → 1 ≤ sizN l j ∧ j + sizN l j ≤ e ∧ ∀ i : Nat, j < i → (i : Int) < j + sizN l j → i + sizN l i ≤ j + sizN l j
  | 0, k, e, h, _, _, _ => absurd h (by simp [nst])
  | f + 1, k, e, h, j, h1, h2 => by
    obtain ⟨u1, u2, u3, u4⟩ := h.2 (by omega)
    by_cases h3 : j = k
    · subst h3
      exact ⟨u1, u2, fun i h4 h5 => (nst_lam l f _ _ u3 i (by omega) h5).2.1⟩
    · by_cases h4 : (j : Int) < k + sizN l k
      · obtain ⟨w1, w2, w3⟩ := nst_lam l f _ _ u3 j (by omega) h4
        exact ⟨w1, by omega, w3⟩
      · exact nst_lam l f _ _ u4 j (by omega) h2
structure Lam (l : List LNo) : Prop where
  pos : ∀ j : Nat, j < l.length → 1 ≤ sizN l j
  fin : ∀ j : Nat, j < l.length → j + sizN l j ≤ l.length
  nest : ∀ j i : Nat, j < l.length → j < i → (i : Int) < j + sizN l j → i + sizN l i ≤ j + sizN l j
theorem isS_lam {l : List LNo} (h : isS l = true) : Lam l := by
  have := nst_lam l _ _ _ (isS_nst h)
  exact ⟨fun j hj => (this j (Nat.zero_le _) (by omega)).1, fun j hj => (this j (Nat.zero_le _) (by omega)).2.1, fun j i hj => (this j (Nat.zero_le _) (by omega)).2.2 i⟩
theorem parI_is {l : List LNo} {a : Int} {p : Nat} : ∀ {k : Nat}, p < k → a < p + sizN l p → (∀ i : Nat, p < i → i < k → ¬ a < i + sizN l i) → parI l a k = p
  | 0, h, _, _ => absurd h (Nat.not_lt_zero _)
  | k + 1, h, h1, h2 => by
    rw [parI]
    by_cases e : p = k
    · subst e; rw [if_pos h1]
    · rw [if_neg (h2 k (by omega) (by omega))]
      exact parI_is (by omega) h1 (fun i a b => h2 i a (by omega))
theorem parI_no {l : List LNo} {a : Int} : ∀ {k : Nat}, (∀ i : Nat, i < k → ¬ a < i + sizN l i) → parI l a k = -1
  | 0, _ => rfl
  | k + 1, h => by
    rw [parI, if_neg (h k (by omega))]
    exact parI_no fun i hi => h i (by omega)
theorem parI_ge {l : List LNo} {a : Int} {j : Nat} : ∀ {k : Nat}, j < k → a < j + sizN l j → j ≤ parI l a k
  | 0, h, _ => absurd h (Nat.not_lt_zero _)
  | k + 1, h, h1 => by
    rw [parI]
    split
    · omega
    · by_cases e : j = k
      · subst e; contradiction
      · exact parI_ge (by omega) h1
theorem parI_sat {l : List LNo} {a : Int} {p : Nat} : ∀ {k : Nat}, parI l a k = p → p < k ∧ a < p + sizN l p
  | 0, h => by rw [parI] at h; omega
  | k + 1, h => by
    rw [parI] at h
    split at h
    · have : k = p := by omega
      subst this
      exact ⟨by omega, by assumption⟩
    · have := parI_sat h
      exact ⟨by omega, this.2⟩
theorem parI_congr {l : List LNo} {a b : Int} : ∀ {k : Nat}, (∀ i : Nat, i < k → (a < i + sizN l i ↔ b < i + sizN l i)) → parI l a k = parI l b k
  | 0, _ => rfl
  | k + 1, h => by
    rw [parI, parI, parI_congr fun i hi => h i (by omega)]
    have := h k (by omega)
    by_cases q : a < k + sizN l k
    · rw [if_pos q, if_pos (this.1 q)]
    · rw [if_neg q, if_neg (fun z => q (this.2 z))]
theorem parI_up {l : List LNo} (hl : Lam l) {a p : Nat} (ha : a < l.length) (h1 : p < a) (h2 : (a : Int) < p + sizN l p) : parI l p p = parI l a p :=
  parI_congr fun i hi => ⟨fun h => by have := hl.nest i p (by omega) hi h; omega, fun h => by omega⟩
theorem abvL_eq {l : List LNo} (hl : Lam l) {a : Nat} (ha : a < l.length) : ∀ (k f : Nat), k ≤ f → k ≤ a → abvL l f (parI l a k) = abvD l a k
  | 0, f, _, _ => by
    cases f with
    | zero => rfl
    | succ f => rw [parI, abvL, if_neg (by omega)]; rfl
  | k + 1, f, h, hk => by
    rw [parI, abvD]
    split
    · next q =>
      obtain ⟨f, rfl⟩ : ∃ g, f = g + 1 := ⟨f - 1, by omega⟩
      rw [abvL, if_pos (by omega), Int.toNat_natCast, parI_up hl ha (by omega) q, abvL_eq hl ha k f (by omega) (by omega)]
    · exact abvL_eq hl ha k f (by omega) (by omega)
theorem abv_eq {l : List LNo} (h : isS l = true) (a : Int) : abvN l a = abvR l a := by
  unfold abvN abvR
  split
  · next q =>
    simp only [hasN, Bool.and_eq_true, decide_eq_true_eq] at q
    obtain ⟨n, rfl⟩ : ∃ n : Nat, a = n := ⟨a.toNat, by omega⟩
    rw [Int.toNat_natCast]
    exact abvL_eq (isS_lam h) (by omega) n l.length (by omega) (Nat.le_refl _)
  · rfl
/-- whom a row of kids belongs to, up to where, from where on. -/
structure Row (l : List LNo) (a e : Int) (k : Nat) : Prop where
  le : (k : Int) ≤ e
  lt : a < k
  en : e ≤ l.length
  own : 0 ≤ a → e = a + sizN l a.toNat
  top : a < 0 → e = l.length
  low : -1 ≤ a
  bd : ∀ i : Nat, a < i → i < k → i + sizN l i ≤ k
theorem parN_nat {l : List LNo} {k : Nat} (h : k < l.length) : parN l k = parI l k k := by
  unfold parN
  rw [if_pos (by simp only [hasN, Bool.and_eq_true, decide_eq_true_eq]; omega), Int.toNat_natCast]
theorem Row.par {l : List LNo} {a e : Int} {k : Nat} (h : Row l a e k) (hk : (k : Int) < e) : parN l k = a := by
  have := h.en
  rw [parN_nat (by omega)]
  have hlow := h.low
  by_cases q : 0 ≤ a
  · obtain ⟨p, rfl⟩ : ∃ p : Nat, a = p := ⟨a.toNat, by omega⟩
    have e1 := h.own q
    rw [Int.toNat_natCast] at e1
    exact parI_is (by have := h.lt; omega) (by omega) fun i h1 h2 h3 => by have := h.bd i (by omega) h2; omega
  · obtain rfl : a = -1 := by omega
    exact parI_no fun i h2 h3 => by have := h.bd i (by omega) h2; omega
theorem Row.next {l : List LNo} (hl : Lam l) {a e : Int} {k : Nat} (h : Row l a e k) (hk : (k : Int) < e) : Row l a e (k + (sizN l k).toNat) := by
  have h0 := h.en
  have h1 := hl.pos k (by omega)
  have hf := hl.fin k (by omega)
  have hlow := h.low
  have hlt := h.lt
  have hbd := h.bd
  refine ⟨?_, by omega, h.en, h.own, h.top, h.low, fun i h2 h3 => ?_⟩
  · by_cases q : 0 ≤ a
    · obtain ⟨p, rfl⟩ : ∃ p : Nat, a = p := ⟨a.toNat, by omega⟩
      have e1 := h.own q
      rw [Int.toNat_natCast] at e1
      have := hl.nest p k (by omega) (by omega) (by omega)
      omega
    · have := h.top (by omega)
      omega
  · by_cases h4 : i < k
    · have := hbd i h2 h4; omega
    · by_cases h5 : i = k
      · subst h5; omega
      · have := hl.nest k i (by omega) (by omega) (by omega); omega
theorem Row.down {l : List LNo} (hl : Lam l) {k : Nat} (hk : k < l.length) : Row l k (k + sizN l k) (k + 1) := by
  have h1 := hl.pos k hk
  have h2 := hl.fin k hk
  exact ⟨by omega, by omega, by omega, fun _ => by rw [Int.toNat_natCast], fun q => absurd q (by omega), by omega, fun i a b => by omega⟩
theorem filt_one {F : Nat → Bool} {k s : Nat} (hs : 1 ≤ s) (h1 : F k = true) (h2 : ∀ i, k < i → i < k + s → F i = false) : (List.range' k s).filter F = [k] := by
  obtain ⟨s, rfl⟩ : ∃ t, s = t + 1 := ⟨s - 1, by omega⟩
  rw [List.range'_succ, List.filter_cons, if_pos h1]
  have : (List.range' (k + 1) s).filter F = [] := by
    rw [List.filter_eq_nil_iff]
    intro i hi
    rw [List.mem_range'_1] at hi
    rw [h2 i (by omega) (by omega)]; decide
  rw [this]
theorem range_split (k s m : Nat) : List.range' k (s + m) = List.range' k s ++ List.range' (k + s) m := by
  rw [List.range'_append_1]
theorem kidS_eq {l : List LNo} (hl : Lam l) {a e : Int} : ∀ (f k : Nat), Row l a e k → e - k ≤ f → kidS l e f k = ((List.range' k (e - k).toNat).filter (fun i : Nat => decide (parN l i = a))).map (fun i : Nat => (i : Int))
  | 0, k, h, hf => by
    have : (e - k).toNat = 0 := by omega
    rw [this]; rfl
  | f + 1, k, h, hf => by
    rw [kidS]
    split
    · next q =>
      have h0 := h.en
      have h1 := hl.pos k (by omega)
      have hn := h.next hl q
      have hle := hn.le
      have hlt := h.lt
      rw [kidS_eq hl f _ hn (by omega)]
      have e1 : (e - k).toNat = (sizN l k).toNat + (e - (k + (sizN l k).toNat : Nat)).toNat := by omega
      rw [e1, range_split, List.filter_append, List.map_append]
      have e2 : (List.range' k (sizN l k).toNat).filter (fun i : Nat => decide (parN l i = a)) = [k] := by
        refine filt_one (by omega) (by rw [decide_eq_true_eq]; exact h.par q) fun i h3 h4 => ?_
        rw [decide_eq_false_iff_not, parN_nat (by omega)]
        have := parI_ge (l := l) (a := i) (j := k) (k := i) h3 (by omega)
        omega
      rw [e2]
      rfl
    · have : (e - k).toNat = 0 := by omega
      rw [this]; rfl
theorem filt_none {F : Nat → Bool} {k s : Nat} (h2 : ∀ i, k ≤ i → i < k + s → F i = false) : (List.range' k s).filter F = [] := by
  rw [List.filter_eq_nil_iff]
  intro i hi
  rw [List.mem_range'_1] at hi
  rw [h2 i (by omega) (by omega)]; decide
theorem Row.all (l : List LNo) : Row l (-1) l.length 0 := ⟨by omega, by omega, by omega, fun q => absurd q (by omega), fun _ => rfl, by omega, fun i _ h => absurd h (Nat.not_lt_zero _)⟩
theorem kid_eq {l : List LNo} (h : isS l = true) {a : Int} (ha : a = -1 ∨ hasN l a = true) : kidN l a = kidR l a l.length := by
  have hl := isS_lam h
  unfold kidN kidR
  rw [List.range_eq_range']
  by_cases q : a = -1
  · subst q
    rw [if_pos rfl, kidS_eq hl _ _ (Row.all l) (by omega)]
    have : ((l.length : Int) - (0 : Nat)).toNat = l.length := by omega
    rw [this]
  · have hh := ha.resolve_left q
    rw [if_neg q, if_pos hh]
    simp only [hasN, Bool.and_eq_true, decide_eq_true_eq] at hh
    obtain ⟨n, rfl⟩ : ∃ n : Nat, a = n := ⟨a.toNat, by omega⟩
    have hn : n < l.length := by omega
    have h1 := hl.pos n hn
    have h2 := hl.fin n hn
    rw [Int.toNat_natCast, kidS_eq hl _ _ (Row.down hl hn) (by omega)]
    have e1 : l.length = (n + 1) + (((n : Int) + sizN l n - (n + 1 : Nat)).toNat + (l.length - (n + (sizN l n).toNat))) := by omega
    conv => rhs; rw [e1, range_split 0 (n + 1), range_split (0 + (n + 1)), List.filter_append, List.filter_append]
    have e2 : (List.range' 0 (n + 1)).filter (fun i : Nat => decide (parN l i = n)) = [] := filt_none fun i _ h4 => by
      rw [decide_eq_false_iff_not]
      have := (parN_lt l i).2
      omega
    have e3 : ∀ m, (List.range' (0 + (n + 1) + ((n : Int) + sizN l n - (n + 1 : Nat)).toNat) m).filter (fun i : Nat => decide (parN l i = n)) = [] := fun m => filt_none fun i h3 _ => by
      rw [decide_eq_false_iff_not]
      intro h5
      unfold parN at h5
      split at h5
      · have := (parI_sat h5).2
        omega
      · omega
    rw [e2, e3, List.nil_append, List.append_nil, Nat.zero_add]
def valR (l : List LNo) (w a : Int) : LRm := if a < 0 then ⟨0, w⟩ else inR l a.toNat (rmR l w l.length a.toNat)
theorem rmR_val {l : List LNo} {w : Int} {i : Nat} (h : i < l.length) : rmR l w l.length i = valR l w (parN l i) := by
  have hp := parN_lt l i
  obtain ⟨m, hm⟩ : ∃ m, l.length = m + 1 := ⟨l.length - 1, by omega⟩
  unfold valR
  rw [hm, rmR]
  split
  · rfl
  · rw [rmR_fuel l w m (m + 1) _ (by omega) (by omega)]
theorem putS_eq {l : List LNo} (hl : Lam l) {w : Int} : ∀ (f k : Nat) (a e : Int), Row l a e k → nst l f k e → putS l f k e (valR l w a) = (List.range' k (e - k).toNat).map (fun i => rmR l w l.length i)
  | 0, k, a, e, h, hn => absurd hn (by simp [nst])
  | f + 1, k, a, e, h, hn => by
    rw [putS]
    split
    · next q =>
      obtain ⟨u1, u2, u3, u4⟩ := hn.2 q
      have h0 := h.en
      have hk : k < l.length := by omega
      have hr := rmR_val (w := w) hk
      rw [h.par q] at hr
      have hv : inR l k (valR l w a) = valR l w k := by
        rw [← hr]
        unfold valR
        rw [if_neg (by omega), Int.toNat_natCast]
      have hnx := h.next hl q
      have hle := hnx.le
      rw [hv, putS_eq hl f (k + 1) k (k + sizN l k) (Row.down hl hk) u3, putS_eq hl f _ a e hnx u4]
      have e1 : (e - k).toNat = 1 + (((k : Int) + sizN l k - (k + 1 : Nat)).toNat + (e - (k + (sizN l k).toNat : Nat)).toNat) := by omega
      have e2 : k + 1 + ((k : Int) + sizN l k - (k + 1 : Nat)).toNat = k + (sizN l k).toNat := by omega
      rw [e1, range_split, range_split, e2]
      simp [hr]
    · have : (e - k).toNat = 0 := by omega
      rw [this]; rfl
theorem rooms_eq {l : List LNo} (h : isS l = true) (w : Int) : romN l w = rmsN l w := by
  have e : docN l = l := by simp [docN, h]
  unfold romN rmsN
  rw [e]
  split
  · have := putS_eq (isS_lam h) (w := w) _ _ _ _ (Row.all l) (isS_nst h)
    have e1 : valR l w (-1) = ⟨0, w⟩ := if_pos (by omega)
    rw [e1] at this
    rw [this]
    have e2 : ((l.length : Int) - (0 : Nat)).toNat = l.length := by omega
    rw [e2, rmsR, List.range_eq_range']
  · rfl
end Go.Proofs.Ytbgcmnccjfdooaa
/- CHAPTER 16: kin: which rows may be. -/
/- G -/
/- BOOLS -/
set_option linter.unusedSimpArgs false
set_option linter.unusedVariables false
namespace Go.Proofs.Ytbgcmnccjfdooaa
open Go.RowKit

/-- how often a number stands ahead. -/
def tmG : List Int → Int → Nat
  | [], _ => 0
  | x :: r, i => if x = i then tmG r i + 1 else 0
theorem tmG_le : ∀ (r : List Int) (i : Int), tmG r i ≤ r.length
  | [], _ => Nat.le_refl _
  | x :: r, i => by
    rw [tmG]
    split
    · have := tmG_le r i; simp only [List.length_cons]; omega
    · exact Nat.zero_le _
def aRw (l : List LNo) (of : List Int) : AV := .agg [.sl 20 (l.map cNo), .sl 1 (of.map cInt)]
attribute [go_sem] aRw
set_option maxRecDepth 100000 in
set_option maxHeartbeats 4000000 in
theorem times16_ok (l : List LNo) (of : List Int) (fr : Nat) (node : Int) (ho : of.length ≤ 1000) (hf : fr ≤ of.length) : FnOk Try.prog 98 [aRw l of, .raw (.int .i64 fr), .raw (.int .i64 node)] [] (.raw (.int .i64 (tmG (of.drop fr) node))) [] := by
  refine fn_of_swp Try.func98 rfl (by kernel_rfl) (by kernel_rfl) (Nat.le_of_ble_eq_true rfl) Try.results98 ?_
  (refine swp_seqW ?_; simp only [go_sem, Bool.not_eq_true', Bool.not_eq_false'])
  (refine swp_seqW ?_; simp only [go_sem, Bool.not_eq_true', Bool.not_eq_false'])
  refine swp_cutS (fun _ : Unit => ⟨[(7, .raw (.int .i64 (tmG (of.drop fr) node)))], [], none⟩) (fun _ => True) 3 ?_ ?_
  · refine swp_block ?_
    refine swp_loop2 [] (fun n : Nat => ⟨[(1, .raw (.int .i64 fr)), (2, .raw (.int .i64 node)), (3, .hdr 8), (7, .raw (.int .i64 n))], [(8, some (.cells 76 [.sl 20 (l.map cNo), .sl 1 (of.map cInt)]))], none⟩) (fun n => fr + n ≤ of.length ∧ n + tmG (of.drop (fr + n)) node = tmG (of.drop fr) node) (fun n => of.length - n) 6 0 (by simp only [go_sem, Bool.not_eq_true', Bool.not_eq_false']; rfl) (by simp only [go_sem, Bool.not_eq_true', Bool.not_eq_false']) ?_ ?_
    · exact ⟨hf, by simp⟩
    · rintro n ⟨h1, h2⟩
      have e0 : ((fr : Int) + (n : Int)).toNat = fr + n := by omega
      (refine swp_seqW ?_; simp only [go_sem, Bool.not_eq_true', Bool.not_eq_false', List.length_map, e0])
      refine ⟨by omega, fun h5 => ⟨by omega, by omega, ?_⟩, fun h5 => ?_⟩
      · have hk : fr + n < of.length := by omega
        rw [List.drop_eq_getElem_cons hk, tmG] at h2
        refine ex_get hk ⟨fun h6 => ?_, fun h6 => ?_⟩
        · rw [if_pos h6] at h2
          (refine swp_lastW ?_; simp only [go_sem, Bool.not_eq_true', Bool.not_eq_false'])
          refine ⟨by omega, ?_⟩
          (refine loop_end [] (n + 1) (by simp only [go_sem, Bool.not_eq_true', Bool.not_eq_false']; rfl) ?_ ?_ ?_; (focus first | omega | (simp only; omega)); (focus (simp only [go_sem, Bool.not_eq_true', Bool.not_eq_false']; done)))
          exact ⟨by omega, by rw [← h2, show fr + (n + 1) = fr + n + 1 by omega]; omega⟩
        · rw [if_neg h6] at h2
          have e : (n : Int) = tmG (of.drop fr) node := by omega
          rw [e]
          (refine cut_end [] (()) (by simp only [go_sem, Bool.not_eq_true', Bool.not_eq_false']; rfl) ?_ ?_; (focus (simp only [go_sem, Bool.not_eq_true', Bool.not_eq_false']; done)))
          trivial
      · rw [List.drop_of_length_le (by omega), tmG] at h2
        have e : (n : Int) = tmG (of.drop fr) node := by omega
        rw [e]
        (refine cut_end [] (()) (by simp only [go_sem, Bool.not_eq_true', Bool.not_eq_false']; rfl) ?_ ?_; (focus (simp only [go_sem, Bool.not_eq_true', Bool.not_eq_false']; done)))
        trivial
  rintro - -
  (refine swp_lastW ?_; simp only [go_sem, Bool.not_eq_true', Bool.not_eq_false'])
def okT (x : LNo) (n : Nat) : Bool := if x.kind = 2 then decide (1 ≤ n) && decide (n ≤ x.words.length) else if x.kind = 3 then decide (n = 1) else decide (n = 0)
def mayG : List LNo → Nat → List Int → Bool
  | [], _, r => decide (r.length = 0)
  | x :: l, i, r => okT x (tmG r i) && mayG l (i + 1) (r.drop (tmG r i))
structure LMy where
  i : Nat
  k : Nat
set_option maxRecDepth 100000 in
set_option maxHeartbeats 4000000 in
theorem may16_ok (l : List LNo) (of : List Int) (hl : l.length ≤ 1000) (ho : of.length ≤ 1000) : FnOk Try.prog 70 [aRw l of] [] (.raw (.bool (mayG l 0 of))) [] := by
  refine fn_of_swp Try.func70 rfl (by kernel_rfl) (by kernel_rfl) (Nat.le_of_ble_eq_true rfl) Try.results70 ?_
  (refine swp_seqW ?_; simp only [go_sem, Bool.not_eq_true', Bool.not_eq_false'])
  (refine swp_seqW ?_; simp only [go_sem, Bool.not_eq_true', Bool.not_eq_false'])
  refine swp_cutS (fun k : Nat => ⟨[(1, .hdr 8), (3, .raw (.int .i64 k))], [(8, some (.cells 76 [.sl 20 (l.map cNo), .sl 1 (of.map cInt)]))], none⟩) (fun k => k ≤ of.length ∧ decide (k = of.length) = mayG l 0 of) 3 ?_ ?_
  · (refine swp_seqW ?_; simp only [go_sem, Bool.not_eq_true', Bool.not_eq_false', List.length_map])
    refine swp_block ?_
    refine swp_loop2 [] (fun z : LMy => ⟨[(1, .hdr 8), (3, .raw (.int .i64 z.k)), (8, .sl 20 (l.map cNo)), (9, .raw (.int .i64 l.length)), (10, .raw (.int .i64 z.i))], [(8, some (.cells 76 [.sl 20 (l.map cNo), .sl 1 (of.map cInt)]))], none⟩) (fun z => z.i ≤ l.length ∧ z.k ≤ of.length ∧ mayG (l.drop z.i) z.i (of.drop z.k) = mayG l 0 of) (fun z => l.length - z.i) 6 ⟨0, 0⟩ (by simp only [go_sem, Bool.not_eq_true', Bool.not_eq_false']; rfl) (by simp only [go_sem, Bool.not_eq_true', Bool.not_eq_false']) ?_ ?_
    · exact ⟨Nat.zero_le _, Nat.zero_le _, rfl⟩
    · rintro ⟨i, k⟩ ⟨h1, h2, h3⟩
      simp only at h1 h2 h3
      (refine swp_seqW ?_; simp only [go_sem, Bool.not_eq_true', Bool.not_eq_false'])
      (refine swp_seqW ?_; simp only [go_sem, Bool.not_eq_true', Bool.not_eq_false'])
      refine ⟨fun h5 => ?_, fun h5 => ?_⟩
      rotate_left
      · rw [List.drop_of_length_le (by omega), mayG, List.length_drop] at h3
        (refine cut_end [] (k) (by simp only [go_sem, Bool.not_eq_true', Bool.not_eq_false']; rfl) ?_ ?_; (focus (simp only [go_sem, Bool.not_eq_true', Bool.not_eq_false']; done)))
        refine ⟨h2, ?_⟩
        rw [← h3, Bool.eq_iff_iff]
        simp only [decide_eq_true_eq]
        omega
      have hi : i < l.length := by omega
      rw [List.drop_eq_getElem_cons hi, mayG, List.drop_drop] at h3
      have htl := tmG_le (of.drop k) i
      rw [List.length_drop] at htl
      refine swp_cutS (fun m : Nat => ⟨[(1, .hdr 8), (3, .raw (.int .i64 m)), (8, .sl 20 (l.map cNo)), (9, .raw (.int .i64 l.length)), (10, .raw (.int .i64 i))], [(8, some (.cells 76 [.sl 20 (l.map cNo), .sl 1 (of.map cInt)]))], none⟩) (fun m => m ≤ of.length ∧ mayG (l.drop (i + 1)) (i + 1) (of.drop m) = mayG l 0 of) 3 ?_ ?_
      · refine swp_block ?_
        (refine swp_seqW ?_; simp only [go_sem, Bool.not_eq_true', Bool.not_eq_false'])
        refine ⟨by omega, ex_get hi ?_⟩
        generalize l[i] = x at h3
        (refine swp_seqW ?_; simp only [go_sem, Bool.not_eq_true', Bool.not_eq_false'])
        (refine acall2 [] (times16_ok l of k i ho h2) (by simp only [go_sem, Bool.not_eq_true', Bool.not_eq_false']; rfl) (fit_of (by simp only [go_sem, Bool.not_eq_true', Bool.not_eq_false']) (by simp only [go_sem, Bool.not_eq_true', Bool.not_eq_false']) (by simp only [go_sem, Bool.not_eq_true', Bool.not_eq_false']) (by simp only [go_sem, Bool.not_eq_true', Bool.not_eq_false']) (by simp only [go_sem, Bool.not_eq_true', Bool.not_eq_false']) (by simp only [go_sem, Bool.not_eq_true', Bool.not_eq_false']) (by simp only [go_sem, Bool.not_eq_true', Bool.not_eq_false'])) ?_; simp only [go_sem, Bool.not_eq_true', Bool.not_eq_false'])
        generalize tmG (of.drop k) i = n at h3 htl
        refine swp_seqS ?_
        (refine swp_seqW ?_; simp only [go_sem, Bool.not_eq_true', Bool.not_eq_false'])
        refine swp_block ?_
        have hno : okT x n = false → mayG l 0 of = false := fun h => by rw [← h3, h]; rfl
        have hyes : okT x n = true → mayG (l.drop (i + 1)) (i + 1) (of.drop (k + n)) = mayG l 0 of := fun h => by rw [h, Bool.true_and] at h3; exact h3
        (refine swp_seqW ?_; simp only [go_sem, Bool.not_eq_true', Bool.not_eq_false'])
        (refine swp_condW ?_; simp only [go_sem, Bool.not_eq_true', Bool.not_eq_false'])
        refine ⟨fun k2 => ?_, fun k2 => ?_⟩
        · have e : okT x n = (decide (1 ≤ n) && decide (n ≤ x.words.length)) := if_pos k2
          (refine swp_lastW ?_; simp only [go_sem, Bool.not_eq_true', Bool.not_eq_false', List.length_map])
          refine ⟨fun q1 => ⟨fun q2 => ?_, fun q2 => ?_⟩, fun q1 => ?_⟩
          · exact hno (by rw [e, Bool.and_eq_false_iff, decide_eq_false_iff_not, decide_eq_false_iff_not]; omega)
          · have h9 := hyes (by rw [e, Bool.and_eq_true, decide_eq_true_eq, decide_eq_true_eq]; omega)
            (refine swp_lastW ?_; simp only [go_sem, Bool.not_eq_true', Bool.not_eq_false'])
            refine ⟨by omega, ?_⟩
            (refine cut_end [] (k + n) (by simp only [go_sem, Bool.not_eq_true', Bool.not_eq_false']; rfl) ?_ ?_; (focus (simp only [go_sem, Bool.not_eq_true', Bool.not_eq_false']; done)))
            exact ⟨by omega, h9⟩
          · exact hno (by rw [e, Bool.and_eq_false_iff, decide_eq_false_iff_not, decide_eq_false_iff_not]; omega)
        have k3' := k2
        (refine swp_seqW ?_; simp only [go_sem, Bool.not_eq_true', Bool.not_eq_false'])
        (refine swp_condW ?_; simp only [go_sem, Bool.not_eq_true', Bool.not_eq_false'])
        refine ⟨fun k3 => ?_, fun k3 => ?_⟩
        · have e : okT x n = decide (n = 1) := by unfold okT; rw [if_neg k2, if_pos k3]
          (refine swp_lastW ?_; simp only [go_sem, Bool.not_eq_true', Bool.not_eq_false'])
          refine ⟨fun q1 => ?_, fun q1 => ?_⟩
          · exact hno (by rw [e, decide_eq_false_iff_not]; omega)
          · have h9 := hyes (by rw [e, decide_eq_true_eq]; omega)
            (refine swp_lastW ?_; simp only [go_sem, Bool.not_eq_true', Bool.not_eq_false'])
            refine ⟨by omega, ?_⟩
            (refine cut_end [] (k + n) (by simp only [go_sem, Bool.not_eq_true', Bool.not_eq_false']; rfl) ?_ ?_; (focus (simp only [go_sem, Bool.not_eq_true', Bool.not_eq_false']; done)))
            exact ⟨by omega, h9⟩
        · have e : okT x n = decide (n = 0) := by unfold okT; rw [if_neg k2, if_neg k3]
          (refine swp_lastW ?_; simp only [go_sem, Bool.not_eq_true', Bool.not_eq_false'])
          refine ⟨fun q1 => ?_, fun q1 => ?_⟩
          · exact hno (by rw [e, decide_eq_false_iff_not]; omega)
          · have h9 := hyes (by rw [e, decide_eq_true_eq]; omega)
            (refine swp_lastW ?_; simp only [go_sem, Bool.not_eq_true', Bool.not_eq_false'])
            refine ⟨by omega, ?_⟩
            (refine cut_end [] (k + n) (by simp only [go_sem, Bool.not_eq_true', Bool.not_eq_false']; rfl) ?_ ?_; (focus (simp only [go_sem, Bool.not_eq_true', Bool.not_eq_false']; done)))
            exact ⟨by omega, h9⟩
      rintro m ⟨h6, h7⟩
      (refine swp_lastW ?_; simp only [go_sem, Bool.not_eq_true', Bool.not_eq_false'])
      refine ⟨by omega, ?_⟩
      (refine loop_end [] (⟨i + 1, m⟩) (by simp only [go_sem, Bool.not_eq_true', Bool.not_eq_false']; rfl) ?_ ?_ ?_; (focus first | omega | (simp only; omega)); (focus (simp only [go_sem, Bool.not_eq_true', Bool.not_eq_false']; done)))
      exact ⟨hi, h6, h7⟩
  rintro k ⟨h1, h2⟩
  (refine swp_lastW ?_; simp only [go_sem, Bool.not_eq_true', Bool.not_eq_false', List.length_map])
  rw [← h2, Bool.eq_iff_iff]
  simp only [decide_eq_true_eq]
  omega
def chkB (l : List LNo) (of : List Int) : Bool := isS l && mayG l 0 of
def errB (b : Bool) : Int := if b = true then 0 else 4
set_option maxRecDepth 100000 in
set_option maxHeartbeats 4000000 in
theorem check16_ok (l : List LNo) (of : List Int) (hl : l.length ≤ 1000) (ho : of.length ≤ 1000) (hw : ∀ x ∈ l, x.words.length ≤ 9223372036854775807) : FnOk Try.prog 21 [.sl 20 (l.map cNo), .sl 1 (of.map cInt)] [] (.raw (.int .i64 (errB (chkB l of)))) [] := by
  refine fn_of_awp Try.func21 rfl (by kernel_rfl) (by kernel_rfl) (Nat.le_of_ble_eq_true rfl) Try.results21 ?_
  simp only [go_sem, Bool.not_eq_true', Bool.not_eq_false']
  (refine acall2 [] (is6_ok l hl hw) (by simp only [go_sem, Bool.not_eq_true', Bool.not_eq_false']; rfl) (fit_of (by simp only [go_sem, Bool.not_eq_true', Bool.not_eq_false']) (by simp only [go_sem, Bool.not_eq_true', Bool.not_eq_false']) (by simp only [go_sem, Bool.not_eq_true', Bool.not_eq_false']) (by simp only [go_sem, Bool.not_eq_true', Bool.not_eq_false']) (by simp only [go_sem, Bool.not_eq_true', Bool.not_eq_false']) (by simp only [go_sem, Bool.not_eq_true', Bool.not_eq_false']) (by simp only [go_sem, Bool.not_eq_true', Bool.not_eq_false'])) ?_; simp only [go_sem, Bool.not_eq_true', Bool.not_eq_false'])
  refine ⟨fun h1 => ?_, fun h1 => by simp [errB, chkB, h1]⟩
  (refine acall2 [] (may16_ok l of hl ho) (by simp only [go_sem, Bool.not_eq_true', Bool.not_eq_false']; rfl) (fit_of (by simp only [go_sem, Bool.not_eq_true', Bool.not_eq_false']) (by simp only [go_sem, Bool.not_eq_true', Bool.not_eq_false']) (by simp only [go_sem, Bool.not_eq_true', Bool.not_eq_false']) (by simp only [go_sem, Bool.not_eq_true', Bool.not_eq_false']) (by simp only [go_sem, Bool.not_eq_true', Bool.not_eq_false']) (by simp only [go_sem, Bool.not_eq_true', Bool.not_eq_false']) (by simp only [go_sem, Bool.not_eq_true', Bool.not_eq_false'])) ?_; simp only [go_sem, Bool.not_eq_true', Bool.not_eq_false'])
  refine ⟨fun h2 => by simp [errB, chkB, h1, h2], fun h2 => by simp [errB, chkB, h1, h2]⟩
end Go.Proofs.Ytbgcmnccjfdooaa
/- CHAPTER 16: kin: whom a node holds; the blocks above that are asked for. -/
/- G -/
/- BOOLS -/
set_option linter.unusedSimpArgs false
set_option linter.unusedVariables false
namespace Go.Proofs.Ytbgcmnccjfdooaa
open Go.RowKit

theorem hasN_iff {l : List LNo} {a : Int} : hasN l a = true ↔ 0 ≤ a ∧ a < l.length := by simp [hasN]
theorem holN_eq {l : List LNo} {a : Nat} {b : Int} (ha : a < l.length) (hb : hasN l b = true) : holN l a b = (decide ((a : Int) ≤ b) && decide (b < a + l[a].size)) := by
  have h1 : hasN l a = true := hasN_iff.2 (by omega)
  simp [holN, h1, hb, sizN_get ha]
set_option maxRecDepth 100000 in
set_option maxHeartbeats 4000000 in
theorem holds16_ok (l : List LNo) (a b : Int) (hl : l.length ≤ 1000) (hs : ∀ x ∈ l, 1 ≤ x.size ∧ x.size ≤ l.length) (ha : hasN l a = true) (hb : hasN l b = true) : FnOk Try.prog 60 [.sl 20 (l.map cNo), .raw (.int .i64 a), .raw (.int .i64 b)] [] (.raw (.bool (holN l a b))) [] := by
  have ha2 := hasN_iff.1 ha
  obtain ⟨n, rfl⟩ : ∃ n : Nat, a = n := ⟨a.toNat, by omega⟩
  have hn : n < l.length := by omega
  have hz := hs l[n] (List.getElem_mem hn)
  rw [holN_eq hn hb]
  refine fn_of_awp Try.func60 rfl (by kernel_rfl) (by kernel_rfl) (Nat.le_of_ble_eq_true rfl) Try.results60 ?_
  simp only [go_sem, Bool.not_eq_true', Bool.not_eq_false', List.length_map]
  refine ⟨fun h1 => ⟨by omega, ex_get hn ⟨by omega, ?_⟩⟩, fun h1 => by simp [h1]⟩
  simp [h1]
/-- does a block hold an atom? -/
def hldK (l : List LNo) (of : List Int) (b a : Int) : Bool := decide (0 ≤ a) && decide (a < of.length) && holN l b (of.getD a.toNat 0)
abbrev kO0 (of : List Int) : Nat × AO := (0, .cells 23 [.sl 1 (of.map cInt)])
abbrev kO1 (l : List LNo) (of : List Int) : Nat × AO := (1, .cells 76 [.sl 20 (l.map cNo), .sl 1 (of.map cInt)])
abbrev kO2 : Nat × AO := (2, .cells 77 [.clo (.func 59) [.hdr 0, .hdr 1]])
abbrev kO3 (k : Int) : Nat × AO := (3, .cells 3 [.raw (.int .i64 k)])
set_option maxRecDepth 100000 in
set_option maxHeartbeats 4000000 in
theorem at1_ok (l : List LNo) (of : List Int) (b a : Int) (hl : l.length ≤ 1000) (ho : of.length ≤ 1000) (hs : ∀ x ∈ l, 1 ≤ x.size ∧ x.size ≤ l.length) (hf : ∀ x ∈ of, hasN l x = true) (hb : hasN l b = true) : FnOk Try.prog 59 [.raw (.int .i64 b), .raw (.int .i64 a), .hdr 0, .hdr 1] [(0, .cells 23 [.sl 1 (of.map cInt)]), (1, .cells 76 [.sl 20 (l.map cNo), .sl 1 (of.map cInt)])] (.raw (.bool (hldK l of b a))) [(0, .cells 23 [.sl 1 (of.map cInt)]), (1, .cells 76 [.sl 20 (l.map cNo), .sl 1 (of.map cInt)])] := by
  refine fn_of_awp Try.func59 rfl (by kernel_rfl) (by kernel_rfl) (Nat.le_of_ble_eq_true rfl) Try.results59 ?_
  simp only [go_sem, Bool.not_eq_true', Bool.not_eq_false', List.length_map]
  refine ⟨fun h1 => ⟨fun h2 => ?_, fun h2 => ?_⟩, fun h1 => ?_⟩
  · have hk : a.toNat < of.length := by omega
    have e : of.getD a.toNat 0 = of[a.toNat] := by simp [List.getD_eq_getElem?_getD, hk]
    have e2 : hldK l of b a = holN l b of[a.toNat] := by simp [hldK, h1, h2, hk]
    rw [e2]
    repeat' first | contradiction | intro _ | refine And.intro ?_ ?_ | refine ex_get (by omega) ?_ | (show drawB _ _ = true; kernel_rfl) | (refine ret2 [] (by simp only [go_sem, Bool.not_eq_true', Bool.not_eq_false']; rfl) ?_; simp only [go_sem, Bool.not_eq_true', Bool.not_eq_false']) | (refine acall2 [] (holds16_ok l b of[a.toNat] hl hs hb (hf _ (List.getElem_mem hk))) (by simp only [go_sem, Bool.not_eq_true', Bool.not_eq_false']; rfl) (fit_of (by simp only [go_sem, Bool.not_eq_true', Bool.not_eq_false']) (by simp only [go_sem, Bool.not_eq_true', Bool.not_eq_false']) (by simp only [go_sem, Bool.not_eq_true', Bool.not_eq_false']) (by simp only [go_sem, Bool.not_eq_true', Bool.not_eq_false']) (by simp only [go_sem, Bool.not_eq_true', Bool.not_eq_false']) (by simp only [go_sem, Bool.not_eq_true', Bool.not_eq_false']) (by simp only [go_sem, Bool.not_eq_true', Bool.not_eq_false'])) ?_; simp only [go_sem, Bool.not_eq_true', Bool.not_eq_false'])
    all_goals omega
  all_goals
    have e : hldK l of b a = false := by simp only [hldK, Bool.and_eq_false_iff, decide_eq_false_iff_not]; omega
    rw [e]
    repeat' first | contradiction | intro _ | refine And.intro ?_ ?_ | refine ex_get (by omega) ?_ | (show drawB _ _ = true; kernel_rfl) | (refine ret2 [] (by simp only [go_sem, Bool.not_eq_true', Bool.not_eq_false']; rfl) ?_; simp only [go_sem, Bool.not_eq_true', Bool.not_eq_false'])
set_option maxRecDepth 100000 in
set_option maxHeartbeats 4000000 in
theorem at2_ok (l : List LNo) (of : List Int) (k b : Int) (hl : l.length ≤ 1000) (ho : of.length ≤ 1000) (hs : ∀ x ∈ l, 1 ≤ x.size ∧ x.size ≤ l.length) (hf : ∀ x ∈ of, hasN l x = true) (hb : hasN l b = true) (hk : -1000 ≤ k ∧ k ≤ 100000) : FnOk Try.prog 62 [.raw (.int .i64 b), .hdr 2, .hdr 3] [(0, .cells 23 [.sl 1 (of.map cInt)]), (1, .cells 76 [.sl 20 (l.map cNo), .sl 1 (of.map cInt)]), (2, .cells 77 [.clo (.func 59) [.hdr 0, .hdr 1]]), (3, .cells 3 [.raw (.int .i64 k)])] (.raw (.bool (!hldK l of b k))) [(0, .cells 23 [.sl 1 (of.map cInt)]), (1, .cells 76 [.sl 20 (l.map cNo), .sl 1 (of.map cInt)]), (2, .cells 77 [.clo (.func 59) [.hdr 0, .hdr 1]]), (3, .cells 3 [.raw (.int .i64 k)])] := by
  refine fn_of_awp Try.func62 rfl (by kernel_rfl) (by kernel_rfl) (Nat.le_of_ble_eq_true rfl) Try.results62 ?_
  simp only [go_sem, Bool.not_eq_true', Bool.not_eq_false']
  repeat' first | contradiction | intro _ | refine And.intro ?_ ?_ | refine ex_get (by omega) ?_ | (show drawB _ _ = true; kernel_rfl) | (refine ret2 [] (by simp only [go_sem, Bool.not_eq_true', Bool.not_eq_false']; rfl) ?_; simp only [go_sem, Bool.not_eq_true', Bool.not_eq_false']) | (refine acall2 [] (at1_ok l of b k hl ho hs hf hb) (by simp only [go_sem, Bool.not_eq_true', Bool.not_eq_false']; rfl) (fit_of (by simp only [go_sem, Bool.not_eq_true', Bool.not_eq_false']) (by simp only [go_sem, Bool.not_eq_true', Bool.not_eq_false']) (by simp only [go_sem, Bool.not_eq_true', Bool.not_eq_false']) (by simp only [go_sem, Bool.not_eq_true', Bool.not_eq_false']) (by simp only [go_sem, Bool.not_eq_true', Bool.not_eq_false']) (by simp only [go_sem, Bool.not_eq_true', Bool.not_eq_false']) (by simp only [go_sem, Bool.not_eq_true', Bool.not_eq_false'])) ?_; simp only [go_sem, Bool.not_eq_true', Bool.not_eq_false'])
  all_goals first
    | omega
    | skip
set_option maxRecDepth 100000 in
set_option maxHeartbeats 4000000 in
theorem at3_ok (l : List LNo) (of : List Int) (k b : Int) (hl : l.length ≤ 1000) (ho : of.length ≤ 1000) (hs : ∀ x ∈ l, 1 ≤ x.size ∧ x.size ≤ l.length) (hf : ∀ x ∈ of, hasN l x = true) (hb : hasN l b = true) (hk : -1000 ≤ k ∧ k ≤ 100000) : FnOk Try.prog 63 [.raw (.int .i64 b), .hdr 2, .hdr 3] [(0, .cells 23 [.sl 1 (of.map cInt)]), (1, .cells 76 [.sl 20 (l.map cNo), .sl 1 (of.map cInt)]), (2, .cells 77 [.clo (.func 59) [.hdr 0, .hdr 1]]), (3, .cells 3 [.raw (.int .i64 k)])] (.raw (.bool (!hldK l of b (k - 1)))) [(0, .cells 23 [.sl 1 (of.map cInt)]), (1, .cells 76 [.sl 20 (l.map cNo), .sl 1 (of.map cInt)]), (2, .cells 77 [.clo (.func 59) [.hdr 0, .hdr 1]]), (3, .cells 3 [.raw (.int .i64 k)])] := by
  refine fn_of_awp Try.func63 rfl (by kernel_rfl) (by kernel_rfl) (Nat.le_of_ble_eq_true rfl) Try.results63 ?_
  simp only [go_sem, Bool.not_eq_true', Bool.not_eq_false']
  repeat' first | contradiction | intro _ | refine And.intro ?_ ?_ | refine ex_get (by omega) ?_ | (show drawB _ _ = true; kernel_rfl) | (refine ret2 [] (by simp only [go_sem, Bool.not_eq_true', Bool.not_eq_false']; rfl) ?_; simp only [go_sem, Bool.not_eq_true', Bool.not_eq_false']) | (refine acall2 [] (at1_ok l of b (k - 1) hl ho hs hf hb) (by simp only [go_sem, Bool.not_eq_true', Bool.not_eq_false']; rfl) (fit_of (by simp only [go_sem, Bool.not_eq_true', Bool.not_eq_false']) (by simp only [go_sem, Bool.not_eq_true', Bool.not_eq_false']) (by simp only [go_sem, Bool.not_eq_true', Bool.not_eq_false']) (by simp only [go_sem, Bool.not_eq_true', Bool.not_eq_false']) (by simp only [go_sem, Bool.not_eq_true', Bool.not_eq_false']) (by simp only [go_sem, Bool.not_eq_true', Bool.not_eq_false']) (by simp only [go_sem, Bool.not_eq_true', Bool.not_eq_false'])) ?_; simp only [go_sem, Bool.not_eq_true', Bool.not_eq_false'])
  all_goals first
    | omega
    | skip
set_option maxRecDepth 100000 in
set_option maxHeartbeats 4000000 in
theorem at4_ok (l : List LNo) (of : List Int) (k b : Int) (hl : l.length ≤ 1000) (ho : of.length ≤ 1000) (hs : ∀ x ∈ l, 1 ≤ x.size ∧ x.size ≤ l.length) (hf : ∀ x ∈ of, hasN l x = true) (hb : hasN l b = true) (hk : -1000 ≤ k ∧ k ≤ 100000) : FnOk Try.prog 65 [.raw (.int .i64 b), .hdr 2, .hdr 3] [(0, .cells 23 [.sl 1 (of.map cInt)]), (1, .cells 76 [.sl 20 (l.map cNo), .sl 1 (of.map cInt)]), (2, .cells 77 [.clo (.func 59) [.hdr 0, .hdr 1]]), (3, .cells 3 [.raw (.int .i64 k)])] (.raw (.bool (hldK l of b (k - 1)))) [(0, .cells 23 [.sl 1 (of.map cInt)]), (1, .cells 76 [.sl 20 (l.map cNo), .sl 1 (of.map cInt)]), (2, .cells 77 [.clo (.func 59) [.hdr 0, .hdr 1]]), (3, .cells 3 [.raw (.int .i64 k)])] := by
  refine fn_of_awp Try.func65 rfl (by kernel_rfl) (by kernel_rfl) (Nat.le_of_ble_eq_true rfl) Try.results65 ?_
  simp only [go_sem, Bool.not_eq_true', Bool.not_eq_false']
  repeat' first | contradiction | intro _ | refine And.intro ?_ ?_ | refine ex_get (by omega) ?_ | (show drawB _ _ = true; kernel_rfl) | (refine ret2 [] (by simp only [go_sem, Bool.not_eq_true', Bool.not_eq_false']; rfl) ?_; simp only [go_sem, Bool.not_eq_true', Bool.not_eq_false']) | (refine acall2 [] (at1_ok l of b (k - 1) hl ho hs hf hb) (by simp only [go_sem, Bool.not_eq_true', Bool.not_eq_false']; rfl) (fit_of (by simp only [go_sem, Bool.not_eq_true', Bool.not_eq_false']) (by simp only [go_sem, Bool.not_eq_true', Bool.not_eq_false']) (by simp only [go_sem, Bool.not_eq_true', Bool.not_eq_false']) (by simp only [go_sem, Bool.not_eq_true', Bool.not_eq_false']) (by simp only [go_sem, Bool.not_eq_true', Bool.not_eq_false']) (by simp only [go_sem, Bool.not_eq_true', Bool.not_eq_false']) (by simp only [go_sem, Bool.not_eq_true', Bool.not_eq_false'])) ?_; simp only [go_sem, Bool.not_eq_true', Bool.not_eq_false'])
  all_goals first
    | omega
    | skip
end Go.Proofs.Ytbgcmnccjfdooaa
/- CHAPTER 08: what TreeOnce asks, of the plain functions. -/
/- G -/
set_option linter.unusedSimpArgs false
set_option linter.unusedVariables false
namespace Go.Proofs.Ytbgcmnccjfdooaa
open Go.RowKit

theorem kid_mem {l : List LNo} (h : isS l = true) {a : Int} (ha : a = -1 ∨ hasN l a = true) (x : Int) : x ∈ kidN l a ↔ ∃ k : Nat, x = k ∧ k < l.length ∧ parN l k = a := by
  rw [kid_eq h ha, kidR, List.mem_map]
  constructor
  · rintro ⟨k, hk, rfl⟩
    rw [List.mem_filter, List.mem_range, decide_eq_true_eq] at hk
    exact ⟨k, rfl, hk.1, hk.2⟩
  · rintro ⟨k, rfl, h1, h2⟩
    exact ⟨k, by rw [List.mem_filter, List.mem_range, decide_eq_true_eq]; exact ⟨h1, h2⟩, rfl⟩
theorem kid_sorted {l : List LNo} (h : isS l = true) {a : Int} (ha : a = -1 ∨ hasN l a = true) : (kidN l a).Pairwise (· < ·) := by
  rw [kid_eq h ha, kidR, List.pairwise_map]
  have h1 : (List.range l.length).Pairwise (· < ·) := List.pairwise_lt_range
  refine List.Pairwise.imp ?_ (h1.filter _)
  intro a b h
  omega
structure KidsP (l : List LNo) (a : Int) (K : List Int) : Prop where
  at_ : ∀ i (h : i < K.length), ∃ k : Nat, K[i] = k ∧ k < l.length ∧ parN l k = a
  all : ∀ k : Nat, k < l.length → parN l k = a → (k : Int) ∈ K
  lt : ∀ i j (hi : i < K.length) (hj : j < K.length), i < j → K[i] < K[j]
  len : K.length ≤ l.length
theorem kids_p {l : List LNo} (h : isS l = true) {a : Int} (ha : a = -1 ∨ hasN l a = true) : KidsP l a (kidN l a) := by
  refine ⟨fun i hi => (kid_mem h ha _).1 (List.getElem_mem hi), fun k h1 h2 => (kid_mem h ha _).2 ⟨k, rfl, h1, h2⟩, fun i j hi hj hij => ?_, by rw [kid_eq h ha]; exact kidR_len _ _ _⟩
  exact List.pairwise_iff_getElem.1 (kid_sorted h ha) i j hi hj hij
/-- how often each was seen. -/
structure SeenP (l : List LNo) (a : Int) (K : List Int) (S : List Int) : Prop where
  len : S.length = l.length
  at_ : ∀ b (h : b < S.length), S[b] = if parN l b < a ∨ (b : Int) ∈ K then 1 else 0
theorem seen_start (l : List LNo) : SeenP l (-1) [] (List.replicate l.length 0) := by
  refine ⟨by simp, fun b hb => ?_⟩
  have := (parN_lt l b).1
  rw [if_neg (by simp; omega)]
  simp
theorem seen_step {l : List LNo} {a : Int} {K S : List Int} (hK : KidsP l a K) {i : Nat} (hi : i < K.length) {k : Nat} (hk : K[i] = k) (h : SeenP l a (K.take i) S) (hks : k < S.length) : S[k] = 0 ∧ SeenP l a (K.take (i + 1)) (S.set k (S[k] + 1)) := by
  obtain ⟨k2, e1, e2, e3⟩ := hK.at_ i hi
  obtain rfl : k = k2 := by omega
  have h0 : (k : Int) ∉ K.take i := by
    intro hm
    obtain ⟨j, hj, e⟩ := List.getElem_of_mem hm
    rw [List.getElem_take] at e
    have hj2 : j < i ∧ j < K.length := by rw [List.length_take] at hj; omega
    have := hK.lt j i hj2.2 hi hj2.1
    omega
  have h1 : S[k] = 0 := by
    rw [h.at_ k hks, if_neg]
    rintro (q | q)
    · omega
    · exact h0 q
  refine ⟨h1, by rw [List.length_set]; exact h.len, fun b hb => ?_⟩
  rw [List.length_set] at hb
  rw [List.getElem_set, List.take_succ_eq_append_getElem hi, hk]
  by_cases q : k = b
  · subst q
    rw [if_pos rfl, if_pos (.inr (by simp)), h1]; rfl
  · rw [if_neg q, h.at_ b hb]
    have : (parN l b < a ∨ (b : Int) ∈ K.take i) ↔ (parN l b < a ∨ (b : Int) ∈ K.take i ++ [(k : Int)]) := by
      rw [List.mem_append, List.mem_singleton]
      constructor
      · rintro (z | z)
        · exact .inl z
        · exact .inr (.inl z)
      · rintro (z | z | z)
        · exact .inl z
        · exact .inr z
        · omega
    by_cases z : parN l b < a ∨ (b : Int) ∈ K.take i
    · rw [if_pos z, if_pos (this.1 z)]
    · rw [if_neg z, if_neg (fun y => z (this.2 y))]
theorem seen_next {l : List LNo} {a : Int} {K S : List Int} (hK : KidsP l a K) (h : SeenP l a K S) : SeenP l (a + 1) [] S := by
  refine ⟨h.len, fun b hb => ?_⟩
  rw [h.at_ b hb]
  have hb2 : b < l.length := by rw [← h.len]; exact hb
  have : (parN l b < a ∨ (b : Int) ∈ K) ↔ (parN l b < a + 1 ∨ (b : Int) ∈ ([] : List Int)) := by
    constructor
    · rintro (z | z)
      · left; omega
      · obtain ⟨i, hi, e⟩ := List.getElem_of_mem z
        obtain ⟨k, e1, e2, e3⟩ := hK.at_ i hi
        have : k = b := by omega
        subst this
        left; omega
    · rintro (z | z)
      · by_cases q : parN l b = a
        · exact .inr (hK.all b hb2 q)
        · left; omega
      · cases z
  by_cases z : parN l b < a ∨ (b : Int) ∈ K
  · rw [if_pos z, if_pos (this.1 z)]
  · rw [if_neg z, if_neg (fun y => z (this.2 y))]
theorem seen_end {l : List LNo} {S : List Int} (h : SeenP l l.length [] S) {b : Nat} (hb : b < S.length) : S[b] = 1 := by
  rw [h.at_ b hb, if_pos]
  have := (parN_lt l b).2
  have := h.len
  left; omega
/-- from a place upwards. -/
def upP (l : List LNo) : Int → List Int → Prop
  | at_, [] => parN l at_ = -1
  | at_, p :: t => parN l at_ = p ∧ (0 ≤ p ∧ p < l.length) ∧ upP l p t
theorem abvL_up (l : List LNo) : ∀ (f a : Nat), a < l.length → parI l a a < f → upP l a (abvL l f (parI l a a))
  | 0, a, h, h1 => by
    have := (parI_lt l a a).1
    have e : parI l a a = -1 := by omega
    rw [e]
    show parN l a = -1
    rw [parN_nat h, e]
  | f + 1, a, h, h1 => by
    have hp := parI_lt l a a
    rw [abvL]
    split
    · next q =>
      obtain ⟨p, hp2⟩ : ∃ p : Nat, parI l a a = p := ⟨(parI l a a).toNat, by omega⟩
      rw [hp2] at hp h1 ⊢
      have hq := parI_lt l p p
      rw [Int.toNat_natCast]
      exact ⟨by rw [parN_nat h, hp2], ⟨by omega, by omega⟩, abvL_up l f p (by omega) (by omega)⟩
    · show parN l a = -1
      rw [parN_nat h]; omega
theorem abv_up {l : List LNo} {b : Nat} (hb : b < l.length) : upP l b (abvN l b) := by
  have hp := parI_lt l b b
  unfold abvN
  rw [if_pos (by simp only [hasN, Bool.and_eq_true, decide_eq_true_eq]; omega), Int.toNat_natCast]
  exact abvL_up l _ b hb (by omega)
theorem abvD_mem (l : List LNo) (b : Int) : ∀ (k : Nat) (x : Int), x ∈ abvD l b k ↔ ∃ a : Nat, x = a ∧ a < k ∧ b < a + sizN l a
  | 0, x => ⟨fun h => (by cases h), fun ⟨a, _, h, _⟩ => absurd h (Nat.not_lt_zero _)⟩
  | k + 1, x => by
    have ih := abvD_mem l b k x
    rw [abvD]
    split
    · next q =>
      rw [List.mem_cons, ih]
      constructor
      · rintro (e | ⟨a, e1, e2, e3⟩)
        · exact ⟨k, e, by omega, q⟩
        · exact ⟨a, e1, by omega, e3⟩
      · rintro ⟨a, e1, e2, e3⟩
        by_cases z : a = k
        · subst z; exact .inl e1
        · exact .inr ⟨a, e1, by omega, e3⟩
    · next q =>
      rw [ih]
      constructor
      · rintro ⟨a, e1, e2, e3⟩
        exact ⟨a, e1, by omega, e3⟩
      · rintro ⟨a, e1, e2, e3⟩
        by_cases z : a = k
        · subst z; exact absurd e3 q
        · exact ⟨a, e1, by omega, e3⟩
theorem hol_abv {l : List LNo} (h : isS l = true) {a b : Nat} (ha : a < l.length) (hb : b < l.length) : holN l a b = (decide ((a : Int) = b) || (abvN l b).contains (a : Int)) := by
  have hl := isS_lam h
  have h1 : hasN l a = true := by simp only [hasN, Bool.and_eq_true, decide_eq_true_eq]; omega
  have h2 : hasN l b = true := by simp only [hasN, Bool.and_eq_true, decide_eq_true_eq]; omega
  rw [Bool.eq_iff_iff]
  simp only [holN, h1, h2, Bool.true_and, Bool.and_eq_true, decide_eq_true_eq, Bool.or_eq_true, List.contains_iff_mem]
  rw [abv_eq h, abvR, if_pos h2, Int.toNat_natCast, abvD_mem, Int.toNat_natCast]
  have hp := hl.pos a ha
  constructor
  · rintro ⟨q1, q2⟩
    by_cases q : a = b
    · subst q; exact .inl rfl
    · exact .inr ⟨a, rfl, by omega, q2⟩
  · rintro (q | ⟨c, e1, e2, e3⟩)
    · omega
    · have : c = a := by omega
      subst this
      omega
theorem abvN_len (l : List LNo) (a : Int) (h : isS l = true) : (abvN l a).length ≤ l.length := by
  rw [abv_eq h]
  unfold abvR
  split
  · next q =>
    simp only [hasN, Bool.and_eq_true, decide_eq_true_eq] at q
    have := abvD_len l a a.toNat
    omega
  · simp
section
variable (l : List LNo) (a b : Int) (hv : isS l = true) (hl : l.length ≤ 1000) (hw : ∀ x ∈ l, x.words.length ≤ 9223372036854775807)
include hv
theorem doc_eq : docN l = l := by simp [docN, hv]
include hl hw
theorem parentV : FnOk Try.prog 46 [.sl 20 (l.map cNo), .raw (.int .i64 a)] [] (.raw (.int .i64 (parN l a))) [] := by
  have h := parent8_ok l a hl hw
  rwa [doc_eq l hv] at h
theorem aboveV : FnOk Try.prog 117 [.sl 20 (l.map cNo), .raw (.int .i64 a)] [] (.hdr 8) [(8, .row 3 1 ((abvN l a).map cInt))] := by
  have h := above9_ok l a hl hw
  rwa [doc_eq l hv] at h
theorem holdsV : FnOk Try.prog 28 [.sl 20 (l.map cNo), .raw (.int .i64 a), .raw (.int .i64 b)] [] (.raw (.bool (holN l a b))) [] := by
  have h := holds8_ok l a b hl hw
  rwa [doc_eq l hv] at h
end
end Go.Proofs.Ytbgcmnccjfdooaa
/- CHAPTER 16: kin: the blocks above that are asked for. -/
/- G -/
/- BOOLS -/
set_option linter.unusedSimpArgs false
set_option linter.unusedVariables false
namespace Go.Proofs.Ytbgcmnccjfdooaa
open Go.RowKit

set_option maxRecDepth 100000 in
theorem above16_ok (l : List LNo) (a : Int) : FnOk Try.prog 94 [.sl 20 (l.map cNo), .raw (.int .i64 a)] [] (.clo (.func 116) [.hdr 8, .hdr 9]) [(8, .cells 74 [.sl 20 (l.map cNo)]), (9, .cells 3 [.raw (.int .i64 a)])] := by
  refine fn_of_awp Try.func94 rfl (by kernel_rfl) (by kernel_rfl) (Nat.le_of_ble_eq_true rfl) Try.results94 ?_
  simp only [go_sem, Bool.not_eq_true', Bool.not_eq_false']
  (refine ret2 [] (by simp only [go_sem, Bool.not_eq_true', Bool.not_eq_false']; rfl) ?_; simp only [go_sem, Bool.not_eq_true', Bool.not_eq_false'])
/-- the blocks above an atom's node that are asked for. -/
def choS (l : List LNo) (of : List Int) (a : Int) (q : Int → Bool) : List Int := if 0 ≤ a ∧ a < of.length then (abvN l (of.getD a.toNat 0)).filter q else []
theorem abv_has {l : List LNo} (h : isS l = true) {a x : Int} (hx : x ∈ abvN l a) : hasN l x = true := by
  rw [abv_eq h, abvR] at hx
  split at hx
  · next q =>
    obtain ⟨k, rfl, h1, h2⟩ := (abvD_mem l a _ x).1 hx
    have := hasN_iff.1 q
    exact hasN_iff.2 (by omega)
  · cases hx
set_option maxRecDepth 100000 in
set_option maxHeartbeats 8000000 in
theorem cho2_ok (l : List LNo) (of : List Int) (k a : Int) (hv : isS l = true) (hl : l.length ≤ 1000) (ho : of.length ≤ 1000) (hw : ∀ x ∈ l, x.words.length ≤ 9223372036854775807) (hf : ∀ x ∈ of, hasN l x = true) (hk : -1000 ≤ k ∧ k ≤ 100000) : FnOk Try.prog 61 [aRw l of, .raw (.int .i64 a), .clo (.func 62) [.hdr 2, .hdr 3]] [(0, .cells 23 [.sl 1 (of.map cInt)]), (1, .cells 76 [.sl 20 (l.map cNo), .sl 1 (of.map cInt)]), (2, .cells 77 [.clo (.func 59) [.hdr 0, .hdr 1]]), (3, .cells 3 [.raw (.int .i64 k)])] (.hdr 8) [(0, .cells 23 [.sl 1 (of.map cInt)]), (1, .cells 76 [.sl 20 (l.map cNo), .sl 1 (of.map cInt)]), (2, .cells 77 [.clo (.func 59) [.hdr 0, .hdr 1]]), (3, .cells 3 [.raw (.int .i64 k)]), (8, .row 3 1 ((choS l of a (fun b => !hldK l of b k)).map cInt))] := by
  have hs := isS_sizes hv
  refine fn_of_swp Try.func61 rfl (by kernel_rfl) (by kernel_rfl) (Nat.le_of_ble_eq_true rfl) Try.results61 ?_
  (refine swp_seqW ?_; simp only [go_sem, Bool.not_eq_true', Bool.not_eq_false'])
  (refine swp_seqW ?_; simp only [go_sem, Bool.not_eq_true', Bool.not_eq_false', List.length_map])
  by_cases hr : 0 ≤ a ∧ a < of.length
  rotate_left
  · have e : choS l of a (fun b => !hldK l of b k) = [] := if_neg hr
    rw [e]
    repeat' first | contradiction | intro _ | refine And.intro ?_ ?_ | refine ex_get (by omega) ?_ | (show drawB _ _ = true; kernel_rfl) | (refine ret2 [] (by simp only [go_sem, Bool.not_eq_true', Bool.not_eq_false']; rfl) ?_; simp only [go_sem, Bool.not_eq_true', Bool.not_eq_false'])
    all_goals first
      | omega
      | rfl
  have hkl : a.toNat < of.length := by omega
  have ea : of.getD a.toNat 0 = of[a.toNat] := by simp [List.getD_eq_getElem?_getD, hkl]
  have e : choS l of a (fun b => !hldK l of b k) = (abvN l of[a.toNat]).filter (fun b => !hldK l of b k) := by rw [choS, if_pos hr, ea]
  rw [e]
  have hx := hf of[a.toNat] (List.getElem_mem hkl)
  have hup : ∀ x ∈ abvN l of[a.toNat], hasN l x = true := fun x hx => abv_has hv hx
  have hul := abvN_len l of[a.toNat] hv
  refine ⟨fun h1 => ⟨fun h2 => by omega, fun h2 => ?_⟩, fun h1 => by omega⟩
  (refine swp_seqW ?_; simp only [go_sem, Bool.not_eq_true', Bool.not_eq_false'])
  (refine swp_lastW ?_; simp only [go_sem, Bool.not_eq_true', Bool.not_eq_false', List.length_map])
  refine ⟨by omega, ex_get hkl ?_⟩
  (refine acall2 [] (above16_ok l of[a.toNat]) (by simp only [go_sem, Bool.not_eq_true', Bool.not_eq_false']; rfl) (fit_of (by simp only [go_sem, Bool.not_eq_true', Bool.not_eq_false']) (by simp only [go_sem, Bool.not_eq_true', Bool.not_eq_false']) (by simp only [go_sem, Bool.not_eq_true', Bool.not_eq_false']) (by simp only [go_sem, Bool.not_eq_true', Bool.not_eq_false']) (by simp only [go_sem, Bool.not_eq_true', Bool.not_eq_false']) (by simp only [go_sem, Bool.not_eq_true', Bool.not_eq_false']) (by simp only [go_sem, Bool.not_eq_true', Bool.not_eq_false'])) ?_; simp only [go_sem, Bool.not_eq_true', Bool.not_eq_false'])
  refine ⟨by show drawB _ _ = true; kernel_rfl, ?_⟩
  generalize of[a.toNat] = x at hx hup hul ⊢
  (refine arange (by simp only [go_sem, Bool.not_eq_true', Bool.not_eq_false']; rfl) Try.func116 rfl (by kernel_rfl) (by kernel_rfl) (Nat.le_of_ble_eq_true rfl) Try.results116 ?_; intro tm1 lc1 hfit1 hps1 hasg1 hbody1; simp only [List.toList_toArray] at hps1; simp only [go_sem, Bool.not_eq_true', Bool.not_eq_false'])
  (refine acall2 [] (aboveV l x hv hl hw) (by simp only [go_sem, Bool.not_eq_true', Bool.not_eq_false']; rfl) (fit_of (by simp only [go_sem, Bool.not_eq_true', Bool.not_eq_false']) (by simp only [go_sem, Bool.not_eq_true', Bool.not_eq_false']) (by simp only [go_sem, Bool.not_eq_true', Bool.not_eq_false']) (by simp only [go_sem, Bool.not_eq_true', Bool.not_eq_false']) (by simp only [go_sem, Bool.not_eq_true', Bool.not_eq_false']) (by simp only [go_sem, Bool.not_eq_true', Bool.not_eq_false']) (by simp only [go_sem, Bool.not_eq_true', Bool.not_eq_false'])) ?_; simp only [go_sem, Bool.not_eq_true', Bool.not_eq_false', List.length_map])
  generalize abvN l x = U at hup hul ⊢
  refine aloop2 [200 ]  (fun z : KY (List Int) => ⟨[(0, .hdr 176), (8, .sl 1 (U.map cInt)), (9, .raw (.int .i64 U.length)), (10, .raw (.int .i64 z.k))], [(176, some (.loop tm1 lc1 .ready)), (177, some (.frm tm1 [(7, .hdr 40), (5, .hdr 48)])), (40, some (.cells 23 [.hdr 41])), (41, some (.row 3 1 (z.o.map cInt))), (48, some (.cells 79 [.clo (.func 62) [.hdr 2, .hdr 3]])), (0, some (.cells 23 [.sl 1 (of.map cInt)])), (1, some (.cells 76 [.sl 20 (l.map cNo), .sl 1 (of.map cInt)])), (2, some (.cells 77 [.clo (.func 59) [.hdr 0, .hdr 1]])), (3, some (.cells 3 [.raw (.int .i64 k)]))], none⟩) (fun z => z.k ≤ U.length ∧ z.o = (U.take z.k).filter (fun b => !hldK l of b k)) (fun z => U.length - z.k) 100 ⟨0, []⟩ (by simp only [go_sem, Bool.not_eq_true', Bool.not_eq_false']; rfl) (by simp only [go_sem, Bool.not_eq_true', Bool.not_eq_false']) ?_ ?_
  · exact ⟨Nat.zero_le _, by simp⟩
  · rintro ⟨i, o⟩ ⟨h1, h2⟩
    simp only at h1 h2
    have hol : o.length ≤ i := by
      rw [h2]
      have := List.length_filter_le (fun b => !hldK l of b k) (U.take i)
      rw [List.length_take] at this
      omega
    simp only [go_sem, Bool.not_eq_true', Bool.not_eq_false', List.length_map]
    refine ⟨fun h5 => ?_, fun h5 => ?_⟩
    · have hi : i < U.length := by omega
      have e1 : (U.take (i + 1)).filter (fun b => !hldK l of b k) = o ++ (if (fun b => !hldK l of b k) U[i] = true then [U[i]] else []) := by
        rw [List.take_succ_eq_append_getElem hi, List.filter_append, ← h2]
        congr 1
        simp only [List.filter_cons, List.filter_nil]
      refine ⟨by omega, ex_get hi ?_⟩
      have hb := hup _ (List.getElem_mem hi)
      generalize U[i] = b at hb e1 ⊢
      (refine ayield rfl ?_; simp only [go_sem, Bool.not_eq_true', Bool.not_eq_false', hfit1, hps1, hasg1, hbody1]; intro tmI1)
      (refine acall2 [] (at2_ok l of k b hl ho hs hf hb hk) (by simp only [go_sem, Bool.not_eq_true', Bool.not_eq_false']; rfl) (fit_of (by simp only [go_sem, Bool.not_eq_true', Bool.not_eq_false']) (by simp only [go_sem, Bool.not_eq_true', Bool.not_eq_false']) (by simp only [go_sem, Bool.not_eq_true', Bool.not_eq_false']) (by simp only [go_sem, Bool.not_eq_true', Bool.not_eq_false']) (by simp only [go_sem, Bool.not_eq_true', Bool.not_eq_false']) (by simp only [go_sem, Bool.not_eq_true', Bool.not_eq_false']) (by simp only [go_sem, Bool.not_eq_true', Bool.not_eq_false'])) ?_; simp only [go_sem, Bool.not_eq_true', Bool.not_eq_false'])
      refine ⟨fun h6 => ?_, fun h6 => ?_⟩
      · simp only [h6, Bool.not_false, Bool.not_true, if_true, if_false, Bool.false_eq_true, List.append_nil] at e1
        first
          | (refine ⟨⟨by omega, by omega⟩, by omega, ?_⟩
             (refine loop_end [] (⟨i + 1, o ++ [b]⟩) (by simp only [go_sem, Bool.not_eq_true', Bool.not_eq_false']; rfl) ?_ ?_ ?_; (focus first | omega | (simp only; omega)); (focus (simp only [go_sem, Bool.not_eq_true', Bool.not_eq_false', List.map_append]; done)))
             exact ⟨hi, e1.symm⟩)
          | (refine ⟨by omega, ?_⟩
             (refine loop_end [] (⟨i + 1, o⟩) (by simp only [go_sem, Bool.not_eq_true', Bool.not_eq_false']; rfl) ?_ ?_ ?_; (focus first | omega | (simp only; omega)); (focus (simp only [go_sem, Bool.not_eq_true', Bool.not_eq_false']; done)))
             exact ⟨hi, e1.symm⟩)
      · simp only [h6, Bool.not_false, Bool.not_true, if_true, if_false, Bool.false_eq_true, List.append_nil] at e1
        first
          | (refine ⟨⟨by omega, by omega⟩, by omega, ?_⟩
             (refine loop_end [] (⟨i + 1, o ++ [b]⟩) (by simp only [go_sem, Bool.not_eq_true', Bool.not_eq_false']; rfl) ?_ ?_ ?_; (focus first | omega | (simp only; omega)); (focus (simp only [go_sem, Bool.not_eq_true', Bool.not_eq_false', List.map_append]; done)))
             exact ⟨hi, e1.symm⟩)
          | (refine ⟨by omega, ?_⟩
             (refine loop_end [] (⟨i + 1, o⟩) (by simp only [go_sem, Bool.not_eq_true', Bool.not_eq_false']; rfl) ?_ ?_ ?_; (focus first | omega | (simp only; omega)); (focus (simp only [go_sem, Bool.not_eq_true', Bool.not_eq_false']; done)))
             exact ⟨hi, e1.symm⟩)
    · rw [List.take_of_length_le (by omega)] at h2
      rw [← h2]
      (refine ret2 [] (by simp only [go_sem, Bool.not_eq_true', Bool.not_eq_false']; rfl) ?_; simp only [go_sem, Bool.not_eq_true', Bool.not_eq_false'])
set_option maxRecDepth 100000 in
set_option maxHeartbeats 8000000 in
theorem cho3_ok (l : List LNo) (of : List Int) (k a : Int) (hv : isS l = true) (hl : l.length ≤ 1000) (ho : of.length ≤ 1000) (hw : ∀ x ∈ l, x.words.length ≤ 9223372036854775807) (hf : ∀ x ∈ of, hasN l x = true) (hk : -1000 ≤ k ∧ k ≤ 100000) : FnOk Try.prog 61 [aRw l of, .raw (.int .i64 a), .clo (.func 63) [.hdr 2, .hdr 3]] [(0, .cells 23 [.sl 1 (of.map cInt)]), (1, .cells 76 [.sl 20 (l.map cNo), .sl 1 (of.map cInt)]), (2, .cells 77 [.clo (.func 59) [.hdr 0, .hdr 1]]), (3, .cells 3 [.raw (.int .i64 k)])] (.hdr 8) [(0, .cells 23 [.sl 1 (of.map cInt)]), (1, .cells 76 [.sl 20 (l.map cNo), .sl 1 (of.map cInt)]), (2, .cells 77 [.clo (.func 59) [.hdr 0, .hdr 1]]), (3, .cells 3 [.raw (.int .i64 k)]), (8, .row 3 1 ((choS l of a (fun b => !hldK l of b (k - 1))).map cInt))] := by
  have hs := isS_sizes hv
  refine fn_of_swp Try.func61 rfl (by kernel_rfl) (by kernel_rfl) (Nat.le_of_ble_eq_true rfl) Try.results61 ?_
  (refine swp_seqW ?_; simp only [go_sem, Bool.not_eq_true', Bool.not_eq_false'])
  (refine swp_seqW ?_; simp only [go_sem, Bool.not_eq_true', Bool.not_eq_false', List.length_map])
  by_cases hr : 0 ≤ a ∧ a < of.length
  rotate_left
  · have e : choS l of a (fun b => !hldK l of b (k - 1)) = [] := if_neg hr
    rw [e]
    repeat' first | contradiction | intro _ | refine And.intro ?_ ?_ | refine ex_get (by omega) ?_ | (show drawB _ _ = true; kernel_rfl) | (refine ret2 [] (by simp only [go_sem, Bool.not_eq_true', Bool.not_eq_false']; rfl) ?_; simp only [go_sem, Bool.not_eq_true', Bool.not_eq_false'])
    all_goals first
      | omega
      | rfl
  have hkl : a.toNat < of.length := by omega
  have ea : of.getD a.toNat 0 = of[a.toNat] := by simp [List.getD_eq_getElem?_getD, hkl]
  have e : choS l of a (fun b => !hldK l of b (k - 1)) = (abvN l of[a.toNat]).filter (fun b => !hldK l of b (k - 1)) := by rw [choS, if_pos hr, ea]
  rw [e]
  have hx := hf of[a.toNat] (List.getElem_mem hkl)
  have hup : ∀ x ∈ abvN l of[a.toNat], hasN l x = true := fun x hx => abv_has hv hx
  have hul := abvN_len l of[a.toNat] hv
  refine ⟨fun h1 => ⟨fun h2 => by omega, fun h2 => ?_⟩, fun h1 => by omega⟩
  (refine swp_seqW ?_; simp only [go_sem, Bool.not_eq_true', Bool.not_eq_false'])
  (refine swp_lastW ?_; simp only [go_sem, Bool.not_eq_true', Bool.not_eq_false', List.length_map])
  refine ⟨by omega, ex_get hkl ?_⟩
  (refine acall2 [] (above16_ok l of[a.toNat]) (by simp only [go_sem, Bool.not_eq_true', Bool.not_eq_false']; rfl) (fit_of (by simp only [go_sem, Bool.not_eq_true', Bool.not_eq_false']) (by simp only [go_sem, Bool.not_eq_true', Bool.not_eq_false']) (by simp only [go_sem, Bool.not_eq_true', Bool.not_eq_false']) (by simp only [go_sem, Bool.not_eq_true', Bool.not_eq_false']) (by simp only [go_sem, Bool.not_eq_true', Bool.not_eq_false']) (by simp only [go_sem, Bool.not_eq_true', Bool.not_eq_false']) (by simp only [go_sem, Bool.not_eq_true', Bool.not_eq_false'])) ?_; simp only [go_sem, Bool.not_eq_true', Bool.not_eq_false'])
  refine ⟨by show drawB _ _ = true; kernel_rfl, ?_⟩
  generalize of[a.toNat] = x at hx hup hul ⊢
  (refine arange (by simp only [go_sem, Bool.not_eq_true', Bool.not_eq_false']; rfl) Try.func116 rfl (by kernel_rfl) (by kernel_rfl) (Nat.le_of_ble_eq_true rfl) Try.results116 ?_; intro tm1 lc1 hfit1 hps1 hasg1 hbody1; simp only [List.toList_toArray] at hps1; simp only [go_sem, Bool.not_eq_true', Bool.not_eq_false'])
  (refine acall2 [] (aboveV l x hv hl hw) (by simp only [go_sem, Bool.not_eq_true', Bool.not_eq_false']; rfl) (fit_of (by simp only [go_sem, Bool.not_eq_true', Bool.not_eq_false']) (by simp only [go_sem, Bool.not_eq_true', Bool.not_eq_false']) (by simp only [go_sem, Bool.not_eq_true', Bool.not_eq_false']) (by simp only [go_sem, Bool.not_eq_true', Bool.not_eq_false']) (by simp only [go_sem, Bool.not_eq_true', Bool.not_eq_false']) (by simp only [go_sem, Bool.not_eq_true', Bool.not_eq_false']) (by simp only [go_sem, Bool.not_eq_true', Bool.not_eq_false'])) ?_; simp only [go_sem, Bool.not_eq_true', Bool.not_eq_false', List.length_map])
  generalize abvN l x = U at hup hul ⊢
  refine aloop2 [200 ]  (fun z : KY (List Int) => ⟨[(0, .hdr 176), (8, .sl 1 (U.map cInt)), (9, .raw (.int .i64 U.length)), (10, .raw (.int .i64 z.k))], [(176, some (.loop tm1 lc1 .ready)), (177, some (.frm tm1 [(7, .hdr 40), (5, .hdr 48)])), (40, some (.cells 23 [.hdr 41])), (41, some (.row 3 1 (z.o.map cInt))), (48, some (.cells 79 [.clo (.func 63) [.hdr 2, .hdr 3]])), (0, some (.cells 23 [.sl 1 (of.map cInt)])), (1, some (.cells 76 [.sl 20 (l.map cNo), .sl 1 (of.map cInt)])), (2, some (.cells 77 [.clo (.func 59) [.hdr 0, .hdr 1]])), (3, some (.cells 3 [.raw (.int .i64 k)]))], none⟩) (fun z => z.k ≤ U.length ∧ z.o = (U.take z.k).filter (fun b => !hldK l of b (k - 1))) (fun z => U.length - z.k) 100 ⟨0, []⟩ (by simp only [go_sem, Bool.not_eq_true', Bool.not_eq_false']; rfl) (by simp only [go_sem, Bool.not_eq_true', Bool.not_eq_false']) ?_ ?_
  · exact ⟨Nat.zero_le _, by simp⟩
  · rintro ⟨i, o⟩ ⟨h1, h2⟩
    simp only at h1 h2
    have hol : o.length ≤ i := by
      rw [h2]
      have := List.length_filter_le (fun b => !hldK l of b (k - 1)) (U.take i)
      rw [List.length_take] at this
      omega
    simp only [go_sem, Bool.not_eq_true', Bool.not_eq_false', List.length_map]
    refine ⟨fun h5 => ?_, fun h5 => ?_⟩
    · have hi : i < U.length := by omega
      have e1 : (U.take (i + 1)).filter (fun b => !hldK l of b (k - 1)) = o ++ (if (fun b => !hldK l of b (k - 1)) U[i] = true then [U[i]] else []) := by
        rw [List.take_succ_eq_append_getElem hi, List.filter_append, ← h2]
        congr 1
        simp only [List.filter_cons, List.filter_nil]
      refine ⟨by omega, ex_get hi ?_⟩
      have hb := hup _ (List.getElem_mem hi)
      generalize U[i] = b at hb e1 ⊢
      (refine ayield rfl ?_; simp only [go_sem, Bool.not_eq_true', Bool.not_eq_false', hfit1, hps1, hasg1, hbody1]; intro tmI1)
      (refine acall2 [] (at3_ok l of k b hl ho hs hf hb hk) (by simp only [go_sem, Bool.not_eq_true', Bool.not_eq_false']; rfl) (fit_of (by simp only [go_sem, Bool.not_eq_true', Bool.not_eq_false']) (by simp only [go_sem, Bool.not_eq_true', Bool.not_eq_false']) (by simp only [go_sem, Bool.not_eq_true', Bool.not_eq_false']) (by simp only [go_sem, Bool.not_eq_true', Bool.not_eq_false']) (by simp only [go_sem, Bool.not_eq_true', Bool.not_eq_false']) (by simp only [go_sem, Bool.not_eq_true', Bool.not_eq_false']) (by simp only [go_sem, Bool.not_eq_true', Bool.not_eq_false'])) ?_; simp only [go_sem, Bool.not_eq_true', Bool.not_eq_false'])
      refine ⟨fun h6 => ?_, fun h6 => ?_⟩
      · simp only [h6, Bool.not_false, Bool.not_true, if_true, if_false, Bool.false_eq_true, List.append_nil] at e1
        first
          | (refine ⟨⟨by omega, by omega⟩, by omega, ?_⟩
             (refine loop_end [] (⟨i + 1, o ++ [b]⟩) (by simp only [go_sem, Bool.not_eq_true', Bool.not_eq_false']; rfl) ?_ ?_ ?_; (focus first | omega | (simp only; omega)); (focus (simp only [go_sem, Bool.not_eq_true', Bool.not_eq_false', List.map_append]; done)))
             exact ⟨hi, e1.symm⟩)
          | (refine ⟨by omega, ?_⟩
             (refine loop_end [] (⟨i + 1, o⟩) (by simp only [go_sem, Bool.not_eq_true', Bool.not_eq_false']; rfl) ?_ ?_ ?_; (focus first | omega | (simp only; omega)); (focus (simp only [go_sem, Bool.not_eq_true', Bool.not_eq_false']; done)))
             exact ⟨hi, e1.symm⟩)
      · simp only [h6, Bool.not_false, Bool.not_true, if_true, if_false, Bool.false_eq_true, List.append_nil] at e1
        first
          | (refine ⟨⟨by omega, by omega⟩, by omega, ?_⟩
             (refine loop_end [] (⟨i + 1, o ++ [b]⟩) (by simp only [go_sem, Bool.not_eq_true', Bool.not_eq_false']; rfl) ?_ ?_ ?_; (focus first | omega | (simp only; omega)); (focus (simp only [go_sem, Bool.not_eq_true', Bool.not_eq_false', List.map_append]; done)))
             exact ⟨hi, e1.symm⟩)
          | (refine ⟨by omega, ?_⟩
             (refine loop_end [] (⟨i + 1, o⟩) (by simp only [go_sem, Bool.not_eq_true', Bool.not_eq_false']; rfl) ?_ ?_ ?_; (focus first | omega | (simp only; omega)); (focus (simp only [go_sem, Bool.not_eq_true', Bool.not_eq_false']; done)))
             exact ⟨hi, e1.symm⟩)
    · rw [List.take_of_length_le (by omega)] at h2
      rw [← h2]
      (refine ret2 [] (by simp only [go_sem, Bool.not_eq_true', Bool.not_eq_false']; rfl) ?_; simp only [go_sem, Bool.not_eq_true', Bool.not_eq_false'])
set_option maxRecDepth 100000 in
set_option maxHeartbeats 8000000 in
theorem cho4_ok (l : List LNo) (of : List Int) (k a : Int) (hv : isS l = true) (hl : l.length ≤ 1000) (ho : of.length ≤ 1000) (hw : ∀ x ∈ l, x.words.length ≤ 9223372036854775807) (hf : ∀ x ∈ of, hasN l x = true) (hk : -1000 ≤ k ∧ k ≤ 100000) : FnOk Try.prog 61 [aRw l of, .raw (.int .i64 a), .clo (.func 65) [.hdr 2, .hdr 3]] [(0, .cells 23 [.sl 1 (of.map cInt)]), (1, .cells 76 [.sl 20 (l.map cNo), .sl 1 (of.map cInt)]), (2, .cells 77 [.clo (.func 59) [.hdr 0, .hdr 1]]), (3, .cells 3 [.raw (.int .i64 k)])] (.hdr 8) [(0, .cells 23 [.sl 1 (of.map cInt)]), (1, .cells 76 [.sl 20 (l.map cNo), .sl 1 (of.map cInt)]), (2, .cells 77 [.clo (.func 59) [.hdr 0, .hdr 1]]), (3, .cells 3 [.raw (.int .i64 k)]), (8, .row 3 1 ((choS l of a (fun b => hldK l of b (k - 1))).map cInt))] := by
  have hs := isS_sizes hv
  refine fn_of_swp Try.func61 rfl (by kernel_rfl) (by kernel_rfl) (Nat.le_of_ble_eq_true rfl) Try.results61 ?_
  (refine swp_seqW ?_; simp only [go_sem, Bool.not_eq_true', Bool.not_eq_false'])
  (refine swp_seqW ?_; simp only [go_sem, Bool.not_eq_true', Bool.not_eq_false', List.length_map])
  by_cases hr : 0 ≤ a ∧ a < of.length
  rotate_left
  · have e : choS l of a (fun b => hldK l of b (k - 1)) = [] := if_neg hr
    rw [e]
    repeat' first | contradiction | intro _ | refine And.intro ?_ ?_ | refine ex_get (by omega) ?_ | (show drawB _ _ = true; kernel_rfl) | (refine ret2 [] (by simp only [go_sem, Bool.not_eq_true', Bool.not_eq_false']; rfl) ?_; simp only [go_sem, Bool.not_eq_true', Bool.not_eq_false'])
    all_goals first
      | omega
      | rfl
  have hkl : a.toNat < of.length := by omega
  have ea : of.getD a.toNat 0 = of[a.toNat] := by simp [List.getD_eq_getElem?_getD, hkl]
  have e : choS l of a (fun b => hldK l of b (k - 1)) = (abvN l of[a.toNat]).filter (fun b => hldK l of b (k - 1)) := by rw [choS, if_pos hr, ea]
  rw [e]
  have hx := hf of[a.toNat] (List.getElem_mem hkl)
  have hup : ∀ x ∈ abvN l of[a.toNat], hasN l x = true := fun x hx => abv_has hv hx
  have hul := abvN_len l of[a.toNat] hv
  refine ⟨fun h1 => ⟨fun h2 => by omega, fun h2 => ?_⟩, fun h1 => by omega⟩
  (refine swp_seqW ?_; simp only [go_sem, Bool.not_eq_true', Bool.not_eq_false'])
  (refine swp_lastW ?_; simp only [go_sem, Bool.not_eq_true', Bool.not_eq_false', List.length_map])
  refine ⟨by omega, ex_get hkl ?_⟩
  (refine acall2 [] (above16_ok l of[a.toNat]) (by simp only [go_sem, Bool.not_eq_true', Bool.not_eq_false']; rfl) (fit_of (by simp only [go_sem, Bool.not_eq_true', Bool.not_eq_false']) (by simp only [go_sem, Bool.not_eq_true', Bool.not_eq_false']) (by simp only [go_sem, Bool.not_eq_true', Bool.not_eq_false']) (by simp only [go_sem, Bool.not_eq_true', Bool.not_eq_false']) (by simp only [go_sem, Bool.not_eq_true', Bool.not_eq_false']) (by simp only [go_sem, Bool.not_eq_true', Bool.not_eq_false']) (by simp only [go_sem, Bool.not_eq_true', Bool.not_eq_false'])) ?_; simp only [go_sem, Bool.not_eq_true', Bool.not_eq_false'])
  refine ⟨by show drawB _ _ = true; kernel_rfl, ?_⟩
  generalize of[a.toNat] = x at hx hup hul ⊢
  (refine arange (by simp only [go_sem, Bool.not_eq_true', Bool.not_eq_false']; rfl) Try.func116 rfl (by kernel_rfl) (by kernel_rfl) (Nat.le_of_ble_eq_true rfl) Try.results116 ?_; intro tm1 lc1 hfit1 hps1 hasg1 hbody1; simp only [List.toList_toArray] at hps1; simp only [go_sem, Bool.not_eq_true', Bool.not_eq_false'])
  (refine acall2 [] (aboveV l x hv hl hw) (by simp only [go_sem, Bool.not_eq_true', Bool.not_eq_false']; rfl) (fit_of (by simp only [go_sem, Bool.not_eq_true', Bool.not_eq_false']) (by simp only [go_sem, Bool.not_eq_true', Bool.not_eq_false']) (by simp only [go_sem, Bool.not_eq_true', Bool.not_eq_false']) (by simp only [go_sem, Bool.not_eq_true', Bool.not_eq_false']) (by simp only [go_sem, Bool.not_eq_true', Bool.not_eq_false']) (by simp only [go_sem, Bool.not_eq_true', Bool.not_eq_false']) (by simp only [go_sem, Bool.not_eq_true', Bool.not_eq_false'])) ?_; simp only [go_sem, Bool.not_eq_true', Bool.not_eq_false', List.length_map])
  generalize abvN l x = U at hup hul ⊢
  refine aloop2 [200 ]  (fun z : KY (List Int) => ⟨[(0, .hdr 176), (8, .sl 1 (U.map cInt)), (9, .raw (.int .i64 U.length)), (10, .raw (.int .i64 z.k))], [(176, some (.loop tm1 lc1 .ready)), (177, some (.frm tm1 [(7, .hdr 40), (5, .hdr 48)])), (40, some (.cells 23 [.hdr 41])), (41, some (.row 3 1 (z.o.map cInt))), (48, some (.cells 79 [.clo (.func 65) [.hdr 2, .hdr 3]])), (0, some (.cells 23 [.sl 1 (of.map cInt)])), (1, some (.cells 76 [.sl 20 (l.map cNo), .sl 1 (of.map cInt)])), (2, some (.cells 77 [.clo (.func 59) [.hdr 0, .hdr 1]])), (3, some (.cells 3 [.raw (.int .i64 k)]))], none⟩) (fun z => z.k ≤ U.length ∧ z.o = (U.take z.k).filter (fun b => hldK l of b (k - 1))) (fun z => U.length - z.k) 100 ⟨0, []⟩ (by simp only [go_sem, Bool.not_eq_true', Bool.not_eq_false']; rfl) (by simp only [go_sem, Bool.not_eq_true', Bool.not_eq_false']) ?_ ?_
  · exact ⟨Nat.zero_le _, by simp⟩
  · rintro ⟨i, o⟩ ⟨h1, h2⟩
    simp only at h1 h2
    have hol : o.length ≤ i := by
      rw [h2]
      have := List.length_filter_le (fun b => hldK l of b (k - 1)) (U.take i)
      rw [List.length_take] at this
      omega
    simp only [go_sem, Bool.not_eq_true', Bool.not_eq_false', List.length_map]
    refine ⟨fun h5 => ?_, fun h5 => ?_⟩
    · have hi : i < U.length := by omega
      have e1 : (U.take (i + 1)).filter (fun b => hldK l of b (k - 1)) = o ++ (if (fun b => hldK l of b (k - 1)) U[i] = true then [U[i]] else []) := by
        rw [List.take_succ_eq_append_getElem hi, List.filter_append, ← h2]
        congr 1
        simp only [List.filter_cons, List.filter_nil]
      refine ⟨by omega, ex_get hi ?_⟩
      have hb := hup _ (List.getElem_mem hi)
      generalize U[i] = b at hb e1 ⊢
      (refine ayield rfl ?_; simp only [go_sem, Bool.not_eq_true', Bool.not_eq_false', hfit1, hps1, hasg1, hbody1]; intro tmI1)
      (refine acall2 [] (at4_ok l of k b hl ho hs hf hb hk) (by simp only [go_sem, Bool.not_eq_true', Bool.not_eq_false']; rfl) (fit_of (by simp only [go_sem, Bool.not_eq_true', Bool.not_eq_false']) (by simp only [go_sem, Bool.not_eq_true', Bool.not_eq_false']) (by simp only [go_sem, Bool.not_eq_true', Bool.not_eq_false']) (by simp only [go_sem, Bool.not_eq_true', Bool.not_eq_false']) (by simp only [go_sem, Bool.not_eq_true', Bool.not_eq_false']) (by simp only [go_sem, Bool.not_eq_true', Bool.not_eq_false']) (by simp only [go_sem, Bool.not_eq_true', Bool.not_eq_false'])) ?_; simp only [go_sem, Bool.not_eq_true', Bool.not_eq_false'])
      refine ⟨fun h6 => ?_, fun h6 => ?_⟩
      · simp only [h6, Bool.not_false, Bool.not_true, if_true, if_false, Bool.false_eq_true, List.append_nil] at e1
        first
          | (refine ⟨⟨by omega, by omega⟩, by omega, ?_⟩
             (refine loop_end [] (⟨i + 1, o ++ [b]⟩) (by simp only [go_sem, Bool.not_eq_true', Bool.not_eq_false']; rfl) ?_ ?_ ?_; (focus first | omega | (simp only; omega)); (focus (simp only [go_sem, Bool.not_eq_true', Bool.not_eq_false', List.map_append]; done)))
             exact ⟨hi, e1.symm⟩)
          | (refine ⟨by omega, ?_⟩
             (refine loop_end [] (⟨i + 1, o⟩) (by simp only [go_sem, Bool.not_eq_true', Bool.not_eq_false']; rfl) ?_ ?_ ?_; (focus first | omega | (simp only; omega)); (focus (simp only [go_sem, Bool.not_eq_true', Bool.not_eq_false']; done)))
             exact ⟨hi, e1.symm⟩)
      · simp only [h6, Bool.not_false, Bool.not_true, if_true, if_false, Bool.false_eq_true, List.append_nil] at e1
        first
          | (refine ⟨⟨by omega, by omega⟩, by omega, ?_⟩
             (refine loop_end [] (⟨i + 1, o ++ [b]⟩) (by simp only [go_sem, Bool.not_eq_true', Bool.not_eq_false']; rfl) ?_ ?_ ?_; (focus first | omega | (simp only; omega)); (focus (simp only [go_sem, Bool.not_eq_true', Bool.not_eq_false', List.map_append]; done)))
             exact ⟨hi, e1.symm⟩)
          | (refine ⟨by omega, ?_⟩
             (refine loop_end [] (⟨i + 1, o⟩) (by simp only [go_sem, Bool.not_eq_true', Bool.not_eq_false']; rfl) ?_ ?_ ?_; (focus first | omega | (simp only; omega)); (focus (simp only [go_sem, Bool.not_eq_true', Bool.not_eq_false']; done)))
             exact ⟨hi, e1.symm⟩)
    · rw [List.take_of_length_le (by omega)] at h2
      rw [← h2]
      (refine ret2 [] (by simp only [go_sem, Bool.not_eq_true', Bool.not_eq_false']; rfl) ?_; simp only [go_sem, Bool.not_eq_true', Bool.not_eq_false'])
end Go.Proofs.Ytbgcmnccjfdooaa
/- CHAPTER 16: slices.Reverse. -/
/- G -/
/- BOOLS -/
set_option linter.unusedSimpArgs false
set_option linter.unusedVariables false
namespace Go.Proofs.Ytbgcmnccjfdooaa
open Go.RowKit

/-- so many swapped at each end. -/
structure RevP (X S : List Int) (i : Nat) : Prop where
  len : S.length = X.length
  at_ : ∀ k (h : k < S.length) (h2 : X.length - 1 - k < X.length) (h3 : k < X.length), S[k] = if k < i ∨ X.length ≤ k + i then X[X.length - 1 - k] else X[k]
theorem rev_end {X S : List Int} {i : Nat} (h : RevP X S i) (hi : X.length ≤ i + i + 1) : S = X.reverse := by
  apply List.ext_getElem
  · rw [h.len, List.length_reverse]
  · intro k h1 h2
    have hk : k < X.length := by rw [← h.len]; exact h1
    rw [List.getElem_reverse, h.at_ k h1 (by omega) hk]
    split
    · rfl
    · have : X.length - 1 - k = k := by omega
      simp only [this]
theorem rev_step {X S : List Int} {i j : Nat} (h : RevP X S i) (hij : i < j) (hj : i + j + 1 = X.length) (h1 : i < S.length) (h2 : j < S.length) : RevP X ((S.set i S[j]).set j S[i]) (i + 1) := by
  have hl := h.len
  have ei := h.at_ i h1 (by omega) (by omega)
  have ej := h.at_ j h2 (by omega) (by omega)
  rw [if_neg (by omega)] at ei ej
  refine ⟨by rw [List.length_set, List.length_set]; exact hl, fun k h3 h4 h5 => ?_⟩
  have h6 : k < S.length := by omega
  rw [List.getElem_set]
  by_cases q : j = k
  · subst q
    rw [if_pos rfl, if_pos (by omega), ei]
    have : X.length - 1 - j = i := by omega
    simp only [this]
  · rw [if_neg q, List.getElem_set]
    by_cases q2 : i = k
    · subst q2
      rw [if_pos rfl, if_pos (by omega), ej]
      have : X.length - 1 - i = j := by omega
      simp only [this]
    · rw [if_neg q2, h.at_ k h6 h4 h5]
      by_cases q3 : k < i ∨ X.length ≤ k + i
      · rw [if_pos q3, if_pos (by omega)]
      · rw [if_neg q3, if_neg (by omega)]
theorem set_cInt (xs : List Int) (k : Nat) (v : Int) : (xs.map cInt).set k [.raw (.int .i64 v)] = (xs.set k v).map cInt := by rw [List.map_set]; rfl
structure LRv where
  k : Nat
  j : Int
  o : List Int
set_option maxRecDepth 100000 in
set_option maxHeartbeats 4000000 in
theorem reverse_ok (X : List Int) (hl : X.length ≤ 1000) : FnOk Try.prog 64 [.hdr 0] [(0, .row 3 1 (X.map cInt))] (.tup []) [(0, .row 3 1 (X.reverse.map cInt))] := by
  refine fn_of_swp Try.func64 rfl (by kernel_rfl) (by kernel_rfl) (Nat.le_of_ble_eq_true rfl) Try.results64 ?_
  (refine swp_seqW ?_; simp only [go_sem, Bool.not_eq_true', Bool.not_eq_false', List.length_map])
  refine ⟨by omega, ?_⟩
  refine swp_block ?_
  refine swp_loop2 [] (fun z : LRv => ⟨[(0, .hdr 0), (2, .raw (.int .i64 z.k)), (3, .raw (.int .i64 z.j))], [(0, some (.row 3 1 (z.o.map cInt)))], none⟩) (fun z => z.k ≤ X.length ∧ z.j = (X.length : Int) - 1 - z.k ∧ RevP X z.o z.k) (fun z => X.length - z.k) 7 ⟨0, (X.length : Int) - 1, X⟩ (by simp only [go_sem, Bool.not_eq_true', Bool.not_eq_false']; rfl) (by simp only [go_sem, Bool.not_eq_true', Bool.not_eq_false']) ?_ ?_
  · refine ⟨Nat.zero_le _, by simp, rfl, fun k h1 h2 h3 => ?_⟩
    have h4 : ¬ (k < 0 ∨ X.length ≤ k + 0) := by omega
    rw [if_neg h4]
  · rintro ⟨k, j, o⟩ ⟨h1, h2, h3⟩
    simp only at h1 h2 h3
    (refine swp_seqW ?_; simp only [go_sem, Bool.not_eq_true', Bool.not_eq_false', List.length_map])
    refine ⟨fun h5 => ?_, fun h5 => ?_⟩
    rotate_left
    · have e := rev_end h3 (by omega)
      rw [← e]
      (refine ret2 [] (by simp only [go_sem, Bool.not_eq_true', Bool.not_eq_false']; rfl) ?_; simp only [go_sem, Bool.not_eq_true', Bool.not_eq_false'])
    obtain ⟨m, rfl⟩ : ∃ m : Nat, j = m := ⟨j.toNat, by omega⟩
    have hol := h3.len
    have hk : k < o.length := by omega
    have hm : m < o.length := by omega
    have hst := rev_step h3 (i := k) (j := m) (by omega) (by omega) hk hm
    refine swp_seqS ?_
    refine swp_block ?_
    (refine swp_lastW ?_; simp only [go_sem, Bool.not_eq_true', Bool.not_eq_false', List.length_map, set_cInt, List.length_set])
    repeat' first | contradiction | intro _ | refine And.intro ?_ ?_ | refine ex_get (by omega) ?_ | (show drawB _ _ = true; kernel_rfl) | (refine ret2 [] (by simp only [go_sem, Bool.not_eq_true', Bool.not_eq_false']; rfl) ?_; simp only [go_sem, Bool.not_eq_true', Bool.not_eq_false'])
    all_goals first
      | omega
      | (rw [List.length_set]; omega)
      | (refine ex_get (by rw [List.length_set]; exact hm) ⟨by show drawB _ _ = true; kernel_rfl, ?_⟩
         (refine swp_lastW ?_; simp only [go_sem, Bool.not_eq_true', Bool.not_eq_false'])
         refine ⟨by omega, by omega, ?_⟩
         (refine loop_end [] (⟨k + 1, (m : Int) - 1, (o.set k o[m]).set m o[k]⟩) (by simp only [go_sem, Bool.not_eq_true', Bool.not_eq_false']; rfl) ?_ ?_ ?_; (focus first | omega | (simp only; omega)); (focus (simp only [go_sem, Bool.not_eq_true', Bool.not_eq_false']; done)))
         exact ⟨by simp only; omega, by simp only; omega, hst⟩)
end Go.Proofs.Ytbgcmnccjfdooaa
