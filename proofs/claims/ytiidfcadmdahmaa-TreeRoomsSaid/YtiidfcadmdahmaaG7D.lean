/- ENGINE (second) 7, DRAWN: a statement whose order is open: if what its operations do does not cross, it may be reckoned in the order of the text; over any program. -/
import Derived.Test.YtiidfcadmdahmaaG7
import Derived.RangeFuncNested
import Derived.RangeFuncLeaves
set_option linter.unusedSimpArgs false
set_option linter.unusedVariables false
namespace Go.Proofs.Ytiidfcadmdahmaa
open Go.RowKit

/-! what waits for what -/
def bfm : List Oper → List Nat → List Nat
  | [], acc => acc
  | o :: rest, acc => bfm rest (acc ++ [o.after.toList.foldl (fun s e => if Region.binds .any e then s ||| 2 ^ e.on ||| (acc[e.on]?).getD 0 else s) 0])
def slotsOf (ops : List Oper) (o : Oper) : List Nat := (o.op.operands.toList.filterMap fun | .tmp t => some t | _ => none) ++ (match o.guard with | some (g, _) => ((ops[g]?).bind (·.dst)).toList | none => [])
def crossB (ops : List Oper) (x y : Oper) : Bool :=
  (match x.dst with | some d => (slotsOf ops y).contains d || y.dst == some d | none => false) || (match y.dst with | some d => (slotsOf ops x).contains d | none => false)
def meetB (a b : List Nat) : Bool := a.any fun i => b.contains i
def drawB (ops : List Oper) (lg : List (List Nat × List Nat)) : Bool :=
  let bf := bfm ops []
  let l := lg.reverse
  decide (l.length = ops.length) && (ops.zipIdx.all fun (o, i) => o.after.toList.all fun e => !Region.binds .any e || decide (e.on < i)) &&
  (List.range ops.length).all fun j => (List.range j).all fun i => ((bf[j]?).getD 0).testBit i || match ops[i]?, ops[j]?, l[i]?, l[j]? with
    | some x, some y, some (rx, ux), some (ry, uy) => !crossB ops x y && !meetB ux (ry ++ uy) && !meetB uy rx
    | _, _, _, _ => false

/-- whoever has come up: all he waits for have. -/
theorem bfm_closed {L : Nat → Bool} : ∀ (ops : List Oper) (acc : List Nat) (k0 : Nat), acc.length = k0 → (∀ i o, ops[i]? = some o → L (k0 + i) = true → ∀ e ∈ o.after, Region.binds .any e = true → e.on < k0 + i ∧ L e.on = true) →
    (∀ j m, acc[j]? = some m → L j = true → ∀ i, m.testBit i = true → L i = true) → ∀ j m, (bfm ops acc)[j]? = some m → L j = true → ∀ i, m.testBit i = true → L i = true
  | [], acc, k0, _, _, h => h
  | o :: rest, acc, k0, hl, hc, h => by
    refine bfm_closed rest _ (k0 + 1) (by simp [hl]) (fun i o' ho hL e he hb => ?_) (fun j m hj hL i hi => ?_)
    · have := hc (i + 1) o' (by simpa using ho) (by rw [← Nat.add_assoc, Nat.add_right_comm]; exact hL) e he hb
      exact ⟨by omega, this.2⟩
    · rcases Nat.lt_or_ge j acc.length with hlt | hge
      · rw [List.getElem?_append_left hlt] at hj
        exact h j m hj hL i hi
      · have hj2 : j = acc.length := by
          rcases Nat.lt_or_ge acc.length j with h1 | h1
          · rw [List.getElem?_eq_none (by simp; omega)] at hj; cases hj
          · omega
        subst hj2
        rw [List.getElem?_append_right (Nat.le_refl _)] at hj
        simp only [Nat.sub_self, List.getElem?_cons_zero, Option.some.injEq] at hj
        subst hj
        have hc0 := hc 0 o rfl (by rw [Nat.add_zero, ← hl]; exact hL)
        have key : ∀ (es : List Edge) (s0 : Nat), (∀ e ∈ es, Region.binds .any e = true → L e.on = true) → (∀ i, s0.testBit i = true → L i = true) →
            ∀ i, (es.foldl (fun s e => if Region.binds .any e then s ||| 2 ^ e.on ||| (acc[e.on]?).getD 0 else s) s0).testBit i = true → L i = true := by
          intro es
          induction es with
          | nil => intro s0 _ hs i hi; exact hs i hi
          | cons e es ih =>
            intro s0 he hs i hi
            rw [List.foldl_cons] at hi
            refine ih _ (fun e' he' => he e' (List.mem_cons_of_mem _ he')) (fun i hi => ?_) i hi
            split at hi
            · next hb =>
              have hLe := he e List.mem_cons_self hb
              rw [Nat.testBit_or, Nat.testBit_or, Bool.or_eq_true, Bool.or_eq_true] at hi
              rcases hi with (hi | hi) | hi
              · exact hs i hi
              · rw [Nat.testBit_two_pow] at hi
                simp at hi
                subst hi
                exact hLe
              · cases ha : acc[e.on]? with
                | none => rw [ha] at hi; simp at hi
                | some m => rw [ha] at hi; exact h e.on m ha hLe i hi
            · exact hs i hi
        exact key o.after.toList 0 (fun e he hb => (hc0 e (by simpa using he) hb).2) (fun i hi => by simp at hi) i hi

/-! what has been written, by those who have come up -/
def gL : List (Option Nat × Eff) → (Nat → Bool) → Nat → AV → AV
  | [], _, _, b => b
  | (d, E) :: l, L, t, b => gL l (fun j => L (j + 1)) t (if L 0 = true ∧ d = some t then E.val else b)
def oL : List (Option Nat × Eff) → (Nat → Bool) → Nat → Option AO → Option AO
  | [], _, _, b => b
  | (_, E) :: l, L, i, b => oL l (fun j => L (j + 1)) i (if L 0 = true then (match find E.objs i with | some q => q | none => b) else b)
def ap : List (Option Nat × Eff) → (Nat → Bool) → AS → AS
  | [], _, S => S
  | (d, E) :: l, L, S => ap l (fun j => L (j + 1)) (if L 0 = true then (S.upd E.objs).putO d E.val else S)
theorem putO_get (S : AS) (d : Option Nat) (v : AV) (t : Nat) : (S.putO d v).get t = if d = some t then v else S.get t := by
  cases d with
  | none => rfl
  | some k =>
    unfold AS.putO AS.put AS.get
    simp only [find, Option.some.injEq]
    split <;> rfl
theorem putO_obj (S : AS) (d : Option Nat) (v : AV) (i : Nat) : (S.putO d v).obj i = S.obj i := by cases d <;> rfl
theorem ap_get : ∀ (l : List (Option Nat × Eff)) (L : Nat → Bool) (S : AS) (t : Nat), (ap l L S).get t = gL l L t (S.get t)
  | [], _, _, _ => rfl
  | (d, E) :: l, L, S, t => by
    unfold ap gL
    rw [ap_get l]
    congr 1
    by_cases h : L 0 = true
    · rw [if_pos h, putO_get]
      simp [h]
      rfl
    · simp [h]
theorem ap_obj : ∀ (l : List (Option Nat × Eff)) (L : Nat → Bool) (S : AS) (i : Nat), (ap l L S).obj i = oL l L i (S.obj i)
  | [], _, _, _ => rfl
  | (d, E) :: l, L, S, i => by
    unfold ap oL
    rw [ap_obj l]
    congr 1
    by_cases h : L 0 = true
    · rw [if_pos h, if_pos h, putO_obj, upd_obj]; rfl
    · rw [if_neg h, if_neg h]
theorem gL_congr {t : Nat} : ∀ {l : List (Option Nat × Eff)} {L L' : Nat → Bool} {b : AV}, (∀ k d E, l[k]? = some (d, E) → d = some t → L k = L' k) → gL l L t b = gL l L' t b
  | [], _, _, _, _ => rfl
  | (d, E) :: l, L, L', b, h => by
    unfold gL
    have h0 : (if L 0 = true ∧ d = some t then E.val else b) = if L' 0 = true ∧ d = some t then E.val else b := by
      by_cases hd : d = some t
      · rw [h 0 d E rfl hd]
      · simp [hd]
    rw [h0]
    exact gL_congr fun k d' E' hk hd => h (k + 1) d' E' (by simpa using hk) hd
theorem oL_congr {i : Nat} : ∀ {l : List (Option Nat × Eff)} {L L' : Nat → Bool} {b : Option AO}, (∀ k d E, l[k]? = some (d, E) → (find E.objs i).isSome = true → L k = L' k) → oL l L i b = oL l L' i b
  | [], _, _, _, _ => rfl
  | (d, E) :: l, L, L', b, h => by
    unfold oL
    have h0 : (if L 0 = true then (match find E.objs i with | some q => q | none => b) else b) = if L' 0 = true then (match find E.objs i with | some q => q | none => b) else b := by
      cases hf : find E.objs i with
      | none => simp
      | some q => rw [h 0 d E rfl (by rw [hf]; rfl)]
    rw [h0]
    exact oL_congr fun k d' E' hk hd => h (k + 1) d' E' (by simpa using hk) hd
theorem gL_add {t : Nat} : ∀ {l : List (Option Nat × Eff)} {L : Nat → Bool} {b : AV} {i : Nat} {d : Option Nat} {E : Eff}, l[i]? = some (d, E) → (∀ k d' E', i < k → l[k]? = some (d', E') → d' = d → d = some t → L k = false) →
    gL l (fun j => if j = i then true else L j) t b = if d = some t then E.val else gL l (fun j => if j = i then false else L j) t b
  | [], _, _, _, _, _, h, _ => by simp at h
  | (d0, E0) :: l, L, b, 0, d, E, h, hk => by
    simp only [List.getElem?_cons_zero, Option.some.injEq, Prod.mk.injEq] at h
    obtain ⟨rfl, rfl⟩ := h
    unfold gL
    simp only [if_true, true_and, Bool.false_eq_true, false_and, if_false, Nat.add_eq_zero_iff, Nat.succ_ne_self, and_false]
    by_cases hd : d0 = some t
    · rw [if_pos hd, if_pos hd]
      have hn : ∀ (b : AV), gL l (fun j => L (j + 1)) t b = b := by
        intro b
        have : gL l (fun j => L (j + 1)) t b = gL l (fun _ => false) t b := gL_congr fun k d' E' hk' hd' => hk (k + 1) d' E' (by omega) (by simpa using hk') (by rw [hd', hd]) hd
        rw [this]
        have hz : ∀ (l : List (Option Nat × Eff)) (b : AV), gL l (fun _ => false) t b = b := by
          intro l
          induction l with
          | nil => intro b; rfl
          | cons a l ih => intro b; obtain ⟨d, E⟩ := a; unfold gL; simp [ih]
        exact hz l b
      have e1 : (fun j => if j + 1 = 0 then true else L (j + 1)) = fun j => L (j + 1) := by funext j; simp
      first | exact hn _ | (rw [e1]; exact hn _) | simpa using hn E0.val
    · simp [hd]
  | (d0, E0) :: l, L, b, i + 1, d, E, h, hk => by
    unfold gL
    have e1 : (fun j => if j + 1 = i + 1 then true else L (j + 1)) = fun j => if j = i then true else (fun q => L (q + 1)) j := by funext j; simp
    have e2 : (fun j => if j + 1 = i + 1 then false else L (j + 1)) = fun j => if j = i then false else (fun q => L (q + 1)) j := by funext j; simp
    have h0 : ¬ (0 = i + 1) := by omega
    simp only [e1, e2, h0, if_false]
    exact gL_add (L := fun q => L (q + 1)) (by simpa using h) fun k d' E' hlt hk' hd hd2 => hk (k + 1) d' E' (by omega) (by simpa using hk') hd hd2
theorem oL_add {q : Nat} : ∀ {l : List (Option Nat × Eff)} {L : Nat → Bool} {b : Option AO} {i : Nat} {d : Option Nat} {E : Eff}, l[i]? = some (d, E) → (∀ k d' E', i < k → l[k]? = some (d', E') → (find E'.objs q).isSome = true → (find E.objs q).isSome = true → L k = false) →
    oL l (fun j => if j = i then true else L j) q b = match find E.objs q with | some r => r | none => oL l (fun j => if j = i then false else L j) q b
  | [], _, _, _, _, _, h, _ => by simp at h
  | (d0, E0) :: l, L, b, 0, d, E, h, hk => by
    simp only [List.getElem?_cons_zero, Option.some.injEq, Prod.mk.injEq] at h
    obtain ⟨rfl, rfl⟩ := h
    unfold oL
    have e1 : (fun j => if j + 1 = 0 then true else L (j + 1)) = fun j => L (j + 1) := by funext j; simp
    have e2 : (fun j => if j + 1 = 0 then false else L (j + 1)) = fun j => L (j + 1) := by funext j; simp
    simp only [e1, e2, if_true, Bool.false_eq_true, if_false]
    cases hf : find E0.objs q with
    | none => rfl
    | some r =>
      have : oL l (fun j => L (j + 1)) q r = oL l (fun _ => false) q r := oL_congr fun k d' E' hk' hd' => hk (k + 1) d' E' (by omega) (by simpa using hk') hd' (by rw [hf]; rfl)
      rw [this]
      have hz : ∀ (l : List (Option Nat × Eff)) (b : Option AO), oL l (fun _ => false) q b = b := by
        intro l
        induction l with
        | nil => intro b; rfl
        | cons a l ih => intro b; obtain ⟨d, E⟩ := a; unfold oL; simp [ih]
      exact hz l r
  | (d0, E0) :: l, L, b, i + 1, d, E, h, hk => by
    unfold oL
    have e1 : (fun j => if j + 1 = i + 1 then true else L (j + 1)) = fun j => if j = i then true else (fun q => L (q + 1)) j := by funext j; simp
    have e2 : (fun j => if j + 1 = i + 1 then false else L (j + 1)) = fun j => if j = i then false else (fun q => L (q + 1)) j := by funext j; simp
    have h0 : ¬ (0 = i + 1) := by omega
    simp only [e1, e2, h0, if_false]
    exact oL_add (L := fun q => L (q + 1)) (by simpa using h) fun k d' E' hlt hk' hd hd2 => hk (k + 1) d' E' (by omega) (by simpa using hk') hd hd2

/-! what comes of the operations, in the order of the text -/
def GuardIs (D : List (Option Nat)) (o : Oper) (S : AS) (ran : Bool) : Prop :=
  match o.guard with
  | none => ran = true
  | some (j, want) => ∃ d v, D[j]? = some (some d) ∧ S.get d = .raw v ∧ ran = (bv v == some want)
def StepIs (P : Program) (D : List (Option Nat)) (o : Oper) (n : Nat) (S : AS) (E : Eff) (ran : Bool) : Prop :=
  GuardIs D o S ran ∧ (ran = true → ∀ S', (∀ x ∈ o.op.operands, S'.val x = S.val x) → (∀ i ∈ E.reads, S'.obj i = S.obj i) → DoesAt P o S' n E) ∧ (ran = false → E = ⟨.raw undef, [], []⟩)
def Chain (P : Program) (D : List (Option Nat)) : List Oper → Nat → AS → List Eff → AS → Prop
  | [], _, S, Es, Sf => Es = [] ∧ Sf = S
  | o :: rest, n, S, Es, Sf => ∃ E ran S1 Es', Es = E :: Es' ∧ ((∀ d, S1.get d = S.get d) ∧ (∀ i, S1.obj i = S.obj i) ∧ S1.lg = S.lg) ∧ StepIs P D o n S1 E ran ∧ Chain P D rest (n + 1) (fin o.dst E S1) Es' Sf
theorem get_again {S : AS} {d : Nat} {v : AV} (e : S.get d = v) (t : Nat) : (S.put d v).get t = S.get t := by
  have := putO_get S (some d) v t
  simp only [Option.some.injEq] at this
  rw [show S.put d v = S.putO (some d) v from rfl, this]
  split
  · next h => subst h; exact e.symm
  · rfl
theorem fin_lg (d : Option Nat) (E : Eff) (S : AS) : (fin d E S).lg = S.lg.map ((E.reads, E.objs.map (·.1)) :: ·) := by cases d <;> rfl
theorem aops_chain {P : Program} {D : List (Option Nat)} {K : Nat → AS → Prop} : ∀ (ops : List Oper) (n : Nat) (S : AS), S.lg.isSome = true → AOps P D ops K n S → ∃ Es Sf, Chain P D ops n S Es Sf ∧ K (n + ops.length) Sf
  | [], n, S, _, h => ⟨[], S, ⟨rfl, rfl⟩, h⟩
  | o :: rest, n, S, hlg, h => by
    have h : aguard D _ _ S o.guard := h
    have yes : ∀ S1 : AS, ((∀ d, S1.get d = S.get d) ∧ (∀ i, S1.obj i = S.obj i) ∧ S1.lg = S.lg) → GuardIs D o S1 true → aop P o.op o.type o.dst n (AOps P D rest K) S1 → ∃ Es Sf, Chain P D (o :: rest) n S Es Sf ∧ K (n + (o :: rest).length) Sf := fun S1 hs hg ha => by
      rcases aop_sound ha with ⟨E, h1, h2⟩ | ⟨h1, -⟩
      case inr => rw [hs.2.2] at h1; rw [h1] at hlg; cases hlg
      obtain ⟨Es, Sf, h3, h4⟩ := aops_chain rest (n + 1) _ (by rw [fin_lg, hs.2.2, Option.isSome_map]; exact hlg) h2
      exact ⟨E :: Es, Sf, ⟨E, true, S1, Es, rfl, hs, ⟨hg, fun _ => h1, (fun e => by cases e)⟩, h3⟩, by rw [List.length_cons]; rw [show n + (rest.length + 1) = n + 1 + rest.length by omega]; exact h4⟩
    have no : ∀ S1 : AS, ((∀ d, S1.get d = S.get d) ∧ (∀ i, S1.obj i = S.obj i) ∧ S1.lg = S.lg) → GuardIs D o S1 false → skipK o.dst (AOps P D rest K (n + 1)) S1 → ∃ Es Sf, Chain P D (o :: rest) n S Es Sf ∧ K (n + (o :: rest).length) Sf := fun S1 hs hg ha => by
      obtain ⟨Es, Sf, h3, h4⟩ := aops_chain rest (n + 1) _ (by rw [fin_lg, hs.2.2, Option.isSome_map]; exact hlg) ha
      exact ⟨_ :: Es, Sf, ⟨⟨.raw undef, [], []⟩, false, S1, Es, rfl, hs, ⟨hg, (fun e => by cases e), fun _ => rfl⟩, h3⟩, by rw [List.length_cons]; rw [show n + (rest.length + 1) = n + 1 + rest.length by omega]; exact h4⟩
    cases hg : o.guard with
    | none =>
      rw [hg] at h
      exact yes S ⟨fun _ => rfl, fun _ => rfl, rfl⟩ (by unfold GuardIs; rw [hg]) h
    | some q =>
      obtain ⟨j, want⟩ := q
      rw [hg] at h
      unfold aguard at h
      dsimp only at h
      split at h
      · next d hDj =>
        generalize hv : S.get d = v at h
        unfold gsplit at h
        split at h
        · next l =>
          refine no S ⟨fun _ => rfl, fun _ => rfl, rfl⟩ ?_ h
          unfold GuardIs
          rw [hg]
          exact ⟨d, _, hDj, hv, rfl⟩
        · next b =>
          by_cases e : b = want
          · subst e
            refine yes (S.put d (.raw (.bool b))) ⟨get_again hv, fun _ => rfl, rfl⟩ ?_ (h.1 rfl)
            unfold GuardIs
            rw [hg]
            exact ⟨d, _, hDj, (get_again hv d).trans hv, by simp [bv]⟩
          · have e' : b = !want := by cases b <;> cases want <;> first | rfl | exact absurd rfl e
            refine no (S.put d (.raw (.bool (!want)))) ⟨get_again (hv.trans (by rw [e'])), fun _ => rfl, rfl⟩ ?_ (h.2 e')
            unfold GuardIs
            rw [hg]
            exact ⟨d, _, hDj, (get_again (hv.trans (by rw [e'])) d).trans hv, by subst e'; cases want <;> rfl⟩
        · exact h.elim
      · exact h.elim

theorem gL_cons (d : Option Nat) (E : Eff) (l : List (Option Nat × Eff)) (L : Nat → Bool) (t : Nat) (b : AV) : gL ((d, E) :: l) L t b = gL l (fun j => L (j + 1)) t (if L 0 = true ∧ d = some t then E.val else b) := rfl
theorem oL_cons (d : Option Nat) (E : Eff) (l : List (Option Nat × Eff)) (L : Nat → Bool) (i : Nat) (b : Option AO) : oL ((d, E) :: l) L i b = oL l (fun j => L (j + 1)) i (if L 0 = true then (match find E.objs i with | some q => q | none => b) else b) := rfl
def wrs (ops : List Oper) (Es : List Eff) : List (Option Nat × Eff) := (ops.zip Es).map fun q => (q.1.dst, q.2)
theorem fin_get (d : Option Nat) (E : Eff) (S : AS) (t : Nat) : (fin d E S).get t = if d = some t then E.val else S.get t := putO_get (S.upd E.objs) d E.val t
theorem fin_obj (d : Option Nat) (E : Eff) (S : AS) (i : Nat) : (fin d E S).obj i = match find E.objs i with | some q => q | none => S.obj i := (putO_obj (S.upd E.objs) d E.val i).trans (upd_obj S E.objs i)
theorem gL_none (t : Nat) : ∀ (l : List (Option Nat × Eff)) (b : AV), gL l (fun _ => false) t b = b
  | [], _ => rfl
  | (d, E) :: l, b => by unfold gL; simp [gL_none t l]
theorem oL_none (i : Nat) : ∀ (l : List (Option Nat × Eff)) (b : Option AO), oL l (fun _ => false) i b = b
  | [], _ => rfl
  | (d, E) :: l, b => by unfold oL; simp [oL_none i l]
/-- each operation's own state is what those ahead of it have written. -/
theorem chain_at {P : Program} {D : List (Option Nat)} : ∀ (ops : List Oper) (n : Nat) (S : AS) (Es : List Eff) (Sf : AS), Chain P D ops n S Es Sf →
    Es.length = ops.length ∧ (∀ i o, ops[i]? = some o → ∃ E ran Si, Es[i]? = some E ∧ StepIs P D o (n + i) Si E ran ∧ (∀ t, Si.get t = gL (wrs ops Es) (fun j => decide (j < i)) t (S.get t)) ∧ (∀ q, Si.obj q = oL (wrs ops Es) (fun j => decide (j < i)) q (S.obj q))) ∧
    (∀ t, Sf.get t = gL (wrs ops Es) (fun _ => true) t (S.get t)) ∧ (∀ q, Sf.obj q = oL (wrs ops Es) (fun _ => true) q (S.obj q)) ∧
    (∀ l, S.lg = some l → Sf.lg = some ((Es.map fun E => (E.reads, E.objs.map (·.1))).reverse ++ l))
  | [], n, S, Es, Sf, h => by
    obtain ⟨rfl, rfl⟩ := h
    exact ⟨rfl, fun i o ho => by simp at ho, fun _ => rfl, fun _ => rfl, fun l hl => by simpa using hl⟩
  | o :: rest, n, S, Es, Sf, h => by
    obtain ⟨E, ran, S1, Es', rfl, ⟨hg, ho, hlg⟩, hst, hc⟩ := h
    obtain ⟨h1, h2, h3, h4, h5⟩ := chain_at rest (n + 1) _ Es' Sf hc
    have eg : ∀ t, (fin o.dst E S1).get t = if o.dst = some t then E.val else S.get t := fun t => by rw [fin_get, hg]
    have eo : ∀ q, (fin o.dst E S1).obj q = match find E.objs q with | some r => r | none => S.obj q := fun q => by rw [fin_obj, ho]
    refine ⟨by simp [h1], fun i o' hi => ?_, fun t => ?_, fun q => ?_, fun l hl => ?_⟩
    · cases i with
      | zero =>
        simp only [List.getElem?_cons_zero, Option.some.injEq] at hi
        subst hi
        refine ⟨E, ran, S1, rfl, by simpa using hst, fun t => ?_, fun q => ?_⟩
        · have : gL (wrs (o :: rest) (E :: Es')) (fun j => decide (j < 0)) t (S.get t) = gL (wrs (o :: rest) (E :: Es')) (fun _ => false) t (S.get t) := gL_congr fun k _ _ _ _ => by simp
          rw [this, gL_none, hg]
        · have : oL (wrs (o :: rest) (E :: Es')) (fun j => decide (j < 0)) q (S.obj q) = oL (wrs (o :: rest) (E :: Es')) (fun _ => false) q (S.obj q) := oL_congr fun k _ _ _ _ => by simp
          rw [this, oL_none, ho]
      | succ i =>
        obtain ⟨E', ran', Si, e1, e2, e3, e4⟩ := h2 i o' (by simpa using hi)
        refine ⟨E', ran', Si, by simpa using e1, by rw [show n + (i + 1) = n + 1 + i by omega]; exact e2, fun t => ?_, fun q => ?_⟩
        · rw [e3 t, eg t]
          show _ = gL ((o.dst, E) :: wrs rest Es') _ t _
          rw [gL_cons]
          have : (fun j => decide (j + 1 < i + 1)) = fun j => decide (j < i) := by funext j; simp
          simp only [this, Nat.zero_lt_succ, decide_true, true_and]
        · rw [e4 q, eo q]
          show _ = oL ((o.dst, E) :: wrs rest Es') _ q _
          rw [oL_cons]
          have : (fun j => decide (j + 1 < i + 1)) = fun j => decide (j < i) := by funext j; simp
          simp only [this, Nat.zero_lt_succ, decide_true, if_true]
    · rw [h3 t, eg t]
      show _ = gL ((o.dst, E) :: wrs rest Es') _ t _
      rw [gL_cons]
      simp only [true_and]
    · rw [h4 q, eo q]
      show _ = oL ((o.dst, E) :: wrs rest Es') _ q _
      rw [oL_cons]
      simp only [if_true]
    · have := h5 ((E.reads, E.objs.map (·.1)) :: l) (by rw [fin_lg, hlg, hl]; rfl)
      rw [this]
      simp
theorem Mod.drew {c : Ctx} {p : Nat → Prop} {ρ : Env} {S : AS} {tm : Array Value} {w : World} (h : Mod c p ρ S tm w) : Mod c p ρ S tm { w with drawn := w.drawn + 1 } :=
  ⟨h.size, h.base, h.baseR, h.lo, h.dom, h.tmps, fun i o e => by obtain ⟨x, h1, h2⟩ := h.objs i o e; exact ⟨x, h1, h2.keep (ExtE.refl _) (fun _ _ _ => rfl)⟩, h.apart, h.old, h.ro, h.rsep, h.rnew, h.rdf, h.dfr, ⟨h.frame.os, h.frame.tape, h.frame.output, h.frame.size, h.frame.block⟩⟩

/-- the context begun anew, at this world. -/
def Ctx.anew (c : Ctx) (S : AS) (ρ : Env) (w : World) : Ctx := ⟨c.N, fun g => ∃ i o x, S.obj i = some o ∧ ρ.f i = some x ∧ oblk x o = some g, w, ρ, fun _ => False⟩
theorem Mod.rebase {c : Ctx} {p : Nat → Prop} {ρ : Env} {S : AS} {tm : Array Value} {w : World} (h : Mod c p ρ S tm w) : Mod (c.anew S ρ w) p ρ S tm w :=
  ⟨h.size, fun _ _ => rfl, SubR.refl _, h.lo, h.dom, h.tmps, h.objs, h.apart, fun i o x g h1 h3 h4 => .inl ⟨i, o, x, h1, h3, h4⟩, h.ro, h.rsep, fun g o e => .inl e, h.rdf, fun g e => e.elim, FrameM.refl _ _⟩
/-- a block in which deferred calls lie: the objects leave it alone. -/
theorem Mod.anew_keeps {c : Ctx} {p p' : Nat → Prop} {ρ ρ' : Env} {S S' : AS} {tm tm' : Array Value} {w w' : World} (h : Mod c p ρ S tm w) (k : Mod (c.anew S ρ w) p' ρ' S' tm' w') {D : Nat} {ob : Obj} (hD : w.heap[D]? = some ob) (hd : isDefd ob = true) : w'.heap[D]? = some ob := by
  rw [k.frame.block D (Array.getElem?_eq_some_iff.1 hD).1]
  · exact hD
  · rintro ⟨i, o, x, e1, e3, e4⟩
    obtain ⟨y, f1, f2⟩ := h.objs i o e1
    rw [e3] at f1
    cases f1
    obtain ⟨ob', hc, hk⟩ := f2.kind e4
    rw [hD] at hc
    cases hc
    rw [hd] at hk
    cases hk
theorem Mod.back {c : Ctx} {p p' : Nat → Prop} {ρ ρ' : Env} {S S' : AS} {tm tm' : Array Value} {w w' : World} (h : Mod c p ρ S tm w) (k : Mod (c.anew S ρ w) p' ρ' S' tm' w') : Mod c p' ρ' S' tm' w' := by
  have hold : ∀ g, (c.anew S ρ w).M g → c.M g ∨ c.w0.heap.size ≤ g := fun g ⟨i, o, x, e1, e3, e4⟩ => h.old i o x g e1 e3 e4
  have hsz := h.frame.size
  refine ⟨k.size, fun i hi => (k.base i hi).trans (h.base i hi), h.baseR.trans k.baseR, k.lo, k.dom, k.tmps, k.objs, k.apart, fun i o x g h1 h3 h4 => ?_, k.ro, k.rsep, fun g o e => ?_, k.rdf, fun g hg => ?_, ⟨k.frame.os.trans h.frame.os, k.frame.tape.trans h.frame.tape, k.frame.output.trans h.frame.output, Nat.le_trans hsz k.frame.size, fun g hg hM => ?_⟩⟩
  · rcases k.old i o x g h1 h3 h4 with e | e
    · exact hold g e
    · exact .inr (Nat.le_trans hsz e)
  · rcases k.rnew g o e with e | e | e
    · exact h.rnew g o e
    · exact .inr (hold g e)
    · exact .inr (.inr (Nat.le_trans hsz e))
  · obtain ⟨h0, h1⟩ := h.dfr g hg
    exact ⟨h0, h.anew_keeps k h1 rfl⟩
  · exact (k.frame.block g (Nat.lt_of_lt_of_le hg hsz) (fun e => (hold g e).elim hM (fun e => absurd hg (Nat.not_lt.2 e)))).trans (h.frame.block g hg hM)
theorem DefOk.nil {c : Ctx} {a : Act} {w : World} (h : a.defers = []) : DefOk c a w := ⟨[], h, List.nodup_nil, fun D hD => by cases hD⟩
theorem DefOk.put {c : Ctx} {a : Act} {w : World} (h : DefOk c a w) (d : Option Nat) (v : Value) : DefOk c (a.put d v) w := by
  cases d <;> exact h
theorem DefOk.keep {a : Act} {c : Ctx} {p p' : Nat → Prop} {ρ ρ' : Env} {S S' : AS} {tm tm' : Array Value} {w w' : World} (hd : DefOk c a w) (h : Mod c p ρ S tm w) (k : Mod (c.anew S ρ w) p' ρ' S' tm' w') : DefOk c a w' := by
  obtain ⟨Ds, e, hn, hm⟩ := hd
  exact ⟨Ds, e, hn, fun D hD => ⟨(hm D hD).1, (hm D hD).2.1, h.anew_keeps k (hm D hD).2.2 rfl⟩⟩
/-- a block in which deferred calls lie may be turned. -/
theorem Mod.putObj {c : Ctx} {p : Nat → Prop} {ρ : Env} {S : AS} {tm : Array Value} {w : World} (h : Mod c p ρ S tm w) {D : Nat} {ob : Obj} (o' : Obj) (hD : w.heap[D]? = some ob) (hc : isDefd ob = true) (hb : c.w0.heap.size ≤ D) (hnd : ¬ c.D D) : Mod c p ρ S tm (w.putObj D o') := by
  have hk : ∀ g, g ≠ D → (w.putObj D o').heap[g]? = w.heap[g]? := fun g hg => by
    simp [World.putObj, Array.getElem?_setIfInBounds, Ne.symm hg]
  have hs : (w.putObj D o').heap.size = w.heap.size := by simp [World.putObj]
  refine ⟨h.size, h.base, h.baseR, h.lo, h.dom, h.tmps, fun i o e => ?_, h.apart, h.old, fun g o e => ?_, h.rsep, h.rnew, h.rdf, fun g hg => ?_, ⟨h.frame.os, h.frame.tape, h.frame.output, by rw [hs]; exact h.frame.size, fun g hg hM => ?_⟩⟩
  · obtain ⟨x, h1, h2⟩ := h.objs i o e
    refine ⟨x, h1, h2.keep (ExtE.refl _) (fun g hg hlt => hk g (fun e => ?_))⟩
    subst e
    obtain ⟨ob', hq, hq2⟩ := h2.kind hg
    rw [hD] at hq
    cases hq
    rw [hc] at hq2
    cases hq2
  · rw [hk g (fun e2 => ?_)]
    · exact h.ro g o e
    · subst e2
      have h1 := h.ro g o e
      have h2 := h.rdf g o e
      rw [hD] at h1
      cases h1
      rw [hc] at h2
      cases h2
  · have h1 := h.dfr g hg
    rw [hk g (fun e => hnd (by rw [← e]; exact hg))]
    exact h1
  · rw [hk g (by omega)]
    exact h.frame.block g hg hM

/-- a statement whose order is open: what it must do. -/
def ADraw (P : Program) (ops : List Oper) (K : Nat → AS → Prop) (n : Nat) (S : AS) : Prop :=
  ∀ (rd : Option Nat) (m0 : Nat) (c : Ctx) (id : Nat) (p : Nat → Prop) (ρ : Env) (a : Act) (w : World) (Q : Exit → Act → World → Prop), (∀ o ∈ ops, ∀ d, o.dst = some d → d < c.N) → Mod c p ρ S a.tmps w → (∀ i, p i → i / 8 < n) → DefOk c a w →
    (∀ n' S' p' ρ' a' w', K n' S' → Mod c p' ρ' S' a'.tmps w' → (∀ i, p' i → i / 8 < n') → DefOk c a' w' → Q .normal a' w') → (Code.region id ops.toArray true).wpIn (FW rd) m0 P Q a w
def drawK (ops : List Oper) (K : Nat → AS → Prop) (n : Nat) (S : AS) : Prop :=
  match S.lg with
  | some lg => drawB ops lg = true ∧ K n ⟨S.t, S.s, none⟩
  | none => False

theorem mem_slots {ops : List Oper} {o : Oper} {t : Nat} : t ∈ slotsOf ops o ↔ .tmp t ∈ o.op.operands ∨ ∃ g w, o.guard = some (g, w) ∧ (ops[g]?).bind (·.dst) = some t := by
  unfold slotsOf
  rw [List.mem_append, List.mem_filterMap]
  constructor
  · rintro (⟨x, hx, h⟩ | h)
    · cases x <;> simp at h
      subst h
      exact .inl (by simpa using hx)
    · cases hg : o.guard with
      | none => rw [hg] at h; simp at h
      | some q => obtain ⟨g, w⟩ := q; rw [hg] at h; exact .inr ⟨g, w, rfl, by simpa using h⟩
  · rintro (h | ⟨g, w, h1, h2⟩)
    · exact .inl ⟨.tmp t, by simpa using h, rfl⟩
    · exact .inr (by rw [h1]; simpa using h2)
theorem crossB_none {ops : List Oper} {x y : Oper} (h : crossB ops x y = false) : (∀ d, x.dst = some d → d ∉ slotsOf ops y ∧ y.dst ≠ some d) ∧ (∀ d, y.dst = some d → d ∉ slotsOf ops x) := by
  unfold crossB at h
  rw [Bool.or_eq_false_iff] at h
  refine ⟨fun d hd => ?_, fun d hd => ?_⟩
  · have h1 := h.1
    rw [hd] at h1
    simp only [Bool.or_eq_false_iff] at h1
    exact ⟨by simpa using h1.1, by simpa using h1.2⟩
  · have h1 := h.2
    rw [hd] at h1
    simpa using h1
theorem meetB_none {a b : List Nat} (h : meetB a b = false) : ∀ i ∈ a, i ∉ b := fun i hi hb => by
  unfold meetB at h
  rw [List.any_eq_false] at h
  have := h i hi
  simp at this
  exact this hb
theorem find_keys {u : List (Nat × Option AO)} {i : Nat} : (find u i).isSome = true ↔ i ∈ u.map (·.1) := by
  induction u with
  | nil => simp [find]
  | cons a u ih =>
    obtain ⟨k, v⟩ := a
    simp only [find, List.map_cons, List.mem_cons]
    by_cases h : k = i
    · simp [h]
    · rw [if_neg h, ih]
      constructor
      · exact .inr
      · rintro (e | e)
        · exact absurd e.symm h
        · exact e

theorem wrs_get {ops : List Oper} {Es : List Eff} (k : Nat) (d : Option Nat) (E : Eff) : (wrs ops Es)[k]? = some (d, E) ↔ ∃ o, ops[k]? = some o ∧ Es[k]? = some E ∧ o.dst = d := by
  unfold wrs
  rw [List.getElem?_map]
  induction ops generalizing Es k with
  | nil => simp
  | cons o ops ih =>
    cases Es with
    | nil => simp
    | cons E' Es =>
      cases k with
      | zero => simp; exact and_comm
      | succ k => simpa using ih (Es := Es) k
theorem bfm_lt : ∀ (ops : List Oper) (acc : List Nat) (k0 : Nat), acc.length = k0 → (∀ i o, ops[i]? = some o → ∀ e ∈ o.after, Region.binds .any e = true → e.on < k0 + i) → (∀ (j m : Nat), acc[j]? = some m → ∀ i, m.testBit i = true → i < j) → ∀ (j m : Nat), (bfm ops acc)[j]? = some m → ∀ i, m.testBit i = true → i < j
  | [], acc, k0, _, _, h => h
  | o :: rest, acc, k0, hl, hc, h => by
    refine bfm_lt rest _ (k0 + 1) (by simp [hl]) (fun i o' ho e he hb => ?_) (fun j m hj i hi => ?_)
    · have := hc (i + 1) o' (by simpa using ho) e he hb
      omega
    · rcases Nat.lt_or_ge j acc.length with hlt | hge
      · rw [List.getElem?_append_left hlt] at hj
        exact h j m hj i hi
      · have hj2 : j = acc.length := by
          rcases Nat.lt_or_ge acc.length j with h1 | h1
          · rw [List.getElem?_eq_none (by simp; omega)] at hj; cases hj
          · omega
        subst hj2
        rw [List.getElem?_append_right (Nat.le_refl _)] at hj
        simp only [Nat.sub_self, List.getElem?_cons_zero, Option.some.injEq] at hj
        subst hj
        have hc0 := hc 0 o rfl
        have key : ∀ (es : List Edge) (s0 : Nat), (∀ e ∈ es, Region.binds .any e = true → e.on < acc.length) → (∀ i, s0.testBit i = true → i < acc.length) →
            ∀ i, (es.foldl (fun s e => if Region.binds .any e then s ||| 2 ^ e.on ||| (acc[e.on]?).getD 0 else s) s0).testBit i = true → i < acc.length := by
          intro es
          induction es with
          | nil => intro s0 _ hs i hi; exact hs i hi
          | cons e es ih =>
            intro s0 he hs i hi
            rw [List.foldl_cons] at hi
            refine ih _ (fun e' he' => he e' (List.mem_cons_of_mem _ he')) (fun i hi => ?_) i hi
            split at hi
            · next hb =>
              have hLe := he e List.mem_cons_self hb
              rw [Nat.testBit_or, Nat.testBit_or, Bool.or_eq_true, Bool.or_eq_true] at hi
              rcases hi with (hi | hi) | hi
              · exact hs i hi
              · rw [Nat.testBit_two_pow] at hi
                simp at hi
                subst hi
                exact hLe
              · cases ha : acc[e.on]? with
                | none => rw [ha] at hi; simp at hi
                | some m => rw [ha] at hi; have := h e.on m ha i hi; omega
            · exact hs i hi
        exact key o.after.toList 0 (fun e he hb => by have := hc0 e (by simpa using he) hb; omega) (fun i hi => by simp at hi) i hi

set_option maxHeartbeats 1000000 in
/-- **a statement whose order is open.** -/
theorem draw_sound {P : Program} {ops : List Oper} {K : Nat → AS → Prop} {n : Nat} {S : AS} (hmx : P.follows .mixedOrders = true) (h : AOps P (ops.map (·.dst)) ops (drawK ops K) n ⟨S.t, S.s, some []⟩) : ADraw P ops K n S := by
  intro rd m0 c id p ρ a w Q hd hmod hn ha hQ
  obtain ⟨Es, Sf, hch, hK⟩ := aops_chain ops n _ rfl h
  obtain ⟨hlen, hat, hfg, hfo, hfl⟩ := chain_at ops n _ Es Sf hch
  have hlg := hfl [] rfl
  unfold drawK at hK
  rw [hlg] at hK
  dsimp only at hK
  obtain ⟨hB, hK⟩ := hK
  unfold drawB at hB
  simp only [List.append_nil, List.reverse_reverse, Bool.and_eq_true] at hB
  obtain ⟨⟨-, hback⟩, hcross⟩ := hB
  have hback : ∀ i o, ops[i]? = some o → ∀ e ∈ o.after, Region.binds .any e = true → e.on < i := fun i o ho e he hb => by
    have h1 := List.all_eq_true.1 hback (o, i) (by rw [List.mem_iff_getElem?]; exact ⟨i, by simp [ho]⟩)
    have h2 := List.all_eq_true.1 h1 e (by simpa using he)
    simpa [hb] using h2
  -- two that are not ordered do not cross
  have hpair : ∀ i j x y Ex Ey, i < j → ops[i]? = some x → ops[j]? = some y → Es[i]? = some Ex → Es[j]? = some Ey → (((bfm ops [])[j]?).getD 0).testBit i = true ∨
      (crossB ops x y = false ∧ (∀ q ∈ Ex.objs.map (·.1), q ∉ Ey.reads ∧ q ∉ Ey.objs.map (·.1)) ∧ ∀ q ∈ Ey.objs.map (·.1), q ∉ Ex.reads) := by
    intro i j x y Ex Ey hij hx hy hEx hEy
    have hjl : j < ops.length := (List.getElem?_eq_some_iff.1 hy).1
    have h1 := List.all_eq_true.1 (List.all_eq_true.1 hcross j (List.mem_range.2 hjl)) i (List.mem_range.2 hij)
    rw [Bool.or_eq_true] at h1
    rcases h1 with h1 | h1
    · exact .inl h1
    · refine .inr ?_
      simp only [hx, hy, List.getElem?_map, hEx, hEy, Option.map_some, Bool.and_eq_true, Bool.not_eq_true'] at h1
      obtain ⟨⟨h2, h3⟩, h4⟩ := h1
      refine ⟨h2, fun q hq => ?_, meetB_none h4⟩
      have := meetB_none h3 q hq
      rw [List.mem_append] at this
      exact ⟨fun e => this (.inl e), fun e => this (.inr e)⟩
  have hEs : ∀ i o, ops[i]? = some o → ∃ E, Es[i]? = some E := fun i o ho => ⟨_, List.getElem?_eq_getElem (by rw [hlen]; exact (List.getElem?_eq_some_iff.1 ho).1)⟩
  have hwr := @wrs_get ops Es
  -- the blocks of names in use
  have key : ∀ (f : Nat) (listed : Array Bool) (ρ' : Env) (a' : Act) (w' : World), HeadInv .any ops.toArray ops.length listed → cnt (fun j => !listed.getD j false) ops.length = f →
      Mod c (fun i => p i ∨ ∃ j, j < ops.length ∧ listed.getD j false = true ∧ i / 8 = n + j) ρ' (ap (wrs ops Es) (fun j => listed.getD j false) S) a'.tmps w' → DefOk c a' w' → wpAnyIn (FW rd) m0 P .any ops.toArray Q f listed a' w' := by
    intro f
    induction f with
    | zero =>
      intro listed ρ' a' w' inv hc hm ha'
      have hall := cnt_zero _ hc
      have hl : ∀ j, j < ops.length → listed.getD j false = true := fun j hj => by simpa using hall j hj
      refine ⟨?_, ?_⟩
      · refine List.eq_nil_iff_forall_not_mem.2 fun i hi => ?_
        obtain ⟨h1, o, ho, -⟩ := mem_ready.1 hi
        have hi' : i < ops.length := by have := (Array.getElem?_eq_some_iff.1 ho).1; simpa using this
        have := hl i hi'
        rw [getD_both h1] at this
        cases this
      · refine hQ _ _ _ ρ' a' w' hK (hm.same (fun t => ?_) (fun q => ?_)) (fun i hi => ?_) ha'
        · rw [ap_get]
          exact (hfg t).trans (gL_congr fun k d E hk _ => by
            obtain ⟨o, ho, -⟩ := (hwr k d E).1 hk
            rw [hl k (List.getElem?_eq_some_iff.1 ho).1])
        · rw [ap_obj]
          exact (hfo q).trans (oL_congr fun k d E hk _ => by
            obtain ⟨o, ho, -⟩ := (hwr k d E).1 hk
            rw [hl k (List.getElem?_eq_some_iff.1 ho).1])
        · rcases hi with hi | ⟨j, h1, -, h3⟩
          · have := hn i hi; omega
          · omega
    | succ f ih =>
      intro listed ρ' a' w' inv hc hm ha'
      have hLcl : ∀ j m, (bfm ops [])[j]? = some m → listed.getD j false = true → ∀ i, m.testBit i = true → listed.getD i false = true := by
        refine bfm_closed (L := fun j => listed.getD j false) ops [] 0 rfl (fun i o ho hL e he hb => ?_) (fun j m hj => by simp at hj)
        rw [Nat.zero_add] at hL ⊢
        exact ⟨hback i o ho e he hb, inv.closed i o (by simpa using ho) hL e he hb⟩
      obtain ⟨m, hm', hm1, hm2⟩ := cnt_pos ops.length (by rw [hc]; omega)
      have hmun : listed.getD m false = false := by simpa using hm1
      have hmr : m ∈ Region.ready .any ops.toArray listed := by
        refine mem_ready.2 ⟨getD_in (by rw [inv.size]; simpa using hm') hmun, ops[m], by simp [hm'], fun e he hb => ?_⟩
        have := hm2 e.on (hback m ops[m] (List.getElem?_eq_getElem hm') e he hb)
        simpa using this
      refine ⟨fun h0 => (by rw [h0] at hmr; cases hmr), fun i hi => ?_⟩
      obtain ⟨hiun, o, ho, hall⟩ := mem_ready.1 hi
      have hiun' : listed.getD i false = false := getD_both hiun
      have ho' : ops[i]? = some o := by simpa using ho
      have hil : i < ops.length := (List.getElem?_eq_some_iff.1 ho').1
      obtain ⟨E, ran, Si, hE, ⟨hG, hD, hS⟩, hgi, hoi⟩ := hat i o ho'
      -- those who come up later don't reach here
      have hlater : ∀ k, listed.getD k false = true → (((bfm ops [])[k]?).getD 0).testBit i = true → False := fun k hk ht => by
        cases hb : (bfm ops [])[k]? with
        | none => rw [hb] at ht; simp at ht
        | some m => rw [hb] at ht; have := hLcl k m hb hk i ht; rw [hiun'] at this; cases this
      have hmine : ∀ k, (((bfm ops [])[i]?).getD 0).testBit k = true → listed.getD k false = true := fun k ht => by
        cases hb : (bfm ops [])[i]? with
        | none => rw [hb] at ht; simp at ht
        | some m =>
          rw [hb] at ht
          have hh : (fun j => listed.getD j false || decide (j = i)) k = true := by
            refine bfm_closed (L := fun j => listed.getD j false || decide (j = i)) ops [] 0 rfl (fun j oj hj hL e he hbd => ?_) (fun j m hj => by simp at hj) i m hb (by simp) k ht
            rw [Nat.zero_add] at hL ⊢
            refine ⟨hback j oj hj e he hbd, ?_⟩
            simp only [Bool.or_eq_true, decide_eq_true_eq] at hL ⊢
            rcases hL with hL | rfl
            · exact .inl (inv.closed j oj (by simpa using hj) hL e he hbd)
            · rw [ho'] at hj
              injection hj with hj
              subst hj
              exact .inl (hall e he hbd)
          simp only [Bool.or_eq_true, decide_eq_true_eq] at hh
          rcases hh with h | h
          · exact h
          · subst h
            exact absurd (bfm_lt ops [] 0 rfl (fun i o ho e he hb => by rw [Nat.zero_add]; exact hback i o ho e he hb) (fun j m hj => by simp at hj) k m hb k ht) (Nat.lt_irrefl _)
      -- what it looks at is as it was in the text's order
      have hsame : ∀ t, t ∈ slotsOf ops o → (ap (wrs ops Es) (fun j => listed.getD j false) S).get t = Si.get t := fun t ht => by
        rw [ap_get, hgi t]
        refine gL_congr fun k d Ek hk hdk => ?_
        obtain ⟨ok, hok, hEk, hdst⟩ := (hwr k d Ek).1 hk
        subst hdk
        rcases Nat.lt_trichotomy k i with hlt | heq | hgt
        · simp only [hlt, decide_true]
          rcases hpair k i ok o Ek E hlt hok ho' hEk hE with h1 | ⟨h1, -⟩
          · exact hmine k h1
          · exact absurd ht ((crossB_none h1).1 t hdst).1
        · subst heq; simp [hiun']
        · simp only [show ¬ k < i by omega, decide_false]
          rcases hpair i k o ok E Ek hgt ho' hok hE hEk with h1 | ⟨h1, -⟩
          · cases hL : listed.getD k false with
            | false => rfl
            | true => exact (hlater k hL h1).elim
          · exact absurd ht ((crossB_none h1).2 t hdst)
      have hsameo : ∀ q, q ∈ E.reads → (ap (wrs ops Es) (fun j => listed.getD j false) S).obj q = Si.obj q := fun q hq => by
        rw [ap_obj, hoi q]
        refine oL_congr fun k d Ek hk hfk => ?_
        obtain ⟨ok, hok, hEk, hdst⟩ := (hwr k d Ek).1 hk
        have hkey := find_keys.1 hfk
        rcases Nat.lt_trichotomy k i with hlt | heq | hgt
        · simp only [hlt, decide_true]
          rcases hpair k i ok o Ek E hlt hok ho' hEk hE with h1 | ⟨-, h1, -⟩
          · exact hmine k h1
          · exact absurd hq (h1 q hkey).1
        · subst heq; simp [hiun']
        · simp only [show ¬ k < i by omega, decide_false]
          rcases hpair i k o ok E Ek hgt ho' hok hE hEk with h1 | ⟨-, -, h1⟩
          · cases hL : listed.getD k false with
            | false => rfl
            | true => exact (hlater k hL h1).elim
          · exact absurd hq (h1 q hkey)
      -- the state behind it
      have hLi : (fun j => (listed.setIfInBounds i true).getD j false) = fun j => if j = i then true else listed.getD j false := by
        funext j
        by_cases hji : j = i
        · subst hji
          have : j < listed.size := by rw [inv.size]; simpa using hil
          simp [this]
        · rw [if_neg hji, getD_set_ne false (Ne.symm hji)]
      have hLi0 : (fun j => if j = i then false else listed.getD j false) = fun j => listed.getD j false := by
        funext j
        by_cases hji : j = i
        · subst hji; simp [hiun']
        · rw [if_neg hji]
      have hwi : (wrs ops Es)[i]? = some (o.dst, E) := (hwr i o.dst E).2 ⟨o, ho', hE, rfl⟩
      have hnew : ∀ S1 : AS, (∀ t, S1.get t = if o.dst = some t then E.val else (ap (wrs ops Es) (fun j => listed.getD j false) S).get t) → (∀ q, S1.obj q = match find E.objs q with | some r => r | none => (ap (wrs ops Es) (fun j => listed.getD j false) S).obj q) →
          (∀ t, (ap (wrs ops Es) (fun j => (listed.setIfInBounds i true).getD j false) S).get t = S1.get t) ∧ (∀ q, (ap (wrs ops Es) (fun j => (listed.setIfInBounds i true).getD j false) S).obj q = S1.obj q) := fun S1 e1 e2 => by
        refine ⟨fun t => ?_, fun q => ?_⟩
        · rw [e1 t, ap_get, ap_get, hLi, gL_add hwi (fun k d' E' hlt hk hd1 hd2 => ?_), hLi0]
          obtain ⟨ok, hok, hEk, hdst⟩ := (hwr k d' E').1 hk
          rcases hpair i k o ok E E' hlt ho' hok hE hEk with h1 | ⟨h1, -⟩
          · cases hL : listed.getD k false with
            | false => rfl
            | true => exact (hlater k hL h1).elim
          · exact absurd (hdst.trans (hd1.trans hd2)) ((crossB_none h1).1 t hd2).2
        · rw [e2 q, ap_obj, ap_obj, hLi, oL_add hwi (fun k d' E' hlt hk hd1 hd2 => ?_), hLi0]
          obtain ⟨ok, hok, hEk, hdst⟩ := (hwr k d' E').1 hk
          rcases hpair i k o ok E E' hlt ho' hok hE hEk with h1 | ⟨-, h1, -⟩
          · cases hL : listed.getD k false with
            | false => rfl
            | true => exact (hlater k hL h1).elim
          · exact absurd (find_keys.1 hd1) (h1 q (find_keys.1 hd2)).2
      have hpp : ∀ j, (fun q => p q ∨ ∃ j, j < ops.length ∧ listed.getD j false = true ∧ q / 8 = n + j) j ∨ j / 8 = n + i → p j ∨ ∃ k, k < ops.length ∧ (listed.setIfInBounds i true).getD k false = true ∧ j / 8 = n + k := by
        rintro j ((h | ⟨k, h1, h2, h3⟩) | h)
        · exact .inl h
        · exact .inr ⟨k, h1, getD_set_true h2, h3⟩
        · refine .inr ⟨i, hil, ?_, h⟩
          have := congrFun hLi i
          simpa using this
      have hcnt : cnt (fun j => !(listed.setIfInBounds i true).getD j false) ops.length = f := by
        have h1 := cnt_set (p := fun j => !listed.getD j false) (i := i) (by simp only [hiun']; rfl) ops.length hil
        have h2 : cnt (fun j => !(listed.setIfInBounds i true).getD j false) ops.length = cnt (set1 (fun j => !listed.getD j false) i false) ops.length := by
          refine cnt_congr _ fun j _ => ?_
          have := congrFun hLi j
          show (!(listed.setIfInBounds i true).getD j false) = set1 (fun j => !listed.getD j false) i false j
          rw [show (listed.setIfInBounds i true).getD j false = if j = i then true else listed.getD j false from this]
          unfold set1
          by_cases hji : j = i
          · simp [hji]
          · simp [hji]
        omega
      have hdd : ∀ v, DefOk c (a'.put o.dst v) w' := fun v => ha'.put o.dst v
      -- is it asked for?
      have hwant : Region.wanted o (yielded ops.toArray a'.tmps) = ran := by
        unfold GuardIs at hG
        unfold Region.wanted
        cases hg : o.guard with
        | none => rw [hg] at hG; simp [hG]
        | some q =>
          obtain ⟨j, want⟩ := q
          rw [hg] at hG
          obtain ⟨d, b, h1, h2, h3⟩ := hG
          have hbind : (ops.toArray[j]?).bind (·.dst) = some d := by
            rw [List.getElem?_map] at h1
            cases hoj : ops[j]? with
            | none => rw [hoj] at h1; simp at h1
            | some oj => rw [hoj] at h1; simp at h1; simp [hoj, h1]
          have hsl : d ∈ slotsOf ops o := mem_slots.2 (.inr ⟨j, want, hg, by simpa using hbind⟩)
          have hb : a'.tmps.getD d undef = b := by
            have := hm.tmps d
            rw [hsame d hsl, h2] at this
            simpa [Rep] using this
          simp only [yielded_bv hbind hb, h3]
      unfold wpOpIn
      rw [ho]
      show if Region.wanted o _ then _ else _
      rw [hwant]
      cases ran with
      | false =>
        rw [if_neg (by simp)]
        have hE0 := hS rfl
        subst hE0
        obtain ⟨n1, n2⟩ := hnew ((ap (wrs ops Es) (fun j => listed.getD j false) S).putO o.dst (.raw undef)) (fun t => putO_get _ _ _ t) (fun q => by rw [putO_obj]; rfl)
        refine ⟨fun _ _ => trivial, ?_⟩
        exact ih _ ρ' _ w' (inv.set hi (by simpa using hil)) hcnt (((hm.put o.dst (v := .raw undef) (by simp [Rep]) (hd o (List.mem_of_getElem? ho'))).same n1 n2).mono fun j hj => hpp j (.inl hj)) (hdd undef)
      | true =>
        rw [if_pos rfl]
        refine hD rfl (ap (wrs ops Es) (fun j => listed.getD j false) S) (fun x hx => ?_) hsameo rd m0 (c.anew (ap (wrs ops Es) (fun j => listed.getD j false) S) ρ' w') _ ρ' a' w' hm.rebase (fun q hq e => ?_) _ Q fun v ρ2 w2 hm2' hv => ?_
        · cases x with
          | tmp t => exact hsame t (mem_slots.2 (.inl hx))
          | _ => rfl
        · rcases hq with hq | ⟨j, h1, h2, h3⟩
          · have := hn q hq; omega
          · have : j = i := by omega
            subst this
            rw [hiun'] at h2
            cases h2
        · obtain ⟨n1, n2⟩ := hnew (((ap (wrs ops Es) (fun j => listed.getD j false) S).upd E.objs).putO o.dst E.val) (fun t => putO_get _ _ _ t) (fun q => (putO_obj _ _ _ q).trans (upd_obj _ _ q))
          have hm2 := hm.back hm2'
          exact ih _ ρ2 _ w2 (inv.set hi (by simpa using hil)) hcnt (((hm2.put o.dst hv (hd o (List.mem_of_getElem? ho'))).same n1 n2).mono hpp) ((ha'.keep hm hm2').put o.dst v)
  have hcn : ∀ k, cnt (fun j => !(Array.replicate ops.toArray.size false).getD j false) k = k := by
    intro k
    induction k with
    | zero => rfl
    | succ k ih => unfold cnt; rw [ih, getD_replicate_false]; rfl
  refine wpIn_region_any hmx ?_
  have := key ops.length (Array.replicate ops.toArray.size false) ρ a { w with drawn := w.drawn + 1 } ⟨by simp, fun j oj _ hl => (by rw [getD_replicate_false] at hl; cases hl), fun t h1 h2 => by simp at h2; omega⟩ (hcn _)
    ((hmod.drew.same (fun t => ?_) (fun q => ?_)).mono fun i hi => .inl hi) ha
  · simpa using this
  · rw [ap_get]
    exact (gL_congr (L' := fun _ => false) fun k _ _ _ _ => getD_replicate_false _ _).trans (gL_none _ _ _)
  · rw [ap_obj]
    exact (oL_congr (L' := fun _ => false) fun k _ _ _ _ => getD_replicate_false _ _).trans (oL_none _ _ _)
end Go.Proofs.Ytiidfcadmdahmaa
