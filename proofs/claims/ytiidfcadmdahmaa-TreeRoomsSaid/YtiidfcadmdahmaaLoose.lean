/- REGIONS: a statement whose order is open, its operations shown one by one, each in whatever world of a class; over any program. -/
import Derived.StillTail
import Derived.Below
set_option linter.unusedSimpArgs false
set_option linter.unusedVariables false
namespace Go.Proofs.Ytiidfcadmdahmaa
open Go

section
variable {P : Program} {ops : Array Oper} {md : Region.Mode}

/-- the edge 'i waits for d', one step. -/
def waits (md : Region.Mode) (ops : Array Oper) (i d : Nat) : Bool := Region.waitsFor md ops i d

/-- the slot that operation j writes. -/
def dstOf (ops : Array Oper) (j : Nat) : Option Tmp := (ops[j]?).bind (·.dst)

/-- the head: edges go back; no slot is written twice; who looks at a slot that another one writes waits for it, or is waited for. -/
def headB (md : Region.Mode) (ops : Array Oper) (n : Nat) : Bool :=
  (List.range n).all fun i => match ops[i]? with
    | none => false
    | some o =>
      (o.after.toList.all fun e => !Region.binds md e || decide (e.on < i)) &&
      (List.range n).all fun d => decide (d = i) || match dstOf ops d with
        | none => true
        | some t => decide (o.dst ≠ some t) && (!(o.looksAt ops).contains t || waits md ops i d || waits md ops d i)

/-- the values of those that have come up, laid into the frame. -/
def fill (dst : Nat → Option Tmp) (a0 : Act) (listed : Nat → Bool) (vs : Nat → Value) : Nat → Act
  | 0 => a0
  | k + 1 => if listed k then (fill dst a0 listed vs k).put (dst k) (vs k) else fill dst a0 listed vs k

def set1 {α : Type} (f : Nat → α) (i : Nat) (v : α) : Nat → α := fun j => if j = i then v else f j

theorem fill_congr {dst : Nat → Option Tmp} {a0 : Act} {l l' : Nat → Bool} {vs vs' : Nat → Value} : ∀ k, (∀ j, j < k → l j = l' j) → (∀ j, j < k → l j = true → vs j = vs' j) → fill dst a0 l vs k = fill dst a0 l' vs' k
  | 0, _, _ => rfl
  | k + 1, h1, h2 => by
    have ih := fill_congr (dst := dst) (a0 := a0) k (fun j hj => h1 j (by omega)) (fun j hj => h2 j (by omega))
    unfold fill
    rw [← h1 k (by omega), ih]
    by_cases h : l k = true
    · rw [if_pos h, if_pos h, h2 k (by omega) h]
    · rw [if_neg h, if_neg h]

theorem put_comm' (a : Act) {x y : Option Tmp} (v u : Value) (h : ∀ d, x = some d → y ≠ some d) : (a.put x v).put y u = (a.put y u).put x v := Act.put_comm a v u h

/-- one more has come up. -/
theorem fill_put {dst : Nat → Option Tmp} {a0 : Act} {l : Nat → Bool} {vs : Nat → Value} {i : Nat} {v : Value} (hl : l i = false) :
    ∀ k, i < k → (∀ j, j < k → j ≠ i → ∀ d, dst j = some d → dst i ≠ some d) → (fill dst a0 l vs k).put (dst i) v = fill dst a0 (set1 l i true) (set1 vs i v) k
  | 0, h, _ => absurd h (by omega)
  | k + 1, h, hd => by
    by_cases hk : k = i
    · subst hk
      have hc : fill dst a0 (set1 l k true) (set1 vs k v) k = fill dst a0 l vs k := by
        refine fill_congr k (fun j hj => ?_) (fun j hj _ => ?_)
        · unfold set1; rw [if_neg (by omega)]
        · unfold set1; rw [if_neg (by omega)]
      have e1 : set1 l k true k = true := by unfold set1; rw [if_pos rfl]
      have e2 : set1 vs k v k = v := by unfold set1; rw [if_pos rfl]
      show (if l k then _ else _ : Act).put _ _ = (if set1 l k true k then _ else _ : Act)
      rw [hl, e1, e2, hc]
      rfl
    · have ih := fill_put (a0 := a0) (vs := vs) (v := v) hl k (by omega) (fun j hj => hd j (by omega))
      have e1 : set1 l i true k = l k := by unfold set1; rw [if_neg hk]
      have e2 : set1 vs i v k = vs k := by unfold set1; rw [if_neg hk]
      show (if l k then _ else _ : Act).put _ _ = (if set1 l i true k then _ else _ : Act)
      rw [e1, e2, ← ih]
      by_cases hlk : l k = true
      · rw [if_pos hlk, if_pos hlk]
        exact put_comm' _ _ _ (fun d hdk => hd k (by omega) hk d hdk)
      · rw [if_neg hlk, if_neg hlk]

theorem eval_put_ne {a : Act} {x : Option Tmp} {v : Value} {t : Tmp} (h : x ≠ some t) : (a.put x v).eval (.tmp t) = a.eval (.tmp t) :=
  Act.eval_put (fun d hd e => by injection e with e; subst e; exact h hd)
theorem eval_put_eq {a : Act} {v : Value} {t : Tmp} (h : t < a.tmps.size) : (a.put (some t) v).eval (.tmp t) = v := by
  simp [Act.eval, Act.put, h]
theorem size_put (a : Act) (x : Option Tmp) (v : Value) : (a.put x v).tmps.size = a.tmps.size := by
  cases x <;> simp [Act.put]
theorem size_fill {dst : Nat → Option Tmp} {a0 : Act} {l : Nat → Bool} {vs : Nat → Value} : ∀ k, (fill dst a0 l vs k).tmps.size = a0.tmps.size
  | 0 => rfl
  | k + 1 => by
    unfold fill
    split
    · rw [size_put, size_fill k]
    · exact size_fill k
/-- nobody who has come up writes the slot. -/
theorem eval_fill_none {dst : Nat → Option Tmp} {a0 : Act} {l : Nat → Bool} {vs : Nat → Value} {t : Tmp} : ∀ k, (∀ j, j < k → l j = true → dst j ≠ some t) → (fill dst a0 l vs k).eval (.tmp t) = a0.eval (.tmp t)
  | 0, _ => rfl
  | k + 1, h => by
    have ih := eval_fill_none (dst := dst) (a0 := a0) (vs := vs) k (fun j hj => h j (by omega))
    unfold fill
    split
    · rename_i hk
      rw [eval_put_ne (h k (by omega) hk), ih]
    · exact ih
theorem eval_fill_some {dst : Nat → Option Tmp} {a0 : Act} {l : Nat → Bool} {vs : Nat → Value} {t : Tmp} {d : Nat} (ht : t < a0.tmps.size) (hd : dst d = some t) (hl : l d = true) :
    ∀ k, d < k → (∀ j, j < k → j ≠ d → dst j ≠ some t) → (fill dst a0 l vs k).eval (.tmp t) = vs d
  | 0, h, _ => absurd h (by omega)
  | k + 1, h, hu => by
    by_cases hk : k = d
    · subst hk
      show (if l k then _ else _ : Act).eval _ = _
      rw [if_pos hl, hd]
      exact eval_put_eq (by rw [size_fill]; exact ht)
    · have ih := eval_fill_some (a0 := a0) (vs := vs) ht hd hl k (by omega) (fun j hj => hu j (by omega))
      show (if l k then _ else _ : Act).eval _ = _
      split
      · rw [eval_put_ne (hu k (by omega) hk), ih]
      · exact ih


def cnt (p : Nat → Bool) : Nat → Nat
  | 0 => 0
  | k + 1 => cnt p k + if p k then 1 else 0
theorem cnt_congr {p q : Nat → Bool} : ∀ k, (∀ j, j < k → p j = q j) → cnt p k = cnt q k
  | 0, _ => rfl
  | k + 1, h => by
    have ih := cnt_congr (p := p) (q := q) k (fun j hj => h j (by omega))
    unfold cnt
    rw [ih, h k (by omega)]
theorem cnt_set {p : Nat → Bool} {i : Nat} (hp : p i = true) : ∀ k, i < k → cnt p k = cnt (set1 p i false) k + 1
  | 0, h => absurd h (by omega)
  | k + 1, h => by
    by_cases hk : k = i
    · subst hk
      have e : cnt (set1 p k false) k = cnt p k := cnt_congr k (fun j hj => by unfold set1; rw [if_neg (by omega)])
      have e1 : set1 p k false k = false := by unfold set1; rw [if_pos rfl]
      unfold cnt
      rw [e, e1, hp]
      rfl
    · have ih := cnt_set hp k (by omega)
      have e1 : set1 p i false k = p k := by unfold set1; rw [if_neg hk]
      unfold cnt
      rw [ih, e1]
      omega
theorem cnt_zero {p : Nat → Bool} : ∀ k, cnt p k = 0 → ∀ j, j < k → p j = false
  | 0, _, j, hj => absurd hj (by omega)
  | k + 1, h, j, hj => by
    unfold cnt at h
    have h1 : cnt p k = 0 := by omega
    by_cases hjk : j = k
    · subst hjk
      cases hp : p j with
      | false => rfl
      | true => rw [hp] at h; simp at h
    · exact cnt_zero k h1 j (by omega)
theorem cnt_pos {p : Nat → Bool} : ∀ k, cnt p k ≠ 0 → ∃ j, j < k ∧ p j = true ∧ ∀ i, i < j → p i = false
  | 0, h => absurd rfl h
  | k + 1, h => by
    by_cases h0 : cnt p k = 0
    · have hz := cnt_zero k h0
      refine ⟨k, by omega, ?_, hz⟩
      unfold cnt at h
      rw [h0] at h
      cases hp : p k with
      | true => rfl
      | false => rw [hp] at h; simp at h
    · obtain ⟨j, hj, h1, h2⟩ := cnt_pos k h0
      exact ⟨j, by omega, h1, h2⟩

/-- what an operation looks at, as data: slots that an operation of the head writes (and which), and others. -/
structure Look where
  own : List (Tmp × Nat)
  old : List Tmp

def OwnAll (V : Nat → Value → World → Prop) (a : Act) (w : World) : List (Tmp × Nat) → Prop
  | [] => True
  | p :: r => V p.2 (a.eval (.tmp p.1)) w ∧ OwnAll V a w r
def OldAll (a0 a : Act) : List Tmp → Prop
  | [] => True
  | t :: r => a.eval (.tmp t) = a0.eval (.tmp t) ∧ OldAll a0 a r

/-- what is asked of one operation of the head: in whatever world of the class, what it looks at being as it is described, it leaves a value that is as it is described, and a world of the class. -/
def StepOk (P : Program) (ops : Array Oper) (Q : Exit → Act → World → Prop) (a0 : Act) (C : World → Prop) (Ev : World → World → Prop) (V : Nat → Value → World → Prop) (i : Nat) (o : Oper) (lk : Look) : Prop :=
  ∀ (a : Act) (w : World) (K : Act → World → Prop), C w → OwnAll V a w lk.own → OldAll a0 a lk.old →
    (∀ v w', V i v w' → C w' → Ev w w' → K (a.put o.dst v) w') →
    if Region.wanted o (yielded ops a.tmps) then o.wp P a w K Q else K (a.put o.dst undef) w

/-- all of the head's, one behind the other. -/
def Steps (P : Program) (ops : Array Oper) (Q : Exit → Act → World → Prop) (a0 : Act) (C : World → Prop) (Ev : World → World → Prop) (V : Nat → Value → World → Prop) : Nat → List Oper → List Look → Prop
  | i, o :: os, lk :: lks => StepOk P ops Q a0 C Ev V i o lk ∧ Steps P ops Q a0 C Ev V (i + 1) os lks
  | _, [], [] => True
  | _, _, _ => False

theorem steps_at {Q : Exit → Act → World → Prop} {a0 : Act} {C : World → Prop} {Ev : World → World → Prop} {V : Nat → Value → World → Prop} :
    ∀ (os : List Oper) (lks : List Look) (k : Nat), Steps P ops Q a0 C Ev V k os lks → ∀ j o, os[j]? = some o → ∃ lk, lks[j]? = some lk ∧ StepOk P ops Q a0 C Ev V (k + j) o lk
  | [], _, _, _, j, o, h => by simp at h
  | _ :: _, [], _, h, _, _, _ => h.elim
  | o' :: os, lk :: lks, k, h, 0, o, ho => by
    obtain rfl : o' = o := by simpa using ho
    exact ⟨lk, rfl, h.1⟩
  | o' :: os, lk :: lks, k, h, j + 1, o, ho => by
    obtain ⟨lk', h1, h2⟩ := steps_at os lks (k + 1) h.2 j o (by simpa using ho)
    exact ⟨lk', by simpa using h1, by rw [show k + (j + 1) = k + 1 + j by omega]; exact h2⟩

/-- the data are right. -/
def lookB (md : Region.Mode) (ops : Array Oper) (n : Nat) (lks : List Look) : Bool :=
  (List.range n).all fun i => match ops[i]?, lks[i]? with
    | some o, some lk =>
      (lk.own.all fun p => decide (p.2 < n) && decide (dstOf ops p.2 = some p.1) && waits md ops i p.2) &&
      (lk.old.all fun t => (o.looksAt ops).contains t && (List.range n).all fun d => decide (d = i) || decide (dstOf ops d ≠ some t) || waits md ops d i)
    | _, _ => false

def mask (n m : Nat) : Array Bool := (Array.range m).map fun i => decide (i < n)

def looseB (md : Region.Mode) (ops : Array Oper) (n : Nat) : Bool :=
  decide (n ≤ ops.size) && headB md ops n && (decide (n = ops.size) || Region.sinkB md ops n) && Region.chainB md ops n && Region.seqB md ops (ops.size - n) n (mask n ops.size)

theorem mask_getD (n m i : Nat) (h : i < m) (b : Bool) : (mask n m).getD i b = decide (i < n) := by
  simp [mask, h]

theorem loose_all {Q : Exit → Act → World → Prop} {a0 : Act} {n : Nat} {C : World → Prop} {Ev : World → World → Prop} {V : Nat → Value → World → Prop}
    (hB : looseB md ops n = true) (hV : ∀ j v w w', V j v w → Ev w w' → V j v w')
    (hsz : ∀ j t, j < n → dstOf ops j = some t → t < a0.tmps.size)
    {lks : List Look} (hL : lookB md ops n lks = true) (hstep : ∀ i o, i < n → ops[i]? = some o → ∃ lk, lks[i]? = some lk ∧ StepOk P ops Q a0 C Ev V i o lk)
    (hend : ∀ vs w, C w → (∀ j, j < n → V j (vs j) w) → wpList P ops Q (ops.toList.drop n) (fill (dstOf ops) a0 (fun _ => true) vs n) w) :
    ∀ (f : Nat) (listed : Array Bool) (vs : Nat → Value) (w : World), HeadInv md ops n listed → cnt (fun j => !listed.getD j false) n = f → C w → (∀ j, j < n → listed.getD j false = true → V j (vs j) w) →
      wpAny P md ops Q (f + (ops.size - n)) listed (fill (dstOf ops) a0 (fun j => listed.getD j false) vs n) w := by
  simp only [looseB, Bool.and_eq_true, decide_eq_true_eq, Bool.or_eq_true] at hB
  obtain ⟨⟨⟨⟨hn, hh⟩, hs⟩, hc⟩, hq⟩ := hB
  have head : ∀ i, i < n → ∃ o, ops[i]? = some o ∧ (∀ e ∈ o.after, Region.binds md e = true → e.on < i) ∧
      ∀ d, d < n → d ≠ i → ∀ t, dstOf ops d = some t → o.dst ≠ some t ∧ (t ∈ o.looksAt ops → waits md ops i d = true ∨ waits md ops d i = true) := by
    intro i hi
    have h1 := List.all_eq_true.1 hh i (List.mem_range.2 hi)
    cases ho : ops[i]? with
    | none => rw [ho] at h1; simp at h1
    | some o =>
      rw [ho] at h1
      simp only [Bool.and_eq_true] at h1
      refine ⟨o, rfl, fun e he hb => ?_, fun d hd hdi t ht => ?_⟩
      · have h2 := List.all_eq_true.1 h1.1 e (by simpa using he)
        simpa [hb] using h2
      · have h2 := List.all_eq_true.1 h1.2 d (List.mem_range.2 hd)
        simp only [Bool.or_eq_true, decide_eq_true_eq] at h2
        rcases h2 with h2 | h2
        · exact absurd h2 hdi
        · rw [ht] at h2
          simp only [Bool.and_eq_true, decide_eq_true_eq, Bool.or_eq_true, Bool.not_eq_true'] at h2
          refine ⟨h2.1, fun hm => ?_⟩
          rcases h2.2 with (h3 | h3) | h3
          · exact absurd hm (by simpa using h3)
          · exact .inl h3
          · exact .inr h3
  intro f
  induction f with
  | zero =>
    intro listed vs w inv hcnt hCw hVs
    have hall := cnt_zero n hcnt
    have hl : ∀ j, j < n → listed.getD j false = true := fun j hj => by simpa using hall j hj
    have he : listed = mask n ops.size := by
      refine Array.ext (by rw [inv.size]; simp [mask]) fun i h1 h2 => ?_
      have hi : i < ops.size := by rw [← inv.size]; exact h1
      have e2 : (mask n ops.size)[i] = decide (i < n) := by simp [mask]
      rw [e2]
      by_cases hin : i < n
      · have := hl i hin
        simpa [h1, hin] using this
      · have := inv.tail i (by omega) hi
        simpa [h1, hin] using this
    have ha : fill (dstOf ops) a0 (fun j => listed.getD j false) vs n = fill (dstOf ops) a0 (fun _ => true) vs n := fill_congr n (fun j hj => hl j hj) (fun _ _ _ => rfl)
    rw [Nat.zero_add, ha]
    have hlen : (ops.toList.drop n).length = ops.size - n := by simp
    rw [← hlen]
    refine wpAny_of_seq (ops.toList.drop n) n listed _ w (fun j => by simp [List.getElem?_drop]) ?_ (hend vs w hCw fun j hj => hVs j hj (hl j hj))
    rw [hlen, he]
    exact hq
  | succ f ih =>
    intro listed vs w inv hcnt hCw hVs
    obtain ⟨m, hm, hm1, hm2⟩ := cnt_pos n (by rw [hcnt]; omega)
    have hmun : listed.getD m false = false := by simpa using hm1
    have hmun' : listed.getD m true = false := getD_in (by rw [inv.size]; omega) hmun
    have hmr : m ∈ Region.ready md ops listed := by
      obtain ⟨o, ho, hedge, _⟩ := head m hm
      refine mem_ready.2 ⟨hmun', o, ho, fun e he hb => ?_⟩
      have := hm2 e.on (hedge e he hb)
      simpa using this
    rw [show f + 1 + (ops.size - n) = (f + (ops.size - n)) + 1 by omega]
    refine ⟨fun h0 => (by rw [h0] at hmr; cases hmr), fun i hi => ?_⟩
    have hin : i < n := by
      rcases Nat.lt_or_ge i n with h | h
      · exact h
      · rcases hs with hs | hs
        · obtain ⟨_, o, ho, _⟩ := mem_ready.1 hi
          have := (Array.getElem?_eq_some_iff.1 ho).1
          omega
        · have hnlt : n < ops.size := by
            obtain ⟨_, o, ho, _⟩ := mem_ready.1 hi
            have := (Array.getElem?_eq_some_iff.1 ho).1
            omega
          exact absurd hi (tail_waits hs hc hnlt inv _ m rfl hm hmun' i h)
    obtain ⟨hiun, o, ho, hall⟩ := mem_ready.1 hi
    have hiun' : listed.getD i false = false := getD_both hiun
    have hisz : i < listed.size := by rw [inv.size]; exact (Array.getElem?_eq_some_iff.1 ho).1
    obtain ⟨o', ho', _, hpair⟩ := head i hin
    obtain rfl : o' = o := Option.some.inj (ho'.symm.trans ho)
    have hdst : dstOf ops i = o'.dst := by unfold dstOf; rw [ho]; rfl
    have hwl : ∀ d, waits md ops i d = true → listed.getD d false = true := by
      intro d hw
      obtain ⟨oj, hoj, e, he, hb, hon⟩ := Region.waitsFor_spec hw
      obtain rfl : oj = o' := Option.some.inj (hoj.symm.trans ho)
      rw [← hon]
      exact hall e he hb
    have hlw : ∀ d, listed.getD d false = true → waits md ops d i = true → False := by
      intro d hl hw
      obtain ⟨oj, hoj, e, he, hb, hon⟩ := Region.waitsFor_spec hw
      have := inv.closed d oj hoj hl e he hb
      rw [hon, hiun'] at this
      cases this
    obtain ⟨lk, hlk, hst⟩ := hstep i o' hin ho
    have hlook := List.all_eq_true.1 hL i (List.mem_range.2 hin)
    rw [ho, hlk] at hlook
    simp only [Bool.and_eq_true] at hlook
    have hown : OwnAll V (fill (dstOf ops) a0 (fun j => listed.getD j false) vs n) w lk.own := by
      have : ∀ l : List (Tmp × Nat), (∀ p, p ∈ l → p ∈ lk.own) → OwnAll V (fill (dstOf ops) a0 (fun j => listed.getD j false) vs n) w l := by
        intro l
        induction l with
        | nil => intro _; trivial
        | cons p r ihr =>
          intro hm'
          refine ⟨?_, ihr fun q hq => hm' q (List.mem_cons_of_mem _ hq)⟩
          have h1 := List.all_eq_true.1 hlook.1 p (hm' p List.mem_cons_self)
          simp only [Bool.and_eq_true, decide_eq_true_eq] at h1
          obtain ⟨⟨hd, hdt⟩, hw⟩ := h1
          have hld := hwl p.2 hw
          have he : (fill (dstOf ops) a0 (fun j => listed.getD j false) vs n).eval (.tmp p.1) = vs p.2 := by
            refine eval_fill_some (hsz p.2 p.1 hd hdt) hdt hld n hd fun j hj hjd => ?_
            obtain ⟨oj, hoj, _, hpj⟩ := head j hj
            have := (hpj p.2 hd (Ne.symm hjd) p.1 hdt).1
            unfold dstOf
            rw [hoj]
            exact this
          rw [he]
          exact hVs p.2 hd hld
      exact this lk.own fun _ h => h
    have hold : OldAll a0 (fill (dstOf ops) a0 (fun j => listed.getD j false) vs n) lk.old := by
      have : ∀ l : List Tmp, (∀ t, t ∈ l → t ∈ lk.old) → OldAll a0 (fill (dstOf ops) a0 (fun j => listed.getD j false) vs n) l := by
        intro l
        induction l with
        | nil => intro _; trivial
        | cons t r ihr =>
          intro hm'
          refine ⟨?_, ihr fun q hq => hm' q (List.mem_cons_of_mem _ hq)⟩
          have h1 := List.all_eq_true.1 hlook.2 t (hm' t List.mem_cons_self)
          simp only [Bool.and_eq_true] at h1
          refine eval_fill_none n fun j hj hl hjt => ?_
          have h2 := List.all_eq_true.1 h1.2 j (List.mem_range.2 hj)
          simp only [Bool.or_eq_true, decide_eq_true_eq] at h2
          rcases h2 with (h3 | h3) | h3
          · subst h3
            rw [hiun'] at hl
            cases hl
          · exact h3 hjt
          · exact hlw j hl h3
      exact this lk.old fun _ h => h
    have key := hst (fill (dstOf ops) a0 (fun j => listed.getD j false) vs n) w (wpAny P md ops Q (f + (ops.size - n)) (listed.setIfInBounds i true)) hCw hown hold
      (fun v w' hv hc' hev => by
        have e1 : (fill (dstOf ops) a0 (fun j => listed.getD j false) vs n).put o'.dst v = fill (dstOf ops) a0 (fun j => (listed.setIfInBounds i true).getD j false) (set1 vs i v) n := by
          rw [← hdst, fill_put hiun' n hin]
          · refine fill_congr n (fun j hj => ?_) (fun _ _ _ => rfl)
            unfold set1
            by_cases hji : j = i
            · subst hji
              rw [if_pos rfl]
              simp [hisz]
            · rw [if_neg hji, getD_set_ne false (Ne.symm hji)]
          · intro j hj hji d hdj hdi
            rw [hdst] at hdi
            exact (hpair j hj hji d hdj).1 hdi
        rw [e1]
        refine ih _ _ _ (inv.set hi hin) ?_ hc' ?_
        · have h1 := cnt_set (p := fun j => !listed.getD j false) (i := i) (by simp only [hiun']; rfl) n hin
          have h2 : cnt (fun j => !(listed.setIfInBounds i true).getD j false) n = cnt (set1 (fun j => !listed.getD j false) i false) n := by
            refine cnt_congr n fun j hj => ?_
            unfold set1
            by_cases hji : j = i
            · subst hji
              rw [if_pos rfl]
              simp [hisz]
            · rw [if_neg hji, getD_set_ne false (Ne.symm hji)]
          rw [h2]
          omega
        · intro j hj hl
          unfold set1
          by_cases hji : j = i
          · subst hji
            rw [if_pos rfl]
            exact hv
          · rw [if_neg hji]
            rw [getD_set_ne false (Ne.symm hji)] at hl
            exact hV j _ _ _ (hVs j hj hl) hev)
    unfold wpOp
    rw [ho]
    show if Region.wanted o' _ then _ else _
    split
    · rename_i hw
      rw [if_pos hw] at key
      exact .inl key
    · rename_i hw
      rw [if_neg hw] at key
      exact key

/-- **A REGION THAT DRAWS ITS ORDER, ITS HEAD'S OPERATIONS SHOWN ONE BY ONE, EACH IN WHATEVER WORLD OF THE CLASS; ITS TAIL (forced) WALKED IN THE ORDER OF THE TEXT.** -/
theorem wp_region_loose {id : Nat} {l : List Oper} {Q : Exit → Act → World → Prop} {a0 : Act} {w0 : World} (n : Nat) (C : World → Prop) (Ev : World → World → Prop) (V : Nat → Value → World → Prop)
    (hm : P.follows .mixedOrders = true) (hB : looseB .any l.toArray n = true) (hC0 : C w0.drew) (hV : ∀ j v w w', V j v w → Ev w w' → V j v w')
    (hsz : ∀ j t, j < n → dstOf l.toArray j = some t → t < a0.tmps.size)
    (lks : List Look) (hL : lookB .any l.toArray n lks = true) (hstep : Steps P l.toArray Q a0 C Ev V 0 (l.take n) lks)
    (hend : ∀ vs w, C w → (∀ j, j < n → V j (vs j) w) → wpList P l.toArray Q (l.drop n) (fill (dstOf l.toArray) a0 (fun _ => true) vs n) w) :
    (Code.region id l.toArray true).wp P Q a0 w0 := by
  refine wp_region_any hm ?_
  have hn : n ≤ l.toArray.size := by
    simp only [looseB, Bool.and_eq_true, decide_eq_true_eq] at hB
    exact hB.1.1.1.1
  have inv0 : HeadInv .any l.toArray n (Array.replicate l.toArray.size false) :=
    ⟨by simp, fun j oj _ hl => (by rw [getD_replicate_false] at hl; cases hl), fun t _ ht => getD_in (by simpa using ht) (getD_replicate_false _ _)⟩
  have hcn : ∀ k, cnt (fun j => !(Array.replicate l.toArray.size false).getD j false) k = k := by
    intro k
    induction k with
    | zero => rfl
    | succ k ih => unfold cnt; rw [ih, getD_replicate_false]; rfl
  have hst : ∀ i o, i < n → l.toArray[i]? = some o → ∃ lk, lks[i]? = some lk ∧ StepOk P l.toArray Q a0 C Ev V i o lk := fun i o hi ho => by
    obtain ⟨lk, h1, h2⟩ := steps_at (l.take n) lks 0 hstep i o (by rw [List.getElem?_take_of_lt hi]; simpa using ho)
    rw [Nat.zero_add] at h2
    exact ⟨lk, h1, h2⟩
  have H := loose_all (P := P) (md := .any) (Q := Q) (a0 := a0) hB hV hsz hL hst hend n (Array.replicate l.toArray.size false) (fun _ => undef) w0.drew inv0 (hcn n) hC0 (fun j _ hl => by rw [getD_replicate_false] at hl; cases hl)
  have e : fill (dstOf l.toArray) a0 (fun j => (Array.replicate l.toArray.size false).getD j false) (fun _ => undef) n = a0 := by
    have : ∀ k, fill (dstOf l.toArray) a0 (fun j => (Array.replicate l.toArray.size false).getD j false) (fun _ => undef) k = a0 := by
      intro k
      induction k with
      | zero => rfl
      | succ k ih => unfold fill; rw [getD_replicate_false]; exact ih
    exact this n
  rw [e, show n + (l.toArray.size - n) = l.toArray.size by omega] at H
  exact H


def sizeB (ops : Array Oper) (n m : Nat) : Bool := (List.range n).all fun j => match dstOf ops j with
  | none => true
  | some t => decide (t < m)
theorem sizeB_spec {n m : Nat} (h : sizeB ops n m = true) : ∀ j t, j < n → dstOf ops j = some t → t < m := by
  intro j t hj ht
  have h1 := List.all_eq_true.1 h j (List.mem_range.2 hj)
  rw [ht] at h1
  simpa using h1

open Go.RowKit in
/-- the class: what was there when the region began lies as it lay. -/
theorem wp_region_below {id : Nat} {l : List Oper} {Q : Exit → Act → World → Prop} {a0 : Act} {w0 : World} (n m : Nat) (V : Nat → Value → World → Prop) (lks : List Look)
    (hm : P.follows .mixedOrders = true) (hB : looseB .any l.toArray n = true) (hL : lookB .any l.toArray n lks = true) (hS : sizeB l.toArray n m = true) (ha : a0.tmps.size = m)
    (hV : ∀ j v w w', V j v w → Below w.heap.size w w' → V j v w')
    (hst : Steps P l.toArray Q a0 (fun w' => Below w0.heap.size w0 w') (fun w1 w2 => Below w1.heap.size w1 w2) V 0 (l.take n) lks)
    (hend : ∀ vs w, Below w0.heap.size w0 w → (∀ j, j < n → V j (vs j) w) → wpList P l.toArray Q (l.drop n) (fill (dstOf l.toArray) a0 (fun _ => true) vs n) w) :
    (Code.region id l.toArray true).wp P Q a0 w0 :=
  wp_region_loose n (fun w' => Below w0.heap.size w0 w') (fun w1 w2 => Below w1.heap.size w1 w2) V hm hB (Below.refl _ w0).drew hV (fun j t hj ht => by rw [ha]; exact sizeB_spec hS j t hj ht) lks hL hst hend

/-! ### one step -/
variable {Q : Exit → Act → World → Prop} {a0 : Act} {C : World → Prop} {Ev : World → World → Prop} {V : Nat → Value → World → Prop} {i : Nat} {o : Oper} {lk : Look}
theorem step_plain (hg : o.guard = none)
    (h : ∀ (a : Act) (w : World) (K : Act → World → Prop), C w → OwnAll V a w lk.own → OldAll a0 a lk.old → (∀ v w', V i v w' → C w' → Ev w w' → K (a.put o.dst v) w') → o.wp P a w K Q) : StepOk P ops Q a0 C Ev V i o lk := by
  intro a w K hC h1 h2 hK
  rw [if_pos (by simp [Region.wanted, hg])]
  exact h a w K hC h1 h2 hK
theorem eval_bool {a : Act} {t : Tmp} {b : Bool} (h : a.eval (.tmp t) = .bool b) : a.tmps[t]? = some (.bool b) := by
  simp only [Act.eval] at h
  cases h2 : a.tmps[t]? with
  | none => simp [h2, undef] at h
  | some v => simp [h2] at h; rw [h]
theorem evg {a : Act} {t : Tmp} {v : Value} (h : a.eval (.tmp t) = v) : a.tmps[t]?.getD undef = v := by simpa [Act.eval] using h
theorem own_mem {a : Act} {w : World} {p : Tmp × Nat} : ∀ {l : List (Tmp × Nat)}, OwnAll V a w l → p ∈ l → V p.2 (a.eval (.tmp p.1)) w
  | [], _, h => by cases h
  | q :: r, h1, h => by
    rcases List.mem_cons.1 h with rfl | h
    · exact h1.1
    · exact own_mem h1.2 h
theorem step_want {j : Nat} {t : Tmp} {b : Bool} (hg : o.guard = some (j, b)) (hd : dstOf ops j = some t) (hm : (t, j) ∈ lk.own) (hb : ∀ v w, V j v w → v = .bool b)
    (h : ∀ (a : Act) (w : World) (K : Act → World → Prop), C w → OwnAll V a w lk.own → OldAll a0 a lk.old → (∀ v w', V i v w' → C w' → Ev w w' → K (a.put o.dst v) w') → o.wp P a w K Q) : StepOk P ops Q a0 C Ev V i o lk := by
  intro a w K hC h1 h2 hK
  have e := eval_bool (hb _ _ (own_mem h1 hm))
  have hd' : ((ops[j]?).bind (·.dst)) = some t := hd
  rw [if_pos (by simp [Region.wanted, hg, yielded, hd', e])]
  exact h a w K hC h1 h2 hK
theorem step_skip {j : Nat} {t : Tmp} {b : Bool} (hg : o.guard = some (j, b)) (hd : dstOf ops j = some t) (hm : (t, j) ∈ lk.own) (hb : ∀ v w, V j v w → v = .bool (!b)) (hE : ∀ w, Ev w w) (hu : ∀ w, V i undef w) : StepOk P ops Q a0 C Ev V i o lk := by
  intro a w K hC h1 h2 hK
  have e := eval_bool (hb _ _ (own_mem h1 hm))
  have hd' : ((ops[j]?).bind (·.dst)) = some t := hd
  rw [if_neg (by simp [Region.wanted, hg, yielded, hd', e])]
  exact hK _ _ (hu w) hC (hE w)

end
end Go.Proofs.Ytiidfcadmdahmaa
