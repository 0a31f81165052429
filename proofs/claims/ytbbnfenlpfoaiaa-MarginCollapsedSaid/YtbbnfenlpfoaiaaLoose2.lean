/- REGIONS: as Loose has it, but what an operation yields may be told by what those before it yielded (an alloc, and the store into it); over any program. -/
import Derived.Test.YtbbnfenlpfoaiaaLoose
namespace Go.Proofs.Ytbbnfenlpfoaiaa
open Go

section
variable {P : Program} {ops : Array Oper} {md : Region.Mode}

def OwnAll2 (V : Nat → (Nat → Value) → World → Prop) (a : Act) (vs : Nat → Value) (w : World) : List (Tmp × Nat) → Prop
  | [] => True
  | p :: r => (a.eval (.tmp p.1) = vs p.2 ∧ V p.2 vs w) ∧ OwnAll2 V a vs w r
def StepOk2 (P : Program) (ops : Array Oper) (Q : Exit → Act → World → Prop) (a0 : Act) (C : World → Prop) (Ev : World → World → Prop) (V : Nat → (Nat → Value) → World → Prop) (i : Nat) (o : Oper) (lk : Look) : Prop :=
  ∀ (a : Act) (vs : Nat → Value) (w : World) (K : Act → World → Prop), C w → OwnAll2 V a vs w lk.own → OldAll a0 a lk.old →
    (∀ v w', V i (set1 vs i v) w' → C w' → Ev w w' → K (a.put o.dst v) w') →
    if Region.wanted o (yielded ops a.tmps) then o.wp P a w K Q else K (a.put o.dst undef) w
def Steps2 (P : Program) (ops : Array Oper) (Q : Exit → Act → World → Prop) (a0 : Act) (C : World → Prop) (Ev : World → World → Prop) (V : Nat → (Nat → Value) → World → Prop) : Nat → List Oper → List Look → Prop
  | i, o :: os, lk :: lks => StepOk2 P ops Q a0 C Ev V i o lk ∧ Steps2 P ops Q a0 C Ev V (i + 1) os lks
  | _, [], [] => True
  | _, _, _ => False
theorem steps2_at {Q : Exit → Act → World → Prop} {a0 : Act} {C : World → Prop} {Ev : World → World → Prop} {V : Nat → (Nat → Value) → World → Prop} :
    ∀ (os : List Oper) (lks : List Look) (k : Nat), Steps2 P ops Q a0 C Ev V k os lks → ∀ j o, os[j]? = some o → ∃ lk, lks[j]? = some lk ∧ StepOk2 P ops Q a0 C Ev V (k + j) o lk
  | [], _, _, _, j, o, h => by simp at h
  | _ :: _, [], _, h, _, _, _ => h.elim
  | o' :: os, lk :: lks, k, h, 0, o, ho => by
    obtain rfl : o' = o := by simpa using ho
    exact ⟨lk, rfl, h.1⟩
  | o' :: os, lk :: lks, k, h, j + 1, o, ho => by
    obtain ⟨lk', h1, h2⟩ := steps2_at os lks (k + 1) h.2 j o (by simpa using ho)
    exact ⟨lk', by simpa using h1, by rw [show k + (j + 1) = k + 1 + j by omega]; exact h2⟩
/-- what an operation's yield may be told by: operations that it waits for. -/
def depsB (md : Region.Mode) (ops : Array Oper) (n : Nat) (deps : List (Nat × List Nat)) : Bool :=
  deps.all fun p => p.2.all fun d => decide (d < n) && waits md ops p.1 d

theorem loose2_all {Q : Exit → Act → World → Prop} {a0 : Act} {n : Nat} {C : World → Prop} {Ev : World → World → Prop} {V : Nat → (Nat → Value) → World → Prop} {deps : List (Nat × List Nat)}
    (hB : looseB md ops n = true) (hD : depsB md ops n deps = true) (hVc : ∀ j vs vs' w, vs j = vs' j → (∀ p ∈ deps, p.1 = j → ∀ d ∈ p.2, vs d = vs' d) → V j vs w → V j vs' w) (hV : ∀ j vs w w', V j vs w → Ev w w' → V j vs w')
    (hsz : ∀ j t, j < n → dstOf ops j = some t → t < a0.tmps.size)
    {lks : List Look} (hL : lookB md ops n lks = true) (hstep : ∀ i o, i < n → ops[i]? = some o → ∃ lk, lks[i]? = some lk ∧ StepOk2 P ops Q a0 C Ev V i o lk)
    (hend : ∀ vs w, C w → (∀ j, j < n → V j vs w) → wpList P ops Q (ops.toList.drop n) (fill (dstOf ops) a0 (fun _ => true) vs n) w) :
    ∀ (f : Nat) (listed : Array Bool) (vs : Nat → Value) (w : World), HeadInv md ops n listed → cnt (fun j => !listed.getD j false) n = f → C w → (∀ j, j < n → listed.getD j false = true → V j vs w) →
      wpAny P md ops Q (f + (ops.size - n)) listed (fill (dstOf ops) a0 (fun j => listed.getD j false) vs n) w := by
  simp only [looseB, Bool.and_eq_true, decide_eq_true_eq, Bool.or_eq_true] at hB
  obtain ⟨⟨⟨⟨hn, hh⟩, hs⟩, hc⟩, hq⟩ := hB
  have head : ∀ i, i < n → ∃ o, ops[i]? = some o ∧ (∀ e ∈ o.after, Region.binds md e = true → e.on < i) ∧
      ∀ d, d < n → d ≠ i → ∀ t, dstOf ops d = some t → o.dst ≠ some t ∧ (t ∈ o.looksAt ops → waits md ops i d = true ∨ waits md ops d i = true) := by
    intro i hi
    have h1 := List.all_eq_true.1 hh i (List.mem_range.2 hi)
    cases ho : ops[i]? with
    | none => rw [ho] at h1; simp at h1
    | some o =>
      rw [ho] at h1
      simp only [Bool.and_eq_true] at h1
      refine ⟨o, rfl, fun e he hb => ?_, fun d hd hdi t ht => ?_⟩
      · have h2 := List.all_eq_true.1 h1.1 e (by simpa using he)
        simpa [hb] using h2
      · have h2 := List.all_eq_true.1 h1.2 d (List.mem_range.2 hd)
        simp only [Bool.or_eq_true, decide_eq_true_eq] at h2
        rcases h2 with h2 | h2
        · exact absurd h2 hdi
        · rw [ht] at h2
          simp only [Bool.and_eq_true, decide_eq_true_eq, Bool.or_eq_true, Bool.not_eq_true'] at h2
          refine ⟨h2.1, fun hm => ?_⟩
          rcases h2.2 with (h3 | h3) | h3
          · exact absurd hm (by simpa using h3)
          · exact .inl h3
          · exact .inr h3
  intro f
  induction f with
  | zero =>
    intro listed vs w inv hcnt hCw hVs
    have hall := cnt_zero n hcnt
    have hl : ∀ j, j < n → listed.getD j false = true := fun j hj => by simpa using hall j hj
    have he : listed = mask n ops.size := by
      refine Array.ext (by rw [inv.size]; simp [mask]) fun i h1 h2 => ?_
      have hi : i < ops.size := by rw [← inv.size]; exact h1
      have e2 : (mask n ops.size)[i] = decide (i < n) := by simp [mask]
      rw [e2]
      by_cases hin : i < n
      · have := hl i hin
        simpa [h1, hin] using this
      · have := inv.tail i (by omega) hi
        simpa [h1, hin] using this
    have ha : fill (dstOf ops) a0 (fun j => listed.getD j false) vs n = fill (dstOf ops) a0 (fun _ => true) vs n := fill_congr n (fun j hj => hl j hj) (fun _ _ _ => rfl)
    rw [Nat.zero_add, ha]
    have hlen : (ops.toList.drop n).length = ops.size - n := by simp
    rw [← hlen]
    refine wpAny_of_seq (ops.toList.drop n) n listed _ w (fun j => by simp [List.getElem?_drop]) ?_ (hend vs w hCw fun j hj => hVs j hj (hl j hj))
    rw [hlen, he]
    exact hq
  | succ f ih =>
    intro listed vs w inv hcnt hCw hVs
    obtain ⟨m, hm, hm1, hm2⟩ := cnt_pos n (by rw [hcnt]; omega)
    have hmun : listed.getD m false = false := by simpa using hm1
    have hmun' : listed.getD m true = false := getD_in (by rw [inv.size]; omega) hmun
    have hmr : m ∈ Region.ready md ops listed := by
      obtain ⟨o, ho, hedge, _⟩ := head m hm
      refine mem_ready.2 ⟨hmun', o, ho, fun e he hb => ?_⟩
      have := hm2 e.on (hedge e he hb)
      simpa using this
    rw [show f + 1 + (ops.size - n) = (f + (ops.size - n)) + 1 by omega]
    refine ⟨fun h0 => (by rw [h0] at hmr; cases hmr), fun i hi => ?_⟩
    have hin : i < n := by
      rcases Nat.lt_or_ge i n with h | h
      · exact h
      · rcases hs with hs | hs
        · obtain ⟨_, o, ho, _⟩ := mem_ready.1 hi
          have := (Array.getElem?_eq_some_iff.1 ho).1
          omega
        · have hnlt : n < ops.size := by
            obtain ⟨_, o, ho, _⟩ := mem_ready.1 hi
            have := (Array.getElem?_eq_some_iff.1 ho).1
            omega
          exact absurd hi (tail_waits hs hc hnlt inv _ m rfl hm hmun' i h)
    obtain ⟨hiun, o, ho, hall⟩ := mem_ready.1 hi
    have hiun' : listed.getD i false = false := getD_both hiun
    have hisz : i < listed.size := by rw [inv.size]; exact (Array.getElem?_eq_some_iff.1 ho).1
    obtain ⟨o', ho', _, hpair⟩ := head i hin
    obtain rfl : o' = o := Option.some.inj (ho'.symm.trans ho)
    have hdst : dstOf ops i = o'.dst := by unfold dstOf; rw [ho]; rfl
    have hwl : ∀ d, waits md ops i d = true → listed.getD d false = true := by
      intro d hw
      obtain ⟨oj, hoj, e, he, hb, hon⟩ := Region.waitsFor_spec hw
      obtain rfl : oj = o' := Option.some.inj (hoj.symm.trans ho)
      rw [← hon]
      exact hall e he hb
    have hlw : ∀ d, listed.getD d false = true → waits md ops d i = true → False := by
      intro d hl hw
      obtain ⟨oj, hoj, e, he, hb, hon⟩ := Region.waitsFor_spec hw
      have := inv.closed d oj hoj hl e he hb
      rw [hon, hiun'] at this
      cases this
    obtain ⟨lk, hlk, hst⟩ := hstep i o' hin ho
    have hlook := List.all_eq_true.1 hL i (List.mem_range.2 hin)
    rw [ho, hlk] at hlook
    simp only [Bool.and_eq_true] at hlook
    have hown : OwnAll2 V (fill (dstOf ops) a0 (fun j => listed.getD j false) vs n) vs w lk.own := by
      have : ∀ l : List (Tmp × Nat), (∀ p, p ∈ l → p ∈ lk.own) → OwnAll2 V (fill (dstOf ops) a0 (fun j => listed.getD j false) vs n) vs w l := by
        intro l
        induction l with
        | nil => intro _; trivial
        | cons p r ihr =>
          intro hm'
          refine ⟨?_, ihr fun q hq => hm' q (List.mem_cons_of_mem _ hq)⟩
          have h1 := List.all_eq_true.1 hlook.1 p (hm' p List.mem_cons_self)
          simp only [Bool.and_eq_true, decide_eq_true_eq] at h1
          obtain ⟨⟨hd, hdt⟩, hw⟩ := h1
          have hld := hwl p.2 hw
          have he : (fill (dstOf ops) a0 (fun j => listed.getD j false) vs n).eval (.tmp p.1) = vs p.2 := by
            refine eval_fill_some (hsz p.2 p.1 hd hdt) hdt hld n hd fun j hj hjd => ?_
            obtain ⟨oj, hoj, _, hpj⟩ := head j hj
            have := (hpj p.2 hd (Ne.symm hjd) p.1 hdt).1
            unfold dstOf
            rw [hoj]
            exact this
          exact ⟨he, hVs p.2 hd hld⟩
      exact this lk.own fun _ h => h
    have hold : OldAll a0 (fill (dstOf ops) a0 (fun j => listed.getD j false) vs n) lk.old := by
      have : ∀ l : List Tmp, (∀ t, t ∈ l → t ∈ lk.old) → OldAll a0 (fill (dstOf ops) a0 (fun j => listed.getD j false) vs n) l := by
        intro l
        induction l with
        | nil => intro _; trivial
        | cons t r ihr =>
          intro hm'
          refine ⟨?_, ihr fun q hq => hm' q (List.mem_cons_of_mem _ hq)⟩
          have h1 := List.all_eq_true.1 hlook.2 t (hm' t List.mem_cons_self)
          simp only [Bool.and_eq_true] at h1
          refine eval_fill_none n fun j hj hl hjt => ?_
          have h2 := List.all_eq_true.1 h1.2 j (List.mem_range.2 hj)
          simp only [Bool.or_eq_true, decide_eq_true_eq] at h2
          rcases h2 with (h3 | h3) | h3
          · subst h3
            rw [hiun'] at hl
            cases hl
          · exact h3 hjt
          · exact hlw j hl h3
      exact this lk.old fun _ h => h
    have key := hst (fill (dstOf ops) a0 (fun j => listed.getD j false) vs n) vs w (wpAny P md ops Q (f + (ops.size - n)) (listed.setIfInBounds i true)) hCw hown hold
      (fun v w' hv hc' hev => by
        have e1 : (fill (dstOf ops) a0 (fun j => listed.getD j false) vs n).put o'.dst v = fill (dstOf ops) a0 (fun j => (listed.setIfInBounds i true).getD j false) (set1 vs i v) n := by
          rw [← hdst, fill_put hiun' n hin]
          · refine fill_congr n (fun j hj => ?_) (fun _ _ _ => rfl)
            unfold set1
            by_cases hji : j = i
            · subst hji
              rw [if_pos rfl]
              simp [hisz]
            · rw [if_neg hji, getD_set_ne false (Ne.symm hji)]
          · intro j hj hji d hdj hdi
            rw [hdst] at hdi
            exact (hpair j hj hji d hdj).1 hdi
        rw [e1]
        refine ih _ _ _ (inv.set hi hin) ?_ hc' ?_
        · have h1 := cnt_set (p := fun j => !listed.getD j false) (i := i) (by simp only [hiun']; rfl) n hin
          have h2 : cnt (fun j => !(listed.setIfInBounds i true).getD j false) n = cnt (set1 (fun j => !listed.getD j false) i false) n := by
            refine cnt_congr n fun j hj => ?_
            unfold set1
            by_cases hji : j = i
            · subst hji
              rw [if_pos rfl]
              simp [hisz]
            · rw [if_neg hji, getD_set_ne false (Ne.symm hji)]
          rw [h2]
          omega
        · intro j hj hl
          by_cases hji : j = i
          · subst hji
            exact hv
          · rw [getD_set_ne false (Ne.symm hji)] at hl
            refine hVc j vs _ _ (by unfold set1; rw [if_neg hji]) (fun p hp hpj d hd => ?_) (hV j _ _ _ (hVs j hj hl) hev)
            have h1 := List.all_eq_true.1 (List.all_eq_true.1 hD p hp) d hd
            simp only [Bool.and_eq_true, decide_eq_true_eq] at h1
            obtain ⟨oj, hoj, e, he, hb, hon⟩ := Region.waitsFor_spec h1.2
            have hld := inv.closed p.1 oj hoj (by rw [hpj]; exact hl) e he hb
            rw [hon] at hld
            unfold set1
            rw [if_neg (fun e => by rw [e, hiun'] at hld; cases hld)])
    unfold wpOp
    rw [ho]
    show if Region.wanted o' _ then _ else _
    split
    · rename_i hw
      rw [if_pos hw] at key
      exact .inl key
    · rename_i hw
      rw [if_neg hw] at key
      exact key

/-- **A REGION THAT DRAWS ITS ORDER, ITS HEAD'S OPERATIONS SHOWN ONE BY ONE, EACH IN WHATEVER WORLD OF THE CLASS; ITS TAIL (forced) WALKED IN THE ORDER OF THE TEXT.** -/
theorem wp_region_loose2 {id : Nat} {l : List Oper} {Q : Exit → Act → World → Prop} {a0 : Act} {w0 : World} (n : Nat) (C : World → Prop) (Ev : World → World → Prop) (V : Nat → (Nat → Value) → World → Prop) (deps : List (Nat × List Nat))
    (hm : P.follows .mixedOrders = true) (hB : looseB .any l.toArray n = true) (hC0 : C w0.drew) (hD : depsB .any l.toArray n deps = true) (hVc : ∀ j vs vs' w, vs j = vs' j → (∀ p ∈ deps, p.1 = j → ∀ d ∈ p.2, vs d = vs' d) → V j vs w → V j vs' w) (hV : ∀ j vs w w', V j vs w → Ev w w' → V j vs w')
    (hsz : ∀ j t, j < n → dstOf l.toArray j = some t → t < a0.tmps.size)
    (lks : List Look) (hL : lookB .any l.toArray n lks = true) (hstep : Steps2 P l.toArray Q a0 C Ev V 0 (l.take n) lks)
    (hend : ∀ vs w, C w → (∀ j, j < n → V j vs w) → wpList P l.toArray Q (l.drop n) (fill (dstOf l.toArray) a0 (fun _ => true) vs n) w) :
    (Code.region id l.toArray true).wp P Q a0 w0 := by
  refine wp_region_any hm ?_
  have hn : n ≤ l.toArray.size := by
    simp only [looseB, Bool.and_eq_true, decide_eq_true_eq] at hB
    exact hB.1.1.1.1
  have inv0 : HeadInv .any l.toArray n (Array.replicate l.toArray.size false) :=
    ⟨by simp, fun j oj _ hl => (by rw [getD_replicate_false] at hl; cases hl), fun t _ ht => getD_in (by simpa using ht) (getD_replicate_false _ _)⟩
  have hcn : ∀ k, cnt (fun j => !(Array.replicate l.toArray.size false).getD j false) k = k := by
    intro k
    induction k with
    | zero => rfl
    | succ k ih => unfold cnt; rw [ih, getD_replicate_false]; rfl
  have hst : ∀ i o, i < n → l.toArray[i]? = some o → ∃ lk, lks[i]? = some lk ∧ StepOk2 P l.toArray Q a0 C Ev V i o lk := fun i o hi ho => by
    obtain ⟨lk, h1, h2⟩ := steps2_at (l.take n) lks 0 hstep i o (by rw [List.getElem?_take_of_lt hi]; simpa using ho)
    rw [Nat.zero_add] at h2
    exact ⟨lk, h1, h2⟩
  have H := loose2_all (P := P) (md := .any) (Q := Q) (a0 := a0) hB hD hVc hV hsz hL hst hend n (Array.replicate l.toArray.size false) (fun _ => undef) w0.drew inv0 (hcn n) hC0 (fun j _ hl => by rw [getD_replicate_false] at hl; cases hl)
  have e : fill (dstOf l.toArray) a0 (fun j => (Array.replicate l.toArray.size false).getD j false) (fun _ => undef) n = a0 := by
    have : ∀ k, fill (dstOf l.toArray) a0 (fun j => (Array.replicate l.toArray.size false).getD j false) (fun _ => undef) k = a0 := by
      intro k
      induction k with
      | zero => rfl
      | succ k ih => unfold fill; rw [getD_replicate_false]; exact ih
    exact this n
  rw [e, show n + (l.toArray.size - n) = l.toArray.size by omega] at H
  exact H



/-! ### one step -/
variable {Q : Exit → Act → World → Prop} {a0 : Act} {C : World → Prop} {Ev : World → World → Prop} {V : Nat → (Nat → Value) → World → Prop} {i : Nat} {o : Oper} {lk : Look}
theorem step2_plain (hg : o.guard = none)
    (h : ∀ (a : Act) (vs : Nat → Value) (w : World) (K : Act → World → Prop), C w → OwnAll2 V a vs w lk.own → OldAll a0 a lk.old → (∀ v w', V i (set1 vs i v) w' → C w' → Ev w w' → K (a.put o.dst v) w') → o.wp P a w K Q) : StepOk2 P ops Q a0 C Ev V i o lk := by
  intro a vs w K hC h1 h2 hK
  rw [if_pos (by simp [Region.wanted, hg])]
  exact h a vs w K hC h1 h2 hK
theorem own2_mem {a : Act} {vs : Nat → Value} {w : World} {p : Tmp × Nat} : ∀ {l : List (Tmp × Nat)}, OwnAll2 V a vs w l → p ∈ l → a.eval (.tmp p.1) = vs p.2 ∧ V p.2 vs w
  | [], _, h => by cases h
  | q :: r, h1, h => by
    rcases List.mem_cons.1 h with rfl | h
    · exact h1.1
    · exact own2_mem h1.2 h
theorem step2_want {j : Nat} {t : Tmp} {b : Bool} (hg : o.guard = some (j, b)) (hd : dstOf ops j = some t) (hm : (t, j) ∈ lk.own) (hb : ∀ vs w, V j vs w → vs j = .bool b)
    (h : ∀ (a : Act) (vs : Nat → Value) (w : World) (K : Act → World → Prop), C w → OwnAll2 V a vs w lk.own → OldAll a0 a lk.old → (∀ v w', V i (set1 vs i v) w' → C w' → Ev w w' → K (a.put o.dst v) w') → o.wp P a w K Q) : StepOk2 P ops Q a0 C Ev V i o lk := by
  intro a vs w K hC h1 h2 hK
  have hm2 := own2_mem h1 hm
  have e := eval_bool (hm2.1.trans (hb _ _ hm2.2))
  have hd' : ((ops[j]?).bind (·.dst)) = some t := hd
  rw [if_pos (by simp [Region.wanted, hg, yielded, hd', e])]
  exact h a vs w K hC h1 h2 hK
theorem set1_at {α : Type} (f : Nat → α) (i : Nat) (v : α) : set1 f i v i = v := by unfold set1; rw [if_pos rfl]
theorem set1_ne {α : Type} (f : Nat → α) {i j : Nat} (v : α) (h : j ≠ i) : set1 f i v j = f j := by unfold set1; rw [if_neg h]
end
end Go.Proofs.Ytbbnfenlpfoaiaa
