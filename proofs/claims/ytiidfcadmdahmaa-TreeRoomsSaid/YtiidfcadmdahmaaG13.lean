/- ENGINE (second) 13: ranges over functions: the iterator's text is walked where it is called, the rounds where it calls yield; over any program. -/
/- G -/
import Derived.Test.YtiidfcadmdahmaaG12
set_option linter.unusedSimpArgs false
set_option linter.unusedVariables false
namespace Go.Proofs.Ytiidfcadmdahmaa
open Go.RowKit

theorem Mod.refit {c : Ctx} {p : Nat → Prop} {ρ : Env} {S : AS} {tm : Array Value} {w : World} (h : Mod c p ρ S tm w) (N' : Nat) (D' : Nat → Prop) (t' : List (Nat × AV)) (lg' : Option (List (List Nat × List Nat))) (tm' : Array Value) (hN : tm'.size = N') (ht : ∀ d, Rep ρ ((find t' d).getD .dead) (tm'.getD d undef)) (hD : ∀ g, D' g → c.w0.heap.size ≤ g ∧ w.heap[g]? = some (.deferred (some []))) :
    Mod ⟨N', c.M, c.w0, c.ρ0, D'⟩ p ρ ⟨t', S.s, lg'⟩ tm' w :=
  ⟨hN, h.base, h.baseR, h.lo, h.dom, ht, h.objs, h.apart, h.old, h.ro, h.rsep, h.rnew, h.rdf, hD, h.frame⟩
theorem Mod.allocs {c : Ctx} {p : Nat → Prop} {ρ : Env} {S : AS} {tm : Array Value} {w : World} (h : Mod c p ρ S tm w) (ob : Obj) : Mod c p ρ S tm (w.alloc ob) :=
  h.step0 [] (fun _ _ e => e) rfl (fun _ _ => rfl) (fun _ e => e) h.dom rfl rfl rfl (by simp) (fun g hg _ => Below.heap_alloc w ob g hg) (fun i o hf => by cases hf) (fun i j oi oj x y _ hf => by cases hf)
theorem Mod.drop1 {c : Ctx} {p : Nat → Prop} {ρ : Env} {S : AS} {tm : Array Value} {w : World} (h : Mod c p ρ S tm w) (k : Nat) : Mod c p ρ (S.upd [(k, none)]) tm w := by
  refine h.step0 [(k, none)] (fun _ _ e => e) rfl (fun _ _ => rfl) (fun _ e => e) h.dom rfl rfl rfl (Nat.le_refl _) (fun g hg _ => rfl) (fun i o hf => ?_) (fun i j oi oj x y _ hf => ?_)
  · simp only [find] at hf
    split at hf <;> cases hf
  · simp only [find] at hf
    split at hf <;> cases hf

def modeIs (st : LoopState) (pe : Option Code) : LM → Prop
  | .ready => st = .ready ∧ pe = none
  | .busy => True
  | .done c => st = .done ∧ pe = some c
def recOf (tm : Array Value) (lc : LoopCode) (st : LoopState) (pe : Option Code) (D : Nat) : Loop := { state := st, pending := pe, fn := lc.fn, tmps := tm, params := lc.params, assign := lc.assign, body := lc.body, defers := D }
/-- a loop's record is turned. -/
theorem Mod.turnL {c : Ctx} {p : Nat → Prop} {ρ : Env} {S : AS} {tm : Array Value} {w : World} (h : Mod c p ρ S tm w) {id : Nat} {tmL : Array Value} {lc : LoopCode} {m : LM} (ho : S.obj id = some (.loop tmL lc m)) :
    ρ.f id = some (.func (.yield lc.blk) #[] #[]) ∧ ∃ D st pe, w.heap[lc.blk]? = some (.loop (recOf tmL lc st pe D)) ∧ modeIs st pe m ∧
      ∀ st' pe' q, (∀ o, q = some o → ∃ m', o = .loop tmL lc m' ∧ modeIs st' pe' m') → Mod c p ρ (S.upd [(id, q)]) tm (w.putObj lc.blk (.loop (recOf tmL lc st' pe' D))) := by
  obtain ⟨x, hx, l, D, st, pe, rfl, h1, rfl, h2⟩ := h.objs id _ ho
  refine ⟨hx, D, st, pe, h1, by cases m <;> exact h2, fun st' pe' q hq => ?_⟩
  have hlt : lc.blk < w.heap.size := (Array.getElem?_eq_some_iff.1 h1).1
  have hT : ∀ q, Touch ρ S [(id, q)] lc.blk := fun q => ⟨id, _, _, q, by simp [find], ho, hx, rfl⟩
  refine h.step0 [(id, q)] (fun _ _ e => e) rfl (fun _ _ => rfl) (fun _ e => e) h.dom rfl rfl rfl (by simp) (fun g hg hnT => ?_) (fun i o hf => ?_) (fun i j oi oj x y hne hf1 hf2 => ?_)
  · exact World.putObj_heap_other (fun e => by subst e; exact hnT (hT q))
  · simp only [find] at hf
    split at hf
    · next e =>
      subst e
      injection hf with hf
      obtain ⟨m', rfl, hm'⟩ := hq o hf
      refine ⟨_, hx, ⟨lc.blk, D, st', pe', rfl, World.putObj_heap_same hlt, rfl, by cases m' <;> exact hm'⟩, fun g hg => ?_⟩
      simp [oblk] at hg
      subst hg
      exact .inr (hT q)
    · cases hf
  · simp only [find] at hf1 hf2
    split at hf1
    · split at hf2
      · omega
      · cases hf2
    · cases hf1

/-- a loop's text fits the slots that rest. -/
structure LoopFit (tm : Array Value) (lc : LoopCode) : Prop where
  asg : dstB tm.size lc.assign = true
  body : dstB tm.size lc.body = true
  ps : ∀ t ∈ lc.params.toList, t < tm.size
  ra : rgB lc.assign = true
  rb : rgB lc.body = true
def zipT : List Tmp → List AV → List (Nat × AV) → List (Nat × AV)
  | p :: ps, a :: us, t => zipT ps us ((p, a) :: t)
  | _, _, t => t
theorem zipT_rep {ρ : Env} : ∀ (ps : List Tmp) (us : List AV) (vs : List Value) (t : List (Nat × AV)) (tm : Array Value), RepL ρ us vs → (∀ q ∈ ps, q < tm.size) → (∀ d, Rep ρ ((find t d).getD .dead) (tm.getD d undef)) →
    (((ps.zip vs).foldl (fun tm q => tm.setIfInBounds q.1 q.2) tm).size = tm.size ∧ ∀ d, Rep ρ ((find (zipT ps us t) d).getD .dead) (((ps.zip vs).foldl (fun tm q => tm.setIfInBounds q.1 q.2) tm).getD d undef))
  | [], us, vs, t, tm, _, _, ht => by
    have : zipT [] us t = t := by unfold zipT; rfl
    rw [this]
    exact ⟨rfl, ht⟩
  | p :: ps, [], vs, t, tm, h, _, ht => by
    cases vs with
    | nil => exact ⟨rfl, ht⟩
    | cons v vs => simp [RepL] at h
  | p :: ps, a :: us, [], t, tm, h, _, ht => by simp [RepL] at h
  | p :: ps, a :: us, v :: vs, t, tm, h, hp, ht => by
    simp only [RepL] at h
    have := zipT_rep ps us vs ((p, a) :: t) (tm.setIfInBounds p v) h.2 (fun q hq => by rw [Array.size_setIfInBounds]; exact hp q (List.mem_cons_of_mem _ hq)) (fun d => ?_)
    · simp only [List.zip_cons_cons, List.foldl_cons, zipT]
      exact ⟨this.1.trans (by simp), this.2⟩
    · have hpl := hp p List.mem_cons_self
      simp only [find]
      split
      · next e =>
        subst e
        have e1 : (tm.setIfInBounds p v).getD p undef = v := by simp [Array.getD_eq_getD_getElem?, Array.getElem?_setIfInBounds, hpl]
        rw [e1]
        exact h.1
      · next e =>
        have e1 : (tm.setIfInBounds p v).getD d undef = tm.getD d undef := by simp [Array.getD_eq_getD_getElem?, Array.getElem?_setIfInBounds, e]
        rw [e1]
        exact ht d

/-- the end of a round: what the iterator goes on with. -/
def yEnd (n id : Nat) (tmI tm : Array Value) (lc : LoopCode) (dst : Option Nat) (CN : Nat → AS → Prop) (b : Bool) (m : LM) (n' : Nat) (S : AS) : Prop :=
  match S.obj id, S.obj (8 * n) with
  | some (.loop tm' lc' _), some (.frm tm2 t) => (tm' = tm ∧ lc' = lc ∧ tm2 = tmI) ∧ CN n' (AS.putO ⟨t, (8 * n, none) :: (id, some (.loop tm lc m)) :: S.s, none⟩ dst (.raw (.bool b)))
  | _, _ => False
def yieldQ (n id : Nat) (tmI tm : Array Value) (lc : LoopCode) (dst : Option Nat) (CN : Nat → AS → Prop) : Exit → Nat → AS → Prop
  | .normal => yEnd n id tmI tm lc dst CN true .ready
  | .ret => yEnd n id tmI tm lc dst CN false (.done .ret)
  | .exit i => yEnd n id tmI tm lc dst CN false (.done (.exit i))
  | _ => fun _ _ => False
/-- a round begins: its record is busy. -/
def yBody (P : Program) (n id : Nat) (tmI tm : Array Value) (lc : LoopCode) (dst : Option Nat) (CN : Nat → AS → Prop) (n' : Nat) (S : AS) : Prop :=
  match S.obj id with
  | some (.loop tm' lc' .ready) => (tm' = tm ∧ lc' = lc) ∧ AWP P lc.body (yieldQ n id tmI tm lc dst CN) n' (S.upd [(id, some (.loop tm lc .busy))])
  | _ => False
def asgQ (P : Program) (n id : Nat) (tmI tm : Array Value) (lc : LoopCode) (dst : Option Nat) (CN : Nat → AS → Prop) : Exit → Nat → AS → Prop
  | .normal => yBody P n id tmI tm lc dst CN
  | _ => fun _ _ => False
/-- **a call of yield**: the loop's round, its text walked here. -/
def kYield (P : Program) (dst : Option Nat) (n : Nat) (CN : Nat → AS → Prop) (S : AS) (args : List AV) (id : Nat) : Prop :=
  match S.obj id, S.obj (id + 1) with
  | some (.loop tm lc .ready), some (.frm tm' t) => (tm' = tm ∧ LoopFit tm lc ∧ args.length = lc.params.toList.length) ∧
      ∀ tmI, AWP P lc.assign (asgQ P n id tmI tm lc dst CN) (n + 1) ⟨zipT lc.params.toList args t, (8 * n, some (.frm tmI S.t)) :: S.s, none⟩
  | _, _ => False

theorem wpIn_round {rd : Option Nat} {m : Nat} {P : Program} {o : Oper} {a : Act} {w w' : World} {K : Act → World → Prop} {Q : Exit → Act → World → Prop} {l : Nat} {f : FuncId} {tmps : Array Value} {assign body : Code} (hr : (execOp a.eval o).run P w = .ok (.round l f tmps assign body) w')
    (h : RoundIn (FW rd) (m - 1) P l f tmps assign body w' fun e w'' => ∃ v, e = .returned v ∧ K (a.put o.dst v) w'') : o.wpIn (FW rd) m P a w K Q := by
  refine ⟨fun _ _ => trivial, ?_⟩
  rw [Oper.semAt_eq _ _ _ (not_defer hr (fun d e => by cases e)), hr]
  refine ⟨fun q => absurd q (by simp [FW, Fence.wide]), h.mono ?_⟩
  rintro e w'' ⟨v, rfl, h2⟩
  exact h2

theorem frm_rep {ρ : Env} {w : World} {x : Value} {tm : Array Value} {t : List (Nat × AV)} (h : ObjAt ρ w x (.frm tm t)) (d : Nat) : Rep ρ ((find t d).getD .dead) (tm.getD d undef) := by
  cases e : find t d with
  | none => simp [Rep]
  | some v => exact h d v (by rw [find'_eq]; exact e)

theorem yield_ok {P : Program} {dst : Option Nat} {n : Nat} {CN : Nat → AS → Prop} {S : AS} {args : List AV} {id : Nat} (h : kYield P dst n CN S args id) : YieldOk P dst n CN S args id := by
  intro o x xs ts ho hdst hxs hx rd m0 c p ρ a w hd hm hn ha K Q hK
  unfold kYield at h
  split at h
  case h_2 => exact h.elim
  next tm lc tm' t e1 e2 =>
  obtain ⟨⟨rfl, hfit, hlen⟩, h⟩ := h
  obtain ⟨hl, D, st, pe, hheap, ⟨rfl, rfl⟩, -⟩ := hm.turnL e1
  have hv := hm.val x
  rw [hx] at hv
  simp only [Rep] at hv
  rw [hl] at hv
  have hev : a.eval x = .func (.yield lc.blk) #[] #[] := (Option.some.inj hv).symm
  have hargs : ∀ l : List Operand, RepL ρ (l.map S.val) (l.map a.eval) := by
    intro l
    induction l with
    | nil => simp [RepL]
    | cons y l ih => simp only [List.map_cons, RepL]; exact ⟨hm.val y, ih⟩
  have hra := hargs xs.toList
  rw [hxs] at hra
  have hrun : (execOp a.eval o).run P w = .ok (.round lc.blk lc.fn ((lc.params.zip (xs.map a.eval)).foldl (fun tmps (q : Tmp × Value) => tmps.setIfInBounds q.1 q.2) tm') lc.assign lc.body) w := by
    have hy := run_yield (P := P) (args := xs.map a.eval) hheap (by have := hra.length; simp at this; simp [recOf]; rw [this, hlen]; simp)
    unfold execOp
    rw [ho]
    simp [resolve, hev, Deferred.ofValue, invoke]
    simpa [recOf] using hy
  have htm : ∃ tmR, tmR = ((lc.params.zip (xs.map a.eval)).foldl (fun tmps (q : Tmp × Value) => tmps.setIfInBounds q.1 q.2) tm') := ⟨_, rfl⟩
  obtain ⟨tmR, htm⟩ := htm
  rw [← htm] at hrun
  have htm2 : tmR = (lc.params.toList.zip (xs.toList.map a.eval)).foldl (fun tmps (q : Tmp × Value) => tmps.setIfInBounds q.1 q.2) tm' := by
    rw [htm, ← Array.foldl_toList]
    simp
  refine wpIn_round hrun ?_
  obtain ⟨xF, hxF, hF⟩ := hm.objs _ _ e2
  -- the round's first state
  have hn0 := hm.n0 (n := n) (fun i hi => by have := hn i hi; omega)
  have hfr : ρ.f (8 * n) = none := hm.fresh (n := n) (fun i hi => by have := hn i hi; omega) (by omega)
  have hadd := hm.add (p' := fun i => p i ∨ i / 8 = n) (w' := w) hfr (by omega) (fun i h => .inl h) (.inr (by omega)) (x := .bool true) (o := .frm a.tmps S.t) rfl (.inl rfl) (fun ρ' he d v hv => by
    rw [find'_eq] at hv
    have := hm.tmps d
    unfold AS.get at this
    rw [hv] at this
    exact Rep.ext he _ _ this) (fun g hg => by cases hg)
  have hext := ext_with (x := Value.bool true) hfr
  obtain ⟨hz1, hz2⟩ := zipT_rep (ρ := ρ.with (8 * n) (.bool true)) lc.params.toList args (xs.toList.map a.eval) t tm' (RepL.ext hext _ _ hra) hfit.ps (fun d => Rep.ext hext _ _ (frm_rep hF d))
  rw [← htm2] at hz1 hz2
  obtain ⟨Ds, f1, f2, f3⟩ := ha
  let cR : Ctx := ⟨tm'.size, c.M, c.w0, c.ρ0, fun g => c.D g ∨ g ∈ Ds⟩
  have hmR : Mod cR (fun i => p i ∨ i / 8 = n) _ ⟨zipT lc.params.toList args t, (8 * n, some (.frm a.tmps S.t)) :: S.s, none⟩ tmR w :=
    hadd.refit tm'.size (fun g => c.D g ∨ g ∈ Ds) _ none tmR hz1 hz2 (fun g hg => by
      rcases hg with hg | hg
      · exact hm.dfr g hg
      · exact ⟨(f3 g hg).1, (f3 g hg).2.2⟩)
  refine roundIn_of_wpIn trivial ?_
  refine wpIn_mono (awp_sound (rd := some lc.blk) (c := cR) lc.assign _ (n + 1) _ _ _ { tmps := tmR, defers := [] } w (.inr hfit.ra) hfit.asg (h a.tmps) hmR (fun i hi => by rcases hi with hi | hi <;> first | (have := hn i hi; omega) | omega) (.nil rfl)) ?_
  rintro e a1 w1 ⟨hdef, n1, S1, p1, ρ1, hQ, hm1, hn1⟩
  cases e with
  | normal =>
    have hQ : yBody P n id a.tmps tm' lc dst CN n1 S1 := hQ
    unfold yBody at hQ
    split at hQ
    case h_2 => exact hQ.elim
    next tm1 lc1 e3 =>
    obtain ⟨⟨rfl, rfl⟩, hQ⟩ := hQ
    obtain ⟨-, D1, st1, pe1, hh1, ⟨rfl, rfl⟩, hturn⟩ := hm1.turnL e3
    refine ⟨_, run_beginRound hh1 rfl, ?_⟩
    have hm2 := hturn .busy none (some (.loop tm1 lc1 .busy)) (fun o ho => ⟨.busy, (Option.some.inj ho).symm, trivial⟩)
    have hdef2 : DefOk cR a1 (w1.putObj lc1.blk (.loop (recOf tm1 lc1 .busy none D1))) := by
      obtain ⟨Ds1, g1, g2, g3⟩ := hdef
      refine ⟨Ds1, g1, g2, fun D' hD' => ⟨(g3 D' hD').1, (g3 D' hD').2.1, ?_⟩⟩
      refine (World.putObj_heap_other fun e => ?_).trans (g3 D' hD').2.2
      have := (g3 D' hD').2.2
      rw [e, hh1] at this
      cases this
    refine wpIn_mono (awp_sound (rd := some lc1.blk) (c := cR) lc1.body _ n1 _ _ _ a1 _ (.inr hfit.rb) hfit.body hQ hm2 hn1 hdef2) ?_
    rintro e a2 w2 ⟨-, n2, S2, p2, ρ2, hQ2, hm3, hn2⟩
    have key : ∀ (jump : Option Code) (m : LM), modeIs (if jump.isNone then .ready else .done) jump m → yEnd n id a.tmps tm1 lc1 dst CN jump.isNone m n2 S2 → ∃ v w', (Instr.endRound lc1.blk jump).run P w2 = .ok v w' ∧ ∃ v', Ending.returned v = .returned v' ∧ K (a.put o.dst v') w' := by
      intro jump m hmode hy
      unfold yEnd at hy
      split at hy
      case h_2 => exact hy.elim
      next tm4 lc4 m4 tm5 t5 e5 e6 =>
      obtain ⟨⟨rfl, rfl, rfl⟩, hy⟩ := hy
      obtain ⟨-, D2, st2, pe2, hh2, -, hturn2⟩ := hm3.turnL e5
      obtain ⟨xF2, -, hF2⟩ := hm3.objs _ _ e6
      refine ⟨_, _, run_endRound jump hh2, _, rfl, ?_⟩
      have hm4 := (hturn2 (if jump.isNone then .ready else .done) jump (some (.loop tm4 lc4 m)) (fun o ho => ⟨m, (Option.some.inj ho).symm, hmode⟩)).drop1 (8 * n)
      have hm5 := hm4.refit c.N c.D t5 none a.tmps hm.size (frm_rep hF2) (fun g hg => hm4.dfr g (.inl hg))
      have hm6 : Mod c p2 ρ2 (AS.putO ⟨t5, (8 * n, none) :: (id, some (.loop tm4 lc4 m)) :: S2.s, none⟩ o.dst (.raw (.bool jump.isNone))) (a.put o.dst (.bool jump.isNone)).tmps _ := Mod.put hm5 o.dst (by simp [Rep]) hd
      rw [hdst] at hm6
      rw [hdst]
      refine hK n2 _ p2 ρ2 _ _ hy hm6 hn2 ?_
      refine DefOk.put (a := a) ?_ dst _
      exact ⟨Ds, f1, f2, fun D' hD' => ⟨(f3 D' hD').1, (f3 D' hD').2.1, (hm4.dfr D' (.inr hD')).2⟩⟩
    cases e with
    | normal => exact key none .ready ⟨rfl, rfl⟩ hQ2
    | ret => exact key (some .ret) (.done .ret) ⟨rfl, rfl⟩ hQ2
    | exit i => exact key (some (.exit i)) (.done (.exit i)) ⟨rfl, rfl⟩ hQ2
    | _ => exact hQ2.elim
  | _ => exact hQ.elim

/-! the statement -/
def kEnd (Q : Exit → Nat → AS → Prop) (n' : Nat) (S : AS) : LM → Prop
  | .ready => Q .normal n' S
  | .done .ret => Q .ret n' S
  | .done (.exit i) => Q (.exit i) n' S
  | _ => False
def rangeEnd (n : Nat) (tm : Array Value) (lc : LoopCode) (Q : Exit → Nat → AS → Prop) (n' : Nat) (S : AS) : Prop :=
  match S.obj (8 * n), S.obj (8 * n + 1) with
  | some (.loop tm' lc' m), some (.frm tm2 t) => (tm' = tm ∧ lc' = lc ∧ tm2 = tm) ∧ kEnd Q n' ⟨t, (8 * n + 1, none) :: (8 * n, none) :: S.s, none⟩ m
  | _, _ => False
def rangeQ (n : Nat) (tm : Array Value) (lc : LoopCode) (Q : Exit → Nat → AS → Prop) : Exit → Nat → AS → Prop
  | .normal => rangeEnd n tm lc Q
  | .ret => rangeEnd n tm lc Q
  | _ => fun _ _ => False

theorem arange {P : Program} {Q : Exit → Nat → AS → Prop} {n : Nat} {S : AS} {g : Operand} {ps : Array Tmp} {asg body : Code} {f : FuncId} {caps : List AV} (hg : S.val g = .clo (.func f) caps) {fn : Func} {code : Code}
    (hf : P.funcs[f]? = some fn) (hb : fn.body = some code) (hfn : fnB P f = true) (hd : dstB fn.ntmps code = true) (hl : (1 + caps.length) ≤ fn.ntmps) (hrs : fn.results = #[])
    (h : ∀ tm lc, LoopFit tm lc → lc.params.toList = ps.toList → lc.assign = asg → lc.body = body → AWP P code (rangeQ n tm lc Q) (n + 1) ⟨slots (.hdr (8 * n) :: caps), (8 * n, some (.loop tm lc .ready)) :: (8 * n + 1, some (.frm tm S.t)) :: S.s, none⟩) :
    ARange P g ps asg body Q n S := by
  intro m0 c p ρ a w hda hdb hps hra hrb hm hn ha
  refine wpIn_rangeFunc (F := FW none) fun fn0 _ => ?_
  obtain ⟨Ds, f1, f2, f3⟩ := ha
  -- the function that is ranged over
  have hv := hm.val g
  rw [hg] at hv
  simp only [Rep] at hv
  obtain ⟨cs, hev, hcs⟩ := hv
  let l := w.heap.size + 1
  let lc : LoopCode := ⟨l, fn0, ps, asg, body⟩
  let wD := w.alloc (.deferred (some []))
  let w1 := wD.alloc (.loop (recOf a.tmps lc .ready none w.heap.size))
  have hsD : wD.heap.size = l := by simp [wD, l]
  obtain ⟨fn1, e1, e2, e3⟩ : ∃ fn, P.funcs[f]? = some fn ∧ fn.name ≠ "runtime.NumGoroutine" ∧ fn.body.isSome = true := by
    unfold fnB at hfn
    cases h1 : P.funcs[f]? with
    | none => rw [h1] at hfn; simp at hfn
    | some fn => rw [h1] at hfn; simp at hfn; exact ⟨fn, rfl, hfn.1, by simpa using hfn.2⟩
  obtain rfl : fn1 = fn := by rw [hf] at e1; exact (Option.some.inj e1).symm
  have hres : (resolve a.eval (rangeCall g l) 0).run P w1 = .ok { target := .fn (.func f) cs.toArray, args := #[.func (.yield l) #[] #[]] } w1 := by
    have hk : a.eval (.const (.func (.yield l) #[] #[])) = .func (.yield l) #[] #[] := rfl
    simp [resolve, rangeCall, hev, Deferred.ofValue, hk]
  have hinv : (invoke (.fn (.func f) cs.toArray) #[.func (.yield l) #[] #[]]).run P w1 = .ok (.enter f (.func (.yield l) #[] #[] :: cs).toArray) w1 := by
    have h4 : ¬ fn1.body = none := fun e => by rw [e] at e3; simp at e3
    simp [invoke, callFunc, e1, e2, h4]
  refine ⟨l, _, _, _, _, f, _, _, run_enterLoop_outer fn0 a.tmps ps asg body, hres, fun _ _ => trivial, hinv, fun q => absurd q (by simp [FW, Fence.wide]), ?_⟩
  -- the iterator's first state
  have hfr0 : ρ.f (8 * n) = none := hm.fresh (n := n) (fun i hi => by have := hn i hi; omega) (by omega)
  have hfr1 : ρ.f (8 * n + 1) = none := hm.fresh (n := n) (fun i hi => by have := hn i hi; omega) (by omega)
  have hn0 := hm.n0 (n := n) (fun i hi => by have := hn i hi; omega)
  have hmA := (hm.allocs (.deferred (some []))).add (p' := fun i => p i ∨ i / 8 = n) (w' := wD) hfr1 (by omega) (fun i h => .inl h) (.inr (by omega)) (x := .bool true) (o := .frm a.tmps S.t) rfl (.inl rfl) (fun ρ' he d v hv => by
    rw [find'_eq] at hv
    have := hm.tmps d
    unfold AS.get at this
    rw [hv] at this
    exact Rep.ext he _ _ this) (fun g hg => by cases hg)
  have hfr2 : (ρ.with (8 * n + 1) (.bool true)).f (8 * n) = none := by
    show (if _ then _ else _) = none
    rw [if_neg (by omega)]; exact hfr0
  have hmB := hmA.add (p' := fun i => p i ∨ i / 8 = n) (w' := w1) hfr2 (by omega) (fun i h => h) (.inr (by omega)) (x := .func (.yield l) #[] #[]) (o := .loop a.tmps lc .ready) rfl (.inr ⟨_, rfl⟩)
    (fun ρ' he => ⟨l, w.heap.size, .ready, none, rfl, by have := World.alloc_heap_new wD (.loop (recOf a.tmps lc .ready none w.heap.size)); rw [hsD] at this; exact this, rfl, rfl, rfl⟩) (fun g hg => by simp [oblk] at hg; omega)
  have hext : ExtE ρ ((ρ.with (8 * n + 1) (.bool true)).with (8 * n) (.func (.yield l) #[] #[])) := (ext_with hfr1).trans (ext_with hfr2)
  have hself : ((ρ.with (8 * n + 1) (.bool true)).with (8 * n) (.func (.yield l) #[] #[])).f (8 * n) = some (.func (.yield l) #[] #[]) := with_self ..
  generalize ((ρ.with (8 * n + 1) (.bool true)).with (8 * n) (.func (.yield l) #[] #[])) = ρ1 at hmB hext hself
  have hkeepD : ∀ D ob, w.heap[D]? = some ob → w1.heap[D]? = some ob := fun D ob hD => by
    have hlt := (Array.getElem?_eq_some_iff.1 hD).1
    rw [Below.heap_alloc wD _ D (by omega), Below.heap_alloc w _ D hlt]
    exact hD
  have hnewD : w1.heap[w.heap.size]? = some (.deferred (some [])) := by
    rw [Below.heap_alloc wD _ w.heap.size (by omega)]
    exact World.alloc_heap_new w _
  have hsz := hm.frame.size
  let cI : Ctx := ⟨fn1.ntmps, c.M, c.w0, c.ρ0, fun g => c.D g ∨ g ∈ Ds ∨ g = w.heap.size⟩
  have hra1 : RepL ρ1 (.hdr (8 * n) :: caps) (.func (.yield l) #[] #[] :: cs) := by
    simp only [RepL, Rep]
    exact ⟨hself, RepL.ext hext _ _ hcs⟩
  have hlen := hra1.length
  have hmI : Mod cI (fun i => p i ∨ i / 8 = n) ρ1 ⟨slots (.hdr (8 * n) :: caps), (8 * n, some (.loop a.tmps lc .ready)) :: (8 * n + 1, some (.frm a.tmps S.t)) :: S.s, none⟩ ((Value.func (.yield l) #[] #[] :: cs).toArray ++ Array.replicate (fn1.ntmps - (Value.func (.yield l) #[] #[] :: cs).toArray.size) undef) w1 := by
    refine hmB.refit fn1.ntmps (fun g => c.D g ∨ g ∈ Ds ∨ g = w.heap.size) (slots (.hdr (8 * n) :: caps)) none _ ?_ (fun d => ?_) (fun g hg => ?_)
    · simp at hlen
      simp
      omega
    · rw [find_slots]
      cases ha : (AV.hdr (8 * n) :: caps)[d]? with
      | none => simp [Rep]
      | some v =>
        obtain ⟨u, h1, h2⟩ := RepL.get d hra1 ha
        simp only [Option.getD_some]
        have hdl : d < (Value.func (.yield l) #[] #[] :: cs).length := (List.getElem?_eq_some_iff.1 h1).1
        have e1 : ((Value.func (.yield l) #[] #[] :: cs).toArray ++ Array.replicate (fn1.ntmps - (Value.func (.yield l) #[] #[] :: cs).toArray.size) undef).getD d undef = u := by
          rw [Array.getD_eq_getD_getElem?, Array.getElem?_append_left (by simpa using hdl)]
          have : (Value.func (.yield l) #[] #[] :: cs).toArray[d]? = some u := by rw [List.getElem?_toArray]; exact h1
          rw [this]
          rfl
        rw [e1]
        exact h2
    · rcases hg with hg | hg | hg
      · exact ⟨(hm.dfr g hg).1, hkeepD _ _ (hm.dfr g hg).2⟩
      · exact ⟨(f3 g hg).1, hkeepD _ _ (f3 g hg).2.2⟩
      · subst hg; exact ⟨hsz, hnewD⟩
  have hfit : LoopFit a.tmps lc := ⟨by rw [hm.size]; exact hda, by rw [hm.size]; exact hdb, fun t ht => by rw [hm.size]; exact hps t (by simpa using ht), hra, hrb⟩
  refine callsIn_of_wp_marks hf hb trivial (wpIn_mono (awp_sound (rd := none) (m0 := m0 - 1) (c := cI) code (rangeQ n a.tmps lc Q) (n + 1) _ _ ρ1 _ w1 (.inl rfl) hd (h a.tmps lc hfit rfl rfl rfl) hmI (fun i hi => by rcases hi with hi | hi <;> first | (have := hn i hi; omega) | omega) (.nil rfl)) ?_)
  -- its end
  have fin0 : ∀ (n' : Nat) (S' : AS) (p' : Nat → Prop) (ρ' : Env) (w' : World) (tm' : Array Value), rangeEnd n a.tmps lc Q n' S' → Mod cI p' ρ' S' tm' w' → (∀ i, p' i → i / 8 < n') →
      ∃ v, (results fn1 tm').run P w' = .ok v w' ∧ rangePost (FW none) m0 P l (Lift c Q) { a with defers := [markD w.heap.size] ++ a.defers } (.returned v) w' := by
    intro n' S' p' ρ' w' tm' hr hm' hn'
    refine ⟨.tuple #[], by unfold results; rw [hrs]; simp, ?_⟩
    unfold rangeEnd at hr
    split at hr
    case h_2 => exact hr.elim
    next tm1 lc1 m tm2 t e5 e6 =>
    obtain ⟨⟨rfl, rfl, rfl⟩, hr⟩ := hr
    obtain ⟨-, D1, st1, pe1, hh1, hmode, hturn⟩ := hm'.turnL e5
    obtain ⟨xF, -, hF⟩ := hm'.objs _ _ e6
    have hm2 := (hturn .exhausted pe1 none (fun o ho => by cases ho)).drop1 (8 * n + 1)
    have hm3 := hm2.refit c.N c.D t none a.tmps hm.size (frm_rep hF) (fun g hg => hm2.dfr g (.inl hg))
    have hdef : DefOk c { a with defers := [markD w.heap.size] ++ a.defers } (w'.putObj lc.blk (.loop (recOf a.tmps lc .exhausted pe1 D1))) := by
      refine ⟨w.heap.size :: Ds, by simp [f1], List.nodup_cons.2 ⟨fun hc => ?_, f2⟩, fun D' hD' => ?_⟩
      · have := (Array.getElem?_eq_some_iff.1 (f3 _ hc).2.2).1
        omega
      · have h1 := hm2.dfr D'
        rcases List.mem_cons.1 hD' with rfl | hD'
        · refine ⟨hsz, fun hc => ?_, (h1 (.inr (.inr rfl))).2⟩
          have := (Array.getElem?_eq_some_iff.1 (hm.dfr _ hc).2).1
          omega
        · exact ⟨(f3 D' hD').1, (f3 D' hD').2.1, (h1 (.inr (.inl hD'))).2⟩
    have hnb : st1 ≠ .busy := by
      unfold kEnd at hr
      split at hr
      · rw [hmode.1]; decide
      · rw [hmode.1]; decide
      · rw [hmode.1]; decide
      · exact hr.elim
    refine ⟨pe1, _, run_endLoop hh1 hnb, ?_⟩
    have lift : ∀ e, Q e n' ⟨t, (8 * n + 1, none) :: (8 * n, none) :: S'.s, none⟩ → Lift c Q e { a with defers := [markD w.heap.size] ++ a.defers } (w'.putObj lc.blk (.loop (recOf a.tmps lc .exhausted pe1 D1))) := fun e he => ⟨hdef, n', _, p', ρ', he, hm3, hn'⟩
    unfold kEnd at hr
    split at hr
    · obtain ⟨-, rfl⟩ := hmode; exact lift _ hr
    · obtain ⟨-, rfl⟩ := hmode; exact wpIn_ret (lift _ hr)
    · obtain ⟨-, rfl⟩ := hmode; exact wpIn_exit (lift _ hr)
    · exact hr.elim
  have fin : ∀ (Dj : List Nat) (n' : Nat) (S' : AS) (p' : Nat → Prop) (ρ' : Env) (a' : Act) (w' : World), rangeEnd n a.tmps lc Q n' S' → Mod cI p' ρ' S' a'.tmps w' → (∀ i, p' i → i / 8 < n') → Dj.Nodup → (∀ D ∈ Dj, cI.w0.heap.size ≤ D ∧ ¬ cI.D D ∧ w'.heap[D]? = some (.deferred (some []))) →
      LeavesInM (FW none) (m0 - 1) P fn1 a'.tmps (rangePost (FW none) m0 P l (Lift c Q) { a with defers := [markD w.heap.size] ++ a.defers }) (Dj.map markD) .returning w' := by
    intro Dj
    induction Dj with
    | nil => intro n' S' p' ρ' a' w' hr' hm' hn' _ _; exact fin0 n' S' p' ρ' w' a'.tmps hr' hm' hn'
    | cons D Dj ih =>
      intro n' S' p' ρ' a' w' hr' hm' hn' hnd hD
      obtain ⟨hb1, hb2, hD1⟩ := hD D (List.mem_cons_self ..)
      rw [List.nodup_cons] at hnd
      refine ⟨by simp, .inl ⟨D, _, rfl, run_takeDeferred hD1, ih n' S' p' ρ' a' _ hr' (hm'.putObj _ hD1 rfl hb1 hb2) hn' hnd.2 fun D2 h2 => ?_⟩⟩
      obtain ⟨k1, k3, k2⟩ := hD D2 (List.mem_cons_of_mem _ h2)
      have hne : D2 ≠ D := fun e => by subst e; exact hnd.1 h2
      exact ⟨k1, k3, (World.putObj_heap_other hne).trans k2⟩
  rintro e a' w' ⟨⟨Dj, e1, e2, e3⟩, n', S', p', ρ', h2, h3, h4⟩
  cases e with
  | normal => show LeavesInM _ _ _ _ _ _ a'.defers _ _; rw [e1]; exact fin Dj n' S' p' ρ' a' w' h2 h3 h4 e2 e3
  | ret => show LeavesInM _ _ _ _ _ _ a'.defers _ _; rw [e1]; exact fin Dj n' S' p' ρ' a' w' h2 h3 h4 e2 e3
  | _ => exact h2.elim

section
variable {P : Program} {dst : Option Nat} {n n' : Nat} {CN : Nat → AS → Prop} {S : AS} {args : List AV} {id : Nat} {tmI tm : Array Value} {lc : LoopCode} {Q : Exit → Nat → AS → Prop}
theorem ayield (hlg : S.lg = none) (h : kYield P dst n CN S args id) : ACall P dst n CN S args (.hdr id) := ⟨hlg, yield_ok h⟩
@[go_sem] theorem asgQ_normal : asgQ P n id tmI tm lc dst CN .normal = yBody P n id tmI tm lc dst CN := rfl
@[go_sem] theorem yieldQ_normal : yieldQ n id tmI tm lc dst CN .normal = yEnd n id tmI tm lc dst CN true .ready := rfl
@[go_sem] theorem yieldQ_ret : yieldQ n id tmI tm lc dst CN .ret = yEnd n id tmI tm lc dst CN false (.done .ret) := rfl
@[go_sem] theorem yieldQ_exit (i : Nat) : yieldQ n id tmI tm lc dst CN (.exit i) = yEnd n id tmI tm lc dst CN false (.done (.exit i)) := rfl
@[go_sem] theorem rangeQ_normal : rangeQ n tm lc Q .normal = rangeEnd n tm lc Q := rfl
@[go_sem] theorem rangeQ_ret : rangeQ n tm lc Q .ret = rangeEnd n tm lc Q := rfl
attribute [go_sem] kYield yEnd yBody rangeEnd kEnd zipT List.length_cons List.length_nil
end
theorem cut_end {X : Type} {St : X → AS} {inv : X → Prop} {n0 n : Nat} {S : AS} (fr : List Nat) (x' : X) {L : List (Nat × Nat)} (_ : loopL S (St x') = L) (e : EntF L n0 fr S (St x')) (h2 : inv x') : CutK St inv n0 n S := ⟨x', L, fr, h2, e⟩
theorem swp_cutW {P : Program} {x y : Code} {Q : Exit → Nat → AS → Prop} {n : Nat} {S : AS} {X : Type} (St : X → AS) (inv : X → Prop) (n0 : Nat) (h1 : AWP P x (seqK (W (CutK St inv n0)) Q) n S) (h2 : ∀ x, inv x → SWP P y Q n0 (St x)) : SWP P (.seq x y) Q n S := swp_cut St inv n0 (swp_awp h1) h2
theorem swp_cutS {P : Program} {x y : Code} {Q : Exit → Nat → AS → Prop} {n : Nat} {S : AS} {X : Type} (St : X → AS) (inv : X → Prop) (n0 : Nat) (h1 : SWP P x (seqK (W (CutK St inv n0)) Q) n S) (h2 : ∀ x, inv x → SWP P y Q n0 (St x)) : SWP P (.seq x y) Q n S := swp_cut St inv n0 h1 h2
end Go.Proofs.Ytiidfcadmdahmaa
