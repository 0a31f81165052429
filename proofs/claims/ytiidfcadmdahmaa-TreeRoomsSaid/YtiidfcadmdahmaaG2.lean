/- ENGINE (second) 2: operations, one by one; over any program. -/
import Derived.Test.YtiidfcadmdahmaaG1
import Derived.Great.BuildSlice
import Derived.OrdersIn
import Derived.TacticsIn
set_option linter.unusedSimpArgs false
set_option linter.unusedVariables false
namespace Go.Proofs.Ytiidfcadmdahmaa
open Go.RowKit

structure Eff where
  val : AV
  objs : List (Nat × Option AO)
  reads : List Nat

/-- the wide fence, in a round of a range over a function, or in none. -/
def FW (rd : Option Nat) : Fence := { Fence.wide with round := rd }
theorem not_defer {P : Program} {o : Oper} {a : Act} {w w' : World} {nx : Next} (hr : (execOp a.eval o).run P w = .ok nx w') (h : ∀ d, nx ≠ .defer d) : ∀ c, o.op ≠ .defer c := by
  intro c ho
  unfold execOp at hr
  rw [ho] at hr
  simp only [Sem.run_bind] at hr
  cases hq : (resolve a.eval c o.type).run P w with
  | ok d w1 =>
    rw [hq] at hr
    simp only [Result.andThen_ok, Sem.run_pure, Result.ok.injEq] at hr
    exact h _ hr.1.symm
  | halt x w1 => rw [hq] at hr; simp [Result.andThen] at hr
theorem wpIn_value {rd : Option Nat} {m : Nat} {P : Program} {o : Oper} {a : Act} {w w' : World} {K : Act → World → Prop} {Q : Exit → Act → World → Prop} {v : Value} (hr : (execOp a.eval o).run P w = .ok (.value v) w') (hK : K (a.put o.dst v) w') : o.wpIn (FW rd) m P a w K Q := by
  refine ⟨fun _ _ => trivial, ?_⟩
  rw [Oper.semAt_eq _ _ _ (not_defer hr (fun d e => by cases e)), hr]
  exact hK
theorem wpIn_skips {rd : Option Nat} {m : Nat} {P : Program} {o : Oper} {a : Act} {w w' : World} {K : Act → World → Prop} {Q : Exit → Act → World → Prop} (hr : (execOp a.eval o).run P w = .ok .skip w') (hK : K (a.put o.dst undef) w') : o.wpIn (FW rd) m P a w K Q := by
  refine ⟨fun _ _ => trivial, ?_⟩
  rw [Oper.semAt_eq _ _ _ (not_defer hr (fun d e => by cases e)), hr]
  exact hK
theorem calls_fw {rd : Option Nat} {m : Nat} {P : Program} {f : FuncId} {args : Array Value} {w : World} {R : Ending → World → Prop} (h : Calls P f args w R) : CallsIn (FW rd) m P f args w R := callsIn_wide.2 h
theorem wpIn_enters {rd : Option Nat} {m : Nat} {P : Program} {o : Oper} {a : Act} {w w' : World} {K : Act → World → Prop} {Q : Exit → Act → World → Prop} {f : FuncId} {args : Array Value} (hr : (execOp a.eval o).run P w = .ok (.enter f args) w') (h : Calls P f args w' fun e w'' => ∃ v, e = .returned v ∧ K (a.put o.dst v) w'') : o.wpIn (FW rd) m P a w K Q := by
  refine ⟨fun _ _ => trivial, ?_⟩
  rw [Oper.semAt_eq _ _ _ (not_defer hr (fun d e => by cases e)), hr]
  refine ⟨fun q => absurd q (by simp [FW, Fence.wide]), calls_fw (h.mono ?_)⟩
  rintro e w'' ⟨v, rfl, h2⟩
  exact h2
/-- an operation does what is told: in whatever world the state describes. -/
def DoesAt (P : Program) (o : Oper) (S : AS) (n : Nat) (E : Eff) : Prop :=
  ∀ (rd : Option Nat) (m0 : Nat) (c : Ctx) (p : Nat → Prop) (ρ : Env) (a : Act) (w : World), Mod c p ρ S a.tmps w → (∀ i, p i → i / 8 ≠ n) →
  ∀ (K : Act → World → Prop) (Q : Exit → Act → World → Prop), (∀ v ρ' w', Mod c (fun i => p i ∨ i / 8 = n) ρ' (S.upd E.objs) a.tmps w' → Rep ρ' E.val v → K (a.put o.dst v) w') → o.wpIn (FW rd) m0 P a w K Q

theorem Mod.mono {c : Ctx} {p p' : Nat → Prop} {ρ : Env} {S : AS} {tm : Array Value} {w : World} (h : Mod c p ρ S tm w) (hp : ∀ i, p i → p' i) : Mod c p' ρ S tm w :=
  ⟨h.size, h.base, h.baseR, fun i hi => hp i (h.lo i hi), fun i x e => ⟨hp i (h.dom i x e).1, (h.dom i x e).2⟩, h.tmps, h.objs, h.apart, h.old, h.ro, h.rsep, h.rnew, h.rdf, h.dfr, h.frame⟩
theorem Mod.put {c : Ctx} {p : Nat → Prop} {ρ : Env} {S : AS} {a : Act} {w : World} (h : Mod c p ρ S a.tmps w) (d : Option Nat) {v : AV} {u : Value} (hv : Rep ρ v u) (hd : ∀ t, d = some t → t < c.N) : Mod c p ρ (S.putO d v) (a.put d u).tmps w := by
  cases d with
  | none => exact h
  | some t =>
    refine ⟨by simpa [Act.put] using h.size, h.base, h.baseR, h.lo, h.dom, fun k => ?_, h.objs, h.apart, h.old, h.ro, h.rsep, h.rnew, h.rdf, h.dfr, h.frame⟩
    have ht : t < a.tmps.size := by rw [h.size]; exact hd t rfl
    unfold AS.putO AS.put AS.get
    simp only [find, Act.put]
    by_cases e : t = k
    · subst e
      simpa [ht] using hv
    · rw [if_neg e]
      have := h.tmps k
      unfold AS.get at this
      simpa [Array.getElem?_setIfInBounds_ne e] using this

def ofV : Value → AV
  | .agg cs => .agg (cs.toList.map .raw)
  | v => .raw v
theorem rep_ofV (ρ : Env) (v : Value) : Rep ρ (ofV v) v := by
  cases v <;> simp only [ofV, Rep]
  next cs => exact ⟨cs.toList, by simp, RepL.raws _⟩
def AS.val (S : AS) : Operand → AV
  | .tmp t => S.get t
  | .const v => ofV v
  | .func f => .clo (.func f) []
  | .global _ => .dead
theorem Mod.val {c : Ctx} {p : Nat → Prop} {ρ : Env} {S : AS} {a : Act} {w : World} (h : Mod c p ρ S a.tmps w) (x : Operand) : Rep ρ (S.val x) (a.eval x) := by
  cases x with
  | tmp t => exact h.tmps t
  | const v => exact rep_ofV ρ v
  | global g => simp [AS.val, Rep]
  | func f => simp only [AS.val, Rep, Act.eval]; exact ⟨[], rfl, by simp [RepL]⟩
theorem Mod.raw {c : Ctx} {p : Nat → Prop} {ρ : Env} {S : AS} {a : Act} {w : World} (h : Mod c p ρ S a.tmps w) {x : Operand} {v : Value} (e : S.val x = .raw v) : a.eval x = v := by
  have := h.val x
  rw [e] at this
  simpa [Rep] using this

def AV.one : AV → Bool
  | .raw v => v.oneCell'
  | .hdr _ | .ptr .. | .clo .. | .sl .. | .vw .. | .spt .. => true
  | _ => false
theorem one_of {c : Ctx} {p : Nat → Prop} {ρ : Env} {S : AS} {tm : Array Value} {w : World} (h : Mod c p ρ S tm w) {a : AV} {v : Value} (hr : Rep ρ a v) (ho : a.one = true) : v.oneCell' = true := by
  cases a with
  | raw u => simp only [Rep] at hr; subst hr; exact ho
  | hdr id => simp only [Rep] at hr; exact (h.dom id v hr).2
  | ptr id s k j => simp only [Rep] at hr; obtain ⟨x, b, o, -, -, rfl⟩ := hr; rfl
  | sl s rows => simp only [Rep, PRep] at hr; obtain ⟨A, c, rfl, -⟩ := hr; rfl
  | vw id s l hh => simp only [Rep] at hr; obtain ⟨A, n, c, -, -, -, -, rfl⟩ := hr; rfl
  | spt s rows k j => simp only [Rep] at hr; obtain ⟨b, o, rfl, -⟩ := hr; rfl
  | clo f l => simp only [Rep] at hr; obtain ⟨cs, rfl, -⟩ := hr; rfl
  | _ => cases ho
/-- a value's cells. -/
def cellsOf : AV → Option (List AV)
  | .agg l => if l.all AV.one then some l else none
  | a => if a.one then some [a] else none
theorem cells_of {c : Ctx} {p : Nat → Prop} {ρ : Env} {S : AS} {tm : Array Value} {w : World} (h : Mod c p ρ S tm w) {a : AV} {l : List AV} (hc : cellsOf a = some l) {v : Value} (hr : Rep ρ a v) :
    ∃ cs : List Value, v.cells = cs.toArray ∧ RepL ρ l cs ∧ ∀ u ∈ cs, u.oneCell' = true := by
  have key : ∀ (a : AV) (v : Value), a.one = true → Rep ρ a v → ∃ cs : List Value, v.cells = cs.toArray ∧ RepL ρ [a] cs ∧ ∀ u ∈ cs, u.oneCell' = true := fun a v ho hr => by
    have h1 := one_of h hr ho
    refine ⟨[v], ?_, by simp only [RepL]; exact ⟨hr, trivial⟩, fun u hu => by simp at hu; subst hu; exact h1⟩
    cases v <;> first | rfl | (simp [Value.oneCell'] at h1)
  cases a with
  | agg m =>
    have hc : (if m.all AV.one then some m else none) = some l := hc
    split at hc
    · next hall =>
      obtain rfl := Option.some.inj hc
      simp only [Rep] at hr
      obtain ⟨cs, rfl, hl⟩ := hr
      refine ⟨cs, rfl, hl, fun u hu => ?_⟩
      obtain ⟨k, hk, rfl⟩ := List.mem_iff_getElem.1 hu
      have hlen := hl.length
      obtain ⟨v', h1, h2⟩ := RepL.get k hl (List.getElem?_eq_getElem (by omega))
      rw [List.getElem?_eq_getElem hk] at h1
      cases h1
      exact one_of h h2 (List.all_eq_true.1 hall _ (List.getElem_mem _))
    · simp at hc
  | raw u => simp only [cellsOf] at hc; split at hc
             · next ho => obtain rfl := Option.some.inj hc; exact key _ _ ho hr
             · simp at hc
  | hdr u => simp only [cellsOf] at hc; split at hc
             · next ho => obtain rfl := Option.some.inj hc; exact key _ _ ho hr
             · simp at hc
  | ptr _ _ _ _ => simp only [cellsOf] at hc; split at hc
                   · next ho => obtain rfl := Option.some.inj hc; exact key _ _ ho hr
                   · simp at hc
  | sl _ _ => simp only [cellsOf] at hc; split at hc
              · next ho => obtain rfl := Option.some.inj hc; exact key _ _ ho hr
              · simp at hc
  | vw _ _ _ _ => simp only [cellsOf] at hc; split at hc
                  · next ho => obtain rfl := Option.some.inj hc; exact key _ _ ho hr
                  · simp at hc
  | spt _ _ _ _ => simp only [cellsOf] at hc; split at hc
                   · next ho => obtain rfl := Option.some.inj hc; exact key _ _ ho hr
                   · simp at hc
  | clo _ _ => simp only [cellsOf] at hc; split at hc
               · next ho => obtain rfl := Option.some.inj hc; exact key _ _ ho hr
               · simp at hc
  | dead => simp [cellsOf, AV.one] at hc
  | tup l => simp [cellsOf, AV.one] at hc

theorem does_pure {P : Program} {o : Oper} {S : AS} {n : Nat} {E : Eff} (hE : E.objs = [])
    (h : ∀ (c : Ctx) (p : Nat → Prop) (ρ : Env) (a : Act) (w : World), Mod c p ρ S a.tmps w → ∃ v, (execOp a.eval o).run P w = .ok (.value v) w ∧ Rep ρ E.val v) : DoesAt P o S n E := by
  intro rd m0 c p ρ a w hm hn K Q hK
  obtain ⟨v, hr, hv⟩ := h c p ρ a w hm
  refine wpIn_value hr ?_
  exact hK v ρ w (by rw [hE]; exact hm.mono fun i h => .inl h) hv

theorem does_move {P : Program} {o : Oper} {S : AS} {n : Nat} (x : Operand) (ho : o.op = .move x ∨ o.op = .assign x) : DoesAt P o S n ⟨S.val x, [], []⟩ :=
  does_pure rfl fun c p ρ a w hm => ⟨a.eval x, by rcases ho with ho | ho <;> simp [execOp, ho], hm.val x⟩
theorem does_pick {P : Program} {o : Oper} {S : AS} {n : Nat} {c x y : Operand} {t : Bool} (ho : o.op = .pick c x y) (hc : S.val c = .raw (.bool t)) : DoesAt P o S n ⟨if t then S.val x else S.val y, [], []⟩ :=
  does_pure rfl fun c' p ρ a w hm => by
    have h := hm.raw hc
    cases t
    · exact ⟨a.eval y, by simp [execOp, ho, h, asBool], hm.val y⟩
    · exact ⟨a.eval x, by simp [execOp, ho, h, asBool], hm.val x⟩

/-- a name that is not given yet. -/
theorem Mod.fresh {c : Ctx} {p : Nat → Prop} {ρ : Env} {S : AS} {tm : Array Value} {w : World} (h : Mod c p ρ S tm w) {n : Nat} (hn : ∀ i, p i → i / 8 ≠ n) {k : Nat} (hk : k / 8 = n) : ρ.f k = none := by
  cases e : ρ.f k with
  | none => rfl
  | some y => exact absurd hk (hn _ (h.dom _ _ e).1)
theorem Mod.n0 {c : Ctx} {p : Nat → Prop} {ρ : Env} {S : AS} {tm : Array Value} {w : World} (h : Mod c p ρ S tm w) {n : Nat} (hn : ∀ i, p i → i / 8 ≠ n) : n ≠ 0 := fun e => hn 0 (h.lo 0 (by omega)) (by omega)
def Env.with (ρ : Env) (k : Nat) (x : Value) : Env := ⟨fun i => if i = k then some x else ρ.f i, ρ.R⟩
theorem ext_with {ρ : Env} {k : Nat} {x : Value} (h : ρ.f k = none) : ExtE ρ (ρ.with k x) := ⟨fun i y e => by
  have : i ≠ k := fun e2 => by subst e2; rw [h] at e; cases e
  show (if i = k then _ else _) = _
  rw [if_neg this]; exact e, SubR.refl _⟩
theorem with_self (ρ : Env) (k : Nat) (x : Value) : (ρ.with k x).f k = some x := by show (if k = k then _ else _) = _; rw [if_pos rfl]
theorem with_dom {c : Ctx} {p : Nat → Prop} {ρ : Env} {S : AS} {tm : Array Value} {w : World} (h : Mod c p ρ S tm w) {n k : Nat} {x : Value} (hk : k / 8 = n) (hx : x.oneCell' = true) : ∀ i y, (ρ.with k x).f i = some y → (p i ∨ i / 8 = n) ∧ y.oneCell' = true := fun i y e => by
  have e : (if i = k then some x else ρ.f i) = some y := e
  split at e
  · next e2 => obtain rfl := Option.some.inj e; exact ⟨.inr (by omega), hx⟩
  · exact ⟨.inl (h.dom i y e).1, (h.dom i y e).2⟩
theorem with_low {ρ : Env} {k i : Nat} {x : Value} (hi : i < 8) (hk : 8 ≤ k) : (ρ.with k x).f i = ρ.f i := by show (if i = k then _ else _) = _; rw [if_neg (by omega)]
/-- what is made anew: one block. -/
theorem Mod.made {c : Ctx} {p : Nat → Prop} {ρ : Env} {S : AS} {tm : Array Value} {w : World} (h : Mod c p ρ S tm w) {n : Nat} (hn : ∀ i, p i → i / 8 ≠ n) {x : Value} {o : AO} {ob : Obj} (hx : x.oneCell' = true)
    (ho : ∀ ρ', ExtE ρ ρ' → ObjAt ρ' (w.alloc ob) x o) (hb : ∀ g, oblk x o = some g → w.heap.size ≤ g) :
    ∃ ρ', ExtE ρ ρ' ∧ ρ'.f (8 * n) = some x ∧ Mod c (fun i => p i ∨ i / 8 = n) ρ' (S.upd [(8 * n, some o)]) tm (w.alloc ob) := by
  have hfr := h.fresh hn (k := 8 * n) (by omega)
  have hn0 := h.n0 hn
  have he := ext_with (x := x) hfr
  refine ⟨_, he, with_self .., h.step0 [(8 * n, some o)] he.f rfl (fun i hi => with_low hi (by omega)) (fun i h => .inl h) (with_dom h (by omega) hx) rfl rfl rfl (by simp) ?_ ?_ ?_⟩
  · intro g hg _
    exact Below.heap_alloc w ob g hg
  · intro i o' hf
    simp only [find] at hf
    split at hf
    · next e =>
      subst e
      cases hf
      exact ⟨x, with_self .., ho _ he, fun g hg => .inl (hb g hg)⟩
    · cases hf
  · intro i j oi oj x' y' hne h1 h2
    simp only [find] at h1 h2
    split at h1
    · next e1 =>
      split at h2
      · next e2 => omega
      · cases h2
    · cases h1

theorem Mod.add {c : Ctx} {p p' : Nat → Prop} {ρ : Env} {S : AS} {tm : Array Value} {w w' : World} (h : Mod c p ρ S tm w) {k : Nat} (hk : ρ.f k = none) (hk8 : 8 ≤ k) (hpp : ∀ i, p i → p' i) (hpk : p' k) {x : Value} {o : AO} (hx : x.oneCell' = true) (hw : w' = w ∨ ∃ ob, w' = w.alloc ob) (ho : ∀ ρ', ExtE ρ ρ' → ObjAt ρ' w' x o) (hb : ∀ g, oblk x o = some g → w.heap.size ≤ g) :
    Mod c p' (ρ.with k x) (S.upd [(k, some o)]) tm w' := by
  have he := ext_with (x := x) hk
  refine h.step0 [(k, some o)] he.f rfl (fun i hi => with_low hi hk8) hpp (fun i y e => ?_) ?_ ?_ ?_ ?_ ?_ ?_ ?_
  · have e : (if i = k then some x else ρ.f i) = some y := e
    by_cases hik : i = k
    · rw [if_pos hik] at e
      obtain rfl := Option.some.inj e
      exact ⟨hik ▸ hpk, hx⟩
    · rw [if_neg hik] at e
      exact ⟨hpp i (h.dom i y e).1, (h.dom i y e).2⟩
  · rcases hw with rfl | ⟨ob, rfl⟩ <;> rfl
  · rcases hw with rfl | ⟨ob, rfl⟩ <;> rfl
  · rcases hw with rfl | ⟨ob, rfl⟩ <;> rfl
  · rcases hw with rfl | ⟨ob, rfl⟩ <;> simp
  · intro g hg _
    rcases hw with rfl | ⟨ob, rfl⟩
    · rfl
    · exact Below.heap_alloc w ob g hg
  · intro i o' hf
    simp only [find] at hf
    split at hf
    · next e =>
      subst e
      cases hf
      exact ⟨x, with_self .., ho _ he, fun g hg => .inl (hb g hg)⟩
    · cases hf
  · intro i j oi oj x' y' hne h1 h2
    simp only [find] at h1 h2
    split at h1
    · next e1 =>
      split at h2
      · next e2 => omega
      · cases h2
    · cases h1

theorem obj_cells {ρ : Env} {w : World} {t : TypeId} {l : List AV} {cs : List Value} (hl : RepL ρ l cs) (h1 : ∀ u ∈ cs, u.oneCell' = true) : ∀ ρ', ExtE ρ ρ' → ObjAt ρ' (w.alloc (.cells cs.toArray t)) (.pointer (some ⟨w.heap.size, 0, none⟩)) (.cells t l) :=
  fun _ he => ⟨_, cs, rfl, Blk.new _ _ _, hl.ext he l cs, h1⟩

theorem does_box {P : Program} {o : Oper} {S : AS} {n : Nat} {t : TypeId} {x : Operand} {l : List AV} (ho : o.op = .box t x) (hc : cellsOf (S.val x) = some l) : DoesAt P o S n ⟨.hdr (8 * n), [(8 * n, some (.cells t l))], []⟩ := by
  intro rd m0 c p ρ a w hm hn K Q hK
  obtain ⟨cs, e1, hl, h1⟩ := cells_of hm hc (hm.val x)
  obtain ⟨ρ', he, hx, hm'⟩ := hm.made hn (x := .pointer (some ⟨w.heap.size, 0, none⟩)) (o := .cells t l) (ob := .cells cs.toArray t) rfl (obj_cells hl h1) (fun g hg => by simp [oblk, blkOf] at hg; omega)
  have hr : (execOp a.eval o).run P w = .ok (.value (.pointer (some ⟨w.heap.size, 0, none⟩))) (w.alloc (.cells cs.toArray t)) := by
    simp [execOp, ho, Instr.box, newVar, newRow, e1]
  refine wpIn_value hr ?_
  exact hK _ ρ' _ hm' (by simp only [Rep]; exact hx)

/-- a type's row, as far as it matters. -/
structure TI where
  size : Nat
  bytes : Nat
  agg : Bool
  zero : List Value
  kind : Nat
  elem : Nat
  places : List (Nat × Nat)
def isAggD : TypeDesc → Bool
  | .struct _ | .array _ _ => true
  | _ => false
def tyI (P : Program) (t : TypeId) : Option TI :=
  match P.info? t, P.underlying t with
  | some i, some d => match i.zero with
    | some z => some ⟨i.size, i.bytes, isAggD d, z.cells.toList, (match d with | .slice _ => 1 | .array _ _ => 2 | .struct _ => 3 | _ => 0), (match d with | .slice e => e | .array _ e => e | .pointer e => e | _ => 0),
      (match d with
        | .struct fs => fs.toList.map fun f => (f.offset, ((P.info? f.type).map (·.size)).getD 0)
        | .array _ e => [(0, ((P.info? e).map (·.size)).getD 0)]
        | _ => [])⟩
    | none => none
  | _, _ => none
theorem tyI_spec {P : Program} {t : TypeId} {i : TI} (h : tyI P t = some i) : ∃ x d z, P.info? t = some x ∧ P.underlying t = some d ∧ x.zero = some z ∧ x.size = i.size ∧ x.bytes = i.bytes ∧ isAggD d = i.agg ∧ z.cells.toList = i.zero := by
  unfold tyI at h
  split at h
  · next x d h1 h2 =>
    split at h
    · next z hz => cases h; exact ⟨x, d, z, h1, h2, hz, rfl, rfl, rfl, rfl⟩
    · cases h
  · cases h

theorem does_alloc {P : Program} {o : Oper} {S : AS} {n : Nat} {t : TypeId} {i : TI} (ho : o.op = .alloc t) (hi : tyI P t = some i) (h1 : ∀ u ∈ i.zero, u.oneCell' = true) : DoesAt P o S n ⟨.hdr (8 * n), [(8 * n, some (.cells t (i.zero.map .raw)))], []⟩ := by
  intro rd m0 c p ρ a w hm hn K Q hK
  obtain ⟨x, d, z, e1, e2, e3, e4, e5, e6, e7⟩ := tyI_spec hi
  have hz : z.cells = i.zero.toArray := by rw [← e7]
  obtain ⟨ρ', he, hx, hm'⟩ := hm.made hn (x := .pointer (some ⟨w.heap.size, 0, none⟩)) (o := .cells t (i.zero.map .raw)) (ob := .cells i.zero.toArray t) rfl (obj_cells (RepL.raws _) h1) (fun g hg => by simp [oblk, blkOf] at hg; omega)
  have hr : (execOp a.eval o).run P w = .ok (.value (.pointer (some ⟨w.heap.size, 0, none⟩))) (w.alloc (.cells i.zero.toArray t)) := by
    simp [execOp, ho, Instr.alloc, newVar, newRow, zeroValue, typeInfo, e1, e3, hz]
  refine wpIn_value hr ?_
  exact hK _ ρ' _ hm' (by simp only [Rep]; exact hx)
/-- a variable of a slice type: nothing lies in it yet. -/
theorem does_allocrow {P : Program} {o : Oper} {S : AS} {n : Nat} {t : TypeId} {i ie : TI} (ho : o.op = .alloc t) (hi : tyI P t = some i) (hz : i.zero = [.slice none 0 0]) : DoesAt P o S n ⟨.hdr (8 * n), [(8 * n, some (.cells t [.hdr (8 * n + 1)])), (8 * n + 1, some (.row i.elem ie.size []))], []⟩ := by
  intro rd m0 c p ρ a w hm hn K Q hK
  obtain ⟨x, d, z, e1, e2, e3, e4, e5, e6, e7⟩ := tyI_spec hi
  have hz' : z.cells = #[.slice none 0 0] := by rw [hz] at e7; exact Array.toList_inj.1 e7
  have hn0 := hm.n0 hn
  have hfr1 : ρ.f (8 * n + 1) = none := hm.fresh hn (by omega)
  have hfr0 : ρ.f (8 * n) = none := hm.fresh hn (by omega)
  have h1 := hm.add (p' := fun i => p i ∨ i / 8 = n) (w' := w) hfr1 (by omega) (fun i h => .inl h) (.inr (by omega)) (x := .slice none 0 0) (o := .row i.elem ie.size []) rfl (.inl rfl) (fun ρ' he => ⟨[], by simp [PRepLL], by simp, by simp, .inl ⟨rfl, none, rfl⟩⟩) (fun g hg => by cases hg)
  have hfr2 : (ρ.with (8 * n + 1) (.slice none 0 0)).f (8 * n) = none := by
    show (if _ then _ else _) = none
    rw [if_neg (by omega)]; exact hfr0
  have hx1 : (ρ.with (8 * n + 1) (.slice none 0 0)).f (8 * n + 1) = some (.slice none 0 0) := with_self ..
  have h2 := h1.add (p' := fun i => p i ∨ i / 8 = n) hfr2 (by omega) (fun i h => h) (.inr (by omega)) (x := .pointer (some ⟨w.heap.size, 0, none⟩)) (o := .cells t [.hdr (8 * n + 1)]) rfl (.inr ⟨.cells #[.slice none 0 0] t, rfl⟩)
    (obj_cells (cs := [.slice none 0 0]) (by simp only [RepL, Rep]; exact ⟨hx1, trivial⟩) (by simp [Value.oneCell'])) (fun g hg => by simp [oblk, blkOf] at hg; omega)
  have hr : (execOp a.eval o).run P w = .ok (.value (.pointer (some ⟨w.heap.size, 0, none⟩))) (w.alloc (.cells #[.slice none 0 0] t)) := by
    simp [execOp, ho, Instr.alloc, newVar, newRow, zeroValue, typeInfo, e1, e3, hz']
  refine wpIn_value hr ?_
  exact hK _ _ _ h2 (by simp only [Rep]; exact with_self ..)
/-- a variable of a slice type that holds nothing. -/
theorem does_boxrow {P : Program} {o : Oper} {S : AS} {n : Nat} {t : TypeId} {x : Operand} {i ie : TI} (ho : o.op = .box t x) (hx : S.val x = .raw (.slice none 0 0)) : DoesAt P o S n ⟨.hdr (8 * n), [(8 * n, some (.cells t [.hdr (8 * n + 1)])), (8 * n + 1, some (.row i.elem ie.size []))], []⟩ := by
  intro rd m0 c p ρ a w hm hn K Q hK
  have hn0 := hm.n0 hn
  have hfr1 : ρ.f (8 * n + 1) = none := hm.fresh hn (by omega)
  have hfr0 : ρ.f (8 * n) = none := hm.fresh hn (by omega)
  have h1 := hm.add (p' := fun i => p i ∨ i / 8 = n) (w' := w) hfr1 (by omega) (fun i h => .inl h) (.inr (by omega)) (x := .slice none 0 0) (o := .row i.elem ie.size []) rfl (.inl rfl) (fun ρ' he => ⟨[], by simp [PRepLL], by simp, by simp, .inl ⟨rfl, none, rfl⟩⟩) (fun g hg => by cases hg)
  have hfr2 : (ρ.with (8 * n + 1) (.slice none 0 0)).f (8 * n) = none := by
    show (if _ then _ else _) = none
    rw [if_neg (by omega)]; exact hfr0
  have hx1 : (ρ.with (8 * n + 1) (.slice none 0 0)).f (8 * n + 1) = some (.slice none 0 0) := with_self ..
  have h2 := h1.add (p' := fun i => p i ∨ i / 8 = n) hfr2 (by omega) (fun i h => h) (.inr (by omega)) (x := .pointer (some ⟨w.heap.size, 0, none⟩)) (o := .cells t [.hdr (8 * n + 1)]) rfl (.inr ⟨.cells #[.slice none 0 0] t, rfl⟩)
    (obj_cells (cs := [.slice none 0 0]) (by simp only [RepL, Rep]; exact ⟨hx1, trivial⟩) (by simp [Value.oneCell'])) (fun g hg => by simp [oblk, blkOf] at hg; omega)
  have hr : (execOp a.eval o).run P w = .ok (.value (.pointer (some ⟨w.heap.size, 0, none⟩))) (w.alloc (.cells #[.slice none 0 0] t)) := by
    have e1 : (Value.slice none 0 0).cells = #[.slice none 0 0] := rfl
    simp [execOp, ho, Instr.box, newVar, newRow, hm.raw hx, e1]
  refine wpIn_value hr ?_
  exact hK _ _ _ h2 (by simp only [Rep]; exact with_self ..)
end Go.Proofs.Ytiidfcadmdahmaa
