/- ENGINE 1: abstract values, objects and states of a call; over any program. -/
import Derived.Test.YtmgckellncfjpaaMem3
import Derived.Test.YtmgckellncfjpaaLoose
set_option linter.unusedSimpArgs false
set_option linter.unusedVariables false
namespace Go.Proofs.Ytmgckellncfjpaa
open Go.RowKit

/-- an abstract value: unknown, a value told, an object's header or pointer, a pointer into an object, what is put together of such. -/
inductive AV where
  | dead
  | raw (v : Value)
  | hdr (id : Nat)
  | ptr (id s k j : Nat)
  | agg (l : List AV)
  | tup (l : List AV)
  | clo (f : Fn) (l : List AV)

/-- an object: a block known whole; a row of the call's own; a row that is read. -/
inductive AO where
  | cells (t : TypeId) (l : List AV)
  | row (e : TypeId) (s : Nat) (rows : List (List Value))
  | ext (s : Nat) (rows : List (List Value))
def AO.live : AO → Bool
  | .ext .. => false
  | _ => true

abbrev Env := Nat → Option Value
def HasBase (v : Value) (b o : Nat) : Prop := v = .pointer (some ⟨b, o, none⟩) ∨ ∃ n c, v = .slice (some ⟨b, o, none⟩) n c
def blkOf : Value → Option Nat
  | .pointer (some a) => some a.block
  | .slice (some a) _ _ => some a.block
  | _ => none
theorem HasBase.blk {v : Value} {b o : Nat} (h : HasBase v b o) : blkOf v = some b := by
  rcases h with rfl | ⟨n, c, rfl⟩ <;> rfl

mutual
def Rep (ρ : Env) : AV → Value → Prop
  | .dead, _ => True
  | .raw v, u => u = v
  | .hdr id, u => ρ id = some u
  | .ptr id s k j, u => ∃ x b o, ρ id = some x ∧ HasBase x b o ∧ u = .pointer (some ⟨b, o + (k * s + j), none⟩)
  | .agg l, u => ∃ cs : List Value, u = .agg cs.toArray ∧ RepL ρ l cs
  | .tup l, u => ∃ cs : List Value, u = .tuple cs.toArray ∧ RepL ρ l cs
  | .clo f l, u => ∃ cs : List Value, u = .func f #[] cs.toArray ∧ RepL ρ l cs
def RepL (ρ : Env) : List AV → List Value → Prop
  | [], [] => True
  | a :: l, v :: vs => Rep ρ a v ∧ RepL ρ l vs
  | _, _ => False
end
def ExtE (ρ ρ' : Env) : Prop := ∀ i x, ρ i = some x → ρ' i = some x
theorem ExtE.refl (ρ : Env) : ExtE ρ ρ := fun _ _ h => h
theorem ExtE.trans {a b c : Env} (h : ExtE a b) (k : ExtE b c) : ExtE a c := fun i x e => k i x (h i x e)

mutual
theorem Rep.ext {ρ ρ' : Env} (h : ExtE ρ ρ') : ∀ (a : AV) (v : Value), Rep ρ a v → Rep ρ' a v
  | .dead, _, _ => by simp [Rep]
  | .raw _, _, e => by simpa [Rep] using e
  | .hdr id, v, e => by simp only [Rep] at e ⊢; exact h _ _ e
  | .ptr id s k j, v, e => by
    simp only [Rep] at e ⊢
    obtain ⟨x, b, o, h1, h2, h3⟩ := e
    exact ⟨x, b, o, h _ _ h1, h2, h3⟩
  | .agg l, v, e => by
    simp only [Rep] at e ⊢
    obtain ⟨cs, h1, h2⟩ := e
    exact ⟨cs, h1, RepL.ext h l cs h2⟩
  | .tup l, v, e => by
    simp only [Rep] at e ⊢
    obtain ⟨cs, h1, h2⟩ := e
    exact ⟨cs, h1, RepL.ext h l cs h2⟩
  | .clo f l, v, e => by
    simp only [Rep] at e ⊢
    obtain ⟨cs, h1, h2⟩ := e
    exact ⟨cs, h1, RepL.ext h l cs h2⟩
theorem RepL.ext {ρ ρ' : Env} (h : ExtE ρ ρ') : ∀ (l : List AV) (vs : List Value), RepL ρ l vs → RepL ρ' l vs
  | [], [], _ => by simp [RepL]
  | [], _ :: _, e => by simp [RepL] at e
  | _ :: _, [], e => by simp [RepL] at e
  | a :: l, v :: vs, e => by
    simp only [RepL] at e ⊢
    exact ⟨Rep.ext h a v e.1, RepL.ext h l vs e.2⟩
end
theorem RepL.length {ρ : Env} : ∀ {l : List AV} {vs : List Value}, RepL ρ l vs → vs.length = l.length
  | [], [], _ => rfl
  | [], _ :: _, e => by simp [RepL] at e
  | _ :: _, [], e => by simp [RepL] at e
  | a :: l, v :: vs, e => by simp only [RepL] at e; simp [RepL.length e.2]
theorem RepL.get {ρ : Env} : ∀ {l : List AV} {vs : List Value} (k : Nat) {a : AV}, RepL ρ l vs → l[k]? = some a → ∃ v, vs[k]? = some v ∧ Rep ρ a v
  | [], _, _, _, _, h => by simp at h
  | _ :: _, [], _, _, e, _ => by simp [RepL] at e
  | a :: l, v :: vs, 0, a', e, h => by
    simp only [RepL] at e
    obtain rfl : a = a' := by simpa using h
    exact ⟨v, rfl, e.1⟩
  | a :: l, v :: vs, k + 1, a', e, h => by
    simp only [RepL] at e
    obtain ⟨u, h1, h2⟩ := RepL.get k e.2 (by simpa using h)
    exact ⟨u, by simpa using h1, h2⟩
theorem RepL.set {ρ : Env} : ∀ {l : List AV} {vs : List Value} (k : Nat) {a : AV} {v : Value}, RepL ρ l vs → Rep ρ a v → RepL ρ (l.set k a) (vs.set k v)
  | [], [], _, _, _, _, _ => by simp [RepL]
  | [], _ :: _, _, _, _, e, _ => by simp [RepL] at e
  | _ :: _, [], _, _, _, e, _ => by simp [RepL] at e
  | b :: l, u :: vs, 0, a, v, e, h => by
    simp only [RepL] at e
    simp only [List.set_cons_zero, RepL]
    exact ⟨h, e.2⟩
  | b :: l, u :: vs, k + 1, a, v, e, h => by
    simp only [RepL] at e
    simp only [List.set_cons_succ, RepL]
    exact ⟨e.1, RepL.set k e.2 h⟩
theorem RepL.drop {ρ : Env} : ∀ {l : List AV} {vs : List Value} (k : Nat), RepL ρ l vs → RepL ρ (l.drop k) (vs.drop k)
  | _, _, 0, e => e
  | [], [], _ + 1, _ => by simp [RepL]
  | [], _ :: _, _ + 1, e => by simp [RepL] at e
  | _ :: _, [], _ + 1, e => by simp [RepL] at e
  | a :: l, v :: vs, k + 1, e => by simp only [RepL] at e; simpa using RepL.drop k e.2
theorem RepL.take {ρ : Env} : ∀ {l : List AV} {vs : List Value} (k : Nat), RepL ρ l vs → RepL ρ (l.take k) (vs.take k)
  | _, _, 0, _ => by simp [RepL]
  | [], [], _ + 1, _ => by simp [RepL]
  | [], _ :: _, _ + 1, e => by simp [RepL] at e
  | _ :: _, [], _ + 1, e => by simp [RepL] at e
  | a :: l, v :: vs, k + 1, e => by
    simp only [RepL] at e
    simp only [List.take_succ_cons, RepL]
    exact ⟨e.1, RepL.take k e.2⟩
theorem RepL.raws {ρ : Env} (vs : List Value) : RepL ρ (vs.map .raw) vs := by
  induction vs with
  | nil => simp [RepL]
  | cons v vs ih => simp only [List.map_cons, RepL, Rep]; exact ⟨trivial, ih⟩
theorem RepL.append {ρ : Env} : ∀ {l m : List AV} {vs us : List Value}, RepL ρ l vs → RepL ρ m us → RepL ρ (l ++ m) (vs ++ us)
  | [], _, [], _, _, h => h
  | [], _, _ :: _, _, e, _ => by simp [RepL] at e
  | _ :: _, _, [], _, e, _ => by simp [RepL] at e
  | a :: l, m, v :: vs, us, e, h => by
    simp only [RepL] at e
    simp only [List.cons_append, RepL]
    exact ⟨e.1, RepL.append e.2 h⟩

/-- the block of an object (of a row that is read, and is empty: none). -/
def oblk (x : Value) : AO → Option Nat
  | .ext _ [] => none
  | _ => blkOf x
theorem oblk_live {x : Value} {o : AO} (h : o.live = true) : oblk x o = blkOf x := by cases o <;> first | rfl | cases h

/-- the object of a header, in a world. -/
def ObjAt (ρ : Env) (w : World) (x : Value) : AO → Prop
  | .cells t l => ∃ (g : Nat) (cs : List Value), x = .pointer (some ⟨g, 0, none⟩) ∧ Blk w g t cs.toArray ∧ RepL ρ l cs ∧ ∀ u ∈ cs, u.oneCell' = true
  | .row e s rows => w.ownsRow 0 e s x rows.length rows.flatten ∧ (∀ r ∈ rows, r.length = s) ∧ ∀ r ∈ rows, ∀ u ∈ r, u.oneCell' = true
  | .ext s rows => ∃ A c, x = .slice A rows.length c ∧ RowAt w A s id rows ∧ (∀ r ∈ rows, r.length = s) ∧ (∀ r ∈ rows, ∀ u ∈ r, u.oneCell' = true) ∧ rows.length ≤ c
theorem ObjAt.lt {ρ : Env} {w : World} {x : Value} {o : AO} (h : ObjAt ρ w x o) {g : Nat} (hg : oblk x o = some g) : g < w.heap.size := by
  cases o with
  | cells t l =>
    obtain ⟨g', cs, rfl, hb, -⟩ := h
    simp [oblk, blkOf] at hg; subst hg
    exact hb.lt
  | row e s rows =>
    obtain ⟨h1, -⟩ := h
    rcases h1.2 with ⟨rfl, -⟩ | ⟨g', cap, cur, rfl, -, hh, -⟩
    · simp [oblk, blkOf] at hg
    · simp [oblk, blkOf] at hg; subst hg
      exact (Array.getElem?_eq_some_iff.1 hh).1
  | ext s rows =>
    cases rows with
    | nil => simp [oblk] at hg
    | cons r rows =>
      obtain ⟨A, c, rfl, h1, -⟩ := h
      obtain ⟨b, off, rfl, hb, -⟩ := h1 0 (by simp)
      simp [oblk, blkOf] at hg; subst hg
      exact hb
theorem ObjAt.keep {ρ ρ' : Env} {w w' : World} {x : Value} {o : AO} (h : ObjAt ρ w x o) (he : ExtE ρ ρ') (hs : w.heap.size ≤ w'.heap.size) (hk : ∀ g, oblk x o = some g → g < w.heap.size → w'.heap[g]? = w.heap[g]?) : ObjAt ρ' w' x o := by
  cases o with
  | cells t l =>
    obtain ⟨g, cs, rfl, hb, hr, h1⟩ := h
    exact ⟨g, cs, rfl, (hk g rfl hb.lt).trans hb, hr.ext he l cs, h1⟩
  | row e s rows =>
    obtain ⟨⟨h1, h2⟩, h3, h4⟩ := h
    refine ⟨⟨h1, ?_⟩, h3, h4⟩
    rcases h2 with h2 | ⟨g, cap, cur, rfl, h5, h6, h7⟩
    · exact .inl h2
    · exact .inr ⟨g, cap, cur, rfl, h5, (hk g rfl (Array.getElem?_eq_some_iff.1 h6).1).trans h6, h7⟩
  | ext s rows =>
    obtain ⟨A, c, rfl, h1, h2⟩ := h
    refine ⟨A, c, rfl, fun k hl => ?_, h2⟩
    obtain ⟨b, off, rfl, hb, hc⟩ := h1 k hl
    have hk' := hk b (by cases rows with
      | nil => simp at hl
      | cons => rfl) hb
    exact ⟨b, off, rfl, by omega, fun i hi => (World.cell?_of_block hk').trans (hc i hi)⟩
theorem ObjAt.ext {ρ ρ' : Env} {w : World} {x : Value} {o : AO} (h : ObjAt ρ w x o) (he : ExtE ρ ρ') : ObjAt ρ' w x o := h.keep he (Nat.le_refl _) (fun _ _ _ => rfl)

def find {α : Type} : List (Nat × α) → Nat → Option α
  | [], _ => none
  | (k, v) :: l, i => if k = i then some v else find l i

structure AS where
  t : List (Nat × AV)
  s : List (Nat × Option AO)
  lg : Option (List (List Nat × List Nat))
def AS.get (S : AS) (d : Nat) : AV := (find S.t d).getD .dead
def AS.obj (S : AS) (i : Nat) : Option AO := (find S.s i).getD none
def AS.put (S : AS) (d : Nat) (v : AV) : AS := ⟨(d, v) :: S.t, S.s, S.lg⟩
def AS.putO (S : AS) : Option Nat → AV → AS
  | some d, v => S.put d v
  | none, _ => S
def AS.upd (S : AS) (u : List (Nat × Option AO)) : AS := ⟨S.t, u ++ S.s, S.lg⟩

structure FrameM (M : Nat → Prop) (w0 w : World) : Prop where
  os : w.os = w0.os
  tape : w.tape = w0.tape
  output : w.output = w0.output
  size : w0.heap.size ≤ w.heap.size
  block : ∀ g, g < w0.heap.size → ¬ M g → w.heap[g]? = w0.heap[g]?
theorem FrameM.refl (M : Nat → Prop) (w : World) : FrameM M w w := ⟨rfl, rfl, rfl, Nat.le_refl _, fun _ _ _ => rfl⟩

/-- where a call began: how many slots it has, which old blocks it may turn, its world, its objects. -/
structure Ctx where
  N : Nat
  M : Nat → Prop
  B : Nat → Prop
  w0 : World
  ρ0 : Env
structure Mod (c : Ctx) (p : Nat → Prop) (ρ : Env) (S : AS) (tm : Array Value) (w : World) : Prop where
  size : tm.size = c.N
  base : ∀ i, i < 8 → ρ i = c.ρ0 i
  lo : ∀ i, i < 8 → p i
  dom : ∀ i x, ρ i = some x → p i ∧ x.oneCell' = true
  tmps : ∀ d, Rep ρ (S.get d) (tm.getD d undef)
  objs : ∀ i o, S.obj i = some o → ∃ x, ρ i = some x ∧ ObjAt ρ w x o
  apart : ∀ i j oi oj x y, i ≠ j → S.obj i = some oi → S.obj j = some oj → oi.live = true → ρ i = some x → ρ j = some y → ∀ g, oblk x oi = some g → oblk y oj ≠ some g
  old : ∀ i o x g, S.obj i = some o → o.live = true → ρ i = some x → oblk x o = some g → c.M g ∨ c.w0.heap.size ≤ g
  rd : ∀ i o x g, S.obj i = some o → ρ i = some x → oblk x o = some g → c.M g ∨ c.w0.heap.size ≤ g ∨ c.B g
  frame : FrameM c.M c.w0 w

theorem find_append {α : Type} (l m : List (Nat × α)) (i : Nat) : find (l ++ m) i = match find l i with | some v => some v | none => find m i := by
  induction l with
  | nil => rfl
  | cons p l ih =>
    obtain ⟨k, v⟩ := p
    simp only [List.cons_append, find]
    split
    · rfl
    · exact ih

/-- the blocks that updates touch. -/
def Touch (ρ : Env) (S : AS) (u : List (Nat × Option AO)) (g : Nat) : Prop := ∃ i o x q, find u i = some q ∧ S.obj i = some o ∧ o.live = true ∧ ρ i = some x ∧ oblk x o = some g

/-- a step that leaves a world in which the objects are as they are told, all others as they were. -/
theorem Mod.step {c : Ctx} {p p' : Nat → Prop} {ρ ρ' : Env} {S : AS} {tm : Array Value} {w w' : World} (h : Mod c p ρ S tm w) (u : List (Nat × Option AO)) (he : ExtE ρ ρ') (hlo : ∀ i, i < 8 → ρ' i = ρ i) (hlp : ∀ i, p i → p' i)
    (hdom : ∀ i x, ρ' i = some x → p' i ∧ x.oneCell' = true)
    (hos : w'.os = w.os) (htp : w'.tape = w.tape) (hout : w'.output = w.output) (hsz : w.heap.size ≤ w'.heap.size) (hkeep : ∀ g, g < w.heap.size → ¬ Touch ρ S u g → w'.heap[g]? = w.heap[g]?)
    (hnew : ∀ i o, find u i = some (some o) → ∃ x, ρ' i = some x ∧ ObjAt ρ' w' x o ∧ ∀ g, oblk x o = some g → w.heap.size ≤ g ∨ Touch ρ S u g ∨ (o.live = false ∧ ∃ j oj y, S.obj j = some oj ∧ oj.live = false ∧ ρ j = some y ∧ oblk y oj = some g))
    (hap : ∀ i j oi oj x y, i ≠ j → find u i = some (some oi) → find u j = some (some oj) → oi.live = true → ρ' i = some x → ρ' j = some y → ∀ g, oblk x oi = some g → oblk y oj ≠ some g) :
    Mod c p' ρ' (S.upd u) tm w' := by
  have hobj : ∀ i, (S.upd u).obj i = match find u i with | some q => q | none => S.obj i := fun i => by
    unfold AS.obj AS.upd
    simp only [find_append]
    cases find u i <;> rfl
  have hold : ∀ i o, find u i = none → S.obj i = some o → ∃ x, ρ i = some x ∧ ρ' i = some x ∧ ObjAt ρ' w' x o := fun i o hu ho => by
    obtain ⟨x, h1, h2⟩ := h.objs i o ho
    refine ⟨x, h1, he i x h1, h2.keep he hsz fun g hg hlt => hkeep g hlt ?_⟩
    rintro ⟨j, oj, y, q, e1, e2, e3, e4, e5⟩
    have hne : j ≠ i := fun e => by subst e; rw [hu] at e1; cases e1
    exact h.apart j i oj o y x hne e2 ho e3 e4 h1 g e5 hg
  have hnotT : ∀ i o x g, find u i = none → S.obj i = some o → ρ i = some x → oblk x o = some g → ¬ Touch ρ S u g := fun i o x g hu ho hx hg ⟨j, oj, y, q, e1, e2, e3, e4, e5⟩ => by
    have hne : j ≠ i := fun e => by subst e; rw [hu] at e1; cases e1
    exact h.apart j i oj o y x hne e2 ho e3 e4 hx g e5 hg
  refine ⟨h.size, fun i hi => (hlo i hi).trans (h.base i hi), fun i hi => hlp i (h.lo i hi), hdom, fun d => (h.tmps d).ext he, fun i o ho => ?_, ?_, ?_, ?_, ?_⟩
  · rw [hobj] at ho
    cases hu : find u i with
    | none =>
      rw [hu] at ho
      obtain ⟨x, -, h2, h3⟩ := hold i o hu ho
      exact ⟨x, h2, h3⟩
    | some q =>
      rw [hu] at ho
      dsimp only at ho
      subst ho
      obtain ⟨x, h1, h2, -⟩ := hnew i o hu
      exact ⟨x, h1, h2⟩
  · intro i j oi oj x y hne hi hj hl hx hy g hg hg'
    rw [hobj] at hi hj
    cases hui : find u i with
    | none =>
      rw [hui] at hi
      dsimp only at hi
      obtain ⟨x', hx1, hx2, -⟩ := hold i oi hui hi
      obtain rfl : x' = x := by rw [hx2] at hx; exact Option.some.inj hx
      have hltg : g < w.heap.size := by
        obtain ⟨x2, h5, h6⟩ := h.objs i oi hi
        rw [hx1] at h5; obtain rfl := Option.some.inj h5
        exact h6.lt hg
      cases huj : find u j with
      | none =>
        rw [huj] at hj
        dsimp only at hj
        obtain ⟨y', hy1, hy2, -⟩ := hold j oj huj hj
        obtain rfl : y' = y := by rw [hy2] at hy; exact Option.some.inj hy
        exact h.apart i j oi oj x' y' hne hi hj hl hx1 hy1 g hg hg'
      | some q =>
        rw [huj] at hj
        dsimp only at hj
        subst hj
        obtain ⟨y', hy1, -, hy3⟩ := hnew j oj huj
        obtain rfl : y' = y := by rw [hy1] at hy; exact Option.some.inj hy
        rcases hy3 g hg' with h1 | h1 | ⟨-, k, ok, z, e1, e2, e3, e4⟩
        · omega
        · exact hnotT i oi x' g hui hi hx1 hg h1
        · have hik : i ≠ k := fun e => by subst e; rw [hi] at e1; injection e1 with e1; subst e1; rw [hl] at e2; cases e2
          exact h.apart i k oi ok x' z hik hi e1 hl hx1 e3 g hg e4
    | some qi =>
      rw [hui] at hi
      dsimp only at hi
      subst hi
      obtain ⟨x', hx1, -, hx3⟩ := hnew i oi hui
      obtain rfl : x' = x := by rw [hx1] at hx; exact Option.some.inj hx
      cases huj : find u j with
      | some qj =>
        rw [huj] at hj
        dsimp only at hj
        subst hj
        exact hap i j oi oj x' y hne hui huj hl hx hy g hg hg'
      | none =>
        rw [huj] at hj
        dsimp only at hj
        obtain ⟨y', hy1, hy2, hy4⟩ := hold j oj huj hj
        obtain rfl : y' = y := by rw [hy2] at hy; exact Option.some.inj hy
        rcases hx3 g hg with h1 | h1 | ⟨h1, -⟩
        · obtain ⟨y2, h5, h6⟩ := h.objs j oj hj
          rw [hy1] at h5; obtain rfl := Option.some.inj h5
          have := h6.lt hg'; omega
        · exact hnotT j oj y' g huj hj hy1 hg' h1
        · rw [hl] at h1; cases h1
  · intro i o x g hi hl hx hg
    rw [hobj] at hi
    cases hui : find u i with
    | none =>
      rw [hui] at hi
      dsimp only at hi
      obtain ⟨x', hx1, hx2, -⟩ := hold i o hui hi
      obtain rfl : x' = x := by rw [hx2] at hx; exact Option.some.inj hx
      exact h.old i o x' g hi hl hx1 hg
    | some qi =>
      rw [hui] at hi
      dsimp only at hi
      subst hi
      obtain ⟨x', hx1, -, hx3⟩ := hnew i o hui
      obtain rfl : x' = x := by rw [hx1] at hx; exact Option.some.inj hx
      rcases hx3 g hg with h1 | ⟨j, oj, y, q, e1, e2, e3, e4, e5⟩ | ⟨h1, -⟩
      · exact .inr (Nat.le_trans h.frame.size h1)
      · exact h.old j oj y g e2 e3 e4 e5
      · rw [hl] at h1; cases h1
  · intro i o x g hi hx hg
    rw [hobj] at hi
    cases hui : find u i with
    | none =>
      rw [hui] at hi
      dsimp only at hi
      obtain ⟨x', hx1, hx2, -⟩ := hold i o hui hi
      obtain rfl : x' = x := by rw [hx2] at hx; exact Option.some.inj hx
      exact h.rd i o x' g hi hx1 hg
    | some qi =>
      rw [hui] at hi
      dsimp only at hi
      subst hi
      obtain ⟨x', hx1, -, hx3⟩ := hnew i o hui
      obtain rfl : x' = x := by rw [hx1] at hx; exact Option.some.inj hx
      rcases hx3 g hg with h1 | ⟨j, oj, y, q, e1, e2, e3, e4, e5⟩ | ⟨-, k, ok, z, e1, e2, e3, e4⟩
      · exact .inr (.inl (Nat.le_trans h.frame.size h1))
      · rcases h.old j oj y g e2 e3 e4 e5 with h1 | h1
        · exact .inl h1
        · exact .inr (.inl h1)
      · exact h.rd k ok z g e1 e3 e4
  · refine ⟨hos.trans h.frame.os, htp.trans h.frame.tape, hout.trans h.frame.output, Nat.le_trans h.frame.size hsz, fun g hg hM => ?_⟩
    refine (hkeep g (Nat.lt_of_lt_of_le hg h.frame.size) ?_).trans (h.frame.block g hg hM)
    rintro ⟨j, oj, y, q, e1, e2, e3, e4, e5⟩
    rcases h.old j oj y g e2 e3 e4 e5 with h1 | h1
    · exact hM h1
    · omega
end Go.Proofs.Ytmgckellncfjpaa
