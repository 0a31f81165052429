/- ENGINE (second) 1: abstract values, what never turns, objects and states of a call; over any program. -/
import Derived.Test.YtiidfcadmdahmaaMem3
import Derived.Test.YtiidfcadmdahmaaLoose
set_option linter.unusedSimpArgs false
set_option linter.unusedVariables false
namespace Go.Proofs.Ytiidfcadmdahmaa
open Go.RowKit

/-- a value that never turns: one cell, or a slice whose elements never turn. -/
inductive PV where
  | raw (v : Value)
  | sl (s : Nat) (rows : List (List PV))

/-- blocks that nobody turns any more. -/
abbrev Frz := Nat → Option Obj
def rcell (R : Frz) (b o : Nat) : Option Value := match R b with
  | some (.cells c _ _) => c[o]?
  | _ => none
def SubR (R R' : Frz) : Prop := ∀ g o, R g = some o → R' g = some o
theorem SubR.refl (R : Frz) : SubR R R := fun _ _ h => h
theorem SubR.trans {a b c : Frz} (h : SubR a b) (k : SubR b c) : SubR a c := fun g o e => k g o (h g o e)
theorem rcell_sub {R R' : Frz} (h : SubR R R') {b o : Nat} {v : Value} (e : rcell R b o = some v) : rcell R' b o = some v := by
  unfold rcell at e ⊢
  cases hb : R b with
  | none => rw [hb] at e; cases e
  | some ob => rw [h b ob hb]; rw [hb] at e; exact e

mutual
def PRep (R : Frz) : PV → Value → Prop
  | .raw v, u => u = v
  | .sl s rows, u => ∃ A c, u = .slice A rows.length c ∧ rows.length ≤ c ∧ PRows R A s 0 rows
def PRows (R : Frz) (A : Option Addr) (s : Nat) : Nat → List (List PV) → Prop
  | _, [] => True
  | k, r :: rest => (r.length = s ∧ ∃ b off, A = some ⟨b, off, none⟩ ∧ PCells R b (off + k * s) r) ∧ PRows R A s (k + 1) rest
def PCells (R : Frz) (b : Nat) : Nat → List PV → Prop
  | _, [] => True
  | o, p :: ps => (∃ v, rcell R b o = some v ∧ v.oneCell' = true ∧ PRep R p v) ∧ PCells R b (o + 1) ps
end
mutual
theorem PRep.sub {R R' : Frz} (h : SubR R R') : ∀ (p : PV) (v : Value), PRep R p v → PRep R' p v
  | .raw _, _, e => by simpa [PRep] using e
  | .sl s rows, v, e => by
    simp only [PRep] at e ⊢
    obtain ⟨A, c, e1, e2, e3⟩ := e
    exact ⟨A, c, e1, e2, PRows.sub h rows 0 e3⟩
theorem PRows.sub {R R' : Frz} (h : SubR R R') {A : Option Addr} {s : Nat} : ∀ (rows : List (List PV)) (k : Nat), PRows R A s k rows → PRows R' A s k rows
  | [], _, _ => by simp [PRows]
  | r :: rest, k, e => by
    simp only [PRows] at e ⊢
    obtain ⟨⟨e1, b, off, e2, e3⟩, e4⟩ := e
    exact ⟨⟨e1, b, off, e2, PCells.sub h r _ e3⟩, PRows.sub h rest _ e4⟩
theorem PCells.sub {R R' : Frz} (h : SubR R R') {b : Nat} : ∀ (ps : List PV) (o : Nat), PCells R b o ps → PCells R' b o ps
  | [], _, _ => by simp [PCells]
  | p :: ps, o, e => by
    simp only [PCells] at e ⊢
    obtain ⟨⟨v, e1, e2, e3⟩, e4⟩ := e
    exact ⟨⟨v, rcell_sub h e1, e2, PRep.sub h p v e3⟩, PCells.sub h ps _ e4⟩
end
theorem PRows.get {R : Frz} {A : Option Addr} {s : Nat} : ∀ {rows : List (List PV)} {k0 k : Nat} {r : List PV}, PRows R A s k0 rows → rows[k]? = some r → r.length = s ∧ ∃ b off, A = some ⟨b, off, none⟩ ∧ PCells R b (off + (k0 + k) * s) r
  | [], _, _, _, _, h => by simp at h
  | r :: rest, k0, 0, r', e, h => by
    simp only [PRows] at e
    obtain rfl : r = r' := by simpa using h
    simpa using e.1
  | r :: rest, k0, k + 1, r', e, h => by
    simp only [PRows] at e
    have := PRows.get (k := k) e.2 (by simpa using h)
    rwa [show k0 + (k + 1) = k0 + 1 + k by omega]
theorem PRows.mk_ {R : Frz} {A : Option Addr} {s : Nat} : ∀ {rows : List (List PV)} {k0 : Nat}, (∀ k r, rows[k]? = some r → r.length = s ∧ ∃ b off, A = some ⟨b, off, none⟩ ∧ PCells R b (off + (k0 + k) * s) r) → PRows R A s k0 rows
  | [], _, _ => by simp [PRows]
  | r :: rest, k0, h => by
    simp only [PRows]
    refine ⟨by simpa using h 0 r rfl, PRows.mk_ fun k r' hk => ?_⟩
    have := h (k + 1) r' (by simpa using hk)
    rwa [show k0 + (k + 1) = k0 + 1 + k by omega] at this
theorem PCells.get {R : Frz} {b : Nat} : ∀ {ps : List PV} {o i : Nat} {p : PV}, PCells R b o ps → ps[i]? = some p → ∃ v, rcell R b (o + i) = some v ∧ v.oneCell' = true ∧ PRep R p v
  | [], _, _, _, _, h => by simp at h
  | p :: ps, o, 0, p', e, h => by
    simp only [PCells] at e
    obtain rfl : p = p' := by simpa using h
    simpa using e.1
  | p :: ps, o, i + 1, p', e, h => by
    simp only [PCells] at e
    have := PCells.get (i := i) e.2 (by simpa using h)
    rwa [show o + (i + 1) = o + 1 + i by omega]
theorem PCells.mk_ {R : Frz} {b : Nat} : ∀ {ps : List PV} {o : Nat}, (∀ i p, ps[i]? = some p → ∃ v, rcell R b (o + i) = some v ∧ v.oneCell' = true ∧ PRep R p v) → PCells R b o ps
  | [], _, _ => by simp [PCells]
  | p :: ps, o, h => by
    simp only [PCells]
    refine ⟨by simpa using h 0 p rfl, PCells.mk_ fun i p' hi => ?_⟩
    have := h (i + 1) p' (by simpa using hi)
    rwa [show o + (i + 1) = o + 1 + i by omega] at this

def PRepL (R : Frz) : List PV → List Value → Prop
  | [], [] => True
  | p :: ps, v :: vs => PRep R p v ∧ PRepL R ps vs
  | _, _ => False
theorem PRepL.sub {R R' : Frz} (h : SubR R R') : ∀ {ps : List PV} {vs : List Value}, PRepL R ps vs → PRepL R' ps vs
  | [], [], _ => trivial
  | [], _ :: _, e => e.elim
  | _ :: _, [], e => e.elim
  | _ :: _, _ :: _, e => ⟨e.1.sub h, e.2.sub h⟩
theorem PRepL.length {R : Frz} : ∀ {ps : List PV} {vs : List Value}, PRepL R ps vs → vs.length = ps.length
  | [], [], _ => rfl
  | [], _ :: _, e => e.elim
  | _ :: _, [], e => e.elim
  | _ :: _, _ :: _, e => by simp [e.2.length]
theorem PRepL.get {R : Frz} : ∀ {ps : List PV} {vs : List Value} {i : Nat} {p : PV}, PRepL R ps vs → ps[i]? = some p → ∃ v, vs[i]? = some v ∧ PRep R p v
  | [], _, _, _, _, h => by simp at h
  | _ :: _, [], _, _, e, _ => e.elim
  | p :: ps, v :: vs, 0, p', e, h => by
    obtain rfl : p = p' := by simpa using h
    exact ⟨v, rfl, e.1⟩
  | p :: ps, v :: vs, i + 1, p', e, h => by
    obtain ⟨u, h1, h2⟩ := PRepL.get (i := i) e.2 (by simpa using h)
    exact ⟨u, by simpa using h1, h2⟩
theorem PRepL.append {R : Frz} : ∀ {ps qs : List PV} {vs us : List Value}, PRepL R ps vs → PRepL R qs us → PRepL R (ps ++ qs) (vs ++ us)
  | [], _, [], _, _, h => h
  | [], _, _ :: _, _, e, _ => e.elim
  | _ :: _, _, [], _, e, _ => e.elim
  | _ :: _, _, _ :: _, _, e, h => ⟨e.1, e.2.append h⟩
theorem PRepL.drop {R : Frz} : ∀ {ps : List PV} {vs : List Value} (k : Nat), PRepL R ps vs → PRepL R (ps.drop k) (vs.drop k)
  | _, _, 0, e => e
  | [], [], _ + 1, _ => trivial
  | [], _ :: _, _ + 1, e => e.elim
  | _ :: _, [], _ + 1, e => e.elim
  | _ :: _, _ :: _, k + 1, e => by simpa using PRepL.drop k e.2
theorem PRepL.take {R : Frz} : ∀ {ps : List PV} {vs : List Value} (k : Nat), PRepL R ps vs → PRepL R (ps.take k) (vs.take k)
  | _, _, 0, _ => by simp [PRepL]
  | [], [], _ + 1, _ => trivial
  | [], _ :: _, _ + 1, e => e.elim
  | _ :: _, [], _ + 1, e => e.elim
  | _ :: _, _ :: _, k + 1, e => ⟨e.1, PRepL.take k e.2⟩
theorem PCells.vals {R : Frz} {b : Nat} : ∀ {ps : List PV} {o : Nat}, PCells R b o ps → ∃ vs, PRepL R ps vs ∧ (∀ u ∈ vs, u.oneCell' = true) ∧ ∀ i u, vs[i]? = some u → rcell R b (o + i) = some u
  | [], _, _ => ⟨[], trivial, by simp, by simp⟩
  | p :: ps, o, e => by
    simp only [PCells] at e
    obtain ⟨⟨v, h1, h2, h3⟩, e2⟩ := e
    obtain ⟨vs, k1, k2, k3⟩ := PCells.vals e2
    refine ⟨v :: vs, ⟨h3, k1⟩, fun u hu => ?_, fun i u hi => ?_⟩
    · rcases List.mem_cons.1 hu with rfl | hu
      · exact h2
      · exact k2 u hu
    · cases i with
      | zero => obtain rfl : v = u := by simpa using hi
                exact h1
      | succ i => rw [show o + (i + 1) = o + 1 + i by omega]; exact k3 i u (by simpa using hi)
def PRepLL (R : Frz) : List (List PV) → List (List Value) → Prop
  | [], [] => True
  | p :: ps, v :: vs => PRepL R p v ∧ PRepLL R ps vs
  | _, _ => False
theorem PRepLL.sub {R R' : Frz} (h : SubR R R') : ∀ {ps : List (List PV)} {vs : List (List Value)}, PRepLL R ps vs → PRepLL R' ps vs
  | [], [], _ => trivial
  | [], _ :: _, e => e.elim
  | _ :: _, [], e => e.elim
  | _ :: _, _ :: _, e => ⟨e.1.sub h, e.2.sub h⟩
theorem PRepLL.length {R : Frz} : ∀ {ps : List (List PV)} {vs : List (List Value)}, PRepLL R ps vs → vs.length = ps.length
  | [], [], _ => rfl
  | [], _ :: _, e => e.elim
  | _ :: _, [], e => e.elim
  | _ :: _, _ :: _, e => by simp [e.2.length]
theorem PRepLL.get {R : Frz} : ∀ {ps : List (List PV)} {vs : List (List Value)} {i : Nat} {p : List PV}, PRepLL R ps vs → ps[i]? = some p → ∃ v, vs[i]? = some v ∧ PRepL R p v
  | [], _, _, _, _, h => by simp at h
  | _ :: _, [], _, _, e, _ => e.elim
  | p :: ps, v :: vs, 0, p', e, h => by
    obtain rfl : p = p' := by simpa using h
    exact ⟨v, rfl, e.1⟩
  | p :: ps, v :: vs, i + 1, p', e, h => by
    obtain ⟨u, h1, h2⟩ := PRepLL.get (i := i) e.2 (by simpa using h)
    exact ⟨u, by simpa using h1, h2⟩
theorem PRepLL.append {R : Frz} : ∀ {ps qs : List (List PV)} {vs us : List (List Value)}, PRepLL R ps vs → PRepLL R qs us → PRepLL R (ps ++ qs) (vs ++ us)
  | [], _, [], _, _, h => h
  | [], _, _ :: _, _, e, _ => e.elim
  | _ :: _, _, [], _, e, _ => e.elim
  | _ :: _, _, _ :: _, _, e, h => ⟨e.1, e.2.append h⟩
theorem PRepLL.drop {R : Frz} : ∀ {ps : List (List PV)} {vs : List (List Value)} (k : Nat), PRepLL R ps vs → PRepLL R (ps.drop k) (vs.drop k)
  | _, _, 0, e => e
  | [], [], _ + 1, _ => trivial
  | [], _ :: _, _ + 1, e => e.elim
  | _ :: _, [], _ + 1, e => e.elim
  | _ :: _, _ :: _, k + 1, e => by simpa using PRepLL.drop k e.2
theorem PRepLL.take {R : Frz} : ∀ {ps : List (List PV)} {vs : List (List Value)} (k : Nat), PRepLL R ps vs → PRepLL R (ps.take k) (vs.take k)
  | _, _, 0, _ => by simp [PRepLL]
  | [], [], _ + 1, _ => trivial
  | [], _ :: _, _ + 1, e => e.elim
  | _ :: _, [], _ + 1, e => e.elim
  | _ :: _, _ :: _, k + 1, e => ⟨e.1, PRepLL.take k e.2⟩
theorem PRepLL.set {R : Frz} : ∀ {ps : List (List PV)} {vs : List (List Value)} (k : Nat) {q : List PV} {u : List Value}, PRepLL R ps vs → PRepL R q u → PRepLL R (ps.set k q) (vs.set k u)
  | [], [], _, _, _, _, _ => trivial
  | [], _ :: _, _, _, _, e, _ => e.elim
  | _ :: _, [], _, _, _, e, _ => e.elim
  | _ :: _, _ :: _, 0, _, _, e, h => ⟨h, e.2⟩
  | _ :: _, _ :: _, k + 1, _, _, e, h => ⟨e.1, PRepLL.set k e.2 h⟩
theorem PRepLL.each {R : Frz} {s : Nat} : ∀ {ps : List (List PV)} {vs : List (List Value)}, PRepLL R ps vs → (∀ r ∈ ps, r.length = s) → ∀ r ∈ vs, r.length = s
  | [], [], _, _, r, h => by cases h
  | [], _ :: _, e, _, _, _ => e.elim
  | _ :: _, [], e, _, _, _ => e.elim
  | p :: ps, v :: vs, e, h, r, hr => by
    rcases List.mem_cons.1 hr with rfl | hr
    · rw [e.1.length]; exact h p List.mem_cons_self
    · exact e.2.each (fun r hr => h r (List.mem_cons_of_mem _ hr)) r hr
theorem PRows.vals {R : Frz} {A : Option Addr} {s : Nat} : ∀ {rows : List (List PV)} {k0 : Nat}, PRows R A s k0 rows → ∃ vals, PRepLL R rows vals ∧ (∀ r ∈ vals, r.length = s) ∧ (∀ r ∈ vals, ∀ u ∈ r, u.oneCell' = true) ∧
    ∀ k r, vals[k]? = some r → ∃ b off, A = some ⟨b, off, none⟩ ∧ ∀ i u, r[i]? = some u → rcell R b (off + (k0 + k) * s + i) = some u
  | [], _, _ => ⟨[], trivial, by simp, by simp, by simp⟩
  | r :: rest, k0, e => by
    simp only [PRows] at e
    obtain ⟨⟨h1, b, off, h2, h3⟩, e2⟩ := e
    obtain ⟨vs, k1, k2, k3⟩ := PCells.vals h3
    obtain ⟨vals, m1, m2, m3, m4⟩ := PRows.vals e2
    refine ⟨vs :: vals, ⟨k1, m1⟩, fun q hq => ?_, fun q hq => ?_, fun k q hk => ?_⟩
    · rcases List.mem_cons.1 hq with rfl | hq
      · rw [k1.length, h1]
      · exact m2 q hq
    · rcases List.mem_cons.1 hq with rfl | hq
      · exact k2
      · exact m3 q hq
    · cases k with
      | zero => obtain rfl : vs = q := by simpa using hk
                exact ⟨b, off, h2, by simpa using k3⟩
      | succ k =>
        have := m4 k q (by simpa using hk)
        rwa [show k0 + 1 + k = k0 + (k + 1) by omega] at this

/-- an abstract value: unknown, a value told, a slice that never turns, an object's header or pointer, a part of an own row, a pointer into a slice that never turns, what is put together of such. -/
inductive AV where
  | dead
  | raw (v : Value)
  | sl (s : Nat) (rows : List (List PV))
  | hdr (id : Nat)
  | ptr (id s k j : Nat)
  | vw (id s l h : Nat)
  | spt (s : Nat) (rows : List (List PV)) (k j : Nat)
  | agg (l : List AV)
  | tup (l : List AV)
  | clo (f : Fn) (l : List AV)
def PV.av : PV → AV
  | .raw v => .raw v
  | .sl s rows => .sl s rows

/-- where in its life a loop over a function is. -/
inductive LM where
  | ready
  | busy
  | done (c : Code)
/-- the text of such a loop. -/
structure LoopCode where
  blk : Nat
  fn : FuncId
  params : Array Tmp
  assign : Code
  body : Code
/-- an object: a block known whole; a row of the call's own; a header whose slice never turns; the record of a loop over a function; a frame that rests. -/
inductive AO where
  | cells (t : TypeId) (l : List AV)
  | row (e : TypeId) (s : Nat) (rows : List (List PV))
  | fro (s : Nat) (rows : List (List PV))
  | loop (tm : Array Value) (lc : LoopCode) (m : LM)
  | frm (tm : Array Value) (t : List (Nat × AV))

structure Env where
  f : Nat → Option Value
  R : Frz
def HasBase (v : Value) (b o : Nat) : Prop := v = .pointer (some ⟨b, o, none⟩) ∨ ∃ n c, v = .slice (some ⟨b, o, none⟩) n c
def blkOf : Value → Option Nat
  | .pointer (some a) => some a.block
  | .slice (some a) _ _ => some a.block
  | _ => none

mutual
def Rep (ρ : Env) : AV → Value → Prop
  | .dead, _ => True
  | .raw v, u => u = v
  | .sl s rows, u => PRep ρ.R (.sl s rows) u
  | .hdr id, u => ρ.f id = some u
  | .ptr id s k j, u => ∃ x b o, ρ.f id = some x ∧ HasBase x b o ∧ u = .pointer (some ⟨b, o + (k * s + j), none⟩)
  | .vw id s l h, u => ∃ A n c, ρ.f id = some (.slice A n c) ∧ l ≤ h ∧ h ≤ n ∧ n ≤ c ∧ u = .slice (if c = l then A else A.map (·.add (l * s))) (h - l) (c - l)
  | .spt s rows k j, u => ∃ b o, u = .pointer (some ⟨b, o + (k * s + j), none⟩) ∧ PRows ρ.R (some ⟨b, o, none⟩) s 0 rows
  | .agg l, u => ∃ cs : List Value, u = .agg cs.toArray ∧ RepL ρ l cs
  | .tup l, u => ∃ cs : List Value, u = .tuple cs.toArray ∧ RepL ρ l cs
  | .clo f l, u => ∃ cs : List Value, u = .func f #[] cs.toArray ∧ RepL ρ l cs
def RepL (ρ : Env) : List AV → List Value → Prop
  | [], [] => True
  | a :: l, v :: vs => Rep ρ a v ∧ RepL ρ l vs
  | _, _ => False
end
structure ExtE (ρ ρ' : Env) : Prop where
  f : ∀ i x, ρ.f i = some x → ρ'.f i = some x
  R : SubR ρ.R ρ'.R
theorem ExtE.refl (ρ : Env) : ExtE ρ ρ := ⟨fun _ _ h => h, SubR.refl _⟩
theorem ExtE.trans {a b c : Env} (h : ExtE a b) (k : ExtE b c) : ExtE a c := ⟨fun i x e => k.f i x (h.f i x e), h.R.trans k.R⟩

mutual
theorem Rep.ext {ρ ρ' : Env} (h : ExtE ρ ρ') : ∀ (a : AV) (v : Value), Rep ρ a v → Rep ρ' a v
  | .dead, _, _ => by simp [Rep]
  | .raw _, _, e => by simpa [Rep] using e
  | .sl s rows, v, e => by simp only [Rep] at e ⊢; exact e.sub h.R
  | .hdr id, v, e => by simp only [Rep] at e ⊢; exact h.f _ _ e
  | .ptr id s k j, v, e => by
    simp only [Rep] at e ⊢
    obtain ⟨x, b, o, h1, h2, h3⟩ := e
    exact ⟨x, b, o, h.f _ _ h1, h2, h3⟩
  | .vw id s l hh, v, e => by
    simp only [Rep] at e ⊢
    obtain ⟨A, n, c, h1, h2⟩ := e
    exact ⟨A, n, c, h.f _ _ h1, h2⟩
  | .spt s rows k j, v, e => by
    simp only [Rep] at e ⊢
    obtain ⟨b, o, h1, h2⟩ := e
    exact ⟨b, o, h1, h2.sub h.R⟩
  | .agg l, v, e => by
    simp only [Rep] at e ⊢
    obtain ⟨cs, h1, h2⟩ := e
    exact ⟨cs, h1, RepL.ext h l cs h2⟩
  | .tup l, v, e => by
    simp only [Rep] at e ⊢
    obtain ⟨cs, h1, h2⟩ := e
    exact ⟨cs, h1, RepL.ext h l cs h2⟩
  | .clo f l, v, e => by
    simp only [Rep] at e ⊢
    obtain ⟨cs, h1, h2⟩ := e
    exact ⟨cs, h1, RepL.ext h l cs h2⟩
theorem RepL.ext {ρ ρ' : Env} (h : ExtE ρ ρ') : ∀ (l : List AV) (vs : List Value), RepL ρ l vs → RepL ρ' l vs
  | [], [], _ => by simp [RepL]
  | [], _ :: _, e => by simp [RepL] at e
  | _ :: _, [], e => by simp [RepL] at e
  | a :: l, v :: vs, e => by
    simp only [RepL] at e ⊢
    exact ⟨Rep.ext h a v e.1, RepL.ext h l vs e.2⟩
end
theorem RepL.length {ρ : Env} : ∀ {l : List AV} {vs : List Value}, RepL ρ l vs → vs.length = l.length
  | [], [], _ => rfl
  | [], _ :: _, e => by simp [RepL] at e
  | _ :: _, [], e => by simp [RepL] at e
  | a :: l, v :: vs, e => by simp only [RepL] at e; simp [RepL.length e.2]
theorem RepL.get {ρ : Env} : ∀ {l : List AV} {vs : List Value} (k : Nat) {a : AV}, RepL ρ l vs → l[k]? = some a → ∃ v, vs[k]? = some v ∧ Rep ρ a v
  | [], _, _, _, _, h => by simp at h
  | _ :: _, [], _, _, e, _ => by simp [RepL] at e
  | a :: l, v :: vs, 0, a', e, h => by
    simp only [RepL] at e
    obtain rfl : a = a' := by simpa using h
    exact ⟨v, rfl, e.1⟩
  | a :: l, v :: vs, k + 1, a', e, h => by
    simp only [RepL] at e
    obtain ⟨u, h1, h2⟩ := RepL.get k e.2 (by simpa using h)
    exact ⟨u, by simpa using h1, h2⟩
theorem RepL.set {ρ : Env} : ∀ {l : List AV} {vs : List Value} (k : Nat) {a : AV} {v : Value}, RepL ρ l vs → Rep ρ a v → RepL ρ (l.set k a) (vs.set k v)
  | [], [], _, _, _, _, _ => by simp [RepL]
  | [], _ :: _, _, _, _, e, _ => by simp [RepL] at e
  | _ :: _, [], _, _, _, e, _ => by simp [RepL] at e
  | b :: l, u :: vs, 0, a, v, e, h => by
    simp only [RepL] at e
    simp only [List.set_cons_zero, RepL]
    exact ⟨h, e.2⟩
  | b :: l, u :: vs, k + 1, a, v, e, h => by
    simp only [RepL] at e
    simp only [List.set_cons_succ, RepL]
    exact ⟨e.1, RepL.set k e.2 h⟩
theorem RepL.drop {ρ : Env} : ∀ {l : List AV} {vs : List Value} (k : Nat), RepL ρ l vs → RepL ρ (l.drop k) (vs.drop k)
  | _, _, 0, e => e
  | [], [], _ + 1, _ => by simp [RepL]
  | [], _ :: _, _ + 1, e => by simp [RepL] at e
  | _ :: _, [], _ + 1, e => by simp [RepL] at e
  | a :: l, v :: vs, k + 1, e => by simp only [RepL] at e; simpa using RepL.drop k e.2
theorem RepL.take {ρ : Env} : ∀ {l : List AV} {vs : List Value} (k : Nat), RepL ρ l vs → RepL ρ (l.take k) (vs.take k)
  | _, _, 0, _ => by simp [RepL]
  | [], [], _ + 1, _ => by simp [RepL]
  | [], _ :: _, _ + 1, e => by simp [RepL] at e
  | _ :: _, [], _ + 1, e => by simp [RepL] at e
  | a :: l, v :: vs, k + 1, e => by
    simp only [RepL] at e
    simp only [List.take_succ_cons, RepL]
    exact ⟨e.1, RepL.take k e.2⟩
theorem RepL.raws {ρ : Env} (vs : List Value) : RepL ρ (vs.map .raw) vs := by
  induction vs with
  | nil => simp [RepL]
  | cons v vs ih => simp only [List.map_cons, RepL, Rep]; exact ⟨trivial, ih⟩
theorem RepL.append {ρ : Env} : ∀ {l m : List AV} {vs us : List Value}, RepL ρ l vs → RepL ρ m us → RepL ρ (l ++ m) (vs ++ us)
  | [], _, [], _, _, h => h
  | [], _, _ :: _, _, e, _ => by simp [RepL] at e
  | _ :: _, _, [], _, e, _ => by simp [RepL] at e
  | a :: l, m, v :: vs, us, e, h => by
    simp only [RepL] at e
    simp only [List.cons_append, RepL]
    exact ⟨e.1, RepL.append e.2 h⟩
theorem rep_av {ρ : Env} {p : PV} {v : Value} : Rep ρ p.av v ↔ PRep ρ.R p v := by
  cases p <;> simp [PV.av, Rep, PRep]
theorem repL_av {ρ : Env} : ∀ {ps : List PV} {vs : List Value}, RepL ρ (ps.map PV.av) vs ↔ PRepL ρ.R ps vs
  | [], [] => by simp [RepL, PRepL]
  | [], _ :: _ => by simp [RepL, PRepL]
  | _ :: _, [] => by simp [RepL, PRepL]
  | p :: ps, v :: vs => by simp only [List.map_cons, RepL, PRepL, rep_av, repL_av]

/-- an own row's header, the values at hand. -/
def OwnAt (w : World) (e : TypeId) (s : Nat) (x : Value) (vals : List (List Value)) : Prop :=
  (vals = [] ∧ ∃ A, x = .slice A 0 0) ∨ ((∃ g cap, x = .slice (some ⟨g, 0, none⟩) vals.length cap ∧ 0 < cap) ∧ w.ownsRow 0 e s x vals.length vals.flatten)
theorem ownAt_of {w : World} {e : TypeId} {s : Nat} {x : Value} {vals : List (List Value)} (h : w.ownsRow 0 e s x vals.length vals.flatten) : OwnAt w e s x vals := by
  have h0 := h
  rcases h.2 with ⟨rfl, h1⟩ | ⟨g, cap, cur, rfl, -, -, h2, -⟩
  · exact .inl ⟨List.eq_nil_of_length_eq_zero h1, none, rfl⟩
  · rcases Nat.eq_zero_or_pos cap with hz | hp
    · subst hz
      obtain rfl : vals = [] := List.eq_nil_of_length_eq_zero (by omega)
      exact .inl ⟨rfl, _, rfl⟩
    · exact .inr ⟨⟨g, cap, rfl, hp⟩, h0⟩

/-- the block of an object. -/
def oblk (x : Value) : AO → Option Nat
  | .cells .. => blkOf x
  | .row .. => match x with
    | .slice (some a) _ (_ + 1) => some a.block
    | _ => none
  | .loop .. => match x with
    | .func (.yield l) _ _ => some l
    | _ => none
  | _ => none

/-- the object of a header, in a world. -/
def ObjAt (ρ : Env) (w : World) (x : Value) : AO → Prop
  | .cells t l => ∃ (g : Nat) (cs : List Value), x = .pointer (some ⟨g, 0, none⟩) ∧ Blk w g t cs.toArray ∧ RepL ρ l cs ∧ ∀ u ∈ cs, u.oneCell' = true
  | .row e s rows => ∃ vals, PRepLL ρ.R rows vals ∧ (∀ r ∈ vals, r.length = s) ∧ (∀ r ∈ vals, ∀ u ∈ r, u.oneCell' = true) ∧ OwnAt w e s x vals
  | .fro s rows => PRep ρ.R (.sl s rows) x
  | .loop tm lc m => ∃ l D st pe, x = .func (.yield l) #[] #[] ∧ w.heap[l]? = some (.loop { state := st, pending := pe, fn := lc.fn, tmps := tm, params := lc.params, assign := lc.assign, body := lc.body, defers := D }) ∧ l = lc.blk ∧
      (match m with | .ready => st = .ready ∧ pe = none | .busy => True | .done c => st = .done ∧ pe = some c)
  | .frm tm t => ∀ d v, find' t d = some v → Rep ρ v (tm.getD d undef)
where find' : List (Nat × AV) → Nat → Option AV
  | [], _ => none
  | (k, v) :: l, i => if k = i then some v else find' l i
def find {α : Type} : List (Nat × α) → Nat → Option α
  | [], _ => none
  | (k, v) :: l, i => if k = i then some v else find l i
theorem find'_eq (l : List (Nat × AV)) (i : Nat) : ObjAt.find' l i = find l i := by
  induction l with
  | nil => rfl
  | cons p l ih => obtain ⟨k, v⟩ := p; simp only [ObjAt.find', find, ih]

def isDefd : Obj → Bool
  | .deferred _ => true
  | _ => false
theorem ownAt_blk {w : World} {e : TypeId} {s : Nat} {x : Value} {vals : List (List Value)} (h : OwnAt w e s x vals) {rows : List (List PV)} {g : Nat} (hg : oblk x (.row e s rows) = some g) :
    ∃ cap cur, x = .slice (some ⟨g, 0, none⟩) vals.length cap ∧ 0 < cap ∧ w.heap[g]? = some (.cells cur e (0, 0)) ∧ cur.size = cap * s ∧ cur.toList.take (vals.length * s) = vals.flatten ∧ vals.length ≤ cap ∧ cap ≤ maxLen := by
  rcases h with ⟨-, A, rfl⟩ | ⟨⟨g', cap, rfl, hp⟩, h⟩
  · cases A <;> simp [oblk] at hg
  · obtain ⟨q, rfl⟩ : ∃ q, cap = q + 1 := ⟨cap - 1, by omega⟩
    simp [oblk] at hg
    subst hg
    rcases h.2 with ⟨h1, -⟩ | ⟨g2, cap2, cur, h1, h2, h3, h4, h5, h6, h7⟩
    · cases h1
    · injection h1 with e1 e2 e3
      injection e1 with e1
      injection e1 with e1
      subst e1; subst e3
      exact ⟨_, cur, rfl, hp, h3, h6, h7, h4, h5⟩
theorem ObjAt.kind {ρ : Env} {w : World} {x : Value} {o : AO} (h : ObjAt ρ w x o) {g : Nat} (hg : oblk x o = some g) : ∃ ob, w.heap[g]? = some ob ∧ isDefd ob = false := by
  cases o with
  | cells t l =>
    obtain ⟨g', cs, rfl, hb, -⟩ := h
    simp [oblk, blkOf] at hg; subst hg
    exact ⟨_, hb, rfl⟩
  | row e s rows =>
    obtain ⟨vals, -, -, -, h⟩ := h
    obtain ⟨cap, cur, -, -, hh, -⟩ := ownAt_blk h hg
    exact ⟨_, hh, rfl⟩
  | fro s rows => cases hg
  | loop tm lc m =>
    obtain ⟨l, D, st, pe, rfl, h1, -⟩ := h
    simp [oblk] at hg; subst hg
    exact ⟨_, h1, rfl⟩
  | frm tm t => cases hg
theorem ObjAt.lt {ρ : Env} {w : World} {x : Value} {o : AO} (h : ObjAt ρ w x o) {g : Nat} (hg : oblk x o = some g) : g < w.heap.size := by
  obtain ⟨ob, h1, -⟩ := h.kind hg
  exact (Array.getElem?_eq_some_iff.1 h1).1
theorem ObjAt.keep {ρ ρ' : Env} {w w' : World} {x : Value} {o : AO} (h : ObjAt ρ w x o) (he : ExtE ρ ρ') (hk : ∀ g, oblk x o = some g → g < w.heap.size → w'.heap[g]? = w.heap[g]?) : ObjAt ρ' w' x o := by
  have hk' : ∀ g, oblk x o = some g → w'.heap[g]? = w.heap[g]? := fun g hg => hk g hg (h.lt hg)
  cases o with
  | cells t l =>
    obtain ⟨g, cs, rfl, hb, hr, h1⟩ := h
    exact ⟨g, cs, rfl, (hk' g rfl).trans hb, hr.ext he l cs, h1⟩
  | row e s rows =>
    obtain ⟨vals, h1, h2, h3, h4⟩ := h
    refine ⟨vals, h1.sub he.R, h2, h3, ?_⟩
    rcases h4 with h4 | ⟨⟨g, cap, rfl, hp⟩, h5, h6⟩
    · exact .inl h4
    · refine .inr ⟨⟨g, cap, rfl, hp⟩, h5, ?_⟩
      rcases h6 with ⟨h6, -⟩ | ⟨g2, cap2, cur, h6, h7, h8, h9⟩
      · cases h6
      · injection h6 with e1 e2 e3
        injection e1 with e1
        injection e1 with e1
        subst e1; subst e3
        obtain ⟨q, rfl⟩ : ∃ q, cap = q + 1 := ⟨cap - 1, by omega⟩
        exact .inr ⟨g, _, cur, rfl, h7, (hk' g rfl).trans h8, h9⟩
  | fro s rows => exact PRep.sub he.R _ _ h
  | loop tm lc m =>
    obtain ⟨l, D, st, pe, rfl, h1, h2⟩ := h
    exact ⟨l, D, st, pe, rfl, (hk' l rfl).trans h1, h2⟩
  | frm tm t => exact fun d v hv => Rep.ext he _ _ (h d v hv)
theorem ObjAt.ext {ρ ρ' : Env} {w : World} {x : Value} {o : AO} (h : ObjAt ρ w x o) (he : ExtE ρ ρ') : ObjAt ρ' w x o := h.keep he (fun _ _ _ => rfl)

structure AS where
  t : List (Nat × AV)
  s : List (Nat × Option AO)
  lg : Option (List (List Nat × List Nat))
def AS.get (S : AS) (d : Nat) : AV := (find S.t d).getD .dead
def AS.obj (S : AS) (i : Nat) : Option AO := (find S.s i).getD none
def AS.put (S : AS) (d : Nat) (v : AV) : AS := ⟨(d, v) :: S.t, S.s, S.lg⟩
def AS.putO (S : AS) : Option Nat → AV → AS
  | some d, v => S.put d v
  | none, _ => S
def AS.upd (S : AS) (u : List (Nat × Option AO)) : AS := ⟨S.t, u ++ S.s, S.lg⟩

structure FrameM (M : Nat → Prop) (w0 w : World) : Prop where
  os : w.os = w0.os
  tape : w.tape = w0.tape
  output : w.output = w0.output
  size : w0.heap.size ≤ w.heap.size
  block : ∀ g, g < w0.heap.size → ¬ M g → w.heap[g]? = w0.heap[g]?
theorem FrameM.refl (M : Nat → Prop) (w : World) : FrameM M w w := ⟨rfl, rfl, rfl, Nat.le_refl _, fun _ _ _ => rfl⟩

/-- where a call began: how many slots it has, which old blocks it may turn, its world, its objects; which blocks hold nothing that is to be done at an end. -/
structure Ctx where
  N : Nat
  M : Nat → Prop
  w0 : World
  ρ0 : Env
  D : Nat → Prop
structure Mod (c : Ctx) (p : Nat → Prop) (ρ : Env) (S : AS) (tm : Array Value) (w : World) : Prop where
  size : tm.size = c.N
  base : ∀ i, i < 8 → ρ.f i = c.ρ0.f i
  baseR : SubR c.ρ0.R ρ.R
  lo : ∀ i, i < 8 → p i
  dom : ∀ i x, ρ.f i = some x → p i ∧ x.oneCell' = true
  tmps : ∀ d, Rep ρ (S.get d) (tm.getD d undef)
  objs : ∀ i o, S.obj i = some o → ∃ x, ρ.f i = some x ∧ ObjAt ρ w x o
  apart : ∀ i j oi oj x y, i ≠ j → S.obj i = some oi → S.obj j = some oj → ρ.f i = some x → ρ.f j = some y → ∀ g, oblk x oi = some g → oblk y oj ≠ some g
  old : ∀ i o x g, S.obj i = some o → ρ.f i = some x → oblk x o = some g → c.M g ∨ c.w0.heap.size ≤ g
  ro : ∀ g o, ρ.R g = some o → w.heap[g]? = some o
  rsep : ∀ i o x g, S.obj i = some o → ρ.f i = some x → oblk x o = some g → ρ.R g = none
  rnew : ∀ g o, ρ.R g = some o → c.ρ0.R g = some o ∨ c.M g ∨ c.w0.heap.size ≤ g
  rdf : ∀ g o, ρ.R g = some o → isDefd o = false
  dfr : ∀ g, c.D g → c.w0.heap.size ≤ g ∧ w.heap[g]? = some (.deferred (some []))
  frame : FrameM c.M c.w0 w

theorem find_append {α : Type} (l m : List (Nat × α)) (i : Nat) : find (l ++ m) i = match find l i with | some v => some v | none => find m i := by
  induction l with
  | nil => rfl
  | cons p l ih =>
    obtain ⟨k, v⟩ := p
    simp only [List.cons_append, find]
    split
    · rfl
    · exact ih

/-- the blocks that updates touch. -/
def Touch (ρ : Env) (S : AS) (u : List (Nat × Option AO)) (g : Nat) : Prop := ∃ i o x q, find u i = some q ∧ S.obj i = some o ∧ ρ.f i = some x ∧ oblk x o = some g
theorem Mod.touch_lt {c : Ctx} {p : Nat → Prop} {ρ : Env} {S : AS} {tm : Array Value} {w : World} (h : Mod c p ρ S tm w) {u : List (Nat × Option AO)} {g : Nat} (hT : Touch ρ S u g) : (∃ ob, w.heap[g]? = some ob ∧ isDefd ob = false) ∧ ρ.R g = none ∧ (c.M g ∨ c.w0.heap.size ≤ g) := by
  obtain ⟨i, o, x, q, -, e2, e3, e4⟩ := hT
  obtain ⟨y, f1, f2⟩ := h.objs i o e2
  rw [e3] at f1; cases f1
  exact ⟨f2.kind e4, h.rsep i o x g e2 e3 e4, h.old i o x g e2 e3 e4⟩
theorem Mod.new_R {c : Ctx} {p : Nat → Prop} {ρ : Env} {S : AS} {tm : Array Value} {w : World} (h : Mod c p ρ S tm w) {g : Nat} (hg : w.heap.size ≤ g) : ρ.R g = none := by
  cases e : ρ.R g with
  | none => rfl
  | some o => have := h.ro g o e; rw [Array.getElem?_eq_none hg] at this; cases this

/-- a step that leaves a world in which the objects are as they are told, all others as they were. -/
theorem Mod.step {c : Ctx} {p p' : Nat → Prop} {ρ ρ' : Env} {S : AS} {tm : Array Value} {w w' : World} (h : Mod c p ρ S tm w) (u : List (Nat × Option AO)) (he : ExtE ρ ρ') (hlo : ∀ i, i < 8 → ρ'.f i = ρ.f i) (hlp : ∀ i, p i → p' i)
    (hdom : ∀ i x, ρ'.f i = some x → p' i ∧ x.oneCell' = true)
    (hos : w'.os = w.os) (htp : w'.tape = w.tape) (hout : w'.output = w.output) (hsz : w.heap.size ≤ w'.heap.size) (hkeep : ∀ g, g < w.heap.size → ¬ Touch ρ S u g → w'.heap[g]? = w.heap[g]?)
    (hR : ∀ g o, ρ'.R g = some o → ρ.R g = some o ∨ ((w.heap.size ≤ g ∨ Touch ρ S u g) ∧ w'.heap[g]? = some o ∧ isDefd o = false))
    (hnew : ∀ i o, find u i = some (some o) → ∃ x, ρ'.f i = some x ∧ ObjAt ρ' w' x o ∧ ∀ g, oblk x o = some g → (w.heap.size ≤ g ∨ Touch ρ S u g) ∧ ρ'.R g = none)
    (hap : ∀ i j oi oj x y, i ≠ j → find u i = some (some oi) → find u j = some (some oj) → ρ'.f i = some x → ρ'.f j = some y → ∀ g, oblk x oi = some g → oblk y oj ≠ some g) :
    Mod c p' ρ' (S.upd u) tm w' := by
  have hobj : ∀ i, (S.upd u).obj i = match find u i with | some q => q | none => S.obj i := fun i => by
    unfold AS.obj AS.upd
    simp only [find_append]
    cases find u i <;> rfl
  have hnotT : ∀ i o x g, find u i = none → S.obj i = some o → ρ.f i = some x → oblk x o = some g → ¬ Touch ρ S u g := fun i o x g hu ho hx hg ⟨j, oj, y, q, e1, e2, e4, e5⟩ => by
    have hne : j ≠ i := fun e => by subst e; rw [hu] at e1; cases e1
    exact h.apart j i oj o y x hne e2 ho e4 hx g e5 hg
  have hold : ∀ i o, find u i = none → S.obj i = some o → ∃ x, ρ.f i = some x ∧ ρ'.f i = some x ∧ ObjAt ρ w x o ∧ ObjAt ρ' w' x o := fun i o hu ho => by
    obtain ⟨x, h1, h2⟩ := h.objs i o ho
    exact ⟨x, h1, he.f i x h1, h2, h2.keep he fun g hg hlt => hkeep g hlt (hnotT i o x g hu ho h1 hg)⟩
  -- an object of either kind: its block
  have hblk : ∀ i o x g, (S.upd u).obj i = some o → ρ'.f i = some x → oblk x o = some g → (find u i = none ∧ S.obj i = some o ∧ ρ.f i = some x ∧ g < w.heap.size ∧ ¬ Touch ρ S u g) ∨ (find u i = some (some o) ∧ (w.heap.size ≤ g ∨ Touch ρ S u g) ∧ ρ'.R g = none) := fun i o x g hi hx hg => by
    rw [hobj] at hi
    cases hui : find u i with
    | none =>
      rw [hui] at hi
      dsimp only at hi
      obtain ⟨x', hx1, hx2, hx3, -⟩ := hold i o hui hi
      obtain rfl : x' = x := by rw [hx2] at hx; exact Option.some.inj hx
      exact .inl ⟨rfl, hi, hx1, hx3.lt hg, hnotT i o x' g hui hi hx1 hg⟩
    | some q =>
      rw [hui] at hi
      dsimp only at hi
      subst hi
      obtain ⟨x', hx1, -, hx3⟩ := hnew i o hui
      obtain rfl : x' = x := by rw [hx1] at hx; exact Option.some.inj hx
      exact .inr ⟨rfl, hx3 g hg⟩
  refine ⟨h.size, fun i hi => (hlo i hi).trans (h.base i hi), h.baseR.trans he.R, fun i hi => hlp i (h.lo i hi), hdom, fun d => (h.tmps d).ext he, fun i o ho => ?_, ?_, ?_, ?_, ?_, ?_, ?_, ?_, ?_⟩
  · rw [hobj] at ho
    cases hu : find u i with
    | none =>
      rw [hu] at ho
      obtain ⟨x, -, h2, -, h3⟩ := hold i o hu ho
      exact ⟨x, h2, h3⟩
    | some q =>
      rw [hu] at ho
      dsimp only at ho
      subst ho
      obtain ⟨x, h1, h2, -⟩ := hnew i o hu
      exact ⟨x, h1, h2⟩
  · intro i j oi oj x y hne hi hj hx hy g hg hg'
    rcases hblk i oi x g hi hx hg with ⟨a1, a2, a3, a4, a5⟩ | ⟨a1, a2, a3⟩ <;> rcases hblk j oj y g hj hy hg' with ⟨b1, b2, b3, b4, b5⟩ | ⟨b1, b2, b3⟩
    · exact h.apart i j oi oj x y hne a2 b2 a3 b3 g hg hg'
    · rcases b2 with b2 | b2
      · omega
      · exact a5 b2
    · rcases a2 with a2 | a2
      · omega
      · exact b5 a2
    · exact hap i j oi oj x y hne a1 b1 hx hy g hg hg'
  · intro i o x g hi hx hg
    rcases hblk i o x g hi hx hg with ⟨a1, a2, a3, a4, a5⟩ | ⟨a1, a2, a3⟩
    · exact h.old i o x g a2 a3 hg
    · rcases a2 with a2 | a2
      · exact .inr (Nat.le_trans h.frame.size a2)
      · exact (h.touch_lt a2).2.2
  · intro g o hg
    rcases hR g o hg with e | ⟨-, e, -⟩
    · have h1 := h.ro g o e
      rw [hkeep g (Array.getElem?_eq_some_iff.1 h1).1 (fun hT => by rw [(h.touch_lt hT).2.1] at e; cases e)]
      exact h1
    · exact e
  · intro i o x g hi hx hg
    rcases hblk i o x g hi hx hg with ⟨a1, a2, a3, a4, a5⟩ | ⟨a1, a2, a3⟩
    · cases e : ρ'.R g with
      | none => rfl
      | some ob =>
        rcases hR g ob e with e | ⟨e | e, -⟩
        · rw [h.rsep i o x g a2 a3 hg] at e; cases e
        · omega
        · exact absurd e a5
    · exact a3
  · intro g o hg
    rcases hR g o hg with e | ⟨e | e, -⟩
    · exact h.rnew g o e
    · exact .inr (.inr (Nat.le_trans h.frame.size e))
    · exact .inr (h.touch_lt e).2.2
  · intro g o hg
    rcases hR g o hg with e | ⟨-, -, e⟩
    · exact h.rdf g o e
    · exact e
  · intro g hg
    obtain ⟨h0, h1⟩ := h.dfr g hg
    refine ⟨h0, (hkeep g (Array.getElem?_eq_some_iff.1 h1).1 fun hT => ?_).trans h1⟩
    obtain ⟨⟨ob, e1, e2⟩, -⟩ := h.touch_lt hT
    rw [h1] at e1; cases e1; cases e2
  · refine ⟨hos.trans h.frame.os, htp.trans h.frame.tape, hout.trans h.frame.output, Nat.le_trans h.frame.size hsz, fun g hg hM => ?_⟩
    refine (hkeep g (Nat.lt_of_lt_of_le hg h.frame.size) fun hT => ?_).trans (h.frame.block g hg hM)
    rcases (h.touch_lt hT).2.2 with e | e
    · exact hM e
    · omega
/-- the same, nothing more never turns. -/
theorem Mod.step0 {c : Ctx} {p p' : Nat → Prop} {ρ ρ' : Env} {S : AS} {tm : Array Value} {w w' : World} (h : Mod c p ρ S tm w) (u : List (Nat × Option AO)) (he : ∀ i x, ρ.f i = some x → ρ'.f i = some x) (hRR : ρ'.R = ρ.R) (hlo : ∀ i, i < 8 → ρ'.f i = ρ.f i) (hlp : ∀ i, p i → p' i)
    (hdom : ∀ i x, ρ'.f i = some x → p' i ∧ x.oneCell' = true)
    (hos : w'.os = w.os) (htp : w'.tape = w.tape) (hout : w'.output = w.output) (hsz : w.heap.size ≤ w'.heap.size) (hkeep : ∀ g, g < w.heap.size → ¬ Touch ρ S u g → w'.heap[g]? = w.heap[g]?)
    (hnew : ∀ i o, find u i = some (some o) → ∃ x, ρ'.f i = some x ∧ ObjAt ρ' w' x o ∧ ∀ g, oblk x o = some g → w.heap.size ≤ g ∨ Touch ρ S u g)
    (hap : ∀ i j oi oj x y, i ≠ j → find u i = some (some oi) → find u j = some (some oj) → ρ'.f i = some x → ρ'.f j = some y → ∀ g, oblk x oi = some g → oblk y oj ≠ some g) :
    Mod c p' ρ' (S.upd u) tm w' := by
  refine h.step u ⟨he, by rw [hRR]; exact SubR.refl _⟩ hlo hlp hdom hos htp hout hsz hkeep (fun g o e => .inl (by rw [← hRR]; exact e)) (fun i o hu => ?_) hap
  obtain ⟨x, h1, h2, h3⟩ := hnew i o hu
  refine ⟨x, h1, h2, fun g hg => ⟨h3 g hg, ?_⟩⟩
  rw [hRR]
  rcases h3 g hg with e | e
  · exact h.new_R e
  · exact (h.touch_lt e).2.1
end Go.Proofs.Ytiidfcadmdahmaa
