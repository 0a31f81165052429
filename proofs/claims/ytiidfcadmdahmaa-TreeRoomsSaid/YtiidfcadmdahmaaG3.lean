/- ENGINE (second) 3: operations on memory; over any program. -/
import Derived.Test.YtiidfcadmdahmaaG2
import Derived.Laws.StructEq
import Derived.Laws.CopyRow
import Derived.Laws.Cells
set_option linter.unusedSimpArgs false
set_option linter.unusedVariables false
namespace Go.Proofs.Ytiidfcadmdahmaa
open Go.RowKit

theorem flatten_get {s : Nat} {rows : List (List Value)} (hs : ∀ r ∈ rows, r.length = s) (k i : Nat) (hi : i < s) : rows.flatten[k * s + i]? = rows[k]?.bind (fun r => r[i]?) := by
  induction rows generalizing k with
  | nil => simp
  | cons r rows ih =>
    have h0 : r.length = s := hs r (by simp)
    rw [List.flatten_cons]
    cases k with
    | zero =>
      rw [Nat.zero_mul, Nat.zero_add, List.getElem?_append_left (by omega)]
      rfl
    | succ k =>
      rw [List.getElem?_append_right (by rw [Nat.succ_mul]; omega), h0]
      have e : (k + 1) * s + i - s = k * s + i := by rw [Nat.succ_mul]; omega
      rw [e, ih (fun r hr => hs r (by simp [hr]))]
      rfl
theorem flatten_len {s : Nat} {rows : List (List Value)} (hs : ∀ r ∈ rows, r.length = s) : rows.flatten.length = rows.length * s := by
  induction rows with
  | nil => simp
  | cons r rows ih => rw [List.flatten_cons, List.length_append, hs r (by simp), ih (fun r hr => hs r (by simp [hr])), List.length_cons, Nat.succ_mul]; omega

/-- the size of a row's elements, and what they hold. -/
def AO.rows : AO → Option (Nat × List (List PV))
  | .row _ s rows | .fro s rows => some (s, rows)
  | _ => none
theorem rcell_cell {R : Frz} {w : World} (hro : ∀ g o, R g = some o → w.heap[g]? = some o) {b o : Nat} {v : Value} (h : rcell R b o = some v) : w.cell? ⟨b, o, none⟩ = some v ∧ b < w.heap.size := by
  unfold rcell at h
  cases hb : R b with
  | none => rw [hb] at h; cases h
  | some ob =>
    rw [hb] at h
    have h1 := hro b ob hb
    refine ⟨?_, (Array.getElem?_eq_some_iff.1 h1).1⟩
    unfold World.cell?
    rw [h1]
    cases ob <;> first | exact h | cases h
/-- an element's cells, at hand. -/
structure Elem (R : Frz) (w : World) (b o s : Nat) (r : List PV) (vs : List Value) : Prop where
  rep : PRepL R r vs
  len : vs.length = s
  one : ∀ u ∈ vs, u.oneCell' = true
  cell : ∀ i, i < s → w.cell? ⟨b, o + i, none⟩ = vs[i]?
theorem PRows.elem {R : Frz} {w : World} (hro : ∀ g o, R g = some o → w.heap[g]? = some o) {A : Option Addr} {s : Nat} {rows : List (List PV)} (h : PRows R A s 0 rows) {k : Nat} {r : List PV} (hk : rows[k]? = some r) :
    ∃ b off vs, A = some ⟨b, off, none⟩ ∧ Elem R w b (off + k * s) s r vs := by
  obtain ⟨h1, b, off, h2, h3⟩ := h.get hk
  obtain ⟨vs, k1, k2, k3⟩ := h3.vals
  refine ⟨b, off, vs, h2, k1, by rw [k1.length, h1], k2, fun i hi => ?_⟩
  have hl : i < vs.length := by rw [k1.length, h1]; exact hi
  have := (rcell_cell hro (k3 i vs[i] (by simp [hl]))).1
  rw [Nat.zero_add] at this
  rw [this]
  simp [hl]
theorem OwnAt.elem {w : World} {e : TypeId} {s : Nat} {x : Value} {vals : List (List Value)} (h : OwnAt w e s x vals) (hs : ∀ r ∈ vals, r.length = s) {k : Nat} {vs : List Value} (hk : vals[k]? = some vs) :
    ∃ g cap, x = .slice (some ⟨g, 0, none⟩) vals.length cap ∧ ∀ i, i < s → w.cell? ⟨g, 0 + k * s + i, none⟩ = vs[i]? := by
  rcases h with ⟨rfl, -⟩ | ⟨⟨g, cap, rfl, hp⟩, h0, h1⟩
  · simp at hk
  · refine ⟨g, cap, rfl, fun i hi => ?_⟩
    rcases h1 with ⟨h1, -⟩ | ⟨g2, cap2, cur, h1, -, hh, h4, h5, h6, h7⟩
    · cases h1
    · injection h1 with e1 e2 e3
      injection e1 with e1
      injection e1 with e1
      subst e1; subst e3
      obtain ⟨hkl, rfl⟩ := List.getElem?_eq_some_iff.1 hk
      have e1 : w.cell? ⟨g, 0 + k * s + i, none⟩ = cur[k * s + i]? := by rw [Nat.zero_add]; simp [World.cell?, hh]
      have e2 : vals.flatten[k * s + i]? = cur[k * s + i]? := by
        rw [← h7, List.getElem?_take_of_lt]
        · simp
        · have := Nat.mul_le_mul_right s (Nat.succ_le_of_lt hkl); rw [Nat.succ_mul] at this; omega
      rw [e1, ← e2, flatten_get hs k i hi, List.getElem?_eq_getElem hkl]
      rfl
/-- an element of a row. -/
theorem ObjAt.cell {ρ : Env} {w : World} (hro : ∀ g o, ρ.R g = some o → w.heap[g]? = some o) {x : Value} {o : AO} {s : Nat} {rows : List (List PV)} (h : ObjAt ρ w x o) (hr : o.rows = some (s, rows)) {k : Nat} {r : List PV} (hk : rows[k]? = some r) :
    ∃ b off vs, HasBase x b off ∧ Elem ρ.R w b (off + k * s) s r vs := by
  cases o with
  | fro s' rows' =>
    simp only [AO.rows, Option.some.injEq, Prod.mk.injEq] at hr
    obtain ⟨rfl, rfl⟩ := hr
    have h : PRep ρ.R (.sl s' rows') x := h
    simp only [PRep] at h
    obtain ⟨A, c, rfl, -, h1⟩ := h
    obtain ⟨b, off, vs, rfl, h2⟩ := h1.elem hro hk
    exact ⟨b, off, vs, .inr ⟨_, _, rfl⟩, h2⟩
  | row e s' rows' =>
    simp only [AO.rows, Option.some.injEq, Prod.mk.injEq] at hr
    obtain ⟨hs', hr'⟩ := hr
    subst hs'; subst hr'
    obtain ⟨vals, h1, h2, h3, h4⟩ := h
    obtain ⟨vs, k1, k2⟩ := h1.get hk
    obtain ⟨g, cap, rfl, k3⟩ := h4.elem h2 k1
    exact ⟨g, 0, vs, .inr ⟨_, _, rfl⟩, k2, h2 vs (List.mem_of_getElem? k1), h3 vs (List.mem_of_getElem? k1), k3⟩
  | _ => simp [AO.rows] at hr

theorem HasBase.inj {v : Value} {b o b' o' : Nat} (h : HasBase v b o) (k : HasBase v b' o') : b' = b ∧ o' = o := by
  rcases h with rfl | ⟨_, _, rfl⟩ <;> rcases k with h | ⟨_, _, h⟩ <;> cases h <;> exact ⟨rfl, rfl⟩

/-- where a pointer points. -/
def AV.loc : AV → Option (Nat × Nat × Nat × Nat)
  | .hdr id => some (id, 0, 0, 0)
  | .ptr id s k j => some (id, s, k, j)
  | _ => none

theorem add_none (b o i : Nat) : (⟨b, o, none⟩ : Addr).add i = ⟨b, o + i, none⟩ := by unfold Addr.add; split <;> simp_all

/-- a variable is loaded whose cells are there. -/
theorem run_loadAt_cells {P : Program} {w : World} {t : TypeId} {i : TI} (hi : tyI P t = some i) {b o : Nat} {cs : List Value} (hl : cs.length = i.size) (hc : ∀ j v, cs[j]? = some v → w.cell? ⟨b, o + j, none⟩ = some v) (h1 : i.agg = true ∨ i.size = 1) :
    (Instr.loadAt t (.pointer (some ⟨b, o, none⟩))).run P w = .ok (if i.agg then .agg cs.toArray else cs.getD 0 undef) w := by
  obtain ⟨x, d, z, e1, e2, e3, e4, e5, e6, e7⟩ := tyI_spec hi
  have hagg : (isAgg t).run P w = .ok i.agg w := by
    unfold isAgg
    rw [Sem.run_bind, run_underlying e2 w, ← e6]
    cases d <;> rfl
  have hlc : (loadCells ⟨b, o, none⟩ cs.length).run P w = .ok cs.toArray w := run_loadCells_list (P := P) w ⟨b, o, none⟩ cs (fun j v hv => by rw [add_none]; exact hc j v hv)
  have hls : (sizeOf t).run P w = .ok cs.length w := by
    have : (sizeOf t).run P w = .ok x.size w := by simp [sizeOf, typeInfo, e1]
    rw [this, hl, e4]
  by_cases ha : i.agg = true
  · rw [if_pos ha]
    simp [Instr.loadAt, Instr.sureAddr, loadVar, Sem.run_bind, hagg, ha, hls, hlc]
  · have hs : i.size = 1 := by simpa [ha] using h1
    rw [if_neg ha]
    have h0 : cs[0]? = some (cs.getD 0 undef) := by
      rw [List.getElem?_eq_getElem (by omega)]
      simp [List.getD, List.getElem?_eq_getElem (show 0 < cs.length by omega)]
    have := hc 0 _ h0
    simp only [Nat.add_zero] at this
    simp [Instr.loadAt, Instr.sureAddr, loadVar, Sem.run_bind, hagg, ha, this, load, Sem.run]

def ofCells (agg : Bool) (l : List AV) : AV := if agg then .agg l else l.headD .dead
theorem rep_ofCells {ρ : Env} {l : List AV} {cs : List Value} (h : RepL ρ l cs) (agg : Bool) : Rep ρ (ofCells agg l) (if agg then .agg cs.toArray else cs.getD 0 undef) := by
  cases agg with
  | true => simp only [ofCells, if_true, Rep]; exact ⟨cs, rfl, h⟩
  | false =>
    cases l with
    | nil => simp [ofCells, Rep]
    | cons a l =>
      cases cs with
      | nil => simp [RepL] at h
      | cons c cs => simp only [RepL] at h; simpa [ofCells] using h.1

theorem does_load_cells {P : Program} {o : Oper} {S : AS} {n : Nat} {t t' : TypeId} {x : Operand} {i : TI} {id s k j : Nat} {l : List AV} (ho : o.op = .load t x) (hi : tyI P t = some i) (hx : (S.val x).loc = some (id, s, k, j)) (hob : S.obj id = some (.cells t' l))
    (hl : k * s + j + i.size ≤ l.length) (h1 : i.agg = true ∨ i.size = 1) : DoesAt P o S n ⟨ofCells i.agg ((l.drop (k * s + j)).take i.size), [], [id]⟩ :=
  does_pure rfl fun c p ρ a w hm => by
    obtain ⟨y, hy, g, cs, rfl, hb, hr, -⟩ := hm.objs id _ hob
    have hlen := hr.length
    have hp : a.eval x = .pointer (some ⟨g, k * s + j, none⟩) := by
      rw [← Nat.zero_add (k * s + j)]
      have hv := hm.val x
      cases e : S.val x <;> rw [e] at hx hv <;> simp only [AV.loc, Option.some.injEq, Prod.mk.injEq, reduceCtorEq] at hx
      · obtain ⟨rfl, rfl, rfl, rfl⟩ := hx
        simp only [Rep] at hv
        rw [hy] at hv
        injection hv with hv
        rw [← hv]
      · obtain ⟨rfl, rfl, rfl, rfl⟩ := hx
        simp only [Rep] at hv
        obtain ⟨x', b, o', e1, e2, e3⟩ := hv
        rw [hy] at e1
        injection e1 with e1
        subst e1
        rcases e2 with e2 | ⟨_, _, e2⟩
        · injection e2 with e2; injection e2 with e2; injection e2 with e2 e4; subst e2; subst e4; exact e3
        · cases e2
    refine ⟨_, ?_, rep_ofCells ((hr.drop (k * s + j)).take i.size) i.agg⟩
    have hload := run_loadAt_cells (P := P) (w := w) hi (b := g) (o := k * s + j) (cs := (cs.drop (k * s + j)).take i.size) (by simp; omega) (fun m v hv => by
      have hm' : m < i.size := by
        rcases Nat.lt_or_ge m i.size with h | h
        · exact h
        · rw [List.getElem?_eq_none (by simp; omega)] at hv; cases hv
      rw [List.getElem?_take_of_lt hm', List.getElem?_drop] at hv
      rw [hb.cell, ← hv]
      simp) h1
    unfold execOp
    simp only [ho, hp, Sem.run_bind, hload, Result.andThen_ok, Sem.run_pure]
theorem load_elem {P : Program} {w : World} {R : Frz} {t : TypeId} {i : TI} (hi : tyI P t = some i) {b o s j : Nat} {r : List PV} {vs : List Value} (he : Elem R w b o s r vs) (hl : j + i.size ≤ s) (h1 : i.agg = true ∨ i.size = 1) :
    (Instr.loadAt t (.pointer (some ⟨b, o + j, none⟩))).run P w = .ok (if i.agg then .agg ((vs.drop j).take i.size).toArray else ((vs.drop j).take i.size).getD 0 undef) w := by
  have hlen := he.len
  refine run_loadAt_cells (P := P) (w := w) hi (b := b) (o := o + j) (cs := (vs.drop j).take i.size) (by simp; omega) (fun m v hv => ?_) h1
  have hm' : m < i.size := by
    rcases Nat.lt_or_ge m i.size with h | h
    · exact h
    · rw [List.getElem?_eq_none (by simp; omega)] at hv; cases hv
  rw [List.getElem?_take_of_lt hm', List.getElem?_drop] at hv
  rw [Nat.add_assoc, he.cell (j + m) (by omega), hv]
theorem does_load_row {P : Program} {o : Oper} {S : AS} {n : Nat} {t : TypeId} {x : Operand} {i : TI} {id s k j : Nat} {ob : AO} {rows : List (List PV)} {r : List PV} (ho : o.op = .load t x) (hi : tyI P t = some i) (hx : S.val x = .ptr id s k j) (hob : S.obj id = some ob) (hor : ob.rows = some (s, rows))
    (hk : rows[k]? = some r) (hl : j + i.size ≤ s) (h1 : i.agg = true ∨ i.size = 1) : DoesAt P o S n ⟨ofCells i.agg (((r.drop j).take i.size).map PV.av), [], [id]⟩ :=
  does_pure rfl fun c p ρ a w hm => by
    obtain ⟨y, hy, hoy⟩ := hm.objs id _ hob
    obtain ⟨b, off, vs, hbase, hel⟩ := hoy.cell hm.ro hor hk
    have hp : a.eval x = .pointer (some ⟨b, off + k * s + j, none⟩) := by
      have hv := hm.val x
      rw [hx] at hv
      simp only [Rep] at hv
      obtain ⟨x', b', o', e1, e2, e3⟩ := hv
      rw [hy] at e1
      injection e1 with e1
      subst e1
      have := hbase.inj e2
      rw [e3, this.1, this.2, Nat.add_assoc]
    refine ⟨_, ?_, rep_ofCells (repL_av.2 ((hel.rep.drop j).take i.size)) i.agg⟩
    unfold execOp
    simp only [ho, hp, Sem.run_bind, load_elem hi hel hl h1, Result.andThen_ok, Sem.run_pure]
theorem does_load_spt {P : Program} {o : Oper} {S : AS} {n : Nat} {t : TypeId} {x : Operand} {i : TI} {s k j : Nat} {rows : List (List PV)} {r : List PV} (ho : o.op = .load t x) (hi : tyI P t = some i) (hx : S.val x = .spt s rows k j)
    (hk : rows[k]? = some r) (hl : j + i.size ≤ s) (h1 : i.agg = true ∨ i.size = 1) : DoesAt P o S n ⟨ofCells i.agg (((r.drop j).take i.size).map PV.av), [], []⟩ :=
  does_pure rfl fun c p ρ a w hm => by
    have hv := hm.val x
    rw [hx] at hv
    simp only [Rep] at hv
    obtain ⟨b, o', e1, e2⟩ := hv
    obtain ⟨b2, off, vs, e3, hel⟩ := e2.elem hm.ro hk
    injection e3 with e3
    injection e3 with e3 e4
    subst e3; subst e4
    refine ⟨_, ?_, rep_ofCells (repL_av.2 ((hel.rep.drop j).take i.size)) i.agg⟩
    unfold execOp
    rw [← Nat.add_assoc] at e1
    simp only [ho, e1, Sem.run_bind, load_elem hi hel hl h1, Result.andThen_ok, Sem.run_pure]

/-- a pointer into a block that is known whole. -/
theorem Mod.at_cells {c : Ctx} {p : Nat → Prop} {ρ : Env} {S : AS} {a : Act} {w : World} (hm : Mod c p ρ S a.tmps w) {x : Operand} {id s k j : Nat} (hx : (S.val x).loc = some (id, s, k, j)) {t : TypeId} {l : List AV} (hob : S.obj id = some (.cells t l)) :
    ∃ g cs, ρ.f id = some (.pointer (some ⟨g, 0, none⟩)) ∧ a.eval x = .pointer (some ⟨g, k * s + j, none⟩) ∧ Blk w g t cs.toArray ∧ RepL ρ l cs ∧ ∀ u ∈ cs, u.oneCell' = true := by
  obtain ⟨y, hy, g, cs, rfl, hb, hr, h1⟩ := hm.objs id _ hob
  refine ⟨g, cs, hy, ?_, hb, hr, h1⟩
  rw [← Nat.zero_add (k * s + j)]
  have hv := hm.val x
  cases e : S.val x <;> rw [e] at hx hv <;> simp only [AV.loc, Option.some.injEq, Prod.mk.injEq, reduceCtorEq] at hx
  · obtain ⟨rfl, rfl, rfl, rfl⟩ := hx
    simp only [Rep] at hv
    rw [hy] at hv
    injection hv with hv
    rw [← hv]
  · obtain ⟨rfl, rfl, rfl, rfl⟩ := hx
    simp only [Rep] at hv
    obtain ⟨x', b, o', e1, e2, e3⟩ := hv
    rw [hy] at e1
    injection e1 with e1
    subst e1
    obtain ⟨rfl, rfl⟩ := HasBase.inj (.inl rfl) e2
    exact e3
/-- a pointer into a row. -/
theorem Mod.at_row {c : Ctx} {p : Nat → Prop} {ρ : Env} {S : AS} {a : Act} {w : World} (hm : Mod c p ρ S a.tmps w) {x : Operand} {id s k j : Nat} (hx : S.val x = .ptr id s k j) {y : Value} (hy : ρ.f id = some y) {b off : Nat} (hb : HasBase y b off) :
    a.eval x = .pointer (some ⟨b, off + (k * s + j), none⟩) := by
  have hv := hm.val x
  rw [hx] at hv
  simp only [Rep] at hv
  obtain ⟨x', b', o', e1, e2, e3⟩ := hv
  rw [hy] at e1
  injection e1 with e1
  subst e1
  have := hb.inj e2
  rw [e3, this.1, this.2]

/-- a list with some of its members replaced. -/
def splice {α : Type} (l : List α) (k : Nat) (m : List α) : List α := l.take k ++ m ++ l.drop (k + m.length)
theorem RepL.splice {ρ : Env} {l m : List AV} {vs us : List Value} (h : RepL ρ l vs) (hm : RepL ρ m us) (k : Nat) : RepL ρ (splice l k m) (splice vs k us) := by
  unfold Go.Proofs.Ytiidfcadmdahmaa.splice
  rw [hm.length]
  exact ((h.take k).append hm).append (h.drop _)

/-- one object turns, at its place. -/
theorem Mod.turn {c : Ctx} {p : Nat → Prop} {ρ : Env} {S : AS} {tm : Array Value} {w w' : World} (h : Mod c p ρ S tm w) {id g : Nat} {x : Value} {o o' : AO} (hob : S.obj id = some o) (hx : ρ.f id = some x) (hg : oblk x o = some g) (hg' : oblk x o' = some g)
    (ho' : ObjAt ρ w' x o') (hos : w'.os = w.os) (htp : w'.tape = w.tape) (hout : w'.output = w.output) (hsz : w'.heap.size = w.heap.size) (hk : ∀ b, b ≠ g → w'.heap[b]? = w.heap[b]?) :
    Mod c p ρ (S.upd [(id, some o')]) tm w' := by
  have hT : Touch ρ S [(id, some o')] g := ⟨id, o, x, some o', by simp [find], hob, hx, hg⟩
  refine h.step0 [(id, some o')] (fun _ _ h => h) rfl (fun _ _ => rfl) (fun _ h => h) h.dom hos htp hout (by omega) (fun b _ hT' => hk b (fun e => hT' (by rw [e]; exact hT))) ?_ ?_
  · intro i oi hf
    simp only [find] at hf
    split at hf
    · next e =>
      subst e
      injection hf with hf
      injection hf with hf
      subst hf
      refine ⟨x, hx, ho', fun b hb => .inr ?_⟩
      rw [hg'] at hb
      injection hb with hb
      subst hb
      exact hT
    · cases hf
  · intro i j oi oj x' y' hne h1 h2
    simp only [find] at h1 h2
    split at h1
    · next e1 =>
      split at h2
      · next e2 => omega
      · cases h2
    · cases h1

theorem does_store_cells {P : Program} {o : Oper} {S : AS} {n : Nat} {t t' : TypeId} {x y : Operand} {i : TI} {id s k j : Nat} {l m : List AV} (ho : o.op = .store t x y) (hi : tyI P t = some i) (hx : (S.val x).loc = some (id, s, k, j)) (hob : S.obj id = some (.cells t' l))
    (hy : cellsOf (S.val y) = some m) (hml : m.length = i.size) (hl : k * s + j + i.size ≤ l.length) : DoesAt P o S n ⟨.dead, [(id, some (.cells t' (splice l (k * s + j) m)))], [id]⟩ := by
  intro rd m0 c p ρ a w hm hn K Q hK
  obtain ⟨g, cs, hg, hp, hb, hr, h1⟩ := hm.at_cells hx hob
  obtain ⟨us, e1, hru, hu1⟩ := cells_of hm hy (hm.val y)
  obtain ⟨xi, d, z, i1, i2, i3, i4, i5, i6, i7⟩ := tyI_spec hi
  have hlen := hr.length
  have hlu := hru.length
  have hst := run_storeCells_at (P := P) g (k * s + j) t' us 0 cs.toArray w hb (by simp; omega) hu1
  simp only [Nat.add_zero] at hst
  have hr' : (execOp a.eval o).run P w = .ok .skip (w.setRow g (splice cs (k * s + j) us).toArray) := by
    unfold execOp
    simp only [ho, hp, Instr.storeAt, Instr.sureAddr, storeVar, sizeOf, typeInfo, Sem.run_bind, Sem.run_pure, Result.andThen_ok, run_program, i1, e1]
    simp only [i4, ← hml, ← hlu, List.size_toArray, ne_eq, not_true, if_false, Result.andThen_ok, hst]
    rfl
  refine wpIn_skips hr' ?_
  have hm' := hm.turn (o' := .cells t' (splice l (k * s + j) m)) (w' := w.setRow g (splice cs (k * s + j) us).toArray) hob hg rfl rfl
    ⟨g, _, rfl, setRow_heap w g _ _ t' _ hb, hr.splice hru _, fun u hu => by
      unfold splice at hu
      rcases List.mem_append.1 hu with h | h
      · rcases List.mem_append.1 h with h | h
        · exact h1 u (List.mem_of_mem_take h)
        · exact hu1 u h
      · exact h1 u (List.mem_of_mem_drop h)⟩ rfl rfl rfl (by simp [World.setRow]) (fun b hb' => setRow_other _ _ _ _ hb')
  exact hK undef ρ _ (hm'.mono fun i h => .inl h) (by simp [Rep])
end Go.Proofs.Ytiidfcadmdahmaa
