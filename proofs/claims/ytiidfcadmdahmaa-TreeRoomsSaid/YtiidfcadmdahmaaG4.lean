/- ENGINE (second) 4: more operations; over any program. -/
import Derived.Test.YtiidfcadmdahmaaG3
set_option linter.unusedSimpArgs false
set_option linter.unusedVariables false
namespace Go.Proofs.Ytiidfcadmdahmaa
open Go.RowKit

theorem run_v {P : Program} {w w' : World} {s : Sem Value} {v : Value} (h : s.run P w = .ok v w') : (do pure (Next.value (← s)) : Sem Next).run P w = .ok (.value v) w' := by
  simp only [Sem.run_bind, h, Result.andThen_ok, Sem.run_pure]

theorem does_extract {P : Program} {o : Oper} {S : AS} {n : Nat} {x : Operand} {k : Nat} {l : List AV} {v : AV} (ho : o.op = .extract x k) (hx : S.val x = .tup l) (hk : l[k]? = some v) : DoesAt P o S n ⟨v, [], []⟩ :=
  does_pure rfl fun c p ρ a w hm => by
    have h := hm.val x
    rw [hx] at h
    simp only [Rep] at h
    obtain ⟨cs, e, hr⟩ := h
    obtain ⟨u, h1, h2⟩ := RepL.get k hr hk
    refine ⟨u, ?_, h2⟩
    unfold execOp
    rw [ho]
    refine run_v ?_
    simp [Instr.extract, e, h1]
theorem does_makeFunc {P : Program} {o : Oper} {S : AS} {n : Nat} {f : Fn} {xs : List Operand} (ho : o.op = .makeFunc f #[] xs.toArray) : DoesAt P o S n ⟨.clo f (xs.map S.val), [], []⟩ :=
  does_pure rfl fun c p ρ a w hm => by
    refine ⟨.func f #[] (xs.map a.eval).toArray, ?_, ?_⟩
    · unfold execOp
      rw [ho]
      refine run_v ?_
      simp [Instr.makeFunc]
    · simp only [Rep]
      refine ⟨xs.map a.eval, rfl, ?_⟩
      clear ho
      induction xs with
      | nil => simp [RepL]
      | cons x xs ih => simp only [List.map_cons, RepL]; exact ⟨hm.val x, ih⟩
theorem does_not {P : Program} {o : Oper} {S : AS} {n : Nat} {x : Operand} {t : TypeId} {b : Bool} (ho : o.op = .unOp .not t x) (hx : S.val x = .raw (.bool b)) : DoesAt P o S n ⟨.raw (.bool (!b)), [], []⟩ :=
  does_pure rfl fun c p ρ a w hm => ⟨_, by unfold execOp; rw [ho]; exact run_v (by simp [Op.unary, hm.raw hx]; rfl), by simp [Rep]⟩
theorem does_neg {P : Program} {o : Oper} {S : AS} {n : Nat} {x : Operand} {t : TypeId} {k : Int} (ho : o.op = .unOp .neg t x) (hx : S.val x = .raw (.int .i64 k)) (hr : -9223372036854775808 ≤ -k ∧ -k ≤ 9223372036854775807) : DoesAt P o S n ⟨.raw (.int .i64 (-k)), [], []⟩ :=
  does_pure rfl fun c p ρ a w hm => ⟨_, by
    unfold execOp; rw [ho]
    refine run_v (v := .int .i64 (-k)) ?_
    have : IntKind.i64.wrap (-k) = -k := IntWalk.i64_in _ hr
    simp [Op.unary, hm.raw hx, Op.intArith, this], by simp [Rep]⟩

/-- the bits that two numbers share; that either has. -/
def andI (a b : Int) : Int := IntKind.wrap .i64 ((BitVec.ofInt 64 a &&& BitVec.ofInt 64 b).toNat : Int)
def orI (a b : Int) : Int := IntKind.wrap .i64 ((BitVec.ofInt 64 a ||| BitVec.ofInt 64 b).toNat : Int)
/-- operations on integers. -/
def intOp : BinOp → Int → Int → Option (Value × Prop)
  | .add, a, b => some (.int .i64 (a + b), -9223372036854775808 ≤ a + b ∧ a + b ≤ 9223372036854775807)
  | .sub, a, b => some (.int .i64 (a - b), -9223372036854775808 ≤ a - b ∧ a - b ≤ 9223372036854775807)
  | .mul, a, b => some (.int .i64 (a * b), -9223372036854775808 ≤ a * b ∧ a * b ≤ 9223372036854775807)
  | .quo, a, b => some (.int .i64 (a.tdiv b), b ≠ 0 ∧ -9223372036854775808 ≤ a.tdiv b ∧ a.tdiv b ≤ 9223372036854775807)
  | .rem, a, b => some (.int .i64 (a.tmod b), b ≠ 0)
  | .and, a, b => some (.int .i64 (andI a b), True)
  | .or, a, b => some (.int .i64 (orI a b), True)
  | .eql, a, b => some (.bool (decide (a = b)), True)
  | .neq, a, b => some (.bool (!decide (a = b)), True)
  | .lss, a, b => some (.bool (decide (a < b)), True)
  | .leq, a, b => some (.bool (decide (a ≤ b)), True)
  | .gtr, a, b => some (.bool (decide (b < a)), True)
  | .geq, a, b => some (.bool (decide (b ≤ a)), True)
  | _, _, _ => none
theorem does_int {P : Program} {o : Oper} {S : AS} {n : Nat} {op : BinOp} {x y : Operand} {t u : TypeId} {k : Int} {l : Int} {v : Value} {sd : Prop} (ho : o.op = .binOp op t x y u) (hx : S.val x = .raw (.int .i64 k)) (hy : S.val y = .raw (.int .i64 l))
    (hv : intOp op k l = some (v, sd)) (hs : sd) : DoesAt P o S n ⟨.raw v, [], []⟩ :=
  does_pure rfl fun c p ρ a w hm => ⟨v, by
    unfold execOp; rw [ho]
    refine run_v ?_
    have e1 := hm.raw hx
    have e2 := hm.raw hy
    cases op <;> simp only [intOp, Option.some.injEq, Prod.mk.injEq, reduceCtorEq] at hv <;> obtain ⟨rfl, rfl⟩ := hv
    · simp only [e1, e2, eqGuard, binOp, Op.intArith, IntWalk.i64_in _ hs]; simp
    · simp only [e1, e2, eqGuard, binOp, Op.intArith, IntWalk.i64_in _ hs]; simp
    · simp only [e1, e2, eqGuard, binOp, Op.intArith, IntWalk.i64_in _ hs]; simp
    · simp only [e1, e2, eqGuard, binOp, Op.intDiv, if_neg hs.1, IntWalk.i64_in _ hs.2]; simp
    · simp [e1, e2, eqGuard, binOp, Op.intDiv, hs]
    · simp only [e1, e2, eqGuard, binOp, Op.intBits, andI]; simp; rfl
    · simp only [e1, e2, eqGuard, binOp, Op.intBits, orI]; simp; rfl
    · simp [e1, e2, eqGuard, binOp, Op.intCmp]; rfl
    · simp [e1, e2, eqGuard, binOp, Op.intCmp]; rfl
    · simp [e1, e2, eqGuard, binOp, Op.intCmp]
    · simp [e1, e2, eqGuard, binOp, Op.intCmp]
    · simp [e1, e2, eqGuard, binOp, Op.intCmp]
    · simp [e1, e2, eqGuard, binOp, Op.intCmp], by simp [Rep]⟩
/-- the element's size and the elements, of a slice's header. -/
def AS.rowsOf (S : AS) : AV → Option (Nat × List (List PV))
  | .hdr id => (S.obj id).bind AO.rows
  | .sl s rows => some (s, rows)
  | .vw id s l h => match (S.obj id).bind AO.rows with
    | some (s', rows) => if s' = s then some (s, (rows.drop l).take (h - l)) else none
    | none => none
  | _ => none
def AV.ids : AV → List Nat
  | .hdr id => [id]
  | .vw id _ _ _ => [id]
  | _ => []
theorem head_of_own {w : World} {e : TypeId} {s : Nat} {x : Value} {vals : List (List Value)} (h : OwnAt w e s x vals) : ∃ A c, x = .slice A vals.length c ∧ vals.length ≤ c := by
  rcases h with ⟨rfl, A, rfl⟩ | ⟨⟨g, cap, rfl, hp⟩, h0, h1⟩
  · exact ⟨A, 0, rfl, Nat.le_refl _⟩
  · refine ⟨_, cap, rfl, ?_⟩
    rcases h1 with ⟨h1, -⟩ | ⟨g2, cap2, cur, h1, -, hh, h4, -⟩
    · cases h1
    · injection h1 with e1 e2 e3; subst e3; exact h4
/-- a row's header, with something in it. -/
theorem ObjAt.head {ρ : Env} {w : World} (hro : ∀ g o, ρ.R g = some o → w.heap[g]? = some o) {x : Value} {o : AO} {s : Nat} {rows : List (List PV)} (h : ObjAt ρ w x o) (hr : o.rows = some (s, rows)) : ∃ A c, x = .slice A rows.length c ∧ rows.length ≤ c ∧ ∀ k r, rows[k]? = some r → ∃ b off vs, A = some ⟨b, off, none⟩ ∧ Elem ρ.R w b (off + k * s) s r vs := by
  have hc := fun k r hk => h.cell hro hr (k := k) (r := r) hk
  have h1 : ∃ A c, x = .slice A rows.length c ∧ rows.length ≤ c := by
    cases o with
    | fro s' r' =>
      simp only [AO.rows, Option.some.injEq, Prod.mk.injEq] at hr
      obtain ⟨rfl, rfl⟩ := hr
      have h : PRep ρ.R (.sl s' r') x := h
      simp only [PRep] at h
      obtain ⟨A, c, rfl, h2, -⟩ := h
      exact ⟨A, c, rfl, h2⟩
    | row e s' r' =>
      simp only [AO.rows, Option.some.injEq, Prod.mk.injEq] at hr
      obtain ⟨rfl, rfl⟩ := hr
      obtain ⟨vals, h1, -, -, h4⟩ := h
      obtain ⟨A, c, h5, h6⟩ := head_of_own h4
      rw [h1.length] at h5 h6
      exact ⟨A, c, h5, h6⟩
    | _ => simp [AO.rows] at hr
  obtain ⟨A, c, rfl, h2⟩ := h1
  refine ⟨A, c, rfl, h2, fun k r hk => ?_⟩
  obtain ⟨b, off, vs, hb, he⟩ := hc k r hk
  rcases hb with hb | ⟨_, _, hb⟩
  · cases hb
  · injection hb with hb; exact ⟨b, off, vs, hb, he⟩
theorem Mod.slice {c : Ctx} {p : Nat → Prop} {ρ : Env} {S : AS} {tm : Array Value} {w : World} (hm : Mod c p ρ S tm w) {a : AV} {s : Nat} {rows : List (List PV)} {u : Value} (hr : S.rowsOf a = some (s, rows)) (hu : Rep ρ a u) :
    ∃ A cp, u = .slice A rows.length cp ∧ rows.length ≤ cp ∧ ∀ k r, rows[k]? = some r → ∃ b off vs, A = some ⟨b, off, none⟩ ∧ Elem ρ.R w b (off + k * s) s r vs := by
  cases a with
  | hdr id =>
    simp only [AS.rowsOf] at hr
    obtain ⟨ob, hob, hor⟩ := Option.bind_eq_some_iff.1 hr
    obtain ⟨y, hy, hoy⟩ := hm.objs id _ hob
    simp only [Rep] at hu
    rw [hy] at hu
    obtain rfl := Option.some.inj hu
    exact hoy.head hm.ro hor
  | sl s' rows' =>
    simp only [AS.rowsOf, Option.some.injEq, Prod.mk.injEq] at hr
    obtain ⟨rfl, rfl⟩ := hr
    simp only [Rep, PRep] at hu
    obtain ⟨A, cp, rfl, h1, h2⟩ := hu
    exact ⟨A, cp, rfl, h1, fun k r hk => h2.elem hm.ro hk⟩
  | vw id s' l hh =>
    simp only [AS.rowsOf] at hr
    split at hr
    · next s2 rows2 hb =>
      split at hr
      · next hs =>
        subst hs
        simp only [Option.some.injEq, Prod.mk.injEq] at hr
        obtain ⟨rfl, rfl⟩ := hr
        obtain ⟨ob, hob, hor⟩ := Option.bind_eq_some_iff.1 hb
        obtain ⟨y, hy, hoy⟩ := hm.objs id _ hob
        obtain ⟨A, cp, rfl, h1, h2⟩ := hoy.head hm.ro hor
        simp only [Rep] at hu
        obtain ⟨A', n', c', e1, e2, e3, e4, rfl⟩ := hu
        rw [hy] at e1
        injection e1 with e1
        injection e1 with e1 e5 e6
        subst e1; subst e5; subst e6
        have hlen : ((rows2.drop l).take (hh - l)).length = hh - l := by simp; omega
        refine ⟨_, cp - l, by rw [hlen], by rw [hlen]; omega, fun k r hk => ?_⟩
        have hkl : k < hh - l := by rw [← hlen]; exact (List.getElem?_eq_some_iff.1 hk).1
        have hk2 : rows2[l + k]? = some r := by
          rw [List.getElem?_take_of_lt hkl, List.getElem?_drop] at hk
          exact hk
        obtain ⟨b, off, vs, rfl, he⟩ := h2 _ r hk2
        refine ⟨b, off + l * s2, vs, by rw [if_neg (by omega)]; simp [add_none], ?_⟩
        rw [Nat.add_assoc, ← Nat.add_mul]
        exact he
      · cases hr
    · cases hr
  | _ => simp [AS.rowsOf] at hr
theorem does_len {P : Program} {o : Oper} {S : AS} {n : Nat} {x : Operand} {t e : TypeId} {a : AV} {s : Nat} {rows : List (List PV)} (ho : o.op = .call { callee := .builtin .len, args := #[x], argTypes := #[t] }) (ht : P.underlying t = some (.slice e))
    (hx : S.val x = a) (hor : S.rowsOf a = some (s, rows)) : DoesAt P o S n ⟨.raw (.int .i64 rows.length), [], a.ids⟩ :=
  does_pure rfl fun c p ρ ac w hm => ⟨.int .i64 rows.length, by
    obtain ⟨A, c', hu, -, -⟩ := hm.slice hor (by rw [← hx]; exact hm.val x)
    have hte : P.underlying t = some (.slice (P.elem t)) := by simp [Program.elem, ht]
    unfold execOp
    rw [ho]
    simp only [resolve, Sem.run_bind, Sem.run_pure, Result.andThen_ok, invoke, builtin]
    have := run_len_slice (P := P) w t o.type A rows.length c' hte
    simp [hu, this, goInt], by simp [Rep]⟩
theorem does_len_raw {P : Program} {o : Oper} {S : AS} {n : Nat} {x : Operand} {t e : TypeId} {A : Option Addr} {m q : Nat} (ho : o.op = .call { callee := .builtin .len, args := #[x], argTypes := #[t] }) (ht : P.underlying t = some (.slice e))
    (hx : S.val x = .raw (.slice A m q)) : DoesAt P o S n ⟨.raw (.int .i64 m), [], []⟩ :=
  does_pure rfl fun c p ρ a w hm => ⟨.int .i64 m, by
    have hte : P.underlying t = some (.slice (P.elem t)) := by simp [Program.elem, ht]
    unfold execOp
    rw [ho]
    simp only [resolve, Sem.run_bind, Sem.run_pure, Result.andThen_ok, invoke, builtin]
    have := run_len_slice (P := P) w t o.type A m q hte
    simp [hm.raw hx, this, goInt], by simp [Rep]⟩

theorem tyI_slice {P : Program} {t : TypeId} {i : TI} (h : tyI P t = some i) (hk : i.kind = 1) : P.underlying t = some (.slice i.elem) := by
  unfold tyI at h
  split at h
  · next x d h1 h2 =>
    split at h
    · next z hz =>
      obtain rfl := Option.some.inj h
      cases d <;> simp at hk
      exact h2
    · simp at h
  · simp at h
theorem tyI_field {P : Program} {t : TypeId} {i : TI} (h : tyI P t = some i) (hk : i.kind = 3) {f off s : Nat} (hp : i.places[f]? = some (off, s)) (hs : 0 < s) :
    ∃ fs fl, P.underlying t = some (.struct fs) ∧ fs[f]? = some fl ∧ fl.offset = off ∧ ∃ x, P.info? fl.type = some x ∧ x.size = s := by
  unfold tyI at h
  split at h
  · next x d h1 h2 =>
    split at h
    · next z hz =>
      obtain rfl := Option.some.inj h
      cases d <;> simp at hk
      next fs =>
        simp only [List.getElem?_map, Array.getElem?_toList] at hp
        cases hf : fs[f]? with
        | none => rw [hf] at hp; simp at hp
        | some fl =>
          rw [hf] at hp
          simp only [Option.map_some, Option.some.injEq, Prod.mk.injEq] at hp
          refine ⟨fs, fl, h2, hf, hp.1, ?_⟩
          cases hi : P.info? fl.type with
          | none => rw [hi] at hp; simp at hp; omega
          | some y => rw [hi] at hp; simp at hp; exact ⟨y, rfl, hp.2⟩
    · simp at h
  · simp at h

theorem does_fieldAddr {P : Program} {o : Oper} {S : AS} {n : Nat} {t : TypeId} {x : Operand} {f off s' : Nat} {i : TI} {id s k j : Nat} {t' : TypeId} {l : List AV} (ho : o.op = .fieldAddr t x f) (hi : tyI P t = some i) (hk : i.kind = 3) (hp : i.places[f]? = some (off, s')) (hs : 0 < s')
    (hx : (S.val x).loc = some (id, s, k, j)) (hob : S.obj id = some (.cells t' l)) : DoesAt P o S n ⟨.ptr id s k (j + off), [], [id]⟩ :=
  does_pure rfl fun c p ρ a w hm => by
    obtain ⟨g, cs, hg, hpt, -, -, -⟩ := hm.at_cells hx hob
    obtain ⟨fs, fl, h1, h2, rfl, y, h3, h4⟩ := tyI_field hi hk hp hs
    refine ⟨.pointer (some ⟨g, k * s + j + fl.offset, none⟩), ?_, ?_⟩
    · unfold execOp
      rw [ho]
      refine run_v ?_
      have h5 : ¬ y.size = 0 := by omega
      simp only [Instr.fieldAt, Sem.run_bind, run_underlying h1 w, Result.andThen_ok, h2, hpt, Instr.sureAddr, Sem.run_pure, fieldPlace, sizeOf, typeInfo, run_program, h3, if_neg h5, add_none]
    · simp only [Rep]
      exact ⟨_, g, 0, hg, .inl rfl, by rw [Nat.zero_add, Nat.add_assoc]⟩
theorem does_fieldAddr_row {P : Program} {o : Oper} {S : AS} {n : Nat} {t : TypeId} {x : Operand} {f off s' : Nat} {i : TI} {id s k j : Nat} (ho : o.op = .fieldAddr t x f) (hi : tyI P t = some i) (hk : i.kind = 3) (hp : i.places[f]? = some (off, s')) (hs : 0 < s')
    (hx : S.val x = .ptr id s k j) : DoesAt P o S n ⟨.ptr id s k (j + off), [], []⟩ :=
  does_pure rfl fun c p ρ a w hm => by
    have hv := hm.val x
    rw [hx] at hv
    simp only [Rep] at hv
    obtain ⟨y', b, o', e1, e2, e3⟩ := hv
    obtain ⟨fs, fl, h1, h2, rfl, y, h3, h4⟩ := tyI_field hi hk hp hs
    refine ⟨.pointer (some ⟨b, o' + (k * s + j) + fl.offset, none⟩), ?_, ?_⟩
    · unfold execOp
      rw [ho]
      refine run_v ?_
      have h5 : ¬ y.size = 0 := by omega
      simp only [Instr.fieldAt, Sem.run_bind, run_underlying h1 w, Result.andThen_ok, h2, e3, Instr.sureAddr, Sem.run_pure, fieldPlace, sizeOf, typeInfo, run_program, h3, if_neg h5, add_none]
    · simp only [Rep]
      exact ⟨_, b, o', e1, e2, by simp only [Nat.add_assoc]⟩
theorem does_fieldAddr_spt {P : Program} {o : Oper} {S : AS} {n : Nat} {t : TypeId} {x : Operand} {f off s' : Nat} {i : TI} {s k j : Nat} {rows : List (List PV)} (ho : o.op = .fieldAddr t x f) (hi : tyI P t = some i) (hk : i.kind = 3) (hp : i.places[f]? = some (off, s')) (hs : 0 < s')
    (hx : S.val x = .spt s rows k j) : DoesAt P o S n ⟨.spt s rows k (j + off), [], []⟩ :=
  does_pure rfl fun c p ρ a w hm => by
    have hv := hm.val x
    rw [hx] at hv
    simp only [Rep] at hv
    obtain ⟨b, o', e3, e2⟩ := hv
    obtain ⟨fs, fl, h1, h2, rfl, y, h3, h4⟩ := tyI_field hi hk hp hs
    refine ⟨.pointer (some ⟨b, o' + (k * s + j) + fl.offset, none⟩), ?_, ?_⟩
    · unfold execOp
      rw [ho]
      refine run_v ?_
      have h5 : ¬ y.size = 0 := by omega
      simp only [Instr.fieldAt, Sem.run_bind, run_underlying h1 w, Result.andThen_ok, h2, e3, Instr.sureAddr, Sem.run_pure, fieldPlace, sizeOf, typeInfo, run_program, h3, if_neg h5, add_none]
    · simp only [Rep]
      exact ⟨b, o', by simp only [Nat.add_assoc], e2⟩
/-- the type of a field. -/
def fieldT (P : Program) (t : TypeId) (f : Nat) : Option TypeId := match P.underlying t with | some (.struct fs) => (fs[f]?).map (·.type) | _ => none
theorem does_shr {P : Program} {o : Oper} {S : AS} {n : Nat} {x y : Operand} {t u : TypeId} {a b : Int} {kb : IntKind} (ho : o.op = .binOp .shr t x y u) (hx : S.val x = .raw (.int .u64 a)) (hy : S.val y = .raw (.int kb b)) (hb : 0 ≤ b) : DoesAt P o S n ⟨.raw (.int .u64 (a.fdiv (2 ^ min b.toNat 64))), [], []⟩ :=
  does_pure rfl fun c p ρ aa w hm => ⟨_, by
    unfold execOp; rw [ho]
    refine run_v (v := .int .u64 (a.fdiv (2 ^ min b.toNat 64))) ?_
    have h1 : ¬ b < 0 := by omega
    simp [hm.raw hx, hm.raw hy, eqGuard, binOp, Op.shift, if_neg h1, IntKind.bits], by simp [Rep]⟩
theorem does_convert {P : Program} {o : Oper} {S : AS} {n : Nat} {x : Operand} {t u : TypeId} {i : TI} {k k' : IntKind} {a : Int} (ho : o.op = .convert t u x) (hi : tyI P t = some i) (hu : P.underlying u = some (.int k)) (hx : S.val x = .raw (.int k' a)) : DoesAt P o S n ⟨.raw (.int k (k.wrap a)), [], []⟩ :=
  does_pure rfl fun c p ρ aa w hm => ⟨_, by
    obtain ⟨xx, d, z, i1, i2, -⟩ := tyI_spec hi
    unfold execOp; rw [ho]
    refine run_v (v := .int k (k.wrap a)) ?_
    simp only [convert, Sem.run_bind, run_underlying i2 w, run_underlying hu w, Result.andThen_ok, hm.raw hx]
    cases d <;> simp [Conv.intToInt], by simp [Rep]⟩
theorem does_field {P : Program} {o : Oper} {S : AS} {n : Nat} {x : Operand} {t : TypeId} {f off s' : Nat} {i fi : TI} {l : List AV} {tf : TypeId} (ho : o.op = .field t x f) (hi : tyI P t = some i) (hk : i.kind = 3) (hp : i.places[f]? = some (off, s')) (hs : 0 < s')
    (hft : fieldT P t f = some tf) (hfi : tyI P tf = some fi) (h1 : fi.agg = true ∨ fi.size = 1) (hl : off + fi.size ≤ l.length) (hx : S.val x = .agg l) : DoesAt P o S n ⟨ofCells fi.agg ((l.drop off).take fi.size), [], []⟩ :=
  does_pure rfl fun c p ρ a w hm => by
    have h := hm.val x
    rw [hx] at h
    simp only [Rep] at h
    obtain ⟨cs, e, hr⟩ := h
    obtain ⟨fs, fl, e1, e2, rfl, y, e3, e4⟩ := tyI_field hi hk hp hs
    obtain rfl : tf = fl.type := by simpa [fieldT, e1, e2] using hft.symm
    obtain ⟨xi, d, z, i1, i2, i3, i4, i5, i6, i7⟩ := tyI_spec hfi
    have hlen := hr.length
    refine ⟨if fi.agg then .agg ((cs.drop fl.offset).take fi.size).toArray else ((cs.drop fl.offset).take fi.size).getD 0 undef, ?_, rep_ofCells ((hr.drop fl.offset).take fi.size) fi.agg⟩
    unfold execOp
    rw [ho]
    refine run_v ?_
    simp only [Instr.field, Sem.run_bind, run_underlying e1 w, Result.andThen_ok, e2, e, asAgg, Sem.run_pure, part, isAgg, run_underlying i2 w]
    have hil : isAggD d = fi.agg := i6
    cases hag : fi.agg with
    | true =>
      rw [hag] at hil
      cases d <;> simp only [isAggD, reduceCtorEq] at hil <;> simp [sizeOf, typeInfo, i1, i4, List.extract_eq_take_drop]
    | false =>
      have hz : fi.size = 1 := by rcases h1 with h1 | h1 <;> simp_all
      have hc : (cs.toArray)[fl.offset]? = some (((cs.drop fl.offset).take fi.size).getD 0 undef) := by
        rw [hz] at hl ⊢
        have h3 : fl.offset < cs.length := by omega
        simp [List.getElem?_eq_getElem h3]
      rw [hag] at hil
      cases d <;> simp only [isAggD, reduceCtorEq] at hil <;> simp [hc]
/-- a pointer to an element. -/
def elAddr : AV → Nat → Nat → Option AV
  | .hdr id, s, k => some (.ptr id s k 0)
  | .sl s rows, _, k => some (.spt s rows k 0)
  | .vw id s l _, _, k => some (.ptr id s (l + k) 0)
  | _, _, _ => none
theorem does_indexAddr {P : Program} {o : Oper} {S : AS} {n : Nat} {t : TypeId} {x y : Operand} {i ie : TI} {a v : AV} {s : Nat} {rows : List (List PV)} {kd : IntKind} {q : Int} (ho : o.op = .indexAddr t x y) (hi : tyI P t = some i) (hk : i.kind = 1) (hie : tyI P i.elem = some ie) (hes : ie.size = s)
    (hx : S.val x = a) (hor : S.rowsOf a = some (s, rows)) (hy : S.val y = .raw (.int kd q)) (h0 : 0 ≤ q) (h1 : q < rows.length) (he : elAddr a s q.toNat = some v) : DoesAt P o S n ⟨v, [], a.ids⟩ :=
  does_pure rfl fun c p ρ ac w hm => by
    have hu : Rep ρ a (ac.eval x) := by rw [← hx]; exact hm.val x
    obtain ⟨A, cp, hv, -, hA⟩ := hm.slice hor hu
    have hql : q.toNat < rows.length := by omega
    obtain ⟨b, off, vs, rfl, -⟩ := hA q.toNat rows[q.toNat] (by simp [hql])
    obtain ⟨xi, d, z, i1, i2, i3, i4, i5, i6, i7⟩ := tyI_spec hie
    have hte := tyI_slice hi hk
    refine ⟨.pointer (some ⟨b, off + q.toNat * s, none⟩), ?_, ?_⟩
    · unfold execOp
      rw [ho]
      refine run_v ?_
      have hq : 0 ≤ q ∧ q < ((rows.length : Nat) : Int) := ⟨h0, h1⟩
      simp only [hv, hm.raw hy, Instr.indexAt, asIntOf, Sem.run_bind, Sem.run_pure, Result.andThen_ok, run_underlying hte, sizeOf, typeInfo, run_program, i1, i4, hes, if_pos hq, add_none]
    · cases a with
      | hdr id =>
        simp only [elAddr, Option.some.injEq] at he
        subst he
        simp only [Rep] at hu ⊢
        exact ⟨_, b, off, hu, .inr ⟨_, _, hv⟩, rfl⟩
      | sl s' rows' =>
        simp only [elAddr, Option.some.injEq] at he
        subst he
        simp only [AS.rowsOf, Option.some.injEq, Prod.mk.injEq] at hor
        obtain ⟨rfl, rfl⟩ := hor
        simp only [Rep, PRep] at hu ⊢
        obtain ⟨A, c2, e1, -, e2⟩ := hu
        rw [hv] at e1
        injection e1 with e1
        subst e1
        exact ⟨b, off, rfl, e2⟩
      | vw id s' l hh =>
        simp only [elAddr, Option.some.injEq] at he
        subst he
        simp only [AS.rowsOf] at hor
        split at hor
        · next s2 rows2 hb =>
          split at hor
          · next hs =>
            subst hs
            simp only [Option.some.injEq, Prod.mk.injEq] at hor
            obtain ⟨rfl, rfl⟩ := hor
            obtain ⟨ob, hob, hor2⟩ := Option.bind_eq_some_iff.1 hb
            obtain ⟨yy, hyy, hoy⟩ := hm.objs id _ hob
            obtain ⟨A2, cp2, rfl, h3, h4⟩ := hoy.head hm.ro hor2
            simp only [Rep] at hu ⊢
            obtain ⟨A', n', c', e1, e2, e3, e4, e5⟩ := hu
            rw [hyy] at e1
            injection e1 with e1
            injection e1 with e1 e6 e7
            subst e1; subst e6; subst e7
            have hlen : ((rows2.drop l).take (hh - l)).length = hh - l := by simp; omega
            obtain ⟨b', o', vs', rfl, -⟩ := h4 l rows2[l] (by simp)
            rw [hv] at e5
            injection e5 with e5
            rw [if_neg (by omega)] at e5
            simp only [Option.map_some, Option.some.injEq, add_none] at e5
            injection e5 with e8 e9
            subst e8; subst e9
            exact ⟨_, b, o', hyy, .inr ⟨_, _, rfl⟩, by rw [Nat.add_zero, Nat.add_mul, Nat.add_assoc]⟩
          · cases hor
        · cases hor
      | _ => simp [elAddr] at he
theorem does_eqb {P : Program} {o : Oper} {S : AS} {n : Nat} {x y : Operand} {t u : TypeId} {k l : Bool} (ho : o.op = .binOp .eql t x y u) (ht : P.underlying t = some .bool) (hx : S.val x = .raw (.bool k)) (hy : S.val y = .raw (.bool l)) : DoesAt P o S n ⟨.raw (.bool (k == l)), [], []⟩ :=
  does_pure rfl fun c p ρ a w hm => ⟨.bool (k == l), by
    unfold execOp; rw [ho]
    refine run_v ?_
    simp [hm.raw hx, hm.raw hy, eqGuard, binOp, Op.equal, Op.maxDepth, run_equalIn_bool' w 9999 t k l ht], by simp [Rep]⟩
theorem does_neb {P : Program} {o : Oper} {S : AS} {n : Nat} {x y : Operand} {t u : TypeId} {k l : Bool} (ho : o.op = .binOp .neq t x y u) (ht : P.underlying t = some .bool) (hx : S.val x = .raw (.bool k)) (hy : S.val y = .raw (.bool l)) : DoesAt P o S n ⟨.raw (.bool (k != l)), [], []⟩ :=
  does_pure rfl fun c p ρ a w hm => ⟨.bool (k != l), by
    unfold execOp; rw [ho]
    refine run_v ?_
    simp [hm.raw hx, hm.raw hy, eqGuard, binOp, Op.equal, Op.maxDepth, run_equalIn_bool' w 9999 t k l ht, bne], by simp [Rep]⟩
theorem does_nilCheck {P : Program} {o : Oper} {S : AS} {n : Nat} {x : Operand} {id s k j : Nat} {t : TypeId} {l : List AV} (ho : o.op = .nilCheck x) (hx : (S.val x).loc = some (id, s, k, j)) (hob : S.obj id = some (.cells t l)) : DoesAt P o S n ⟨S.val x, [], [id]⟩ :=
  does_pure rfl fun c p ρ a w hm => by
    obtain ⟨g, cs, hg, hpt, -, -, -⟩ := hm.at_cells hx hob
    have hv := hm.val x
    refine ⟨a.eval x, ?_, hv⟩
    unfold execOp
    rw [ho]
    simp [hpt]
theorem does_nilCheck_fn {P : Program} {o : Oper} {S : AS} {n : Nat} {x : Operand} {f : FuncId} {l : List AV} (ho : o.op = .nilCheck x) (hx : S.val x = .clo (.func f) l) : DoesAt P o S n ⟨S.val x, [], []⟩ :=
  does_pure rfl fun c p ρ a w hm => by
    have hv := hm.val x
    refine ⟨a.eval x, ?_, hv⟩
    rw [hx] at hv
    simp only [Rep] at hv
    obtain ⟨cs, e, -⟩ := hv
    unfold execOp
    rw [ho]
    simp [e]
end Go.Proofs.Ytiidfcadmdahmaa
