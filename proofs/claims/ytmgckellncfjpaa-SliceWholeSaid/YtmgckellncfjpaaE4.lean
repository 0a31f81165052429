/- ENGINE 4: more operations; over any program. -/
import Derived.Test.YtmgckellncfjpaaE3
set_option linter.unusedSimpArgs false
set_option linter.unusedVariables false
namespace Go.Proofs.Ytmgckellncfjpaa
open Go.RowKit

theorem run_v {P : Program} {w w' : World} {s : Sem Value} {v : Value} (h : s.run P w = .ok v w') : (do pure (Next.value (← s)) : Sem Next).run P w = .ok (.value v) w' := by
  simp only [Sem.run_bind, h, Result.andThen_ok, Sem.run_pure]

theorem does_extract {P : Program} {o : Oper} {S : AS} {n : Nat} {x : Operand} {k : Nat} {l : List AV} {v : AV} (ho : o.op = .extract x k) (hx : S.val x = .tup l) (hk : l[k]? = some v) : DoesAt P o S n ⟨v, [], []⟩ :=
  does_pure rfl fun c p ρ a w hm => by
    have h := hm.val x
    rw [hx] at h
    simp only [Rep] at h
    obtain ⟨cs, e, hr⟩ := h
    obtain ⟨u, h1, h2⟩ := RepL.get k hr hk
    refine ⟨u, ?_, h2⟩
    unfold execOp
    rw [ho]
    refine run_v ?_
    simp [Instr.extract, e, h1]
theorem does_makeFunc {P : Program} {o : Oper} {S : AS} {n : Nat} {f : Fn} {xs : List Operand} (ho : o.op = .makeFunc f #[] xs.toArray) : DoesAt P o S n ⟨.clo f (xs.map S.val), [], []⟩ :=
  does_pure rfl fun c p ρ a w hm => by
    refine ⟨.func f #[] (xs.map a.eval).toArray, ?_, ?_⟩
    · unfold execOp
      rw [ho]
      refine run_v ?_
      simp [Instr.makeFunc]
    · simp only [Rep]
      refine ⟨xs.map a.eval, rfl, ?_⟩
      clear ho
      induction xs with
      | nil => simp [RepL]
      | cons x xs ih => simp only [List.map_cons, RepL]; exact ⟨hm.val x, ih⟩
theorem does_not {P : Program} {o : Oper} {S : AS} {n : Nat} {x : Operand} {t : TypeId} {b : Bool} (ho : o.op = .unOp .not t x) (hx : S.val x = .raw (.bool b)) : DoesAt P o S n ⟨.raw (.bool (!b)), [], []⟩ :=
  does_pure rfl fun c p ρ a w hm => ⟨_, by unfold execOp; rw [ho]; exact run_v (by simp [Op.unary, hm.raw hx]; rfl), by simp [Rep]⟩
theorem does_neg {P : Program} {o : Oper} {S : AS} {n : Nat} {x : Operand} {t : TypeId} {k : Int} (ho : o.op = .unOp .neg t x) (hx : S.val x = .raw (.int .i64 k)) (hr : -9223372036854775808 ≤ -k ∧ -k ≤ 9223372036854775807) : DoesAt P o S n ⟨.raw (.int .i64 (-k)), [], []⟩ :=
  does_pure rfl fun c p ρ a w hm => ⟨_, by
    unfold execOp; rw [ho]
    refine run_v (v := .int .i64 (-k)) ?_
    have : IntKind.i64.wrap (-k) = -k := IntWalk.i64_in _ hr
    simp [Op.unary, hm.raw hx, Op.intArith, this], by simp [Rep]⟩

/-- the bits that two numbers share; that either has. -/
def andI (a b : Int) : Int := IntKind.wrap .i64 ((BitVec.ofInt 64 a &&& BitVec.ofInt 64 b).toNat : Int)
def orI (a b : Int) : Int := IntKind.wrap .i64 ((BitVec.ofInt 64 a ||| BitVec.ofInt 64 b).toNat : Int)
/-- operations on integers. -/
def intOp : BinOp → Int → Int → Option (Value × Prop)
  | .add, a, b => some (.int .i64 (a + b), -9223372036854775808 ≤ a + b ∧ a + b ≤ 9223372036854775807)
  | .sub, a, b => some (.int .i64 (a - b), -9223372036854775808 ≤ a - b ∧ a - b ≤ 9223372036854775807)
  | .mul, a, b => some (.int .i64 (a * b), -9223372036854775808 ≤ a * b ∧ a * b ≤ 9223372036854775807)
  | .quo, a, b => some (.int .i64 (a.tdiv b), b ≠ 0 ∧ -9223372036854775808 ≤ a.tdiv b ∧ a.tdiv b ≤ 9223372036854775807)
  | .rem, a, b => some (.int .i64 (a.tmod b), b ≠ 0)
  | .and, a, b => some (.int .i64 (andI a b), True)
  | .or, a, b => some (.int .i64 (orI a b), True)
  | .eql, a, b => some (.bool (decide (a = b)), True)
  | .neq, a, b => some (.bool (!decide (a = b)), True)
  | .lss, a, b => some (.bool (decide (a < b)), True)
  | .leq, a, b => some (.bool (decide (a ≤ b)), True)
  | .gtr, a, b => some (.bool (decide (b < a)), True)
  | .geq, a, b => some (.bool (decide (b ≤ a)), True)
  | _, _, _ => none
theorem does_int {P : Program} {o : Oper} {S : AS} {n : Nat} {op : BinOp} {x y : Operand} {t u : TypeId} {k : Int} {l : Int} {v : Value} {sd : Prop} (ho : o.op = .binOp op t x y u) (hx : S.val x = .raw (.int .i64 k)) (hy : S.val y = .raw (.int .i64 l))
    (hv : intOp op k l = some (v, sd)) (hs : sd) : DoesAt P o S n ⟨.raw v, [], []⟩ :=
  does_pure rfl fun c p ρ a w hm => ⟨v, by
    unfold execOp; rw [ho]
    refine run_v ?_
    have e1 := hm.raw hx
    have e2 := hm.raw hy
    cases op <;> simp only [intOp, Option.some.injEq, Prod.mk.injEq, reduceCtorEq] at hv <;> obtain ⟨rfl, rfl⟩ := hv
    · simp only [e1, e2, eqGuard, binOp, Op.intArith, IntWalk.i64_in _ hs]; simp
    · simp only [e1, e2, eqGuard, binOp, Op.intArith, IntWalk.i64_in _ hs]; simp
    · simp only [e1, e2, eqGuard, binOp, Op.intArith, IntWalk.i64_in _ hs]; simp
    · simp only [e1, e2, eqGuard, binOp, Op.intDiv, if_neg hs.1, IntWalk.i64_in _ hs.2]; simp
    · simp [e1, e2, eqGuard, binOp, Op.intDiv, hs]
    · simp only [e1, e2, eqGuard, binOp, Op.intBits, andI]; simp; rfl
    · simp only [e1, e2, eqGuard, binOp, Op.intBits, orI]; simp; rfl
    · simp [e1, e2, eqGuard, binOp, Op.intCmp]; rfl
    · simp [e1, e2, eqGuard, binOp, Op.intCmp]; rfl
    · simp [e1, e2, eqGuard, binOp, Op.intCmp]
    · simp [e1, e2, eqGuard, binOp, Op.intCmp]
    · simp [e1, e2, eqGuard, binOp, Op.intCmp]
    · simp [e1, e2, eqGuard, binOp, Op.intCmp], by simp [Rep]⟩
theorem does_len {P : Program} {o : Oper} {S : AS} {n : Nat} {x : Operand} {t e : TypeId} {id m : Nat} {ob : AO} {s : Nat} {rows : List (List Value)} (ho : o.op = .call { callee := .builtin .len, args := #[x], argTypes := #[t] }) (ht : P.underlying t = some (.slice e))
    (hx : S.val x = .hdr id) (hob : S.obj id = some ob) (hor : ob.rows = some (s, rows)) (hm' : m = rows.length) : DoesAt P o S n ⟨.raw (.int .i64 m), [], [id]⟩ :=
  does_pure rfl fun c p ρ a w hm => ⟨.int .i64 m, by
    obtain ⟨y, hy, hoy⟩ := hm.objs id _ hob
    have hv := hm.val x
    rw [hx] at hv
    simp only [Rep] at hv
    rw [hy] at hv
    injection hv with hv
    have : ∃ A c, y = .slice A m c := by
      cases ob with
      | cells => simp [AO.rows] at hor
      | ext s' r' =>
        simp only [AO.rows, Option.some.injEq, Prod.mk.injEq] at hor
        obtain ⟨rfl, rfl⟩ := hor
        obtain ⟨A, c, rfl, -⟩ := hoy
        exact ⟨A, c, by rw [hm']⟩
      | row e s' r' =>
        simp only [AO.rows, Option.some.injEq, Prod.mk.injEq] at hor
        obtain ⟨rfl, rfl⟩ := hor
        obtain ⟨⟨_, ⟨rfl, h0⟩ | ⟨g, cap, cur, rfl, _⟩⟩, _⟩ := hoy
        · exact ⟨none, 0, by rw [hm', h0]⟩
        · exact ⟨_, cap, by rw [hm']⟩
    obtain ⟨A, c', rfl⟩ := this
    have hte : P.underlying t = some (.slice (P.elem t)) := by simp [Program.elem, ht]
    unfold execOp
    rw [ho]
    simp only [resolve, Sem.run_bind, Sem.run_pure, Result.andThen_ok, invoke, builtin]
    have := run_len_slice (P := P) w t o.type A m c' hte
    simp [← hv, this, goInt], by simp [Rep]⟩
theorem does_len_raw {P : Program} {o : Oper} {S : AS} {n : Nat} {x : Operand} {t e : TypeId} {A : Option Addr} {m q : Nat} (ho : o.op = .call { callee := .builtin .len, args := #[x], argTypes := #[t] }) (ht : P.underlying t = some (.slice e))
    (hx : S.val x = .raw (.slice A m q)) : DoesAt P o S n ⟨.raw (.int .i64 m), [], []⟩ :=
  does_pure rfl fun c p ρ a w hm => ⟨.int .i64 m, by
    have hte : P.underlying t = some (.slice (P.elem t)) := by simp [Program.elem, ht]
    unfold execOp
    rw [ho]
    simp only [resolve, Sem.run_bind, Sem.run_pure, Result.andThen_ok, invoke, builtin]
    have := run_len_slice (P := P) w t o.type A m q hte
    simp [hm.raw hx, this, goInt], by simp [Rep]⟩

theorem tyI_slice {P : Program} {t : TypeId} {i : TI} (h : tyI P t = some i) (hk : i.kind = 1) : P.underlying t = some (.slice i.elem) := by
  unfold tyI at h
  split at h
  · next x d h1 h2 =>
    split at h
    · next z hz =>
      obtain rfl := Option.some.inj h
      cases d <;> simp at hk
      exact h2
    · simp at h
  · simp at h
theorem tyI_field {P : Program} {t : TypeId} {i : TI} (h : tyI P t = some i) (hk : i.kind = 3) {f off s : Nat} (hp : i.places[f]? = some (off, s)) (hs : 0 < s) :
    ∃ fs fl, P.underlying t = some (.struct fs) ∧ fs[f]? = some fl ∧ fl.offset = off ∧ ∃ x, P.info? fl.type = some x ∧ x.size = s := by
  unfold tyI at h
  split at h
  · next x d h1 h2 =>
    split at h
    · next z hz =>
      obtain rfl := Option.some.inj h
      cases d <;> simp at hk
      next fs =>
        simp only [List.getElem?_map, Array.getElem?_toList] at hp
        cases hf : fs[f]? with
        | none => rw [hf] at hp; simp at hp
        | some fl =>
          rw [hf] at hp
          simp only [Option.map_some, Option.some.injEq, Prod.mk.injEq] at hp
          refine ⟨fs, fl, h2, hf, hp.1, ?_⟩
          cases hi : P.info? fl.type with
          | none => rw [hi] at hp; simp at hp; omega
          | some y => rw [hi] at hp; simp at hp; exact ⟨y, rfl, hp.2⟩
    · simp at h
  · simp at h

theorem does_fieldAddr {P : Program} {o : Oper} {S : AS} {n : Nat} {t : TypeId} {x : Operand} {f off s' : Nat} {i : TI} {id s k j : Nat} {t' : TypeId} {l : List AV} (ho : o.op = .fieldAddr t x f) (hi : tyI P t = some i) (hk : i.kind = 3) (hp : i.places[f]? = some (off, s')) (hs : 0 < s')
    (hx : (S.val x).loc = some (id, s, k, j)) (hob : S.obj id = some (.cells t' l)) : DoesAt P o S n ⟨.ptr id s k (j + off), [], [id]⟩ :=
  does_pure rfl fun c p ρ a w hm => by
    obtain ⟨g, cs, hg, hpt, -, -, -⟩ := hm.at_cells hx hob
    obtain ⟨fs, fl, h1, h2, rfl, y, h3, h4⟩ := tyI_field hi hk hp hs
    refine ⟨.pointer (some ⟨g, k * s + j + fl.offset, none⟩), ?_, ?_⟩
    · unfold execOp
      rw [ho]
      refine run_v ?_
      have h5 : ¬ y.size = 0 := by omega
      simp only [Instr.fieldAt, Sem.run_bind, run_underlying h1 w, Result.andThen_ok, h2, hpt, Instr.sureAddr, Sem.run_pure, fieldPlace, sizeOf, typeInfo, run_program, h3, if_neg h5, add_none]
    · simp only [Rep]
      exact ⟨_, g, 0, hg, .inl rfl, by rw [Nat.zero_add, Nat.add_assoc]⟩
theorem does_fieldAddr_row {P : Program} {o : Oper} {S : AS} {n : Nat} {t : TypeId} {x : Operand} {f off s' : Nat} {i : TI} {id s k j : Nat} (ho : o.op = .fieldAddr t x f) (hi : tyI P t = some i) (hk : i.kind = 3) (hp : i.places[f]? = some (off, s')) (hs : 0 < s')
    (hx : S.val x = .ptr id s k j) : DoesAt P o S n ⟨.ptr id s k (j + off), [], []⟩ :=
  does_pure rfl fun c p ρ a w hm => by
    have hv := hm.val x
    rw [hx] at hv
    simp only [Rep] at hv
    obtain ⟨y', b, o', e1, e2, e3⟩ := hv
    obtain ⟨fs, fl, h1, h2, rfl, y, h3, h4⟩ := tyI_field hi hk hp hs
    refine ⟨.pointer (some ⟨b, o' + (k * s + j) + fl.offset, none⟩), ?_, ?_⟩
    · unfold execOp
      rw [ho]
      refine run_v ?_
      have h5 : ¬ y.size = 0 := by omega
      simp only [Instr.fieldAt, Sem.run_bind, run_underlying h1 w, Result.andThen_ok, h2, e3, Instr.sureAddr, Sem.run_pure, fieldPlace, sizeOf, typeInfo, run_program, h3, if_neg h5, add_none]
    · simp only [Rep]
      exact ⟨_, b, o', e1, e2, by simp only [Nat.add_assoc]⟩
/-- the type of a field. -/
def fieldT (P : Program) (t : TypeId) (f : Nat) : Option TypeId := match P.underlying t with | some (.struct fs) => (fs[f]?).map (·.type) | _ => none
theorem does_shr {P : Program} {o : Oper} {S : AS} {n : Nat} {x y : Operand} {t u : TypeId} {a b : Int} {kb : IntKind} (ho : o.op = .binOp .shr t x y u) (hx : S.val x = .raw (.int .u64 a)) (hy : S.val y = .raw (.int kb b)) (hb : 0 ≤ b) : DoesAt P o S n ⟨.raw (.int .u64 (a.fdiv (2 ^ min b.toNat 64))), [], []⟩ :=
  does_pure rfl fun c p ρ aa w hm => ⟨_, by
    unfold execOp; rw [ho]
    refine run_v (v := .int .u64 (a.fdiv (2 ^ min b.toNat 64))) ?_
    have h1 : ¬ b < 0 := by omega
    simp [hm.raw hx, hm.raw hy, eqGuard, binOp, Op.shift, if_neg h1, IntKind.bits], by simp [Rep]⟩
theorem does_convert {P : Program} {o : Oper} {S : AS} {n : Nat} {x : Operand} {t u : TypeId} {i : TI} {k k' : IntKind} {a : Int} (ho : o.op = .convert t u x) (hi : tyI P t = some i) (hu : P.underlying u = some (.int k)) (hx : S.val x = .raw (.int k' a)) : DoesAt P o S n ⟨.raw (.int k (k.wrap a)), [], []⟩ :=
  does_pure rfl fun c p ρ aa w hm => ⟨_, by
    obtain ⟨xx, d, z, i1, i2, -⟩ := tyI_spec hi
    unfold execOp; rw [ho]
    refine run_v (v := .int k (k.wrap a)) ?_
    simp only [convert, Sem.run_bind, run_underlying i2 w, run_underlying hu w, Result.andThen_ok, hm.raw hx]
    cases d <;> simp [Conv.intToInt], by simp [Rep]⟩
theorem does_field {P : Program} {o : Oper} {S : AS} {n : Nat} {x : Operand} {t : TypeId} {f off s' : Nat} {i fi : TI} {l : List AV} {tf : TypeId} (ho : o.op = .field t x f) (hi : tyI P t = some i) (hk : i.kind = 3) (hp : i.places[f]? = some (off, s')) (hs : 0 < s')
    (hft : fieldT P t f = some tf) (hfi : tyI P tf = some fi) (h1 : fi.agg = true ∨ fi.size = 1) (hl : off + fi.size ≤ l.length) (hx : S.val x = .agg l) : DoesAt P o S n ⟨ofCells fi.agg ((l.drop off).take fi.size), [], []⟩ :=
  does_pure rfl fun c p ρ a w hm => by
    have h := hm.val x
    rw [hx] at h
    simp only [Rep] at h
    obtain ⟨cs, e, hr⟩ := h
    obtain ⟨fs, fl, e1, e2, rfl, y, e3, e4⟩ := tyI_field hi hk hp hs
    obtain rfl : tf = fl.type := by simpa [fieldT, e1, e2] using hft.symm
    obtain ⟨xi, d, z, i1, i2, i3, i4, i5, i6, i7⟩ := tyI_spec hfi
    have hlen := hr.length
    refine ⟨if fi.agg then .agg ((cs.drop fl.offset).take fi.size).toArray else ((cs.drop fl.offset).take fi.size).getD 0 undef, ?_, rep_ofCells ((hr.drop fl.offset).take fi.size) fi.agg⟩
    unfold execOp
    rw [ho]
    refine run_v ?_
    simp only [Instr.field, Sem.run_bind, run_underlying e1 w, Result.andThen_ok, e2, e, asAgg, Sem.run_pure, part, isAgg, run_underlying i2 w]
    have hil : isAggD d = fi.agg := i6
    cases hag : fi.agg with
    | true =>
      rw [hag] at hil
      cases d <;> simp only [isAggD, reduceCtorEq] at hil <;> simp [sizeOf, typeInfo, i1, i4, List.extract_eq_take_drop]
    | false =>
      have hz : fi.size = 1 := by rcases h1 with h1 | h1 <;> simp_all
      have hc : (cs.toArray)[fl.offset]? = some (((cs.drop fl.offset).take fi.size).getD 0 undef) := by
        rw [hz] at hl ⊢
        have h3 : fl.offset < cs.length := by omega
        simp [List.getElem?_eq_getElem h3]
      rw [hag] at hil
      cases d <;> simp only [isAggD, reduceCtorEq] at hil <;> simp [hc]
/-- a row's header, with something in it. -/
theorem ObjAt.head {ρ : Env} {w : World} {x : Value} {o : AO} {s : Nat} {rows : List (List Value)} (h : ObjAt ρ w x o) (hr : o.rows = some (s, rows)) : ∃ A c, x = .slice A rows.length c ∧ (0 < rows.length → ∃ b off, A = some ⟨b, off, none⟩) := by
  cases o with
  | cells => simp [AO.rows] at hr
  | ext s' r' =>
    simp only [AO.rows, Option.some.injEq, Prod.mk.injEq] at hr
    obtain ⟨rfl, rfl⟩ := hr
    obtain ⟨A, c, rfl, h1, -⟩ := h
    exact ⟨A, c, rfl, fun h0 => by obtain ⟨b, off, e, -⟩ := h1 0 h0; exact ⟨b, off, e⟩⟩
  | row e s' r' =>
    simp only [AO.rows, Option.some.injEq, Prod.mk.injEq] at hr
    obtain ⟨rfl, rfl⟩ := hr
    obtain ⟨⟨_, ⟨rfl, h0⟩ | ⟨g, cap, cur, rfl, _⟩⟩, _⟩ := h
    · exact ⟨none, 0, by rw [h0], fun h => by omega⟩
    · exact ⟨_, cap, rfl, fun _ => ⟨g, 0, rfl⟩⟩
theorem does_indexAddr {P : Program} {o : Oper} {S : AS} {n : Nat} {t : TypeId} {x y : Operand} {i ie : TI} {id : Nat} {ob : AO} {s : Nat} {rows : List (List Value)} {kd : IntKind} {q : Int} (ho : o.op = .indexAddr t x y) (hi : tyI P t = some i) (hk : i.kind = 1) (hie : tyI P i.elem = some ie) (hes : ie.size = s)
    (hx : S.val x = .hdr id) (hob : S.obj id = some ob) (hor : ob.rows = some (s, rows)) (hy : S.val y = .raw (.int kd q)) (h0 : 0 ≤ q) (h1 : q < rows.length) : DoesAt P o S n ⟨.ptr id s q.toNat 0, [], [id]⟩ :=
  does_pure rfl fun c p ρ a w hm => by
    obtain ⟨y', hy', hoy⟩ := hm.objs id _ hob
    obtain ⟨A, cp, rfl, hA⟩ := hoy.head hor
    obtain ⟨b, off, rfl⟩ := hA (by omega)
    have hv := hm.val x
    rw [hx] at hv
    simp only [Rep] at hv
    rw [hy'] at hv
    injection hv with hv
    obtain ⟨xi, d, z, i1, i2, i3, i4, i5, i6, i7⟩ := tyI_spec hie
    have hte := tyI_slice hi hk
    refine ⟨.pointer (some ⟨b, off + (q.toNat * s + 0), none⟩), ?_, ?_⟩
    · unfold execOp
      rw [ho]
      refine run_v ?_
      have hq : 0 ≤ q ∧ q < ((rows.length : Nat) : Int) := ⟨h0, h1⟩
      simp only [← hv, hm.raw hy, Instr.indexAt, asIntOf, Sem.run_bind, Sem.run_pure, Result.andThen_ok, run_underlying hte, sizeOf, typeInfo, run_program, i1, i4, hes, if_pos hq, Nat.add_zero, add_none]
    · simp only [Rep]
      exact ⟨_, b, off, hy', .inr ⟨_, _, rfl⟩, rfl⟩
theorem does_eqb {P : Program} {o : Oper} {S : AS} {n : Nat} {x y : Operand} {t u : TypeId} {k l : Bool} (ho : o.op = .binOp .eql t x y u) (ht : P.underlying t = some .bool) (hx : S.val x = .raw (.bool k)) (hy : S.val y = .raw (.bool l)) : DoesAt P o S n ⟨.raw (.bool (k == l)), [], []⟩ :=
  does_pure rfl fun c p ρ a w hm => ⟨.bool (k == l), by
    unfold execOp; rw [ho]
    refine run_v ?_
    simp [hm.raw hx, hm.raw hy, eqGuard, binOp, Op.equal, Op.maxDepth, run_equalIn_bool' w 9999 t k l ht], by simp [Rep]⟩
theorem does_neb {P : Program} {o : Oper} {S : AS} {n : Nat} {x y : Operand} {t u : TypeId} {k l : Bool} (ho : o.op = .binOp .neq t x y u) (ht : P.underlying t = some .bool) (hx : S.val x = .raw (.bool k)) (hy : S.val y = .raw (.bool l)) : DoesAt P o S n ⟨.raw (.bool (k != l)), [], []⟩ :=
  does_pure rfl fun c p ρ a w hm => ⟨.bool (k != l), by
    unfold execOp; rw [ho]
    refine run_v ?_
    simp [hm.raw hx, hm.raw hy, eqGuard, binOp, Op.equal, Op.maxDepth, run_equalIn_bool' w 9999 t k l ht, bne], by simp [Rep]⟩
theorem does_nilCheck {P : Program} {o : Oper} {S : AS} {n : Nat} {x : Operand} {id s k j : Nat} {t : TypeId} {l : List AV} (ho : o.op = .nilCheck x) (hx : (S.val x).loc = some (id, s, k, j)) (hob : S.obj id = some (.cells t l)) : DoesAt P o S n ⟨S.val x, [], [id]⟩ :=
  does_pure rfl fun c p ρ a w hm => by
    obtain ⟨g, cs, hg, hpt, -, -, -⟩ := hm.at_cells hx hob
    have hv := hm.val x
    refine ⟨a.eval x, ?_, hv⟩
    unfold execOp
    rw [ho]
    simp [hpt]
theorem does_nilCheck_fn {P : Program} {o : Oper} {S : AS} {n : Nat} {x : Operand} {f : FuncId} {l : List AV} (ho : o.op = .nilCheck x) (hx : S.val x = .clo (.func f) l) : DoesAt P o S n ⟨S.val x, [], []⟩ :=
  does_pure rfl fun c p ρ a w hm => by
    have hv := hm.val x
    refine ⟨a.eval x, ?_, hv⟩
    rw [hx] at hv
    simp only [Rep] at hv
    obtain ⟨cs, e, -⟩ := hv
    unfold execOp
    rw [ho]
    simp [e]
end Go.Proofs.Ytmgckellncfjpaa
