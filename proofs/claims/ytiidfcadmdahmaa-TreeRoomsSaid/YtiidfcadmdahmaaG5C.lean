/- ENGINE (second) 5C: slices beside nil; rows made, copied; arrays; over any program. -/
import Derived.Test.YtiidfcadmdahmaaG5B
import Derived.Lib.SliceRun
set_option linter.unusedSimpArgs false
set_option linter.unusedVariables false
namespace Go.Proofs.Ytiidfcadmdahmaa
open Go.RowKit

theorem run_nileq {P : Program} (w : World) (t : TypeId) (y : Operand) (x : Operand) (u : TypeId) (A : Option Addr) (n c : Nat) {e : TypeId} (ht : P.underlying t = some (.slice e)) (op : BinOp) (hop : op = .eql ∨ op = .neq) :
    (do eqGuard op t x y (.slice A n c) (.slice none 0 0); binOp op t (.slice A n c) (.slice none 0 0) : Sem Value).run P w = .ok (.bool (if op = .eql then A.isNone else !A.isNone)) w := by
  have h : (Op.equalIn 10000 t (.slice A n c) (.slice none 0 0)).run P w = .ok A.isNone w := Lib.run_equalIn_slice_nil w 9999 t e A n c 0 0 ht
  have hg : (eqGuard op t x y (.slice A n c) (.slice none 0 0)).run P w = .ok () w := by
    rcases hop with rfl | rfl <;> simp [eqGuard, Op.eqGuardIn, Op.maxDepth, run_underlying ht]
  rw [Sem.run_bind, hg]
  simp only [Result.andThen_ok]
  rcases hop with rfl | rfl
  · simp [binOp, Op.equal, Op.maxDepth, h]
  · simp [binOp, Op.equal, Op.maxDepth, h]
/-- a slice is compared with nil. -/
theorem does_nileq {P : Program} {o : Oper} {S : AS} {x y : Operand} {t u e : TypeId} {op : BinOp} {a : AV} {s : Nat} {rows : List (List PV)} (ho : o.op = .binOp op t x y u) (hop : op = .eql ∨ op = .neq) (ht : P.underlying t = some (.slice e)) (hx : S.val x = a) (hor : S.rowsOf a = some (s, rows)) (hy : S.val y = .raw (.slice none 0 0))
    (rd : Option Nat) (m0 : Nat) (c : Ctx) (p : Nat → Prop) (ρ : Env) (ac : Act) (w : World) (hm : Mod c p ρ S ac.tmps w) (K : Act → World → Prop) (Q : Exit → Act → World → Prop)
    (hK : ∀ b : Bool, (b = true → rows.length = 0) → K (ac.put o.dst (.bool (if op = .eql then b else !b))) w) : o.wpIn (FW rd) m0 P ac w K Q := by
  obtain ⟨A, cp, hv, -, hA⟩ := hm.slice hor (u := ac.eval x) (by rw [← hx]; exact hm.val x)
  have hr : (execOp ac.eval o).run P w = .ok (.value (.bool (if op = .eql then A.isNone else !A.isNone))) w := by
    unfold execOp
    rw [ho]
    refine run_v ?_
    have := run_nileq (P := P) w t y x u A rows.length cp ht op hop
    simp only [hv, hm.raw hy]
    exact this
  refine wpIn_value hr (hK _ fun hb => ?_)
  rcases Nat.eq_zero_or_pos rows.length with h | h
  · exact h
  · obtain ⟨b, off, vs, rfl, -⟩ := hA 0 rows[0] (by simp)
    cases hb

/-- a row of zeros is made. -/
theorem does_makeSlice {P : Program} {o : Oper} {S : AS} {n : Nat} {t : TypeId} {x y : Operand} {i ie : TI} {q : Int} (ho : o.op = .makeSlice t x y) (hi : tyI P t = some i) (hk : i.kind = 1) (hie : tyI P i.elem = some ie) (h0 : 0 < ie.size) (hz : ie.zero.length = ie.size) (hz1 : ∀ u ∈ ie.zero, u.oneCell' = true)
    (hx : S.val x = .raw (.int .i64 q)) (hy : S.val y = .raw (.int .i64 q)) (hq0 : 0 ≤ q) (hb1 : q * ie.size ≤ 16777216) (hb2 : ie.bytes * q ≤ 281474976710656) :
    DoesAt P o S n ⟨.hdr (8 * n), [(8 * n, some (.row i.elem ie.size (List.replicate q.toNat (ie.zero.map .raw))))], []⟩ := by
  intro rd m0 c p ρ a w hm hn K Q hK
  obtain ⟨xi, d, z, i1, i2, i3, i4, i5, i6, i7⟩ := tyI_spec hie
  have hte := tyI_slice hi hk
  obtain ⟨k, rfl⟩ := Int.eq_ofNat_of_zero_le hq0
  have hkz : k * ie.size ≤ 16777216 := by rw [← Int.natCast_mul] at hb1; omega
  have hkb : xi.bytes * k ≤ 281474976710656 := by rw [i5]; rw [← Int.natCast_mul] at hb2; omega
  have hk0 : k ≤ k * ie.size := Nat.le_mul_of_pos_right k h0
  obtain ⟨w', hrun, hown, hgrow⟩ := run_makeSlice_full (P := P) (w := w) 0 t i.elem xi z ie.size hte i1 i3 i4 .i64 .i64 k hkz hkb (by unfold maxLen; omega) (Nat.zero_le _)
  have hzc : z.cells = ie.zero.toArray := by rw [← i7]
  have hfl : (madeCells z.cells (k * ie.size)).toList = (List.replicate k ie.zero).flatten := by
    rw [← zeroCells_flat ie.zero k (by omega), hzc, ← hz]
    simp [madeCells, Builtin.zeroCells]
  rw [hfl] at hown
  have hrs : ∀ r ∈ List.replicate k ie.zero, r.length = ie.size := fun r hr => by rw [List.eq_of_mem_replicate hr, hz]
  have hOwn : OwnAt w' i.elem ie.size (.slice (some ⟨w.heap.size, 0, none⟩) k k) (List.replicate k ie.zero) := ownAt_of (by rw [List.length_replicate]; exact hown)
  have hfr := hm.fresh hn (k := 8 * n) (by omega)
  have hn0 := hm.n0 hn
  have hext := ext_with (x := Value.slice (some ⟨w.heap.size, 0, none⟩) k k) hfr
  have hm' := hm.step0 [(8 * n, some (.row i.elem ie.size (List.replicate k (ie.zero.map .raw))))] hext.f rfl (fun i hi => with_low hi (by omega)) (p' := fun i => p i ∨ i / 8 = n) (fun i h => .inl h) (w' := w') (with_dom hm (by omega) rfl) hgrow.os hgrow.tape hgrow.output hgrow.size (fun g hg hT' => hgrow.block g hg (by simp))
      (fun i' oi hf => by
        simp only [find] at hf
        split at hf
        · next e2 =>
          subst e2
          injection hf with hf
          injection hf with hf
          subst hf
          refine ⟨_, with_self .., ⟨List.replicate k ie.zero, preps_raws _ _, hrs, fun r hr => ?_, hOwn⟩, fun g hg => .inl ?_⟩
          · rw [List.eq_of_mem_replicate hr]; exact hz1
          · have := oblk_row_lt (w := w) hg
            simp [blkOf] at this
            omega
        · cases hf)
      (fun i' j oi oj x' y' hne' h1 h2 => by
        simp only [find] at h1 h2
        split at h1
        · split at h2
          · omega
          · cases h2
        · cases h1)
  have hr : (execOp a.eval o).run P w = .ok (.value (.slice (some ⟨w.heap.size, 0, none⟩) k k)) w' := by
    unfold execOp
    rw [ho]
    refine run_v ?_
    simp only [hm.raw hx, hm.raw hy]
    exact hrun
  refine wpIn_value hr ?_
  exact hK _ _ _ hm' (by simp only [Rep]; exact with_self ..)
/-- elements are copied into an own row. -/
theorem does_copy {P : Program} {o : Oper} {S : AS} {n : Nat} {x y : Operand} {t u e : TypeId} {i ie : TI} {id s : Nat} {a2 : AV} {rows rows2 : List (List PV)} (ho : o.op = .call { callee := .builtin .copy, args := #[x, y], argTypes := #[t, u] }) (hi : tyI P t = some i) (hk : i.kind = 1) (hie : tyI P i.elem = some ie) (hs : ie.size = s) (h0 : 0 < s)
    (hx : S.val x = .hdr id) (hob : S.obj id = some (.row e s rows)) (hy : S.val y = a2) (hor : S.rowsOf a2 = some (s, rows2)) (hle : rows2.length = rows.length) :
    DoesAt P o S n ⟨.raw (.int .i64 rows.length), [(id, some (.row e s rows2))], id :: a2.ids⟩ := by
  intro rd m0 c p ρ a w hm hn K Q hK
  obtain ⟨xi, d, z, i1, i2, i3, i4, i5, i6, i7⟩ := tyI_spec hie
  have hte := tyI_slice hi hk
  obtain ⟨A, cp, e2, -, hel⟩ := hm.slice hor (u := a.eval y) (by rw [← hy]; exact hm.val y)
  obtain ⟨news, k1, k2, k3, k4, k5⟩ := Reads.of_slice h0 hel
  have hrunc : ∀ v w', (Builtin.copy_ #[t, u] o.type #[v, .slice A rows2.length cp]).run P w = .ok (goInt rows.length) w' → a.eval x = v → (execOp a.eval o).run P w = .ok (.value (.int .i64 rows.length)) w' := fun v w' hr ev => by
    unfold execOp
    rw [ho]
    simp only [resolve, Sem.run_bind, Sem.run_pure, Result.andThen_ok, invoke, builtin, List.map_toArray, List.map_cons, List.map_nil, ev, e2, hr]
    rfl
  rcases Nat.eq_zero_or_pos rows.length with hz | hpos
  · obtain rfl : rows = [] := List.eq_nil_of_length_eq_zero hz
    obtain rfl : rows2 = [] := List.eq_nil_of_length_eq_zero hle
    obtain ⟨v1, hv1, vals, hp, hr1, hone, hown⟩ := hm.objs id _ hob
    obtain ⟨B, cap, rfl, hcl⟩ := head_of_own hown
    have hlp := hp.length
    have ev : a.eval x = .slice B 0 cap := by
      have := hm.val x
      rw [hx] at this
      simp only [Rep] at this
      rw [hv1, hlp] at this
      exact (Option.some.inj this).symm
    refine wpIn_value (hrunc _ w ?_ ev) (hK _ ρ _ ((hm.same0 fun j => ?_).mono fun i h => .inl h) (by simp [Rep]))
    · have hmin : Nat.min 0 0 = 0 := rfl
      cases A <;> cases B <;> simp [Builtin.copy_, run_underlying hte, Builtin.lenOf, Builtin.firstCells, sizeOf, typeInfo, i1, loadCells, loadCellsFrom, storeCells, hmin]
    · by_cases hj : j = id
      · subst hj; rw [hob]; simp [AS.obj, AS.upd, find]
      · simp [AS.obj, AS.upd, find, Ne.symm hj]
  · have hnf : news.flatten.length = rows2.length * s := by rw [flatten_len k2, k4]
    obtain ⟨g, cap, cur, hg, hcl, hh, hfit, hm'⟩ := hm.turnRow (rows' := rows2) hob (us := news.flatten) (q := 0) (fun u hu => by
        obtain ⟨r, hr, hu'⟩ := List.mem_flatten.1 hu
        exact k3 r hr u hu') hpos fun vals hp hs' h1 => by
      have hlp := hp.length
      refine ⟨by rw [hnf, hlp, hle]; omega, news, k1, by omega, k2, k3, ?_⟩
      unfold splice
      rw [List.take_zero, List.nil_append, List.drop_eq_nil_of_le, List.append_nil]
      rw [flatten_len hs', Nat.zero_add, hnf]
      rw [hlp, hle]
      exact Nat.le_refl _
    have ev : a.eval x = .slice (some ⟨g, 0, none⟩) rows.length cap := by
      have := hm.val x
      rw [hx] at this
      simp only [Rep] at this
      rw [hg] at this
      exact (Option.some.inj this).symm
    have hst := run_storeCells_at (P := P) g 0 e news.flatten 0 cur w hh (by simpa using hfit) (fun u hu => by
        obtain ⟨r, hr, hu'⟩ := List.mem_flatten.1 hu
        exact k3 r hr u hu')
    simp only [Nat.add_zero] at hst
    obtain ⟨ad, rfl, -, hcell⟩ := k5.2 (by omega)
    have hl := run_loadCells_list (P := P) w ad news.flatten hcell
    have hmin : Nat.min rows2.length rows.length = rows.length := by rw [hle]; exact Nat.min_self _
    refine wpIn_value (hrunc _ _ ?_ ev) (hK _ ρ _ (hm'.mono fun i h => .inl h) (by simp [Rep]))
    have hsz : xi.size = s := by rw [i4, hs]
    rw [hnf, hle] at hl
    have hmain : (Builtin.copy_ #[t, u] o.type #[.slice (some ⟨g, 0, none⟩) rows.length cap, .slice (some ad) rows2.length cp]).run P w = .ok (goInt rows.length) (w.setRow g (cur.toList.take 0 ++ news.flatten ++ cur.toList.drop (0 + news.flatten.length)).toArray) := by
      simp [Builtin.copy_, run_underlying hte, Builtin.lenOf, Builtin.firstCells, sizeOf, typeInfo, i1, hmin, hsz, hl, hst, -List.length_flatten]
    exact hmain

/-- an array: how many elements, of which size. -/
def arrOf (P : Program) (t : TypeId) : Option (Nat × Nat) := match P.underlying t with
  | some (.array n e) => (P.info? e).map fun i => (n, i.size)
  | _ => none
theorem arrOf_spec {P : Program} {t : TypeId} {n s : Nat} (h : arrOf P t = some (n, s)) : ∃ e xi, P.underlying t = some (.array n e) ∧ P.info? e = some xi ∧ xi.size = s := by
  unfold arrOf at h
  split at h
  · next n' e hu =>
    cases hi : P.info? e with
    | none => rw [hi] at h; simp at h
    | some xi => rw [hi] at h; simp at h; exact ⟨e, xi, by rw [hu, h.1], hi, h.2⟩
  · cases h
/-- an array's element. -/
theorem does_indexArr {P : Program} {o : Oper} {S : AS} {n : Nat} {t : TypeId} {x y : Operand} {m es : Nat} {id s k j : Nat} {t' : TypeId} {l : List AV} {kd : IntKind} {q : Int} (ho : o.op = .indexAddr t x y) (ha : arrOf P t = some (m, es)) (hx : (S.val x).loc = some (id, s, k, j)) (hob : S.obj id = some (.cells t' l))
    (hy : S.val y = .raw (.int kd q)) (h0 : 0 ≤ q) (h1 : q < m) : DoesAt P o S n ⟨.ptr id s k (j + q.toNat * es), [], [id]⟩ :=
  does_pure rfl fun c p ρ a w hm => by
    obtain ⟨g, cs, hg, hpt, -, -, -⟩ := hm.at_cells hx hob
    obtain ⟨e, xi, h2, h3, h4⟩ := arrOf_spec ha
    refine ⟨.pointer (some ⟨g, k * s + j + q.toNat * es, none⟩), ?_, ?_⟩
    · unfold execOp
      rw [ho]
      refine run_v ?_
      have hq : 0 ≤ q ∧ q < ((m : Nat) : Int) := ⟨h0, h1⟩
      simp only [hpt, hm.raw hy, Instr.indexAt, asIntOf, Sem.run_bind, Sem.run_pure, Result.andThen_ok, run_underlying h2, Instr.sureAddr, sizeOf, typeInfo, run_program, h3, h4, if_pos hq, add_none]
    · simp only [Rep]
      exact ⟨_, g, 0, hg, .inl rfl, by rw [Nat.zero_add, Nat.add_assoc]⟩
end Go.Proofs.Ytiidfcadmdahmaa
