/- ENGINE (second) 5B: parts of rows; stores into rows; rows made, copied, cleared; arrays; over any program. -/
import Derived.Test.YtiidfcadmdahmaaG5
set_option linter.unusedSimpArgs false
set_option linter.unusedVariables false
namespace Go.Proofs.Ytiidfcadmdahmaa
open Go.RowKit

theorem run_bound {P : Program} {w : World} {k : IntKind} {q : Int} {y : Nat} {c : BoundsCode} (h0 : 0 ≤ q) (h1 : q ≤ y) : (Instr.sliceBound (.int k q) y c).run P w = .ok q.toNat w := by
  simp [Instr.sliceBound, asIntOf, h0, h1]
def optInt (S : AS) : Option Operand → Option (Option Int)
  | none => some none
  | some x => match S.val x with
    | .raw (.int _ q) => some (some q)
    | _ => none
/-- a part of a slice is taken. -/
theorem run_slice_op {P : Program} {o : Oper} {a : Act} {w : World} {c : Ctx} {p : Nat → Prop} {ρ : Env} {S : AS} (hm : Mod c p ρ S a.tmps w) {t : TypeId} {x : Operand} {lo hi mx : Option Operand} {i ie : TI} {s : Nat} {A : Option Addr} {N cap : Nat} {ql qh qm : Option Int} {l h m : Nat}
    (ho : o.op = .slice t x lo hi mx) (hi' : tyI P t = some i) (hk : i.kind = 1) (hie : tyI P i.elem = some ie) (hes : ie.size = s) (ex : a.eval x = .slice A N cap) (hcl : N ≤ cap)
    (h1 : optInt S lo = some ql) (h2 : optInt S hi = some qh) (h3 : optInt S mx = some qm) (hmx : qm.isSome = true → qh.isSome = true)
    (hl : (ql.getD 0) = l) (hh : (qh.getD N) = h) (hlh : l ≤ h) (hhn : h ≤ N) (hm3 : (qm.getD cap) = m) (hm4 : h ≤ m) (hm5 : m ≤ cap) :
    (execOp a.eval o).run P w = .ok (.value (.slice (if m = l then A else A.map (·.add (l * s))) (h - l) (m - l))) w := by
  have eo : ∀ (y : Option Operand) (q : Option Int), optInt S y = some q → (q = none ∧ y = none) ∨ ∃ z k r, q = some r ∧ y = some z ∧ a.eval z = .int k r := fun y q hy => by
    cases y with
    | none => simp only [optInt, Option.some.injEq] at hy; exact .inl ⟨hy.symm, rfl⟩
    | some z =>
      simp only [optInt] at hy
      split at hy
      · next k r hz => injection hy with hy; exact .inr ⟨z, k, r, hy.symm, rfl, hm.raw hz⟩
      · cases hy
  obtain ⟨xi, d, z, i1, i2, i3, i4, i5, i6, i7⟩ := tyI_spec hie
  have hte := tyI_slice hi' hk
  have hrun : (Instr.sliceBounds true N cap (lo.map a.eval) (hi.map a.eval) (mx.map a.eval)).run P w = .ok (l, h, m) w := by
    rcases eo mx qm h3 with ⟨rfl, rfl⟩ | ⟨zm, km, rm, rfl, rfl, em⟩
    · simp only [Option.getD_none] at hm3
      obtain rfl : cap = m := by omega
      rcases eo hi qh h2 with ⟨rfl, rfl⟩ | ⟨zh, kh, rh, rfl, rfl, eh⟩ <;> rcases eo lo ql h1 with ⟨rfl, rfl⟩ | ⟨zl, kl, rl, rfl, rfl, el⟩ <;> simp only [Option.getD_none, Option.getD_some] at hl hh
      · obtain rfl : h = N := by omega
        obtain rfl : l = 0 := by omega
        simp [Instr.sliceBounds]
      · obtain rfl : h = N := by omega
        simp only [Instr.sliceBounds, Option.map_none, Option.map_some, el, Sem.run_bind, Sem.run_pure, Result.andThen_ok, run_bound (show 0 ≤ rl by omega) (show rl ≤ (h : Int) by omega)]
        rw [show rl.toNat = l by omega]
      · obtain rfl : l = 0 := by omega
        simp only [Instr.sliceBounds, Option.map_none, Option.map_some, eh, Sem.run_bind, Sem.run_pure, Result.andThen_ok, run_bound (show 0 ≤ rh by omega) (show rh ≤ (cap : Int) by omega)]
        rw [show rh.toNat = h by omega]
      · simp only [Instr.sliceBounds, Option.map_none, Option.map_some, el, eh, Sem.run_bind, Sem.run_pure, Result.andThen_ok, run_bound (show 0 ≤ rh by omega) (show rh ≤ (cap : Int) by omega)]
        rw [show rh.toNat = h by omega, run_bound (show 0 ≤ rl by omega) (show rl ≤ (h : Int) by omega)]
        simp only [Result.andThen_ok, Sem.run_pure]
        rw [show rl.toNat = l by omega]
    · simp only [Option.getD_some] at hm3
      rcases eo hi qh h2 with ⟨rfl, rfl⟩ | ⟨zh, kh, rh, rfl, rfl, eh⟩
      · simp at hmx
      · obtain rfl : rm.toNat = m := by omega
        rcases eo lo ql h1 with ⟨rfl, rfl⟩ | ⟨zl, kl, rl, rfl, rfl, el⟩ <;> simp only [Option.getD_none, Option.getD_some] at hl hh
        · obtain rfl : l = 0 := by omega
          simp only [Instr.sliceBounds, Option.map_none, Option.map_some, eh, em, Sem.run_bind, Sem.run_pure, Result.andThen_ok, run_bound (show 0 ≤ rm by omega) (show rm ≤ (cap : Int) by omega), run_bound (show 0 ≤ rh by omega) (show rh ≤ ((rm.toNat : Nat) : Int) by omega)]
          rw [show rh.toNat = h by omega]
        · simp only [Instr.sliceBounds, Option.map_none, Option.map_some, el, eh, em, Sem.run_bind, Sem.run_pure, Result.andThen_ok, run_bound (show 0 ≤ rm by omega) (show rm ≤ (cap : Int) by omega), run_bound (show 0 ≤ rh by omega) (show rh ≤ ((rm.toNat : Nat) : Int) by omega)]
          rw [show rh.toNat = h by omega, run_bound (show 0 ≤ rl by omega) (show rl ≤ (h : Int) by omega)]
          simp only [Result.andThen_ok, Sem.run_pure]
          rw [show rl.toNat = l by omega]
  unfold execOp
  rw [ho]
  refine run_v ?_
  simp only [Instr.sliceAt, Instr.slice, Sem.run_bind, run_underlying hte w, Result.andThen_ok, ex, hrun, sizeOf, typeInfo, run_program, i1, i4, hes, Sem.run_pure]

/-- a part of a slice that never turns. -/
theorem does_sub_sl {P : Program} {o : Oper} {S : AS} {n : Nat} {t : TypeId} {x : Operand} {lo hi mx : Option Operand} {i ie : TI} {s : Nat} {rows : List (List PV)} {ql qh qm : Option Int} {l h : Nat}
    (ho : o.op = .slice t x lo hi mx) (hi' : tyI P t = some i) (hk : i.kind = 1) (hie : tyI P i.elem = some ie) (hes : ie.size = s) {rd0 : List Nat} (hx : S.see (S.val x) = .sl s rows)
    (h1 : optInt S lo = some ql) (h2 : optInt S hi = some qh) (h3 : optInt S mx = some qm) (hmx : qm.isSome = true → qh.isSome = true)
    (hl : (ql.getD 0) = l) (hh : (qh.getD rows.length) = h) (hlh : l ≤ h) (hhn : h ≤ rows.length) (hm3 : ∀ q, qm = some q → (h : Int) ≤ q ∧ q ≤ rows.length) :
    DoesAt P o S n ⟨.sl s ((rows.drop l).take (h - l)), [], rd0⟩ :=
  does_pure rfl fun c p ρ a w hm => by
    have hu := hm.see _ _ (hm.val x)
    rw [hx] at hu
    simp only [Rep, PRep] at hu
    obtain ⟨A, cap, ex, hcl, hrows⟩ := hu
    obtain ⟨m, e1, e2, e3⟩ : ∃ m : Nat, (qm.getD cap) = m ∧ h ≤ m ∧ m ≤ cap := by
      cases qm with
      | none => exact ⟨cap, rfl, by omega, Nat.le_refl _⟩
      | some q => have := hm3 q rfl; exact ⟨q.toNat, by simp; omega, by omega, by omega⟩
    refine ⟨_, run_slice_op hm ho hi' hk hie hes ex hcl h1 h2 h3 hmx hl hh hlh hhn e1 e2 e3, ?_⟩
    have hlen : ((rows.drop l).take (h - l)).length = h - l := by simp; omega
    simp only [Rep, PRep]
    refine ⟨_, m - l, by rw [hlen], by rw [hlen]; omega, PRows.mk_ fun k r hk => ?_⟩
    have hkl : k < h - l := by rw [← hlen]; exact (List.getElem?_eq_some_iff.1 hk).1
    have hk2 : rows[l + k]? = some r := by
      rw [List.getElem?_take_of_lt hkl, List.getElem?_drop] at hk
      exact hk
    obtain ⟨k1, b, off, rfl, k2⟩ := hrows.get hk2
    refine ⟨k1, b, off + l * s, by rw [if_neg (by omega)]; simp [add_none], ?_⟩
    rw [Nat.zero_add, Nat.add_assoc, ← Nat.add_mul]
    simpa using k2
/-- the empty part that no room is behind. -/
theorem does_sub_none {P : Program} {o : Oper} {S : AS} {n : Nat} {t : TypeId} {x : Operand} {lo hi mx : Option Operand} {i ie : TI} {s : Nat} {a : AV} {rows : List (List PV)} {ql : Option Int}
    (ho : o.op = .slice t x lo hi mx) (hi' : tyI P t = some i) (hk : i.kind = 1) (hie : tyI P i.elem = some ie) (hes : ie.size = s) (hx : S.val x = a) (hor : S.rowsOf a = some (s, rows))
    (h1 : optInt S lo = some ql) (h2 : optInt S hi = some (some 0)) (h3 : optInt S mx = some (some 0)) (hl : (ql.getD 0) = 0) :
    DoesAt P o S n ⟨.hdr (8 * n), [(8 * n, some (.row i.elem s []))], a.ids⟩ := by
  intro rd m0 c p ρ ac w hm hn K Q hK
  obtain ⟨A, cap, ex, hcl, -⟩ := hm.slice hor (u := ac.eval x) (by rw [← hx]; exact hm.val x)
  have hr := run_slice_op hm ho hi' hk hie hes ex hcl h1 h2 h3 (fun _ => rfl) (l := 0) (h := 0) (m := 0) (by simpa using hl) rfl (Nat.le_refl _) (Nat.zero_le _) rfl (Nat.le_refl _) (Nat.zero_le _)
  simp only [if_true, Nat.sub_self] at hr
  obtain ⟨ρ', he, hx', hm'⟩ := hm.nilrow hn i.elem s A
  refine wpIn_value hr ?_
  exact hK _ ρ' _ hm' (by simp only [Rep]; exact hx')
/-- the first ones of an own row: that row, cut. -/
theorem does_trunc {P : Program} {o : Oper} {S : AS} {n : Nat} {t e : TypeId} {x : Operand} {hi : Option Operand} {i ie : TI} {s id : Nat} {rows : List (List PV)} {qh : Option Int} {h : Nat}
    (ho : o.op = .slice t x none hi none) (hi' : tyI P t = some i) (hk : i.kind = 1) (hie : tyI P i.elem = some ie) (hes : ie.size = s) (hx : S.val x = .hdr id) (hob : S.obj id = some (.row e s rows))
    (h2 : optInt S hi = some qh) (hh : (qh.getD rows.length) = h) (hhn : h ≤ rows.length) :
    DoesAt P o S n ⟨.hdr (8 * n), [(id, none), (8 * n, some (.row e s (rows.take h)))], [id]⟩ := by
  intro rd m0 c p ρ a w hm hn K Q hK
  obtain ⟨v1, hv1, vals, hp, hr1, hone, hown⟩ := hm.objs id _ hob
  have hlp := hp.length
  obtain ⟨A, cap, rfl, hcl⟩ := head_of_own hown
  have ex : a.eval x = .slice A rows.length cap := by
    have := hm.val x
    rw [hx] at this
    simp only [Rep] at this
    rw [hv1, hlp] at this
    exact (Option.some.inj this).symm
  have hr := run_slice_op hm ho hi' hk hie hes ex (by omega) (ql := none) rfl h2 (qm := none) rfl (fun h => by cases h) (l := 0) (h := h) (m := cap) rfl hh (Nat.zero_le _) hhn rfl (by omega) (Nat.le_refl _)
  have hval : (Value.slice (if cap = 0 then A else A.map (·.add (0 * s))) (h - 0) (cap - 0)) = .slice A h cap := by
    simp only [Nat.zero_mul, Nat.sub_zero]
    congr 1
    split
    · rfl
    · cases A with
      | none => rfl
      | some ad => simp [Addr.add]
  rw [hval] at hr
  have hfr := hm.fresh hn (k := 8 * n) (by omega)
  have hn0 := hm.n0 hn
  have hid1 : id ≠ 8 * n := fun e => by rw [e, hfr] at hv1; cases hv1
  have hext := ext_with (x := Value.slice A h cap) hfr
  have hown' : OwnAt w e s (.slice A h cap) (vals.take h) := by
    have hlt : (vals.take h).length = h := by simp; omega
    rcases hown with ⟨rfl, B, e1⟩ | ⟨⟨g, cap2, e1, hp2⟩, h0, e2⟩
    · injection e1 with e1 e3 e4
      subst e1; subst e4
      simp at hlp
      obtain rfl : h = 0 := by omega
      exact .inl ⟨by simp, A, rfl⟩
    · injection e1 with e1 e3 e4
      subst e1; subst e4
      refine .inr ⟨⟨g, cap, by rw [hlt], hp2⟩, by rw [flatten_len (fun r hr => hr1 r (List.mem_of_mem_take hr))], ?_⟩
      rcases e2 with ⟨e2, -⟩ | ⟨g2, cap3, cur, e2, e5, e6, e7, e8, e9, e10⟩
      · cases e2
      · refine .inr ⟨g2, cap3, cur, ?_, e5, e6, by rw [hlt]; omega, e8, e9, ?_⟩
        · injection e2 with f1 f2 f3
          rw [f1, f3, hlt]
        · have hfl : (vals.take h).flatten = vals.flatten.take (h * s) := by
            have h3 := List.take_append_drop h vals
            have h4 : vals.flatten = (vals.take h).flatten ++ (vals.drop h).flatten := by rw [← List.flatten_append, h3]
            rw [h4, List.take_left']
            rw [flatten_len (fun r hr => hr1 r (List.mem_of_mem_take hr)), hlt]
          rw [hfl, ← e10, hlt, List.take_take, Nat.min_eq_left]
          exact Nat.mul_le_mul_right _ (by omega)
  have hm' := hm.step0 [(id, none), (8 * n, some (.row e s (rows.take h)))] hext.f rfl (fun i hi => with_low hi (by omega)) (p' := fun i => p i ∨ i / 8 = n) (fun i h => .inl h) (w' := w) (with_dom hm (by omega) rfl) rfl rfl rfl (Nat.le_refl _) (fun _ _ _ => rfl)
      (fun i oi hf => by
        simp only [find] at hf
        split at hf
        · next e1 => cases hf
        · split at hf
          · next e2 =>
            subst e2
            injection hf with hf
            injection hf with hf
            subst hf
            refine ⟨_, with_self .., ⟨vals.take h, hp.take h, fun r hr => hr1 r (List.mem_of_mem_take hr), fun r hr => hone r (List.mem_of_mem_take hr), hown'⟩, fun g hg => .inr ⟨id, _, _, none, by simp [find], hob, hv1, ?_⟩⟩
            cases A with
            | none => cases hg
            | some ad => cases cap with
              | zero => cases hg
              | succ q => exact hg
          · cases hf)
      (fun i j oi oj x' y' hne' h1 h2 => by
        simp only [find] at h1 h2
        split at h1
        · cases h1
        · split at h1
          · split at h2
            · cases h2
            · split at h2
              · omega
              · cases h2
          · cases h1)
  refine wpIn_value hr ?_
  exact hK _ _ _ hm' (by simp only [Rep]; exact with_self ..)
/-- a part of an own row, on the way. -/
theorem does_view {P : Program} {o : Oper} {S : AS} {n : Nat} {t : TypeId} {x : Operand} {lo hi : Option Operand} {i ie : TI} {s id : Nat} {ob : AO} {rows : List (List PV)} {ql qh : Option Int} {l h : Nat}
    (ho : o.op = .slice t x lo hi none) (hi' : tyI P t = some i) (hk : i.kind = 1) (hie : tyI P i.elem = some ie) (hes : ie.size = s) (hx : S.val x = .hdr id) (hob : S.obj id = some ob) (hor : ob.rows = some (s, rows))
    (h1 : optInt S lo = some ql) (h2 : optInt S hi = some qh) (hl : (ql.getD 0) = l) (hh : (qh.getD rows.length) = h) (hlh : l ≤ h) (hhn : h ≤ rows.length) :
    DoesAt P o S n ⟨.vw id s l h, [], [id]⟩ :=
  does_pure rfl fun c p ρ a w hm => by
    obtain ⟨v1, hv1, hov⟩ := hm.objs id _ hob
    obtain ⟨A, cap, rfl, hcl, -⟩ := hov.head hm.ro hor
    have ex : a.eval x = .slice A rows.length cap := by
      have := hm.val x
      rw [hx] at this
      simp only [Rep] at this
      rw [hv1] at this
      exact (Option.some.inj this).symm
    refine ⟨_, run_slice_op hm ho hi' hk hie hes ex hcl h1 h2 (qm := none) rfl (fun h => by cases h) hl hh hlh hhn (m := cap) rfl (by omega) (Nat.le_refl _), ?_⟩
    simp only [Rep]
    exact ⟨A, rows.length, cap, hv1, hlh, hhn, hcl, rfl⟩

/-- the objects are told again. -/
theorem Mod.same0 {c : Ctx} {p : Nat → Prop} {ρ : Env} {S : AS} {u : List (Nat × Option AO)} {tm : Array Value} {w : World} (h : Mod c p ρ S tm w) (ho : ∀ i, (S.upd u).obj i = S.obj i) : Mod c p ρ (S.upd u) tm w :=
  ⟨h.size, h.base, h.baseR, h.lo, h.dom, h.tmps, fun i o e => h.objs i o ((ho i).symm.trans e), fun i j oi oj x y hne hi hj => h.apart i j oi oj x y hne ((ho i).symm.trans hi) ((ho j).symm.trans hj),
    fun i o x g e => h.old i o x g ((ho i).symm.trans e), h.ro, fun i o x g e => h.rsep i o x g ((ho i).symm.trans e), h.rnew, h.rdf, h.dfr, h.frame⟩
/-! cells of an own row turn -/
theorem splice_flat {α : Type} {s : Nat} {vals : List (List α)} (hs : ∀ r ∈ vals, r.length = s) {l : Nat} {news : List (List α)} (hn : ∀ r ∈ news, r.length = s) (hl : l + news.length ≤ vals.length) : (splice vals l news).flatten = splice vals.flatten (l * s) news.flatten := by
  have fl : ∀ (m : List (List α)), (∀ r ∈ m, r.length = s) → m.flatten.length = m.length * s := by
    intro m
    induction m with
    | nil => intro _; simp
    | cons r m ih => intro h; rw [List.flatten_cons, List.length_append, h r (by simp), ih (fun r hr => h r (by simp [hr])), List.length_cons, Nat.succ_mul]; omega
  have ft : ∀ k, (vals.take k).flatten = vals.flatten.take (k * s) := by
    intro k
    rcases Nat.le_total k vals.length with hk | hk
    · have h3 := List.take_append_drop k vals
      have h4 : vals.flatten = (vals.take k).flatten ++ (vals.drop k).flatten := by rw [← List.flatten_append, h3]
      rw [h4, List.take_left']
      rw [fl _ (fun r hr => hs r (List.mem_of_mem_take hr))]; simp; rw [Nat.min_eq_left hk]
    · rw [List.take_of_length_le hk, List.take_of_length_le]; rw [fl _ hs]; exact Nat.mul_le_mul_right _ hk
  have fd : ∀ k, (vals.drop k).flatten = vals.flatten.drop (k * s) := by
    intro k
    rcases Nat.le_total k vals.length with hk | hk
    · have h3 := List.take_append_drop k vals
      have h4 : vals.flatten = (vals.take k).flatten ++ (vals.drop k).flatten := by rw [← List.flatten_append, h3]
      rw [h4, List.drop_left']
      rw [fl _ (fun r hr => hs r (List.mem_of_mem_take hr))]; simp; rw [Nat.min_eq_left hk]
    · rw [List.drop_eq_nil_of_le hk, List.drop_eq_nil_of_le]; rfl; rw [fl _ hs]; exact Nat.mul_le_mul_right _ hk
  unfold splice
  rw [List.flatten_append, List.flatten_append, ft, fd, fl _ hn, Nat.add_mul]
theorem splice_get {α : Type} {l m : List α} {k : Nat} (h : k + m.length ≤ l.length) (j : Nat) : (splice l k m)[j]? = if j < k then l[j]? else if j < k + m.length then m[j - k]? else l[j]? := by
  unfold splice
  by_cases h1 : j < k
  · rw [if_pos h1, List.append_assoc, List.getElem?_append_left (by simp; omega), List.getElem?_take_of_lt h1]
  · rw [if_neg h1]
    by_cases h2 : j < k + m.length
    · rw [if_pos h2, List.append_assoc, List.getElem?_append_right (by simp; omega)]
      have e1 : (l.take k).length = k := by simp; omega
      rw [e1, List.getElem?_append_left (by omega)]
    · rw [if_neg h2, List.getElem?_append_right (by simp; omega)]
      have e1 : (l.take k ++ m).length = k + m.length := by simp; omega
      rw [e1, List.getElem?_drop]
      congr 1
      omega
theorem OwnAt.splice {w : World} {e : TypeId} {s g cap : Nat} {vals : List (List Value)} (h : OwnAt w e s (.slice (some ⟨g, 0, none⟩) vals.length cap) vals) (hp : 0 < cap) (hs : ∀ r ∈ vals, r.length = s) {us : List Value} {q : Nat} {vals' : List (List Value)} (hl : vals'.length = vals.length) (hs' : ∀ r ∈ vals', r.length = s) (hq : q + us.length ≤ vals.length * s) (hf : vals'.flatten = Go.Proofs.Ytiidfcadmdahmaa.splice vals.flatten q us) :
    ∃ cur : Array Value, w.heap[g]? = some (.cells cur e (0, 0)) ∧ q + us.length ≤ cur.size ∧ OwnAt (w.setRow g (Go.Proofs.Ytiidfcadmdahmaa.splice cur.toList q us).toArray) e s (.slice (some ⟨g, 0, none⟩) vals.length cap) vals' := by
  have hb := ownAt_blk (rows := []) h (g := g) (by obtain ⟨k, rfl⟩ : ∃ k, cap = k + 1 := ⟨cap - 1, by omega⟩; rfl)
  obtain ⟨cap2, cur, e1, -, hh, h6, h7, h4, h5⟩ := hb
  injection e1 with _ _ e1
  subst e1
  have hcs : vals.length * s ≤ cur.size := by rw [h6]; exact Nat.mul_le_mul_right _ h4
  refine ⟨cur, hh, by omega, .inr ⟨⟨g, cap, by rw [hl], hp⟩, flatten_len hs', .inr ⟨g, cap, (Go.Proofs.Ytiidfcadmdahmaa.splice cur.toList q us).toArray, by rw [hl], Nat.zero_le _, setRow_heap w g _ _ e _ hh, by omega, h5, ?_, ?_⟩⟩⟩
  · rw [List.size_toArray, splice_len (by simpa using (by omega : q + us.length ≤ cur.size))]
    simpa using h6
  · rw [hf, ← h7, hl]
    show (Go.Proofs.Ytiidfcadmdahmaa.splice cur.toList q us).take _ = _
    have hlen : cur.toList.length = cur.size := by simp
    apply List.ext_getElem?
    intro j
    rw [List.getElem?_take, splice_get (l := cur.toList) (by rw [hlen]; omega), splice_get (l := cur.toList.take (vals.length * s)) (by rw [List.length_take, hlen]; omega)]
    by_cases hj : j < vals.length * s
    · rw [if_pos hj, List.getElem?_take_of_lt hj]
    · rw [if_neg hj, if_neg (by omega), if_neg (by omega), List.getElem?_eq_none]
      rw [List.length_take, hlen]
      omega
/-- an own row's cells turn: the step. -/
theorem Mod.turnRow {c : Ctx} {p : Nat → Prop} {ρ : Env} {S : AS} {tm : Array Value} {w : World} (hm : Mod c p ρ S tm w) {id e s : Nat} {rows rows' : List (List PV)} (hob : S.obj id = some (.row e s rows)) {us : List Value} {q : Nat} (hu1 : ∀ u ∈ us, u.oneCell' = true) (hne : 0 < rows.length)
    (hv : ∀ vals : List (List Value), PRepLL ρ.R rows vals → (∀ r ∈ vals, r.length = s) → (∀ r ∈ vals, ∀ u ∈ r, u.oneCell' = true) → q + us.length ≤ vals.length * s ∧ ∃ vals', PRepLL ρ.R rows' vals' ∧ vals'.length = vals.length ∧ (∀ r ∈ vals', r.length = s) ∧ (∀ r ∈ vals', ∀ u ∈ r, u.oneCell' = true) ∧ vals'.flatten = splice vals.flatten q us) :
    ∃ g cap cur, ρ.f id = some (.slice (some ⟨g, 0, none⟩) rows.length cap) ∧ rows.length ≤ cap ∧ w.heap[g]? = some (.cells cur e (0, 0)) ∧ q + us.length ≤ cur.size ∧ Mod c p ρ (S.upd [(id, some (.row e s rows'))]) tm (w.setRow g (splice cur.toList q us).toArray) := by
  obtain ⟨v1, hv1, vals, hp, hr1, hone, hown⟩ := hm.objs id _ hob
  obtain ⟨hq, vals', k1, k2, k3, k4, k5⟩ := hv vals hp hr1 hone
  have hlp := hp.length
  rcases hown with ⟨rfl, -⟩ | ⟨⟨g, cap, rfl, hpc⟩, hown⟩
  · simp at hlp; omega
  · have hown' : OwnAt w e s (.slice (some ⟨g, 0, none⟩) vals.length cap) vals := .inr ⟨⟨g, cap, rfl, hpc⟩, hown⟩
    obtain ⟨cur, h1, h2, h3⟩ := hown'.splice hpc hr1 k2 k3 hq k5
    obtain ⟨A0, c0, e0, hcl⟩ := head_of_own hown'
    injection e0 with _ _ e0
    subst e0
    have hg : ∀ r, oblk (.slice (some ⟨g, 0, none⟩) vals.length cap) (.row e s r) = some g := fun r => by
      obtain ⟨k, rfl⟩ : ∃ k, cap = k + 1 := ⟨cap - 1, by omega⟩
      rfl
    refine ⟨g, cap, cur, by rw [← hlp]; exact hv1, by omega, h1, h2, hm.turn hob hv1 (hg rows) (hg rows') ⟨vals', k1, k3, k4, h3⟩ rfl rfl rfl (by simp [World.setRow]) (fun b hb' => setRow_other _ _ _ _ hb')⟩
theorem set_splice {α : Type} {l : List α} {k : Nat} {a : α} (h : k < l.length) : l.set k a = splice l k [a] := by
  unfold splice
  simp [List.set_eq_take_append_cons_drop, h]
theorem PRepL.splice {R : Frz} {ps qs : List PV} {vs us : List Value} (h : PRepL R ps vs) (k : PRepL R qs us) (j : Nat) : PRepL R (splice ps j qs) (Go.Proofs.Ytiidfcadmdahmaa.splice vs j us) := by
  unfold Go.Proofs.Ytiidfcadmdahmaa.splice
  rw [k.length]
  exact ((h.take j).append k).append (h.drop _)
theorem PRepLL.splice {R : Frz} {ps qs : List (List PV)} {vs us : List (List Value)} (h : PRepLL R ps vs) (k : PRepLL R qs us) (j : Nat) : PRepLL R (splice ps j qs) (Go.Proofs.Ytiidfcadmdahmaa.splice vs j us) := by
  unfold Go.Proofs.Ytiidfcadmdahmaa.splice
  rw [k.length]
  exact ((h.take j).append k).append (h.drop _)
theorem mem_splice {α : Type} {l m : List α} {k : Nat} {a : α} (h : a ∈ splice l k m) : a ∈ l ∨ a ∈ m := by
  unfold splice at h
  rcases List.mem_append.1 h with h | h
  · rcases List.mem_append.1 h with h | h
    · exact .inl (List.mem_of_mem_take h)
    · exact .inr h
  · exact .inl (List.mem_of_mem_drop h)
/-- a store into an element of an own row. -/
theorem does_store_row {P : Program} {o : Oper} {S : AS} {n : Nat} {t e : TypeId} {x y : Operand} {i : TI} {id s k j : Nat} {rows : List (List PV)} {r m : List PV} (ho : o.op = .store t x y) (hi : tyI P t = some i) (hx : S.val x = .ptr id s k j) (hob : S.obj id = some (.row e s rows))
    (hy : S.elem (S.val y) = some m) (hml : m.length = i.size) (hk : rows[k]? = some r) (hl : j + i.size ≤ s) {rd0 : List Nat} : DoesAt P o S n ⟨.dead, [(id, some (.row e s (rows.set k (splice r j m))))], rd0⟩ := by
  intro rd m0 c p ρ a w hm hn K Q hK
  obtain ⟨us, e1, hru, hlu, hu1⟩ := elem_of hm hy (hm.val y)
  obtain ⟨xi, d, z, i1, i2, i3, i4, i5, i6, i7⟩ := tyI_spec hi
  obtain ⟨hkl, rfl⟩ := List.getElem?_eq_some_iff.1 hk
  obtain ⟨g, cap, cur, hg, hcl, hh, hfit, hm'⟩ := hm.turnRow (rows' := rows.set k (splice rows[k] j m)) hob (us := us) (q := k * s + j) hu1 (by omega) fun vals hp hs h1 => by
    have hlp := hp.length
    obtain ⟨vr, k1, k2⟩ := hp.get hk
    obtain ⟨hkv, rfl⟩ := List.getElem?_eq_some_iff.1 k1
    have hrl := hs _ (List.getElem_mem hkv)
    have hks := Nat.mul_le_mul_right s (Nat.succ_le_of_lt hkv)
    rw [Nat.succ_mul] at hks
    have hfit : k * s + j + us.length ≤ vals.length * s := by omega
    have hone : ∀ v ∈ splice vals[k] j us, v.oneCell' = true := fun v hv => by
      rcases mem_splice hv with hv | hv
      · exact h1 _ (List.getElem_mem hkv) v hv
      · exact hu1 v hv
    have hlen : (splice vals[k] j us).length = s := by rw [splice_len (by omega)]; exact hrl
    refine ⟨hfit, vals.set k (splice vals[k] j us), hp.set k (k2.splice hru j), by simp, fun q hq => ?_, fun q hq => ?_, ?_⟩
    · rcases List.mem_or_eq_of_mem_set hq with hq | rfl
      · exact hs q hq
      · exact hlen
    · rcases List.mem_or_eq_of_mem_set hq with hq | rfl
      · exact h1 q hq
      · exact hone
    · rw [set_splice hkv, splice_flat hs (by simpa using hlen) (by simp; omega)]
      simp only [List.flatten_cons, List.flatten_nil, List.append_nil]
      have hfv := flatten_len hs
      apply List.ext_getElem?
      intro q
      have g1 := splice_get (l := vals.flatten) (m := splice vals[k] j us) (k := k * s) (by rw [hlen, hfv]; omega) q
      have g2 := splice_get (l := vals.flatten) (m := us) (k := k * s + j) (by rw [hfv]; exact hfit) q
      have g3 := splice_get (l := vals[k]) (m := us) (k := j) (by omega) (q - k * s)
      rw [hlen] at g1
      rw [g1, g2]
      by_cases c1 : q < k * s
      · rw [if_pos c1, if_pos (by omega)]
      · rw [if_neg c1]
        by_cases c2 : q < k * s + s
        · have hgv := flatten_get hs k (q - k * s) (by omega)
          rw [show k * s + (q - k * s) = q by omega, List.getElem?_eq_getElem hkv] at hgv
          simp only [Option.bind_some] at hgv
          rw [if_pos c2, g3]
          by_cases c3 : q < k * s + j
          · rw [if_pos c3, if_pos (by omega), hgv]
          · rw [if_neg c3, if_neg (by omega)]
            by_cases c4 : q < k * s + j + us.length
            · rw [if_pos c4, if_pos (by omega)]
              congr 1
              omega
            · rw [if_neg c4, if_neg (by omega), hgv]
        · rw [if_neg c2, if_neg (by omega), if_neg (by omega)]
  have hp : a.eval x = .pointer (some ⟨g, k * s + j, none⟩) := by
    have := hm.at_row hx hg (b := g) (off := 0) (.inr ⟨_, _, rfl⟩)
    simpa using this
  have hst := run_storeCells_at (P := P) g (k * s + j) e us 0 cur w hh (by simpa using hfit) hu1
  simp only [Nat.add_zero] at hst
  have hr' : (execOp a.eval o).run P w = .ok .skip (w.setRow g (splice cur.toList (k * s + j) us).toArray) := by
    unfold execOp
    simp only [ho, hp, Instr.storeAt, Instr.sureAddr, storeVar, sizeOf, typeInfo, Sem.run_bind, Sem.run_pure, Result.andThen_ok, run_program, i1, e1]
    simp only [i4, ← hml, ← hlu, List.size_toArray, ne_eq, not_true, if_false, Result.andThen_ok, hst]
    rfl
  refine wpIn_skips hr' ?_
  exact hK undef ρ _ (hm'.mono fun i h => .inl h) (by simp [Rep])
/-- zeros. -/
def zrow (z : List Value) : List PV := z.map .raw
theorem prep_raws {R : Frz} : ∀ (z : List Value), PRepL R (z.map .raw) z
  | [] => trivial
  | v :: z => ⟨by simp [PRep], prep_raws z⟩
theorem preps_raws {R : Frz} (z : List Value) : ∀ n, PRepLL R (List.replicate n (z.map .raw)) (List.replicate n z)
  | 0 => trivial
  | n + 1 => ⟨prep_raws z, preps_raws z n⟩
theorem zeroCells_flat (z : List Value) (n : Nat) (h : 0 < z.length) : (Builtin.zeroCells z.toArray n).toList = (List.replicate n z).flatten := by
  have hs : ∀ r ∈ List.replicate n z, r.length = z.length := fun r hr => by rw [List.eq_of_mem_replicate hr]
  have hfl : (List.replicate n z).flatten.length = n * z.length := by rw [flatten_len hs]; simp
  apply List.ext_getElem?
  intro j
  unfold Builtin.zeroCells
  by_cases hj : j < n * z.length
  · have e1 := flatten_get hs (j / z.length) (j % z.length) (Nat.mod_lt _ h)
    rw [show j / z.length * z.length + j % z.length = j by rw [Nat.mul_comm]; exact Nat.div_add_mod j _] at e1
    rw [e1]
    have hd : j / z.length < n := Nat.div_lt_of_lt_mul (by rw [Nat.mul_comm]; exact hj)
    have hmod : j % z.length < z.length := Nat.mod_lt _ h
    simp [hj, hd, hmod]
  · rw [List.getElem?_eq_none (by simp; omega), List.getElem?_eq_none (by rw [hfl]; omega)]
/-- `clear` of an own row, or of a part of it. -/
theorem does_clear {P : Program} {o : Oper} {S : AS} {n : Nat} {x : Operand} {t e : TypeId} {i ie : TI} {id s l h : Nat} {rows : List (List PV)} (ho : o.op = .call { callee := .builtin .clear, args := #[x], argTypes := #[t] }) (hi : tyI P t = some i) (hk : i.kind = 1) (hie : tyI P i.elem = some ie) (hs : ie.zero.length = s) (h0 : 0 < s) (hz1 : ∀ u ∈ ie.zero, u.oneCell' = true)
    (hx : (S.val x = .hdr id ∧ l = 0 ∧ h = rows.length) ∨ (S.val x = .vw id s l h ∧ h ≤ rows.length)) (hob : S.obj id = some (.row e s rows)) (hlh : l ≤ h) :
    DoesAt P o S n ⟨.tup [], [(id, some (.row e s (splice rows l (List.replicate (h - l) (ie.zero.map .raw)))))], [id]⟩ := by
  intro rd m0 c p ρ a w hm hn K Q hK
  obtain ⟨xi, d, z, i1, i2, i3, i4, i5, i6, i7⟩ := tyI_spec hie
  have hte := tyI_slice hi hk
  have hzc : z.cells = ie.zero.toArray := by rw [← i7]
  have hlr : h ≤ rows.length := by rcases hx with ⟨-, -, rfl⟩ | ⟨-, h⟩ <;> omega
  have fin : ∀ w', (execOp a.eval o).run P w = .ok (.value (.tuple #[])) w' → Mod c p ρ (S.upd [(id, some (.row e s (splice rows l (List.replicate (h - l) (ie.zero.map .raw)))))]) a.tmps w' → o.wpIn (FW rd) m0 P a w K Q := fun w' hr hm' => by
    refine wpIn_value hr ?_
    exact hK _ ρ _ (hm'.mono fun i h => .inl h) (by simp only [Rep]; exact ⟨[], rfl, by simp [RepL]⟩)
  have hrunc : ∀ v w', (Builtin.clear_ #[t] o.type #[v]).run P w = .ok (.tuple #[]) w' → a.eval x = v → (execOp a.eval o).run P w = .ok (.value (.tuple #[])) w' := fun v w' hr e => by
    unfold execOp
    rw [ho]
    simp only [resolve, Sem.run_bind, Sem.run_pure, Result.andThen_ok, invoke, builtin, List.map_toArray, List.map_cons, List.map_nil, e, hr]
  rcases Nat.eq_zero_or_pos (h - l) with hz | hpos
  · -- nothing is cleared
    have hsame : splice rows l (List.replicate (h - l) (ie.zero.map .raw)) = rows := by rw [hz]; exact splice_nil _ _
    have hv : ∃ A cp, a.eval x = .slice A 0 cp := by
      obtain ⟨v1, hv1, vals, hp, hr1, hone, hown⟩ := hm.objs id _ hob
      obtain ⟨A, cap, rfl, hcl⟩ := head_of_own hown
      have hlp := hp.length
      have := hm.val x
      rcases hx with ⟨hx, rfl, rfl⟩ | ⟨hx, -⟩
      · rw [hx] at this
        simp only [Rep] at this
        rw [hv1] at this
        injection this with this
        exact ⟨A, cap, by rw [← this, hlp]; congr 1⟩
      · rw [hx] at this
        simp only [Rep] at this
        obtain ⟨A', n', c', -, -, -, -, e5⟩ := this
        exact ⟨_, _, by rw [e5, hz]⟩
    obtain ⟨A, cp, hv⟩ := hv
    refine fin w (hrunc _ w ?_ hv) ?_
    · cases A <;> simp [Builtin.clear_, run_underlying hte]
    · rw [hsame]
      refine hm.same0 fun i => ?_
      by_cases hi : i = id
      · subst hi
        rw [hob]
        simp [AS.obj, AS.upd, find]
      · simp [AS.obj, AS.upd, find, Ne.symm hi]
  · obtain ⟨g, cap, cur, hg, hcl, hh, hfit, hm'⟩ := hm.turnRow (rows' := splice rows l (List.replicate (h - l) (ie.zero.map .raw))) hob (us := (List.replicate (h - l) ie.zero).flatten) (q := l * s) (fun u hu => by
        obtain ⟨r, hr, hu'⟩ := List.mem_flatten.1 hu
        rw [List.eq_of_mem_replicate hr] at hu'
        exact hz1 u hu') (by omega) fun vals hp hs' h1 => by
      have hlp := hp.length
      have hrs : ∀ r ∈ List.replicate (h - l) ie.zero, r.length = s := fun r hr => by rw [List.eq_of_mem_replicate hr, hs]
      have hfl := flatten_len hrs
      rw [List.length_replicate] at hfl
      have hbb : l * s + (h - l) * s ≤ vals.length * s := by rw [← Nat.add_mul]; exact Nat.mul_le_mul_right _ (by omega)
      refine ⟨by rw [hfl]; exact hbb, splice vals l (List.replicate (h - l) ie.zero), hp.splice (preps_raws _ _) l, splice_len (by simp; omega), fun q hq => ?_, fun q hq => ?_, splice_flat hs' hrs (by simp; omega)⟩
      · rcases mem_splice hq with hq | hq
        · exact hs' q hq
        · exact hrs q hq
      · rcases mem_splice hq with hq | hq
        · exact h1 q hq
        · rw [List.eq_of_mem_replicate hq]; exact hz1
    have hv : ∃ cp, a.eval x = .slice (some ⟨g, l * s, none⟩) (h - l) cp := by
      have := hm.val x
      rcases hx with ⟨hx, rfl, rfl⟩ | ⟨hx, -⟩
      · rw [hx] at this
        simp only [Rep] at this
        rw [hg] at this
        injection this with this
        exact ⟨cap, by rw [← this]; simp⟩
      · rw [hx] at this
        simp only [Rep] at this
        obtain ⟨A', n', c', e1, e2, e3, e4, e5⟩ := this
        rw [hg] at e1
        injection e1 with e1
        injection e1 with e1 e6 e7
        subst e1; subst e6; subst e7
        rw [if_neg (by omega)] at e5
        exact ⟨cap - l, by rw [e5]; simp [add_none]⟩
    obtain ⟨cp, hv⟩ := hv
    have hst := run_storeCells_at (P := P) g (l * s) e (List.replicate (h - l) ie.zero).flatten 0 cur w hh (by simpa using hfit) (fun u hu => by
        obtain ⟨r, hr, hu'⟩ := List.mem_flatten.1 hu
        rw [List.eq_of_mem_replicate hr] at hu'
        exact hz1 u hu')
    simp only [Nat.add_zero] at hst
    refine fin _ (hrunc _ _ ?_ hv) hm'
    obtain ⟨q, hq⟩ : ∃ q, h - l = q + 1 := ⟨h - l - 1, by omega⟩
    have hzv : (zeroValue i.elem).run P w = .ok z w := by simp [zeroValue, typeInfo, i1, i3]
    have hzf := zeroCells_flat ie.zero (h - l) (by omega)
    rw [hq] at hzf hst ⊢
    unfold Builtin.clear_
    simp only [Sem.run_bind, run_underlying hte, Result.andThen_ok, Sem.run_pure, List.getElem?_toArray, List.getElem?_cons_zero, hzv, hzc, hzf, hst]
    rfl
end Go.Proofs.Ytiidfcadmdahmaa
