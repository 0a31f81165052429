/- ENGINE (second) 7: what is shown as a proposition is so: operations; over any program. -/
import Derived.Test.YtiidfcadmdahmaaG6
set_option linter.unusedSimpArgs false
set_option linter.unusedVariables false
namespace Go.Proofs.Ytiidfcadmdahmaa
open Go.RowKit

theorem all_one {l : List Value} (h : l.all (·.oneCell') = true) : ∀ u ∈ l, u.oneCell' = true := fun u hu => List.all_eq_true.1 h u hu
theorem run_call_b {P : Program} {o : Oper} {a : Act} {w w' : World} {b : Builtin} {args : Array Operand} {ts : Array TypeId} {v : Value} (ho : o.op = .call { callee := .builtin b, args := args, argTypes := ts }) (h : (builtin b ts o.type (args.map fun | .const _ => true | _ => false) (args.map a.eval)).run P w = .ok (.value v) w') :
    (execOp a.eval o).run P w = .ok (.value v) w' := by
  unfold execOp
  rw [ho]
  simp only [resolve, Sem.run_bind, Sem.run_pure, Result.andThen_ok, invoke]
  exact h
theorem run_max2 {P : Program} {w : World} (a b : Int) (mx : Bool) : ((if mx then Builtin.max2 else Builtin.min2) (.int .i64 a) (.int .i64 b)).run P w = .ok (.int .i64 (if mx then max a b else min a b)) w := by
  cases mx
  · simp only [Bool.false_eq_true, if_false, Builtin.min2, Sem.run_pure]
    congr 2
    simp only [Int.min_def]
    split <;> split <;> omega
  · simp only [if_true, Builtin.max2, Sem.run_pure]
    congr 2
    simp only [Int.max_def]
    split <;> split <;> omega
/-- the greatest, the least one of some. -/
def mmAll (mx : Bool) (a : Int) (l : List Int) : Int := l.foldl (fun x y => if mx then max x y else min x y) a
theorem run_mm {P : Program} {w : World} (mx : Bool) : ∀ (l : List Int) (a : Int), ((l.map (Value.int .i64)).foldlM (if mx then Builtin.max2 else Builtin.min2) (.int .i64 a)).run P w = .ok (.int .i64 (mmAll mx a l)) w
  | [], a => by simp [mmAll]
  | b :: l, a => by
    simp only [List.map_cons, List.foldlM_cons, Sem.run_bind, run_max2, Result.andThen_ok]
    rw [run_mm mx l]
    rfl
theorem does_mm {P : Program} {o : Oper} {S : AS} {n : Nat} {args : Array Operand} {ts : Array TypeId} {mx : Bool} {a : Int} {l : List Int} (ho : o.op = .call { callee := .builtin (if mx then .max else .min), args := args, argTypes := ts })
    (h : args.toList.map S.val = (.raw (.int .i64 a)) :: l.map (fun x => .raw (.int .i64 x))) : DoesAt P o S n ⟨.raw (.int .i64 (mmAll mx a l)), [], []⟩ :=
  does_pure rfl fun c p ρ ac w hm => by
    have h1 : ∀ (xs : List Operand) (ys : List Int), xs.map S.val = ys.map (fun x => .raw (.int .i64 x)) → xs.map ac.eval = ys.map (Value.int .i64) := by
      intro xs
      induction xs with
      | nil => intro ys e; cases ys <;> simp_all
      | cons x xs ih =>
        intro ys e
        cases ys with
        | nil => simp at e
        | cons y ys =>
          simp only [List.map_cons, List.cons.injEq] at e ⊢
          exact ⟨hm.raw e.1, ih ys e.2⟩
    have h2 := h1 args.toList (a :: l) (by simpa using h)
    refine ⟨.int .i64 (mmAll mx a l), run_call_b ho ?_, by simp [Rep]⟩
    have h3 := run_mm (P := P) (w := w) mx l a
    cases mx
    · simp only [Bool.false_eq_true, if_false, builtin] at h3 ⊢
      refine run_v ?_
      simp only [Builtin.min_, Array.toList_map, h2, List.map_cons]
      exact h3
    · simp only [if_true, builtin] at h3 ⊢
      refine run_v ?_
      simp only [Builtin.max_, Array.toList_map, h2, List.map_cons]
      exact h3

theorem does_call {P : Program} {o : Oper} {S : AS} {n : Nat} {E : Eff} {f : FuncId} {x : Operand} {args : Array Operand} {ts : Array TypeId} {caps : List AV} (ho : o.op = .call { callee := .value x, args := args, argTypes := ts }) (hx : S.val x = .clo (.func f) caps)
    (hf : fnB P f = true) {S0 : AS} (hag : ∀ i ∈ E.reads, S.obj i = S0.obj i) (h : CallOk P f (args.toList.map S.val ++ caps) S0 n E) : DoesAt P o S n E := by
  intro rd m0 c p ρ a w hm hn K Q hK
  have hv := hm.val x
  rw [hx] at hv
  simp only [Rep] at hv
  obtain ⟨cs, e, hcs⟩ := hv
  have hargs : ∀ l : List Operand, RepL ρ (l.map S.val) (l.map a.eval) := by
    intro l
    induction l with
    | nil => simp [RepL]
    | cons y l ih => simp only [List.map_cons, RepL]; exact ⟨hm.val y, ih⟩
  have hc := h S hag c p ρ a.tmps w (args.toList.map a.eval ++ cs) hm hn ((hargs _).append hcs)
  obtain ⟨fn, h1, h2, h3⟩ : ∃ fn, P.funcs[f]? = some fn ∧ fn.name ≠ "runtime.NumGoroutine" ∧ fn.body.isSome = true := by
    unfold fnB at hf
    cases h1 : P.funcs[f]? with
    | none => rw [h1] at hf; simp at hf
    | some fn => rw [h1] at hf; simp at hf; exact ⟨fn, rfl, hf.1, by simpa using hf.2⟩
  have hr : (execOp a.eval o).run P w = .ok (.enter f (args.toList.map a.eval ++ cs).toArray) w := by
    unfold execOp
    rw [ho]
    have h4 : ¬ fn.body = none := fun e => by rw [e] at h3; simp at h3
    simp [resolve, e, Deferred.ofValue, invoke, callFunc, h1, h2, h4]
  refine wpIn_enters hr (hc.mono ?_)
  rintro e' w' ⟨v, ρ', rfl, hm', hv'⟩
  exact ⟨v, rfl, hK v ρ' w' hm' hv'⟩

theorem ofV_raw {S : AS} {x : Operand} {v : AV} (h : S.val x = v) : S.val x = v := h

theorem map_val {S S' : AS} {l : List Operand} (h : ∀ x ∈ l, S'.val x = S.val x) : l.map S'.val = l.map S.val := List.map_congr_left h
theorem fill_val {S S' : AS} {l : List (Nat × Operand)} (h : ∀ q ∈ l, S'.val q.2 = S.val q.2) : (l.map fun q => (q.1, S'.val q.2)) = l.map fun q => (q.1, S.val q.2) := List.map_congr_left fun q hq => by rw [h q hq]
theorem rowsOf_congr {S S' : AS} {a : AV} (h : ∀ i ∈ a.ids, S'.obj i = S.obj i) : S'.rowsOf a = S.rowsOf a := by
  cases a <;> simp only [AS.rowsOf, AV.ids, List.mem_singleton, forall_eq] at h ⊢
  · rw [h]
  · rw [h]

theorem Mod.note' {c : Ctx} {p : Nat → Prop} {ρ : Env} {S : AS} {tm : Array Value} {w : World} (h : Mod c p ρ S tm w) (r u : List Nat) : Mod c p ρ (S.note r u) tm w :=
  ⟨h.size, h.base, h.baseR, h.lo, h.dom, h.tmps, h.objs, h.apart, h.old, h.ro, h.rsep, h.rnew, h.rdf, h.dfr, h.frame⟩
theorem DefOk.put' {c : Ctx} {a : Act} {w : World} (h : DefOk c a w) (d : Option Nat) (v : Value) : DefOk c (a.put d v) w := by
  cases d <;> exact h
set_option maxHeartbeats 1000000 in
/-- an operation for which it is shown, does so. -/
theorem aop_sound0 {P : Program} {o : Oper} {S : AS} {n : Nat} {CN : Nat → AS → Prop} (hnc : ¬ ∃ x args ts, o.op = .call { callee := .value x, args := args, argTypes := ts }) (hnb : ∀ op t x y u, o.op = .binOp op t x y u → S.val y ≠ .raw (.slice none 0 0)) (h : aop P o.op o.type o.dst n CN S) : ∃ E, (∀ S', (∀ x ∈ o.op.operands, S'.val x = S.val x) → (∀ i ∈ E.reads, S'.obj i = S.obj i) → DoesAt P o S' n E) ∧ CN (n + 1) (fin o.dst E S) := by
  unfold aop at h
  split at h
  · next x ho =>
    generalize hv : S.val x = v at h
    unfold kMove at h
    split at h
    · split at h
      · next i hi =>
        split at h
        · next ie hie => exact ⟨_, fun S' hv' ho' => does_nil (.inl ho) hi hie ((hv' x (by simp [ho, Op.operands])).trans hv), h⟩
        · exact h.elim
      · exact h.elim
    · exact ⟨⟨S.val x, [], []⟩, fun S' hv' ho' => by rw [← (hv' x (by simp [ho, Op.operands]))]; exact does_move x (.inl ho), by rw [hv]; exact h⟩
  · next x ho =>
    generalize hv : S.val x = v at h
    unfold kMove at h
    split at h
    · split at h
      · next i hi =>
        split at h
        · next ie hie => exact ⟨_, fun S' hv' ho' => does_nil (.inr ho) hi hie ((hv' x (by simp [ho, Op.operands])).trans hv), h⟩
        · exact h.elim
      · exact h.elim
    · exact ⟨⟨S.val x, [], []⟩, fun S' hv' ho' => by rw [← (hv' x (by simp [ho, Op.operands]))]; exact does_move x (.inr ho), by rw [hv]; exact h⟩
  · next c x y ho =>
    generalize hv : S.val c = v at h
    unfold kPick at h
    split at h
    · next t =>
      cases t with
      | true => exact ⟨⟨S.val x, [], []⟩, fun S' hv' ho' => by rw [← (hv' x (by simp [ho, Op.operands]))]; exact does_pick (t := true) ho ((hv' c (by simp [ho, Op.operands])).trans hv), h.1 rfl⟩
      | false => exact ⟨⟨S.val y, [], []⟩, fun S' hv' ho' => by rw [← (hv' y (by simp [ho, Op.operands]))]; exact does_pick (t := false) ho ((hv' c (by simp [ho, Op.operands])).trans hv), h.2 rfl⟩
    · exact h.elim
  · next t ho =>
    generalize hi : tyI P t = q at h
    unfold kAlloc at h
    split at h
    · split at h
      · unfold kAllocR at h
        split at h
        · next hz =>
          split at h
          · exact ⟨_, fun _ _ _ => does_allocrow ho hi hz, h⟩
          · exact h.elim
        · exact h.elim
      · exact ⟨_, fun _ _ _ => does_allocN _ ho hi (all_one h.1.1) h.1.2, h.2⟩
    · exact h.elim
  · next t x ho =>
    generalize hx : S.val x = v at h
    unfold kBoxV at h
    split at h
    · split at h
      · split at h
        · exact ⟨_, fun S' hv' _ => does_boxrow ho ((hv' x (by simp [ho, Op.operands])).trans hx), h⟩
        · exact h.elim
      · exact h.elim
    · generalize hi : cellsOf v = q at h
      unfold kBox at h
      split at h
      · exact ⟨_, fun S' hv' _ => does_box ho (by rw [hv' x (by simp [ho, Op.operands]), hx]; exact hi), h⟩
      · exact h.elim
  · next t parts ho =>
    generalize hi : tyI P t = q at h
    unfold kBuild at h
    split at h
    · obtain ⟨⟨h1, h2, h3⟩, h⟩ := h
      have h2 := fun q hq => of_decide_eq_true (List.all_eq_true.1 h2 q hq)
      split at h
      · next l hl => exact ⟨_, fun S' hv' ho' => does_buildN _ (parts := parts.toList) (by rw [ho]) hi h1 h2 (all_one h3) (by rw [fill_val (fun q hq => hv' q.2 (by simp only [ho, Op.operands]; exact List.mem_toArray.2 (List.mem_map_of_mem hq)))]; exact hl) h.1, h.2⟩
      · exact h.elim
    · exact h.elim
  · next t m parts ho =>
    generalize hi : tyI P t = q at h
    unfold kSlice at h
    split at h
    · next i =>
      split at h
      · next ie hie =>
        obtain ⟨⟨h1, h2, h3, h4⟩, h⟩ := h
        split at h
        · next rows hr =>
          refine ⟨_, fun S' hv' ho' => ?_, h⟩
          have hob : ∀ i ∈ deepP (parts.toList.map fun q => (q.1, S.val q.2)), S'.obj i = S.obj i := fun i hi => ho' i (by simp only [frzEff]; exact List.mem_append_right _ hi)
          have hfz := frz_congr hob
          have e1 : frzEff S (deepP (parts.toList.map fun q => (q.1, S.val q.2))) ⟨.hdr (8 * n), [(8 * n, some (.row i.elem ie.size rows))], []⟩ = frzEff S' (deepP (parts.toList.map fun q => (q.1, S.val q.2))) ⟨.hdr (8 * n), [(8 * n, some (.row i.elem ie.size rows))], []⟩ := by
            simp only [frzEff, hfz]
          rw [e1]
          refine does_frz _ (does_buildSlice (parts := parts.toList) (by rw [ho]) hi h1 hie h2 h3 h4 ?_)
          have e2 : (parts.toList.map fun q => (q.1, (S'.upd (frz S' (deepP (parts.toList.map fun q => (q.1, S.val q.2))))).val q.2)) = parts.toList.map fun q => (q.1, S.val q.2) :=
            fill_val (S' := S') (fun q hq => hv' q.2 (by simp only [ho, Op.operands]; exact List.mem_toArray.2 (List.mem_map_of_mem hq)))
          rw [e2, hfz, ← hr]
          refine elems_congr _ _ (fun i hi => ?_)
          rw [upd_obj, upd_obj, hob i hi]
        · exact h.elim
      · exact h.elim
    · exact h.elim
  · next t x ho =>
    generalize hi : tyI P t = q at h
    generalize hv : S.val x = v at h
    unfold kLoad at h
    split at h
    · next i =>
      split at h
      · next id =>
        split at h
        · next t' l hob =>
          refine ⟨⟨ofCells i.agg (l.take i.size), [], [id]⟩, fun S' hv' ho' => ?_, by simpa using h.2⟩
          have := does_load_cells (P := P) (n := n) (S := S') ho hi (x := x) (id := id) (s := 0) (k := 0) (j := 0) (by rw [(hv' x (by simp [ho, Op.operands])), hv]; rfl) ((ho' id (by simp)).trans hob) (by simpa using h.1.1) h.1.2
          simpa using this
        · exact h.elim
      · next id s k j =>
        generalize hob : S.obj id = ob at h
        unfold kLoad2 at h
        split at h
        · exact ⟨_, fun S' hv' ho' => does_load_cells ho hi (by rw [(hv' x (by simp [ho, Op.operands])), hv]; rfl) ((ho' id (by simp)).trans hob) h.1.1 h.1.2, h.2⟩
        · obtain ⟨⟨rfl, h1, h2⟩, h⟩ := h
          unfold kRow at h
          obtain ⟨r, hr, h⟩ := h
          exact ⟨_, fun S' hv' ho' => does_load_row ho hi ((hv' x (by simp [ho, Op.operands])).trans hv) ((ho' id (by simp)).trans hob) rfl hr h1 h2, h⟩
        · obtain ⟨⟨rfl, h1, h2⟩, h⟩ := h
          unfold kRow at h
          obtain ⟨r, hr, h⟩ := h
          exact ⟨_, fun S' hv' ho' => does_load_row ho hi ((hv' x (by simp [ho, Op.operands])).trans hv) ((ho' id (by simp)).trans hob) rfl hr h1 h2, h⟩
        · exact h.elim
      · next s rows k j =>
        obtain ⟨⟨h1, h2⟩, h⟩ := h
        unfold kRow at h
        obtain ⟨r, hr, h⟩ := h
        exact ⟨_, fun S' hv' ho' => does_load_spt ho hi ((hv' x (by simp [ho, Op.operands])).trans hv) hr h1 h2, h⟩
      · exact h.elim
    · exact h.elim
  · next t x y ho =>
    generalize hi : tyI P t = q at h
    generalize hv : S.val x = v at h
    generalize hw : S.val y = vy at h
    unfold kStore at h
    split at h
    · next i =>
      split at h
      · next id =>
        split at h
        · next m hm =>
          generalize hob : S.obj id = ob at h
          unfold kStore2 at h
          split at h
          · exact ⟨_, fun S' hv' ho' => does_store_cells ho hi (id := id) (s := 0) (k := 0) (j := 0) (by rw [(hv' x (by simp [ho, Op.operands])), hv]; rfl) ((ho' id (by simp)).trans hob) (by rw [(hv' y (by simp [ho, Op.operands])), hw]; exact hm) h.1.1 (by simpa using h.1.2), by simpa using h.2⟩
          · exact h.elim
        · exact h.elim
      · next id s k j =>
        generalize hob : S.obj id = ob at h
        unfold kStore3 at h
        split at h
        · next e s' rows =>
          split at h
          · next m hm =>
            obtain ⟨⟨rfl, h1, h2⟩, h⟩ := h
            unfold kSet at h
            obtain ⟨r, hr, h⟩ := h
            exact ⟨_, fun S' hv' ho' => does_store_row ho hi ((hv' x (by simp [ho, Op.operands])).trans hv) ((ho' id (by simp)).trans hob) (by rw [(hv' y (by simp [ho, Op.operands])), hw, elem_congr (fun i hi => ho' i (List.mem_cons_of_mem _ hi))]; exact hm) h1 hr h2, h⟩
          · exact h.elim
        · split at h
          · next m hm =>
            unfold kStore2 at h
            split at h
            · exact ⟨_, fun S' hv' ho' => does_store_cells ho hi (by rw [(hv' x (by simp [ho, Op.operands])), hv]; rfl) ((ho' id (by simp)).trans hob) (by rw [(hv' y (by simp [ho, Op.operands])), hw]; exact hm) h.1.1 h.1.2, h.2⟩
            · exact h.elim
          · exact h.elim
      · exact h.elim
    · exact h.elim
  · next t x f ho =>
    generalize hi : tyI P t = q at h
    generalize hv : S.val x = v at h
    unfold kField at h
    split at h
    · next i =>
      obtain ⟨hk, h⟩ := h
      split at h
      · next off s' hp =>
        obtain ⟨hs, h⟩ := h
        split at h
        · next id =>
          split at h
          · next t' l hob =>
            refine ⟨⟨.ptr id 0 0 off, [], [id]⟩, fun S' hv' ho' => ?_, h⟩
            have := does_fieldAddr (P := P) (n := n) (S := S') ho hi hk hp hs (id := id) (s := 0) (k := 0) (j := 0) (by rw [(hv' x (by simp [ho, Op.operands])), hv]; rfl) ((ho' id (by simp)).trans hob)
            simpa using this
          · exact h.elim
        · exact ⟨_, fun S' hv' ho' => does_fieldAddr_row ho hi hk hp hs ((hv' x (by simp [ho, Op.operands])).trans hv), h⟩
        · exact ⟨_, fun S' hv' ho' => does_fieldAddr_spt ho hi hk hp hs ((hv' x (by simp [ho, Op.operands])).trans hv), h⟩
        · exact h.elim
      · exact h.elim
    · exact h.elim
  · next t x y ho =>
    generalize hi : tyI P t = q at h
    generalize hv : S.val x = v at h
    generalize hu : S.val y = u at h
    unfold kIndex at h
    split at h
    · next i =>
      split at h
      · generalize ha : arrOf P t = qa at h
        unfold kIndexA at h
        split at h
        · next m es =>
          split at h
          · obtain ⟨⟨h0, h1⟩, h⟩ := h
            split at h
            · next id =>
              split at h
              · next hob =>
                refine ⟨⟨.ptr id 0 0 (_), [], [id]⟩, fun S' hv' ho' => ?_, h⟩
                have := does_indexArr (P := P) (n := n) (S := S') ho ha (id := id) (s := 0) (k := 0) (j := 0) (by rw [(hv' x (by simp [ho, Op.operands])), hv]; rfl) ((ho' id (by simp)).trans hob) ((hv' y (by simp [ho, Op.operands])).trans hu) h0 h1
                simpa using this
              · exact h.elim
            · next id s k j =>
              split at h
              · next hob => exact ⟨_, fun S' hv' ho' => does_indexArr ho ha (by rw [(hv' x (by simp [ho, Op.operands])), hv]; rfl) ((ho' id (by simp)).trans hob) ((hv' y (by simp [ho, Op.operands])).trans hu) h0 h1, h⟩
              · exact h.elim
            · exact h.elim
          · exact h.elim
        · exact h.elim
      · obtain ⟨hk, h⟩ := h
        split at h
        · next ie hie =>
          split at h
          · next s rows hor =>
            obtain ⟨hs, h⟩ := h
            split at h
            · obtain ⟨⟨h0, h1⟩, h⟩ := h
              split at h
              · next vv he => exact ⟨_, fun S' hv' ho' => does_indexAddr ho hi hk hie hs ((hv' x (by simp [ho, Op.operands])).trans hv) ((rowsOf_congr ho').trans hor) ((hv' y (by simp [ho, Op.operands])).trans hu) h0 h1 he, h⟩
              · exact h.elim
            · exact h.elim
          · exact h.elim
        · exact h.elim
    · exact h.elim
  · next t x y ho =>
    generalize hd : P.underlying t = d at h
    generalize hv : S.val x = v at h
    generalize hu : S.val y = u at h
    unfold kStrIdx at h
    split at h
    · obtain ⟨rfl, ⟨h0, h1⟩, h⟩ := h
      exact ⟨_, fun S' hv' ho' => does_strIdx ho hd ((hv' x (by simp [ho, Op.operands])).trans hv) ((hv' y (by simp [ho, Op.operands])).trans hu) h0 h1, h⟩
    · exact h.elim
  · next op t x y t2 ho =>
    have h : kBin P o.dst (CN (n + 1)) S op t (S.val x) (S.val y) := by
      unfold kBin0 at h
      split at h
      · next hq => exact absurd hq (hnb op t x y t2 ho)
      · exact h
    generalize hv : S.val x = v at h
    generalize hu : S.val y = u at h
    unfold kBin at h
    split at h
    · split at h
      · next hi => exact ⟨_, fun S' hv' ho' => does_int ho ((hv' x (by simp [ho, Op.operands])).trans hv) ((hv' y (by simp [ho, Op.operands])).trans hu) hi h.1, h.2⟩
      · exact h.elim
    · obtain ⟨ht, h⟩ := h
      split at h
      · exact ⟨_, fun S' hv' ho' => does_eqb ho ht ((hv' x (by simp [ho, Op.operands])).trans hv) ((hv' y (by simp [ho, Op.operands])).trans hu), h⟩
      · exact ⟨_, fun S' hv' ho' => does_neb ho ht ((hv' x (by simp [ho, Op.operands])).trans hv) ((hv' y (by simp [ho, Op.operands])).trans hu), h⟩
      · exact h.elim
    · generalize hk : flatK P t = fk at h
      generalize h1 : rawsOf _ = ra at h
      generalize h2 : rawsOf _ = rb at h
      unfold kEqs at h
      split at h
      · generalize hr : eqV _ _ _ = r at h
        unfold kEqs2 at h
        split at h
        · split at h
          · exact ⟨_, fun S' hv' ho' => does_eqs (op := .eql) ho (.inl rfl) hk ((hv' x (by simp [ho, Op.operands])).trans hv) ((hv' y (by simp [ho, Op.operands])).trans hu) h1 h2 hr, h⟩
          · exact ⟨_, fun S' hv' ho' => does_eqs (op := .neq) ho (.inr rfl) hk ((hv' x (by simp [ho, Op.operands])).trans hv) ((hv' y (by simp [ho, Op.operands])).trans hu) h1 h2 hr, h⟩
          · exact h.elim
        · exact h.elim
      · exact h.elim
    · unfold kShr at h
      split at h
      · exact ⟨_, fun S' hv' ho' => does_shr ho ((hv' x (by simp [ho, Op.operands])).trans hv) ((hv' y (by simp [ho, Op.operands])).trans hu) h.1, h.2⟩
      · exact h.elim
    · generalize hc : cmpOp _ _ _ = q at h
      unfold kCmp at h
      rw [hc] at h
      split at h
      · exact ⟨_, fun S' hv' ho' => does_cmp ho ((hv' x (by simp [ho, Op.operands])).trans hv) ((hv' y (by simp [ho, Op.operands])).trans hu) hc, h⟩
      · split at h
        · exact ⟨_, fun S' hv' ho' => does_sub8 ho ((hv' x (by simp [ho, Op.operands])).trans hv) ((hv' y (by simp [ho, Op.operands])).trans hu) h.1, h.2⟩
        · exact h.elim
    · generalize hc : cmpOp _ _ _ = q at h
      unfold kCmp at h
      rw [hc] at h
      split at h
      · exact ⟨_, fun S' hv' ho' => does_cmp ho ((hv' x (by simp [ho, Op.operands])).trans hv) ((hv' y (by simp [ho, Op.operands])).trans hu) hc, h⟩
      · split at h
        · exact absurd (by assumption : IntKind.i32 = IntKind.u8) (by decide)
        · exact h.elim
    · unfold kCat at h
      split at h
      · exact ⟨_, fun S' hv' ho' => does_strCat ho ((hv' x (by simp [ho, Op.operands])).trans hv) ((hv' y (by simp [ho, Op.operands])).trans hu) h.1, h.2⟩
      · exact h.elim
    · exact h.elim
  · next t x y ho =>
    generalize hi : tyI P t = q at h
    generalize hv : S.val x = v at h
    generalize hu : S.val y = u at h
    unfold kMake at h
    split at h
    · obtain ⟨hk, h⟩ := h
      split at h
      · next ie hie =>
        split at h
        · split at h
          · obtain ⟨⟨rfl, h1, h2, h3⟩, ⟨h4, h5, h6⟩, h⟩ := h
            exact ⟨_, fun S' hv' ho' => does_makeSlice ho hi hk hie h1 h2 (all_one h3) ((hv' x (by simp [ho, Op.operands])).trans hv) ((hv' y (by simp [ho, Op.operands])).trans hu) h4 h5 h6, h⟩
          · exact h.elim
        · exact h.elim
      · exact h.elim
    · exact h.elim
  · next op t x ho =>
    generalize hv : S.val x = v at h
    unfold kUn at h
    split at h
    · split at h
      · exact ⟨_, fun S' hv' ho' => does_not ho ((hv' x (by simp [ho, Op.operands])).trans hv), h⟩
      · exact h.elim
    · split at h
      · exact ⟨_, fun S' hv' ho' => does_neg ho ((hv' x (by simp [ho, Op.operands])).trans hv) h.1, h.2⟩
      · exact h.elim
    · exact h.elim
  · next t u x ho =>
    generalize hi : tyI P t = q at h
    generalize hu : P.underlying u = q2 at h
    generalize hv : S.val x = v at h
    unfold kConv at h
    split at h
    · split at h
      · obtain ⟨⟨hk, he⟩, h⟩ := h
        split at h
        · next hor => exact ⟨_, fun S' hv' ho' => does_byteStr ho hi hk he hu ((hv' x (by simp [ho, Op.operands])).trans hv) ((rowsOf_congr ho').trans hor), h⟩
        · exact h.elim
      · split at h
        · exact ⟨_, fun S' hv' ho' => does_convert ho hi hu ((hv' x (by simp [ho, Op.operands])).trans hv), h⟩
        · exact h.elim
      · exact h.elim
    · exact h.elim
  · next t x f ho =>
    generalize hi : tyI P t = q at h
    generalize hf : (fieldT P t f).bind (tyI P) = q2 at h
    generalize hv : S.val x = v at h
    unfold kPart at h
    split at h
    · obtain ⟨hk, h⟩ := h
      split at h
      · next hp =>
        obtain ⟨hs, h⟩ := h
        split at h
        · obtain ⟨h1, h⟩ := h
          obtain ⟨tf, hft, hfi⟩ := Option.bind_eq_some_iff.1 hf
          split at h
          · exact ⟨_, fun S' hv' ho' => does_field ho hi hk hp hs hft hfi h1 h.1 ((hv' x (by simp [ho, Op.operands])).trans hv), h.2⟩
          · exact h.elim
        · exact h.elim
      · exact h.elim
    · exact h.elim
  · next x k ho =>
    generalize hv : S.val x = v at h
    unfold kExtract at h
    split at h
    · split at h
      · next hk => exact ⟨_, fun S' hv' ho' => does_extract ho ((hv' x (by simp [ho, Op.operands])).trans hv) hk, h⟩
      · exact h.elim
    · exact h.elim
  · next x ho =>
    generalize hv : S.val x = v at h
    unfold kNil at h
    split at h
    · next id =>
      split at h
      · next hob => exact ⟨⟨S.val x, [], [id]⟩, fun S' hv' ho' => by rw [← (hv' x (by simp [ho, Op.operands]))]; exact does_nilCheck (id := id) (s := 0) (k := 0) (j := 0) ho (by rw [(hv' x (by simp [ho, Op.operands])), hv]; rfl) ((ho' id (by simp)).trans hob), by rw [hv]; exact h⟩
      · exact h.elim
    · split at h
      · next hob => exact ⟨⟨S.val x, [], [_]⟩, fun S' hv' ho' => by rw [← (hv' x (by simp [ho, Op.operands]))]; exact does_nilCheck ho (by rw [(hv' x (by simp [ho, Op.operands])), hv]; rfl) ((ho' _ (by simp)).trans hob), by rw [hv]; exact h⟩
      · exact h.elim
    · exact ⟨⟨S.val x, [], []⟩, fun S' hv' ho' => by rw [← (hv' x (by simp [ho, Op.operands]))]; exact does_nilCheck_fn ho ((hv' x (by simp [ho, Op.operands])).trans hv), by rw [hv]; exact h⟩
    · exact h.elim
  · next t x lo hi mx ho =>
    generalize hi' : tyI P t = q at h
    generalize hv : S.val x = v at h
    have hopt : ∀ (S' : AS) (y : Option Operand), (∀ z, y = some z → S'.val z = S.val z) → optInt S' y = optInt S y := fun S' y hy => by
      cases y with
      | none => rfl
      | some z => simp only [optInt]; rw [hy z rfl]
    unfold kSub at h
    split at h
    · next i =>
      obtain ⟨hk, h⟩ := h
      split at h
      · next ie hie =>
        split at h
        · next s rows hor =>
          obtain ⟨hs, h⟩ := h
          split at h
          · next mx0 =>
            unfold kSubNone at h
            rw [hor] at h
            dsimp only at h
            split at h
            · next ql hh mm h1 h2 h3 =>
              obtain ⟨⟨e1, rfl, rfl⟩, h⟩ := h
              exact ⟨_, fun S' hv' ho' => does_sub_none ho hi' hk hie hs ((hv' x (by simp [ho, Op.operands])).trans hv) ((rowsOf_congr ho').trans hor)
                ((hopt S' lo fun z e => hv' z (by subst e; simp [ho, Op.operands])).trans h1) ((hopt S' hi fun z e => hv' z (by subst e; simp [ho, Op.operands])).trans h2) ((hopt S' _ fun z e => hv' z (by rw [ho]; simp [Op.operands, e])).trans h3) e1, h⟩
            · exact h.elim
          · split at h
            · next s' rows' hsee =>
              obtain ⟨rfl, h⟩ := h
              generalize h1 : optInt S lo = q1 at h
              generalize h2 : optInt S hi = q2 at h
              generalize h3 : (some none : Option (Option Int)) = q3 at h
              unfold kSubSl at h
              split at h
              · next ql qh qm =>
                obtain rfl : qm = none := by injection h3 with h3; exact h3.symm
                obtain ⟨hmx, ⟨b0, b1, b2⟩, hm3, h⟩ := h
                refine ⟨_, fun S' hv' ho' => does_sub_sl (rd0 := v.deep) (l := (ql.getD 0).toNat) (h := (qh.getD rows'.length).toNat) ho hi' hk hie hs (by rw [hv' x (by simp [ho, Op.operands]), hv, see_congr v ho']; exact hsee)
                  ((hopt S' lo fun z e => hv' z (by subst e; simp [ho, Op.operands])).trans h1) ((hopt S' hi fun z e => hv' z (by subst e; simp [ho, Op.operands])).trans h2) (qm := none) rfl (fun e => by cases e) (by omega) (by omega) (by omega) (by omega) (fun q e => by cases e), h⟩
              · exact h.elim
            · next id hsee =>
              split at h
              · next e s' rows' hob =>
                obtain ⟨rfl, h⟩ := h
                have hvid : v = .hdr id := by
                  cases v with
                  | hdr id' =>
                    simp only [AS.see] at hsee
                    split at hsee
                    · cases hsee
                    · exact hsee
                  | _ => simp [AS.see] at hsee
                subst hvid
                generalize h1 : optInt S lo = q1 at h
                generalize h2 : optInt S hi = q2 at h
                unfold kSubRow at h
                split at h
                · next ql qh =>
                  split at h
                  · obtain ⟨⟨b1, b2⟩, h⟩ := h
                    exact ⟨_, fun S' hv' ho' => does_trunc (h := (qh.getD rows'.length).toNat) ho hi' hk hie hs ((hv' x (by simp [ho, Op.operands])).trans hv) ((ho' id (by simp)).trans hob)
                      ((hopt S' hi fun z e => hv' z (by subst e; simp [ho, Op.operands])).trans h2) (by omega) (by omega), h⟩
                  · obtain ⟨⟨b0, b1, b2⟩, h⟩ := h
                    exact ⟨_, fun S' hv' ho' => does_view (l := (ql.getD 0).toNat) (h := (qh.getD rows'.length).toNat) ho hi' hk hie hs ((hv' x (by simp [ho, Op.operands])).trans hv) ((ho' id (by simp)).trans hob) rfl
                      ((hopt S' _ fun z e => hv' z (by rw [ho]; simp [Op.operands, e])).trans h1) ((hopt S' hi fun z e => hv' z (by subst e; simp [ho, Op.operands])).trans h2) (by omega) (by omega) (by omega) (by omega), h⟩
                · exact h.elim
              · exact h.elim
            · exact h.elim
        · exact h.elim
      · exact h.elim
    · exact h.elim
  · next f fs xs ho =>
    obtain ⟨h1, h⟩ := h
    exact ⟨⟨.clo f (xs.toList.map S.val), [], []⟩, fun S' hv' ho' => by rw [← map_val (S := S) (S' := S') (fun x hx => hv' x (by simp [ho, Op.operands]; exact .inr (by simpa using hx)))]; exact does_makeFunc (xs := xs.toList) (by rw [ho]; congr; simpa using h1), h⟩
  · next x args ts ho => exact absurd ⟨x, args, ts, ho⟩ hnc
  · next b args ts ho =>
    split at h
    · split at h
      · next x t ha ht =>
        have e1 : args = #[x] := by rw [← Array.toArray_toList (xs := args), ha]
        have e2 : ts = #[t] := by rw [← Array.toArray_toList (xs := ts), ht]
        subst e1; subst e2
        generalize hi : tyI P t = q at h
        generalize hd : P.underlying t = d at h
        generalize hv : S.val x = v at h
        unfold kLenS at h
        split at h
        · obtain ⟨rfl, h⟩ := h
          exact ⟨_, fun S' hv' ho' => does_strLen ho hd ((hv' x (by simp [ho, Op.operands, Call.operands])).trans hv), h⟩
        unfold kLen at h
        split at h
        · obtain ⟨hk, h⟩ := h
          split at h
          · exact ⟨_, fun S' hv' ho' => does_len_raw ho (tyI_slice hi hk) ((hv' x (by simp [ho, Op.operands, Call.operands])).trans hv), h⟩
          · split at h
            · next s rows hor => exact ⟨_, fun S' hv' ho' => does_len ho (tyI_slice hi hk) ((hv' x (by simp [ho, Op.operands, Call.operands])).trans hv) ((rowsOf_congr ho').trans hor), h⟩
            · exact h.elim
        · exact h.elim
      · exact h.elim
    · split at h
      · next x y t u ha ht =>
        have e1 : args = #[x, y] := by rw [← Array.toArray_toList (xs := args), ha]
        have e2 : ts = #[t, u] := by rw [← Array.toArray_toList (xs := ts), ht]
        subst e1; subst e2
        obtain ⟨rfl, h⟩ := h
        generalize hi : tyI P t = q at h
        generalize hv : S.val x = v at h
        generalize hu : S.val y = u at h
        unfold kAppend at h
        split at h
        · obtain ⟨hk, h⟩ := h
          split at h
          · next ie hie =>
            split at h
            · split at h
              · next e s rows s2 rows2 ho1 hor =>
                obtain ⟨⟨he, hs, rfl, h0, hz⟩, ⟨hb, hb2⟩, h⟩ := h
                exact ⟨_, fun S' hv' ho' => does_append ho hi hk he (by rw [← he]; exact hie) hs h0 hz ((hv' x (by simp [ho, Op.operands, Call.operands])).trans hv) ((ho' _ (by simp)).trans ho1) ((hv' y (by simp [ho, Op.operands, Call.operands])).trans hu) ((rowsOf_congr (fun i hi => ho' i (List.mem_cons_of_mem _ hi))).trans hor) hb hb2, h⟩
              · exact h.elim
            · exact h.elim
          · exact h.elim
        · exact h.elim
      · exact h.elim
    · split at h
      · next x y t u ha ht =>
        have e1 : args = #[x, y] := by rw [← Array.toArray_toList (xs := args), ha]
        have e2 : ts = #[t, u] := by rw [← Array.toArray_toList (xs := ts), ht]
        subst e1; subst e2
        generalize hi : tyI P t = q at h
        generalize hv : S.val x = v at h
        generalize hu : S.val y = u2 at h
        unfold kCopy at h
        split at h
        · obtain ⟨hk, h⟩ := h
          split at h
          · next ie hie =>
            split at h
            · next id =>
              split at h
              · next e s rows hob =>
                split at h
                · next s2 rows2 hor =>
                  obtain ⟨⟨h1, rfl, h2⟩, h3, h⟩ := h
                  exact ⟨_, fun S' hv' ho' => does_copy ho hi hk hie h1 h2 ((hv' x (by simp [ho, Op.operands, Call.operands])).trans hv) ((ho' id (by simp)).trans hob) ((hv' y (by simp [ho, Op.operands, Call.operands])).trans hu) ((rowsOf_congr (fun i hi => ho' i (List.mem_cons_of_mem _ hi))).trans hor) h3, h⟩
                · exact h.elim
              · exact h.elim
            · exact h.elim
          · exact h.elim
        · exact h.elim
      · exact h.elim
    · split at h
      · next x t ha ht =>
        have e1 : args = #[x] := by rw [← Array.toArray_toList (xs := args), ha]
        have e2 : ts = #[t] := by rw [← Array.toArray_toList (xs := ts), ht]
        subst e1; subst e2
        generalize hi : tyI P t = q at h
        generalize hv : S.val x = v at h
        unfold kClear at h
        split at h
        · obtain ⟨hk, h⟩ := h
          split at h
          · next ie hie =>
            split at h
            · next id =>
              generalize hob : S.obj id = ob at h
              unfold kClear2 at h
              split at h
              · next e s rows =>
                obtain ⟨⟨h1, h2, h3⟩, h⟩ := h
                dsimp only at h
                refine ⟨⟨.tup [], [(id, some (.row e s (splice rows 0 (List.replicate (rows.length - 0) (ie.zero.map .raw)))))], [id]⟩, fun S' hv' ho' => does_clear ho hi hk hie h1 h2 (all_one h3) (.inl ⟨(hv' x (by simp [ho, Op.operands, Call.operands])).trans hv, rfl, rfl⟩) ((ho' id (by simp)).trans hob) (Nat.zero_le _), h⟩
              · exact h.elim
            · next id s' l hh =>
              generalize hob : S.obj id = ob at h
              unfold kClear2 at h
              split at h
              · next e s rows =>
                obtain ⟨⟨h1, h2, h3⟩, h⟩ := h
                dsimp only at h
                obtain ⟨⟨rfl, h4, h5⟩, h⟩ := h
                exact ⟨_, fun S' hv' ho' => does_clear ho hi hk hie h1 h2 (all_one h3) (.inr ⟨(hv' x (by simp [ho, Op.operands, Call.operands])).trans hv, h5⟩) ((ho' id (by simp)).trans hob) h4, h⟩
              · exact h.elim
            · exact h.elim
          · exact h.elim
        · exact h.elim
      · exact h.elim
    · generalize hl : args.toList.map S.val = l at h
      unfold kMinMax at h
      split at h
      · exact ⟨_, fun S' hv' _ => does_mm (mx := true) ho (a := _) (l := [_]) (by rw [map_val (fun y hy => hv' y (by simp [ho, Op.operands, Call.operands]; simpa using hy)), hl]; rfl), h⟩
      · exact ⟨_, fun S' hv' _ => does_mm (mx := true) ho (a := _) (l := [_, _]) (by rw [map_val (fun y hy => hv' y (by simp [ho, Op.operands, Call.operands]; simpa using hy)), hl]; rfl), h⟩
      · exact ⟨_, fun S' hv' _ => does_mm (mx := true) ho (a := _) (l := [_, _, _]) (by rw [map_val (fun y hy => hv' y (by simp [ho, Op.operands, Call.operands]; simpa using hy)), hl]; rfl), h⟩
      · exact ⟨_, fun S' hv' _ => does_mm (mx := true) ho (a := _) (l := [_, _, _, _]) (by rw [map_val (fun y hy => hv' y (by simp [ho, Op.operands, Call.operands]; simpa using hy)), hl]; rfl), h⟩
      · exact h.elim
    · generalize hl : args.toList.map S.val = l at h
      unfold kMinMax at h
      split at h
      · exact ⟨_, fun S' hv' _ => does_mm (mx := false) ho (a := _) (l := [_]) (by rw [map_val (fun y hy => hv' y (by simp [ho, Op.operands, Call.operands]; simpa using hy)), hl]; rfl), h⟩
      · exact ⟨_, fun S' hv' _ => does_mm (mx := false) ho (a := _) (l := [_, _]) (by rw [map_val (fun y hy => hv' y (by simp [ho, Op.operands, Call.operands]; simpa using hy)), hl]; rfl), h⟩
      · exact ⟨_, fun S' hv' _ => does_mm (mx := false) ho (a := _) (l := [_, _, _]) (by rw [map_val (fun y hy => hv' y (by simp [ho, Op.operands, Call.operands]; simpa using hy)), hl]; rfl), h⟩
      · exact ⟨_, fun S' hv' _ => does_mm (mx := false) ho (a := _) (l := [_, _, _, _]) (by rw [map_val (fun y hy => hv' y (by simp [ho, Op.operands, Call.operands]; simpa using hy)), hl]; rfl), h⟩
      · exact h.elim
    · exact h.elim
  · exact h.elim
/-- an operation for which it is shown, does so; or it calls a round. -/
theorem aop_sound {P : Program} {o : Oper} {S : AS} {n : Nat} {CN : Nat → AS → Prop} (h : aop P o.op o.type o.dst n CN S) : (∃ E, (∀ S', (∀ x ∈ o.op.operands, S'.val x = S.val x) → (∀ i ∈ E.reads, S'.obj i = S.obj i) → DoesAt P o S' n E) ∧ CN (n + 1) (fin o.dst E S)) ∨ (S.lg = none ∧ DoesN P o n CN S) := by
  by_cases hc : ∃ x args ts, o.op = .call { callee := .value x, args := args, argTypes := ts }
  · obtain ⟨x, args, ts, ho⟩ := hc
    have h' : ACall P o.dst n CN S (args.toList.map S.val) (S.val x) := by
      unfold aop at h
      rw [ho] at h
      exact h
    generalize hv : S.val x = v at h'
    unfold ACall at h'
    split at h'
    · obtain ⟨E, hf, h1, h2⟩ := h'
      exact .inl ⟨E, fun S' hv' ho' => does_call ho ((hv' x (by simp [ho, Op.operands, Call.operands])).trans hv) hf ho' (by rw [map_val (fun y hy => hv' y (by simp [ho, Op.operands, Call.operands]; exact .inr (by simpa using hy)))]; exact h1), h2⟩
    · exact .inr ⟨h'.1, h'.2 o x args ts ho rfl rfl hv⟩
    · exact h'.elim
  · by_cases hb : ∃ op t x y u, o.op = .binOp op t x y u ∧ S.val y = .raw (.slice none 0 0)
    · obtain ⟨op, t, x, y, u, ho, hy⟩ := hb
      have h' : kBin0 P o.dst n CN S op t (S.val x) (S.val y) := by
        unfold aop at h
        rw [ho] at h
        exact h
      rw [hy] at h'
      have h' : kNilEq o.dst n CN S op (S.val x) (tyI P t) := h'
      generalize hi : tyI P t = q at h'
      unfold kNilEq at h'
      split at h'
      · next i =>
        obtain ⟨hk, h'⟩ := h'
        split at h'
        · next s rows hor =>
          obtain ⟨hlg, h'⟩ := h'
          refine .inr ⟨hlg, ?_⟩
          intro rd m0 c p ρ a w hd hm hn ha K Q hK
          split at h'
          · refine does_nileq ho (.inl rfl) (tyI_slice hi hk) rfl hor hy rd m0 c p ρ a w hm K Q fun b hb => ?_
            simp only [if_true]
            exact hK _ _ _ ρ _ w (h' b hb) ((Mod.put (S := S.upd []) hm o.dst (v := .raw (.bool b)) (by simp [Rep]) hd).note' _ _) (fun i hi => by have := hn i hi; omega) (ha.put' o.dst _)
          · refine does_nileq ho (.inr rfl) (tyI_slice hi hk) rfl hor hy rd m0 c p ρ a w hm K Q fun b hb => ?_
            rw [if_neg (by decide)]
            exact hK _ _ _ ρ _ w (h' b hb) ((Mod.put (S := S.upd []) hm o.dst (v := .raw (.bool !b)) (by simp [Rep]) hd).note' _ _) (fun i hi => by have := hn i hi; omega) (ha.put' o.dst _)
          · exact h'.elim
        · exact h'.elim
      · exact h'.elim
    · exact .inl (aop_sound0 hc (fun op t x y u ho hy => hb ⟨op, t, x, y, u, ho, hy⟩) h)
end Go.Proofs.Ytiidfcadmdahmaa
