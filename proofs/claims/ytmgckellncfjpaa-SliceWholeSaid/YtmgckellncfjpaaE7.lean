/- ENGINE 7: what is shown as a proposition is so: operations; over any program. -/
import Derived.Test.YtmgckellncfjpaaE6
set_option linter.unusedSimpArgs false
set_option linter.unusedVariables false
namespace Go.Proofs.Ytmgckellncfjpaa
open Go.RowKit

theorem all_one {l : List Value} (h : l.all (·.oneCell') = true) : ∀ u ∈ l, u.oneCell' = true := fun u hu => List.all_eq_true.1 h u hu
theorem run_call_b {P : Program} {o : Oper} {a : Act} {w w' : World} {b : Builtin} {args : Array Operand} {ts : Array TypeId} {v : Value} (ho : o.op = .call { callee := .builtin b, args := args, argTypes := ts }) (h : (builtin b ts o.type (args.map fun | .const _ => true | _ => false) (args.map a.eval)).run P w = .ok (.value v) w') :
    (execOp a.eval o).run P w = .ok (.value v) w' := by
  unfold execOp
  rw [ho]
  simp only [resolve, Sem.run_bind, Sem.run_pure, Result.andThen_ok, invoke]
  exact h
theorem run_max2 {P : Program} {w : World} (a b : Int) (mx : Bool) : ((if mx then Builtin.max2 else Builtin.min2) (.int .i64 a) (.int .i64 b)).run P w = .ok (.int .i64 (if mx then max a b else min a b)) w := by
  cases mx
  · simp only [Bool.false_eq_true, if_false, Builtin.min2, Sem.run_pure]
    congr 2
    simp only [Int.min_def]
    split <;> split <;> omega
  · simp only [if_true, Builtin.max2, Sem.run_pure]
    congr 2
    simp only [Int.max_def]
    split <;> split <;> omega
/-- the greatest, the least one of some. -/
def mmAll (mx : Bool) (a : Int) (l : List Int) : Int := l.foldl (fun x y => if mx then max x y else min x y) a
theorem run_mm {P : Program} {w : World} (mx : Bool) : ∀ (l : List Int) (a : Int), ((l.map (Value.int .i64)).foldlM (if mx then Builtin.max2 else Builtin.min2) (.int .i64 a)).run P w = .ok (.int .i64 (mmAll mx a l)) w
  | [], a => by simp [mmAll]
  | b :: l, a => by
    simp only [List.map_cons, List.foldlM_cons, Sem.run_bind, run_max2, Result.andThen_ok]
    rw [run_mm mx l]
    rfl
theorem does_mm {P : Program} {o : Oper} {S : AS} {n : Nat} {args : Array Operand} {ts : Array TypeId} {mx : Bool} {a : Int} {l : List Int} (ho : o.op = .call { callee := .builtin (if mx then .max else .min), args := args, argTypes := ts })
    (h : args.toList.map S.val = (.raw (.int .i64 a)) :: l.map (fun x => .raw (.int .i64 x))) : DoesAt P o S n ⟨.raw (.int .i64 (mmAll mx a l)), [], []⟩ :=
  does_pure rfl fun c p ρ ac w hm => by
    have h1 : ∀ (xs : List Operand) (ys : List Int), xs.map S.val = ys.map (fun x => .raw (.int .i64 x)) → xs.map ac.eval = ys.map (Value.int .i64) := by
      intro xs
      induction xs with
      | nil => intro ys e; cases ys <;> simp_all
      | cons x xs ih =>
        intro ys e
        cases ys with
        | nil => simp at e
        | cons y ys =>
          simp only [List.map_cons, List.cons.injEq] at e ⊢
          exact ⟨hm.raw e.1, ih ys e.2⟩
    have h2 := h1 args.toList (a :: l) (by simpa using h)
    refine ⟨.int .i64 (mmAll mx a l), run_call_b ho ?_, by simp [Rep]⟩
    have h3 := run_mm (P := P) (w := w) mx l a
    cases mx
    · simp only [Bool.false_eq_true, if_false, builtin] at h3 ⊢
      refine run_v ?_
      simp only [Builtin.min_, Array.toList_map, h2, List.map_cons]
      exact h3
    · simp only [if_true, builtin] at h3 ⊢
      refine run_v ?_
      simp only [Builtin.max_, Array.toList_map, h2, List.map_cons]
      exact h3

theorem does_call {P : Program} {o : Oper} {S : AS} {n : Nat} {E : Eff} {f : FuncId} {x : Operand} {args : Array Operand} {ts : Array TypeId} {caps : List AV} (ho : o.op = .call { callee := .value x, args := args, argTypes := ts }) (hx : S.val x = .clo (.func f) caps)
    (hf : fnB P f = true) {S0 : AS} (hag : ∀ i ∈ E.reads, S.obj i = S0.obj i) (h : CallOk P f (args.toList.map S.val ++ caps) S0 n E) : DoesAt P o S n E := by
  intro c p ρ a w hm hn K Q hK
  have hv := hm.val x
  rw [hx] at hv
  simp only [Rep] at hv
  obtain ⟨cs, e, hcs⟩ := hv
  have hargs : ∀ l : List Operand, RepL ρ (l.map S.val) (l.map a.eval) := by
    intro l
    induction l with
    | nil => simp [RepL]
    | cons y l ih => simp only [List.map_cons, RepL]; exact ⟨hm.val y, ih⟩
  have hc := h S hag c p ρ a.tmps w (args.toList.map a.eval ++ cs) hm hn ((hargs _).append hcs)
  obtain ⟨fn, h1, h2, h3⟩ : ∃ fn, P.funcs[f]? = some fn ∧ fn.name ≠ "runtime.NumGoroutine" ∧ fn.body.isSome = true := by
    unfold fnB at hf
    cases h1 : P.funcs[f]? with
    | none => rw [h1] at hf; simp at hf
    | some fn => rw [h1] at hf; simp at hf; exact ⟨fn, rfl, hf.1, by simpa using hf.2⟩
  have hr : (execOp a.eval o).run P w = .ok (.enter f (args.toList.map a.eval ++ cs).toArray) w := by
    unfold execOp
    rw [ho]
    have h4 : ¬ fn.body = none := fun e => by rw [e] at h3; simp at h3
    simp [resolve, e, Deferred.ofValue, invoke, callFunc, h1, h2, h4]
  unfold Oper.wp
  rw [hr]
  simp only [Oper.upon]
  refine hc.mono ?_
  rintro e' w' ⟨v, ρ', rfl, hm', hv'⟩
  exact hK v ρ' w' hm' hv'

theorem ofV_raw {S : AS} {x : Operand} {v : AV} (h : S.val x = v) : S.val x = v := h

theorem map_val {S S' : AS} {l : List Operand} (h : ∀ x ∈ l, S'.val x = S.val x) : l.map S'.val = l.map S.val := List.map_congr_left h
theorem fill_val {S S' : AS} {l : List (Nat × Operand)} (h : ∀ q ∈ l, S'.val q.2 = S.val q.2) : (l.map fun q => (q.1, S'.val q.2)) = l.map fun q => (q.1, S.val q.2) := List.map_congr_left fun q hq => by rw [h q hq]
theorem rowsOf_val {S S' : AS} {s : Nat} : ∀ (l : List (Nat × Operand)) (k : Nat), (∀ q ∈ l, S'.val q.2 = S.val q.2) → rowsOf S' s k l = rowsOf S s k l
  | [], _, _ => rfl
  | (i, x) :: l, k, h => by
    simp only [rowsOf]
    rw [h (i, x) (by simp), rowsOf_val l (k + 1) (fun q hq => h q (by simp [hq]))]

set_option maxHeartbeats 1000000 in
/-- an operation for which it is shown, does so. -/
theorem aop_sound {P : Program} {o : Oper} {S : AS} {n : Nat} {C : AS → Prop} (h : aop P o.op o.type o.dst n C S) : ∃ E, (∀ S', (∀ x ∈ o.op.operands, S'.val x = S.val x) → (∀ i ∈ E.reads, S'.obj i = S.obj i) → DoesAt P o S' n E) ∧ C (fin o.dst E S) := by
  unfold aop at h
  split at h
  · next x ho =>
    generalize hv : S.val x = v at h
    unfold kMove at h
    split at h
    · split at h
      · next i hi =>
        split at h
        · next ie hie => exact ⟨_, fun S' hv' ho' => does_nil (.inl ho) hi hie ((hv' x (by simp [ho, Op.operands])).trans hv), h⟩
        · exact h.elim
      · exact h.elim
    · exact ⟨⟨S.val x, [], []⟩, fun S' hv' ho' => by rw [← (hv' x (by simp [ho, Op.operands]))]; exact does_move x (.inl ho), by rw [hv]; exact h⟩
  · next x ho =>
    generalize hv : S.val x = v at h
    unfold kMove at h
    split at h
    · split at h
      · next i hi =>
        split at h
        · next ie hie => exact ⟨_, fun S' hv' ho' => does_nil (.inr ho) hi hie ((hv' x (by simp [ho, Op.operands])).trans hv), h⟩
        · exact h.elim
      · exact h.elim
    · exact ⟨⟨S.val x, [], []⟩, fun S' hv' ho' => by rw [← (hv' x (by simp [ho, Op.operands]))]; exact does_move x (.inr ho), by rw [hv]; exact h⟩
  · next c x y ho =>
    generalize hv : S.val c = v at h
    unfold kPick at h
    split at h
    · next t =>
      cases t with
      | true => exact ⟨⟨S.val x, [], []⟩, fun S' hv' ho' => by rw [← (hv' x (by simp [ho, Op.operands]))]; exact does_pick (t := true) ho ((hv' c (by simp [ho, Op.operands])).trans hv), h.1 rfl⟩
      | false => exact ⟨⟨S.val y, [], []⟩, fun S' hv' ho' => by rw [← (hv' y (by simp [ho, Op.operands]))]; exact does_pick (t := false) ho ((hv' c (by simp [ho, Op.operands])).trans hv), h.2 rfl⟩
    · exact h.elim
  · next t ho =>
    generalize hi : tyI P t = q at h
    unfold kAlloc at h
    split at h
    · exact ⟨_, fun _ _ _ => does_alloc ho hi (all_one h.1), h.2⟩
    · exact h.elim
  · next t x ho =>
    generalize hi : cellsOf (S.val x) = q at h
    unfold kBox at h
    split at h
    · exact ⟨_, fun S' hv' ho' => does_box ho (by rw [(hv' x (by simp [ho, Op.operands]))]; exact hi), h⟩
    · exact h.elim
  · next t parts ho =>
    generalize hi : tyI P t = q at h
    unfold kBuild at h
    split at h
    · obtain ⟨⟨h1, h2, h3⟩, h⟩ := h
      have h2 := fun q hq => of_decide_eq_true (List.all_eq_true.1 h2 q hq)
      split at h
      · next l hl => exact ⟨_, fun S' hv' ho' => does_build (parts := parts.toList) (by rw [ho]) hi h1 h2 (all_one h3) (by rw [fill_val (fun q hq => hv' q.2 (by simp only [ho, Op.operands]; exact List.mem_toArray.2 (List.mem_map_of_mem hq)))]; exact hl), h⟩
      · exact h.elim
    · exact h.elim
  · next t m parts ho =>
    generalize hi : tyI P t = q at h
    unfold kSlice at h
    split at h
    · split at h
      · next ie hie =>
        obtain ⟨⟨h1, h2, h3, h4⟩, h⟩ := h
        split at h
        · next rows hr => exact ⟨_, fun S' hv' ho' => does_buildSlice (parts := parts.toList) (by rw [ho]) hi h1 hie h2 h3 h4 (by rw [rowsOf_val _ _ (fun q hq => hv' q.2 (by simp only [ho, Op.operands]; exact List.mem_toArray.2 (List.mem_map_of_mem hq)))]; exact hr), h⟩
        · exact h.elim
      · exact h.elim
    · exact h.elim
  · next t x ho =>
    generalize hi : tyI P t = q at h
    generalize hv : S.val x = v at h
    unfold kLoad at h
    split at h
    · next i =>
      split at h
      · next id =>
        split at h
        · next t' l hob =>
          refine ⟨⟨ofCells i.agg (l.take i.size), [], [id]⟩, fun S' hv' ho' => ?_, by simpa using h.2⟩
          have := does_load_cells (P := P) (n := n) (S := S') ho hi (x := x) (id := id) (s := 0) (k := 0) (j := 0) (by rw [(hv' x (by simp [ho, Op.operands])), hv]; rfl) ((ho' id (by simp)).trans hob) (by simpa using h.1.1) h.1.2
          simpa using this
        · exact h.elim
      · next id s k j =>
        generalize hob : S.obj id = ob at h
        unfold kLoad2 at h
        split at h
        · exact ⟨_, fun S' hv' ho' => does_load_cells ho hi (by rw [(hv' x (by simp [ho, Op.operands])), hv]; rfl) ((ho' id (by simp)).trans hob) h.1.1 h.1.2, h.2⟩
        · obtain ⟨⟨rfl, h1, h2⟩, h⟩ := h
          unfold kRow at h
          obtain ⟨r, hr, h⟩ := h
          exact ⟨_, fun S' hv' ho' => does_load_row ho hi ((hv' x (by simp [ho, Op.operands])).trans hv) ((ho' id (by simp)).trans hob) rfl hr h1 h2, h⟩
        · obtain ⟨⟨rfl, h1, h2⟩, h⟩ := h
          unfold kRow at h
          obtain ⟨r, hr, h⟩ := h
          exact ⟨_, fun S' hv' ho' => does_load_row ho hi ((hv' x (by simp [ho, Op.operands])).trans hv) ((ho' id (by simp)).trans hob) rfl hr h1 h2, h⟩
        · exact h.elim
      · exact h.elim
    · exact h.elim
  · next t x y ho =>
    generalize hi : tyI P t = q at h
    generalize hv : S.val x = v at h
    generalize hm : cellsOf (S.val y) = m at h
    unfold kStore at h
    split at h
    · next i =>
      split at h
      · next m =>
        split at h
        · next id =>
          generalize hob : S.obj id = ob at h
          unfold kStore2 at h
          split at h
          · exact ⟨_, fun S' hv' ho' => does_store_cells ho hi (id := id) (s := 0) (k := 0) (j := 0) (by rw [(hv' x (by simp [ho, Op.operands])), hv]; rfl) ((ho' id (by simp)).trans hob) (by rw [(hv' y (by simp [ho, Op.operands]))]; exact hm) h.1.1 (by simpa using h.1.2), by simpa using h.2⟩
          · exact h.elim
        · next id s k j =>
          generalize hob : S.obj id = ob at h
          unfold kStore2 at h
          split at h
          · exact ⟨_, fun S' hv' ho' => does_store_cells ho hi (by rw [(hv' x (by simp [ho, Op.operands])), hv]; rfl) ((ho' id (by simp)).trans hob) (by rw [(hv' y (by simp [ho, Op.operands]))]; exact hm) h.1.1 h.1.2, h.2⟩
          · exact h.elim
        · exact h.elim
      · exact h.elim
    · exact h.elim
  · next t x f ho =>
    generalize hi : tyI P t = q at h
    generalize hv : S.val x = v at h
    unfold kField at h
    split at h
    · next i =>
      obtain ⟨hk, h⟩ := h
      split at h
      · next off s' hp =>
        obtain ⟨hs, h⟩ := h
        split at h
        · next id =>
          split at h
          · next t' l hob =>
            refine ⟨⟨.ptr id 0 0 off, [], [id]⟩, fun S' hv' ho' => ?_, h⟩
            have := does_fieldAddr (P := P) (n := n) (S := S') ho hi hk hp hs (id := id) (s := 0) (k := 0) (j := 0) (by rw [(hv' x (by simp [ho, Op.operands])), hv]; rfl) ((ho' id (by simp)).trans hob)
            simpa using this
          · exact h.elim
        · exact ⟨_, fun S' hv' ho' => does_fieldAddr_row ho hi hk hp hs ((hv' x (by simp [ho, Op.operands])).trans hv), h⟩
        · exact h.elim
      · exact h.elim
    · exact h.elim
  · next t x y ho =>
    generalize hi : tyI P t = q at h
    generalize hv : S.val x = v at h
    generalize hu : S.val y = u at h
    unfold kIndex at h
    split at h
    · next i =>
      obtain ⟨hk, h⟩ := h
      split at h
      · next ie hie =>
        split at h
        · next id =>
          split at h
          · next s rows hor =>
            obtain ⟨hs, h⟩ := h
            split at h
            · obtain ⟨ob, hob, hr⟩ := Option.bind_eq_some_iff.1 hor
              exact ⟨_, fun S' hv' ho' => does_indexAddr ho hi hk hie hs ((hv' x (by simp [ho, Op.operands])).trans hv) ((ho' id (by simp)).trans hob) hr ((hv' y (by simp [ho, Op.operands])).trans hu) h.1.1 h.1.2, h.2⟩
            · exact h.elim
          · exact h.elim
        · exact h.elim
      · exact h.elim
    · exact h.elim
  · next op t x y t2 ho =>
    generalize hv : S.val x = v at h
    generalize hu : S.val y = u at h
    unfold kBin at h
    split at h
    · split at h
      · next hi => exact ⟨_, fun S' hv' ho' => does_int ho ((hv' x (by simp [ho, Op.operands])).trans hv) ((hv' y (by simp [ho, Op.operands])).trans hu) hi h.1, h.2⟩
      · exact h.elim
    · obtain ⟨ht, h⟩ := h
      split at h
      · exact ⟨_, fun S' hv' ho' => does_eqb ho ht ((hv' x (by simp [ho, Op.operands])).trans hv) ((hv' y (by simp [ho, Op.operands])).trans hu), h⟩
      · exact ⟨_, fun S' hv' ho' => does_neb ho ht ((hv' x (by simp [ho, Op.operands])).trans hv) ((hv' y (by simp [ho, Op.operands])).trans hu), h⟩
      · exact h.elim
    · generalize hk : flatK P t = fk at h
      generalize h1 : rawsOf _ = ra at h
      generalize h2 : rawsOf _ = rb at h
      unfold kEqs at h
      split at h
      · generalize hr : eqV _ _ _ = r at h
        unfold kEqs2 at h
        split at h
        · split at h
          · exact ⟨_, fun S' hv' ho' => does_eqs (op := .eql) ho (.inl rfl) hk ((hv' x (by simp [ho, Op.operands])).trans hv) ((hv' y (by simp [ho, Op.operands])).trans hu) h1 h2 hr, h⟩
          · exact ⟨_, fun S' hv' ho' => does_eqs (op := .neq) ho (.inr rfl) hk ((hv' x (by simp [ho, Op.operands])).trans hv) ((hv' y (by simp [ho, Op.operands])).trans hu) h1 h2 hr, h⟩
          · exact h.elim
        · exact h.elim
      · exact h.elim
    · unfold kShr at h
      split at h
      · exact ⟨_, fun S' hv' ho' => does_shr ho ((hv' x (by simp [ho, Op.operands])).trans hv) ((hv' y (by simp [ho, Op.operands])).trans hu) h.1, h.2⟩
      · exact h.elim
    · exact h.elim
  · next op t x ho =>
    generalize hv : S.val x = v at h
    unfold kUn at h
    split at h
    · split at h
      · exact ⟨_, fun S' hv' ho' => does_not ho ((hv' x (by simp [ho, Op.operands])).trans hv), h⟩
      · exact h.elim
    · split at h
      · exact ⟨_, fun S' hv' ho' => does_neg ho ((hv' x (by simp [ho, Op.operands])).trans hv) h.1, h.2⟩
      · exact h.elim
    · exact h.elim
  · next t u x ho =>
    generalize hi : tyI P t = q at h
    generalize hu : P.underlying u = q2 at h
    generalize hv : S.val x = v at h
    unfold kConv at h
    split at h
    · split at h
      · split at h
        · exact ⟨_, fun S' hv' ho' => does_convert ho hi hu ((hv' x (by simp [ho, Op.operands])).trans hv), h⟩
        · exact h.elim
      · exact h.elim
    · exact h.elim
  · next t x f ho =>
    generalize hi : tyI P t = q at h
    generalize hf : (fieldT P t f).bind (tyI P) = q2 at h
    generalize hv : S.val x = v at h
    unfold kPart at h
    split at h
    · obtain ⟨hk, h⟩ := h
      split at h
      · next hp =>
        obtain ⟨hs, h⟩ := h
        split at h
        · obtain ⟨h1, h⟩ := h
          obtain ⟨tf, hft, hfi⟩ := Option.bind_eq_some_iff.1 hf
          split at h
          · exact ⟨_, fun S' hv' ho' => does_field ho hi hk hp hs hft hfi h1 h.1 ((hv' x (by simp [ho, Op.operands])).trans hv), h.2⟩
          · exact h.elim
        · exact h.elim
      · exact h.elim
    · exact h.elim
  · next x k ho =>
    generalize hv : S.val x = v at h
    unfold kExtract at h
    split at h
    · split at h
      · next hk => exact ⟨_, fun S' hv' ho' => does_extract ho ((hv' x (by simp [ho, Op.operands])).trans hv) hk, h⟩
      · exact h.elim
    · exact h.elim
  · next x ho =>
    generalize hv : S.val x = v at h
    unfold kNil at h
    split at h
    · next id =>
      split at h
      · next hob => exact ⟨⟨S.val x, [], [id]⟩, fun S' hv' ho' => by rw [← (hv' x (by simp [ho, Op.operands]))]; exact does_nilCheck (id := id) (s := 0) (k := 0) (j := 0) ho (by rw [(hv' x (by simp [ho, Op.operands])), hv]; rfl) ((ho' id (by simp)).trans hob), by rw [hv]; exact h⟩
      · exact h.elim
    · split at h
      · next hob => exact ⟨⟨S.val x, [], [_]⟩, fun S' hv' ho' => by rw [← (hv' x (by simp [ho, Op.operands]))]; exact does_nilCheck ho (by rw [(hv' x (by simp [ho, Op.operands])), hv]; rfl) ((ho' _ (by simp)).trans hob), by rw [hv]; exact h⟩
      · exact h.elim
    · exact ⟨⟨S.val x, [], []⟩, fun S' hv' ho' => by rw [← (hv' x (by simp [ho, Op.operands]))]; exact does_nilCheck_fn ho ((hv' x (by simp [ho, Op.operands])).trans hv), by rw [hv]; exact h⟩
    · exact h.elim
  · next t x lo hi mx ho =>
    generalize hi' : tyI P t = q at h
    generalize hv : S.val x = v at h
    generalize h1 : optInt S lo = q1 at h
    generalize h2 : optInt S hi = q2 at h
    generalize h3 : optInt S mx = q3 at h
    have hopt : ∀ (S' : AS) (y : Option Operand), (∀ z, y = some z → S'.val z = S.val z) → optInt S' y = optInt S y := fun S' y hy => by
      cases y with
      | none => rfl
      | some z => simp only [optInt]; rw [hy z rfl]
    unfold kSub at h
    split at h
    · obtain ⟨hk, h⟩ := h
      split at h
      · next ie hie =>
        split at h
        · next id =>
          split at h
          · next ob hob =>
            split at h
            · next s rows hor =>
              split at h
              · next ql qh qm =>
                obtain ⟨hs, hmx, ⟨b0, b1, b2⟩, hm3, h⟩ := h
                refine ⟨_, fun S' hv' ho' => does_slice (l := (ql.getD 0).toNat) (h := (qh.getD rows.length).toNat) ho hi' hk hie hs ((hv' x (by simp [ho, Op.operands])).trans hv) ((ho' id (by simp)).trans hob) hor
                  ((hopt S' lo fun z e => hv' z (by subst e; simp [ho, Op.operands])).trans h1) ((hopt S' hi fun z e => hv' z (by subst e; simp [ho, Op.operands])).trans h2) ((hopt S' mx fun z e => hv' z (by subst e; simp [ho, Op.operands])).trans h3) hmx (by omega) (by omega) (by omega) (by omega) (fun q e => ?_), h⟩
                subst e
                dsimp only at hm3
                omega
              · exact h.elim
            · exact h.elim
          · exact h.elim
        · exact h.elim
      · exact h.elim
    · exact h.elim
  · next f fs xs ho =>
    obtain ⟨h1, h⟩ := h
    exact ⟨⟨.clo f (xs.toList.map S.val), [], []⟩, fun S' hv' ho' => by rw [← map_val (S := S) (S' := S') (fun x hx => hv' x (by simp [ho, Op.operands]; exact .inr (by simpa using hx)))]; exact does_makeFunc (xs := xs.toList) (by rw [ho]; congr; simpa using h1), h⟩
  · next x args ts ho =>
    generalize hv : S.val x = v at h
    unfold ACall at h
    split at h
    · obtain ⟨E, hf, h1, h2⟩ := h
      exact ⟨E, fun S' hv' ho' => does_call ho ((hv' x (by simp [ho, Op.operands, Call.operands])).trans hv) hf ho' (by rw [map_val (fun y hy => hv' y (by simp [ho, Op.operands, Call.operands]; exact .inr (by simpa using hy)))]; exact h1), h2⟩
    · exact h.elim
  · next b args ts ho =>
    split at h
    · split at h
      · next x t ha ht =>
        have e1 : args = #[x] := by rw [← Array.toArray_toList (xs := args), ha]
        have e2 : ts = #[t] := by rw [← Array.toArray_toList (xs := ts), ht]
        subst e1; subst e2
        generalize hi : tyI P t = q at h
        generalize hv : S.val x = v at h
        unfold kLen at h
        split at h
        · obtain ⟨hk, h⟩ := h
          split at h
          · split at h
            · next s rows hor =>
              obtain ⟨ob, hob, hr⟩ := Option.bind_eq_some_iff.1 hor
              exact ⟨_, fun S' hv' ho' => does_len ho (tyI_slice hi hk) ((hv' x (by simp [ho, Op.operands, Call.operands])).trans hv) ((ho' _ (by simp)).trans hob) hr rfl, h⟩
            · exact h.elim
          · exact ⟨_, fun S' hv' ho' => does_len_raw ho (tyI_slice hi hk) ((hv' x (by simp [ho, Op.operands, Call.operands])).trans hv), h⟩
          · exact h.elim
        · exact h.elim
      · exact h.elim
    · split at h
      · next x y t u ha ht =>
        have e1 : args = #[x, y] := by rw [← Array.toArray_toList (xs := args), ha]
        have e2 : ts = #[t, u] := by rw [← Array.toArray_toList (xs := ts), ht]
        subst e1; subst e2
        obtain ⟨rfl, h⟩ := h
        generalize hi : tyI P t = q at h
        generalize hv : S.val x = v at h
        generalize hu : S.val y = u at h
        unfold kAppend at h
        split at h
        · obtain ⟨hk, h⟩ := h
          split at h
          · next ie hie =>
            split at h
            · split at h
              · next e s rows s2 rows2 ho1 hor =>
                obtain ⟨⟨he, hs, rfl, h0, hz, hne⟩, ⟨hb, hb2⟩, h⟩ := h
                obtain ⟨ob, hob, hr⟩ := Option.bind_eq_some_iff.1 hor
                exact ⟨_, fun S' hv' ho' => does_append ho hi hk he (by rw [← he]; exact hie) hs h0 hz ((hv' x (by simp [ho, Op.operands, Call.operands])).trans hv) ((ho' _ (by simp)).trans ho1) ((hv' y (by simp [ho, Op.operands, Call.operands])).trans hu) ((ho' _ (by simp)).trans hob) hr hne hb hb2, h⟩
              · exact h.elim
            · exact h.elim
          · exact h.elim
        · exact h.elim
      · exact h.elim
    · generalize hl : args.toList.map S.val = l at h
      unfold kMinMax at h
      split at h
      · exact ⟨_, fun S' hv' _ => does_mm (mx := true) ho (a := _) (l := [_]) (by rw [map_val (fun y hy => hv' y (by simp [ho, Op.operands, Call.operands]; simpa using hy)), hl]; rfl), h⟩
      · exact ⟨_, fun S' hv' _ => does_mm (mx := true) ho (a := _) (l := [_, _]) (by rw [map_val (fun y hy => hv' y (by simp [ho, Op.operands, Call.operands]; simpa using hy)), hl]; rfl), h⟩
      · exact ⟨_, fun S' hv' _ => does_mm (mx := true) ho (a := _) (l := [_, _, _]) (by rw [map_val (fun y hy => hv' y (by simp [ho, Op.operands, Call.operands]; simpa using hy)), hl]; rfl), h⟩
      · exact ⟨_, fun S' hv' _ => does_mm (mx := true) ho (a := _) (l := [_, _, _, _]) (by rw [map_val (fun y hy => hv' y (by simp [ho, Op.operands, Call.operands]; simpa using hy)), hl]; rfl), h⟩
      · exact h.elim
    · generalize hl : args.toList.map S.val = l at h
      unfold kMinMax at h
      split at h
      · exact ⟨_, fun S' hv' _ => does_mm (mx := false) ho (a := _) (l := [_]) (by rw [map_val (fun y hy => hv' y (by simp [ho, Op.operands, Call.operands]; simpa using hy)), hl]; rfl), h⟩
      · exact ⟨_, fun S' hv' _ => does_mm (mx := false) ho (a := _) (l := [_, _]) (by rw [map_val (fun y hy => hv' y (by simp [ho, Op.operands, Call.operands]; simpa using hy)), hl]; rfl), h⟩
      · exact ⟨_, fun S' hv' _ => does_mm (mx := false) ho (a := _) (l := [_, _, _]) (by rw [map_val (fun y hy => hv' y (by simp [ho, Op.operands, Call.operands]; simpa using hy)), hl]; rfl), h⟩
      · exact ⟨_, fun S' hv' _ => does_mm (mx := false) ho (a := _) (l := [_, _, _, _]) (by rw [map_val (fun y hy => hv' y (by simp [ho, Op.operands, Call.operands]; simpa using hy)), hl]; rfl), h⟩
      · exact h.elim
    · exact h.elim
  · exact h.elim
end Go.Proofs.Ytmgckellncfjpaa
