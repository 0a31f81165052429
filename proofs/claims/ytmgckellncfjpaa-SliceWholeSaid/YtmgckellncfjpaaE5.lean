/- ENGINE 5: what is put together; rows; over any program. -/
import Derived.Test.YtmgckellncfjpaaE4
set_option linter.unusedSimpArgs false
set_option linter.unusedVariables false
namespace Go.Proofs.Ytmgckellncfjpaa
open Go.RowKit

theorem splice_len {α : Type} {l m : List α} {k : Nat} (h : k + m.length ≤ l.length) : (splice l k m).length = l.length := by
  unfold splice; simp; omega
theorem splice_cons {α : Type} (l : List α) (k : Nat) (u : α) (m : List α) (h : k + 1 + m.length ≤ l.length) : splice (l.set k u) (k + 1) m = splice l k (u :: m) := by
  unfold splice
  have e1 : (l.set k u).take (k + 1) = l.take k ++ [u] := by
    rw [List.take_succ_eq_append_getElem (by simp; omega), List.take_set_of_le (Nat.le_refl _)]
    simp
  have e2 : (l.set k u).drop (k + 1 + m.length) = l.drop (k + (u :: m).length) := by
    rw [List.drop_set_of_lt (by omega)]
    simp [Nat.add_assoc, Nat.add_comm 1]
  rw [e1, e2]
  simp
theorem splice_nil {α : Type} (l : List α) (k : Nat) : splice l k [] = l := by simp [splice]
theorem fold_set (off : Nat) : ∀ (us : List Value) (k : Nat) (arr : Array Value), off + k + us.length ≤ arr.size →
    (us.zipIdx k).foldl (fun cs (p : Value × Nat) => cs.setIfInBounds (off + p.2) p.1) arr = (splice arr.toList (off + k) us).toArray
  | [], k, arr, _ => by simp [splice_nil]
  | u :: us, k, arr, h => by
    simp only [List.length_cons] at h
    rw [List.zipIdx_cons, List.foldl_cons, fold_set off us (k + 1) _ (by simp; omega)]
    have : (arr.setIfInBounds (off + k) u).toList = arr.toList.set (off + k) u := by simp
    rw [this, ← Nat.add_assoc, splice_cons _ _ _ _ (by simp; omega)]

/-- parts laid into cells. -/
def fillA (places : Nat → Option (Nat × Nat)) : List AV → List (Nat × AV) → Option (List AV)
  | l, [] => some l
  | l, (i, v) :: rest => match places i, cellsOf v with
    | some (off, s), some m => if m.length = s ∧ off + s ≤ l.length then fillA places (splice l off m) rest else none
    | _, _ => none
theorem fill_sound {c : Ctx} {p : Nat → Prop} {ρ : Env} {S : AS} {a : Act} {w : World} (hm : Mod c p ρ S a.tmps w) (places : Nat → Option (Nat × Nat)) : ∀ (parts : List (Nat × Operand)) (l l' : List AV) (cs : List Value), RepL ρ l cs → (∀ u ∈ cs, u.oneCell' = true) →
    fillA places l (parts.map fun q => (q.1, S.val q.2)) = some l' → ∃ cs' : List Value, Instr.fill places cs.toArray (parts.map fun q => (q.1, a.eval q.2)) = some cs'.toArray ∧ RepL ρ l' cs' ∧ ∀ u ∈ cs', u.oneCell' = true
  | [], l, l', cs, hr, h1, hf => by
    simp only [List.map_nil, fillA, Option.some.injEq] at hf
    subst hf
    exact ⟨cs, rfl, hr, h1⟩
  | (i, x) :: parts, l, l', cs, hr, h1, hf => by
    simp only [List.map_cons, fillA] at hf
    cases hp : places i with
    | none => rw [hp] at hf; simp at hf
    | some q =>
      obtain ⟨off, s⟩ := q
      cases hc : cellsOf (S.val x) with
      | none => rw [hp, hc] at hf; simp at hf
      | some m =>
        rw [hp, hc] at hf
        dsimp only at hf
        split at hf
        · next hl =>
          obtain ⟨us, e1, hru, hu1⟩ := cells_of hm hc (hm.val x)
          have hlu := hru.length
          have hlc := hr.length
          obtain ⟨cs', h2, h3, h4⟩ := fill_sound hm places parts _ l' (splice cs off us) (hr.splice hru off) (fun u hu => by
            unfold splice at hu
            rcases List.mem_append.1 hu with h | h
            · rcases List.mem_append.1 h with h | h
              · exact h1 u (List.mem_of_mem_take h)
              · exact hu1 u h
            · exact h1 u (List.mem_of_mem_drop h)) hf
          refine ⟨cs', ?_, h3, h4⟩
          simp only [List.map_cons, Instr.fill, hp, e1]
          have h5 : us.toArray.size = s := by simp; omega
          have h6 : ¬ (off + us.toArray.size > cs.toArray.size) := by simp; omega
          have h7 := fold_set off us 0 cs.toArray (by simp; omega)
          simp only [Nat.add_zero] at h7
          have h8 : us.toArray.zipIdx.foldl (fun cs (x : Value × Nat) => cs.setIfInBounds (off + x.2) x.1) cs.toArray = (splice cs off us).toArray := by
            rw [← h7]
            simp
          rw [← h2]
          simp only [h5, ne_eq, not_true, decide_false, Bool.false_or, decide_eq_true_eq]
          rw [if_neg (by rw [h5] at h6; exact h6)]
          exact congrArg (fun q => Instr.fill places q _) h8
        · simp at hf

/-- where a type's parts lie. -/
def TI.place (i : TI) (q : Nat) : Option (Nat × Nat) := if i.kind = 2 then match i.places with
  | (_, s) :: _ => if 0 < s then some (q * s, s) else none
  | [] => none
  else i.places[q]?
theorem tyI_built {P : Program} {t : TypeId} {i : TI} (h : tyI P t = some i) (hk : i.kind = 2 ∨ i.kind = 3) (hpos : ∀ q ∈ i.places, 0 < q.2) (parts : List (Nat × Value)) (cells : Array Value) (hf : Instr.fill i.place i.zero.toArray parts = some cells) :
    P.built t parts = some cells := by
  unfold tyI at h
  split at h
  · next x d h1 h2 =>
    split at h
    · next z hz =>
      obtain rfl := Option.some.inj h
      have hzz : z.cells.toList.toArray = z.cells := by simp
      unfold Program.built
      cases d <;> simp at hk
      next n e =>
        simp only [h1, h2, hz]
        have h3 := hpos (0, ((P.info? e).map (·.size)).getD 0) (by simp)
        cases hi : P.info? e with
        | none => rw [hi] at h3; simp at h3
        | some y =>
          rw [hi] at h3
          simp only [Option.map_some, Option.getD_some] at h3
          simp only
          rw [← hf, hzz]
          congr 1
          funext q
          simp [TI.place, hi, h3]
      next fs =>
        simp only [h1, h2, hz]
        have key : ∀ (l : List Field), (∀ f ∈ l, 0 < ((P.info? f.type).map (·.size)).getD 0) → (l.mapM (fun f => (P.info? f.type).map fun i => (f.offset, i.size))) = some (l.map fun f => (f.offset, ((P.info? f.type).map (·.size)).getD 0)) := by
          intro l
          induction l with
          | nil => intro _; simp
          | cons f l ih =>
            intro hl
            have h3 := hl f (by simp)
            cases hi : P.info? f.type with
            | none => rw [hi] at h3; simp at h3
            | some y =>
              have := ih (fun g hg => hl g (by simp [hg]))
              simp [List.mapM_cons, hi, this]
        rw [key fs.toList (fun f hf => hpos (f.offset, _) (by simp only [List.mem_map]; exact ⟨f, hf, rfl⟩))]
        simp only
        rw [← hf, hzz]
        congr 1
        funext q
        simp [TI.place]
    · simp at h
  · simp at h
theorem does_build {P : Program} {o : Oper} {S : AS} {n : Nat} {t : TypeId} {i : TI} {parts : List (Nat × Operand)} {l : List AV} (ho : o.op = .build t parts.toArray) (hi : tyI P t = some i) (hk : i.kind = 2 ∨ i.kind = 3) (hpos : ∀ q ∈ i.places, 0 < q.2) (h1 : ∀ u ∈ i.zero, u.oneCell' = true)
    (hf : fillA i.place (i.zero.map .raw) (parts.map fun q => (q.1, S.val q.2)) = some l) : DoesAt P o S n ⟨.agg l, [], []⟩ :=
  does_pure rfl fun c p ρ a w hm => by
    obtain ⟨cs', h2, h3, h4⟩ := fill_sound hm i.place parts _ l i.zero (RepL.raws _) h1 hf
    refine ⟨.agg cs'.toArray, ?_, by simp only [Rep]; exact ⟨cs', rfl, h3⟩⟩
    unfold execOp
    rw [ho]
    refine run_v ?_
    have := tyI_built hi hk hpos _ _ h2
    have h5 := run_build (P := P) w t (parts.toArray.map fun (q : Nat × Operand) => (q.1, a.eval q.2)) cs'.toArray (by simpa using this)
    exact h5
/-- values told. -/
def rawsOf : List AV → Option (List Value)
  | [] => some []
  | .raw v :: l => match rawsOf l with
    | some vs => some (v :: vs)
    | none => none
  | _ => none
theorem raws_of {ρ : Env} : ∀ {l : List AV} {vs cs : List Value}, rawsOf l = some vs → RepL ρ l cs → cs = vs
  | [], vs, cs, h, hr => by
    simp only [rawsOf, Option.some.injEq] at h
    cases cs with
    | nil => exact h
    | cons => simp [RepL] at hr
  | a :: l, vs, cs, h, hr => by
    cases a with
    | raw v =>
      simp only [rawsOf] at h
      cases hl : rawsOf l with
      | none => rw [hl] at h; simp at h
      | some us =>
        rw [hl] at h
        simp only [Option.some.injEq] at h
        cases cs with
        | nil => simp [RepL] at hr
        | cons c cs =>
          simp only [RepL, Rep] at hr
          rw [hr.1, raws_of hl hr.2, h]
    | _ => simp [rawsOf] at h
/-- a row's rows out of a literal's parts. -/
def rowsOf (S : AS) (s : Nat) : Nat → List (Nat × Operand) → Option (List (List Value))
  | _, [] => some []
  | k, (i, x) :: parts => match (cellsOf (S.val x)).bind rawsOf, rowsOf S s (k + 1) parts with
    | some r, some rows => if i = k ∧ r.length = s then some (r :: rows) else none
    | _, _ => none
theorem cells_raw {c : Ctx} {p : Nat → Prop} {ρ : Env} {S : AS} {a : Act} {w : World} (hm : Mod c p ρ S a.tmps w) {x : Operand} {r : List Value} (h : (cellsOf (S.val x)).bind rawsOf = some r) : (a.eval x).cells = r.toArray ∧ ∀ u ∈ r, u.oneCell' = true := by
  obtain ⟨l, h1, h2⟩ := Option.bind_eq_some_iff.1 h
  obtain ⟨cs, e, hr, h3⟩ := cells_of hm h1 (hm.val x)
  obtain rfl := raws_of h2 hr
  exact ⟨e, h3⟩
theorem rows_sound {c : Ctx} {p : Nat → Prop} {ρ : Env} {S : AS} {a : Act} {w : World} (hm : Mod c p ρ S a.tmps w) {s : Nat} : ∀ (parts : List (Nat × Operand)) (k : Nat) (rows : List (List Value)) (done rest : List Value), rowsOf S s k parts = some rows → done.length = k * s → rest.length = parts.length * s →
    Instr.fill (fun i => some (i * s, s)) (done ++ rest).toArray (parts.map fun q => (q.1, a.eval q.2)) = some (done ++ rows.flatten).toArray ∧ rows.length = parts.length ∧ (∀ r ∈ rows, r.length = s) ∧ ∀ r ∈ rows, ∀ u ∈ r, u.oneCell' = true
  | [], k, rows, done, rest, h, hd, hr => by
    simp only [rowsOf, Option.some.injEq] at h
    subst h
    have : rest = [] := List.eq_nil_of_length_eq_zero (by simpa using hr)
    subst this
    exact ⟨rfl, rfl, by simp, by simp⟩
  | (i, x) :: parts, k, rows, done, rest, h, hd, hr => by
    simp only [rowsOf] at h
    cases h1 : (cellsOf (S.val x)).bind rawsOf with
    | none => rw [h1] at h; simp at h
    | some r =>
      cases h2 : rowsOf S s (k + 1) parts with
      | none => rw [h1, h2] at h; simp at h
      | some rows' =>
        rw [h1, h2] at h
        dsimp only at h
        split at h
        · next hc =>
          obtain ⟨rfl, hrl⟩ := hc
          obtain rfl := Option.some.inj h
          obtain ⟨e1, e2⟩ := cells_raw hm h1
          simp only [List.length_cons, Nat.succ_mul] at hr
          obtain ⟨h3, h4, h5, h6⟩ := rows_sound hm parts (i + 1) rows' (done ++ r) (rest.drop s) h2 (by simp [hd, hrl, Nat.succ_mul]) (by simp; omega)
          refine ⟨?_, by simp [h4], fun q hq => ?_, fun q hq => ?_⟩
          · simp only [List.map_cons, Instr.fill, e1]
            have h7 := fold_set (i * s) r 0 (done ++ rest).toArray (by simp [hd, hrl]; omega)
            simp only [Nat.add_zero] at h7
            have h8 : r.toArray.zipIdx.foldl (fun cs (x : Value × Nat) => cs.setIfInBounds (i * s + x.2) x.1) (done ++ rest).toArray = ((done ++ r) ++ rest.drop s).toArray := by
              have : splice (done ++ rest) (i * s) r = (done ++ r) ++ rest.drop s := by
                unfold splice
                rw [← hd, List.take_left, hrl, List.drop_append, List.drop_eq_nil_of_le (by omega)]
                simp
              rw [← this, ← h7]
              simp
            have h9 : r.toArray.size = s := by simp [hrl]
            have h10 : ¬ (i * s + r.toArray.size > (done ++ rest).toArray.size) := by simp [hd, hrl]; omega
            simp only [h9, ne_eq, not_true, decide_false, Bool.false_or, decide_eq_true_eq]
            rw [if_neg (by rw [h9] at h10; exact h10)]
            refine (congrArg (fun q => Instr.fill _ q _) h8).trans (h3.trans ?_)
            simp
          · rcases List.mem_cons.1 hq with rfl | hq
            · exact hrl
            · exact h5 q hq
          · rcases List.mem_cons.1 hq with rfl | hq
            · exact e2
            · exact h6 q hq
        · simp at h
theorem does_buildSlice {P : Program} {o : Oper} {S : AS} {n : Nat} {t : TypeId} {m : Nat} {i ie : TI} {parts : List (Nat × Operand)} {rows : List (List Value)} (ho : o.op = .buildSlice t m parts.toArray) (hi : tyI P t = some i) (hk : i.kind = 1) (hie : tyI P i.elem = some ie) (h0 : 0 < ie.size) (hm0 : m = parts.length) (hb : m * ie.size ≤ 16777216)
    (hf : rowsOf S ie.size 0 parts = some rows) : DoesAt P o S n ⟨.hdr (8 * n), [(8 * n, some (.row i.elem ie.size rows))], []⟩ := by
  intro c p ρ a w hm hn K Q hK
  obtain ⟨xi, d, z, i1, i2, i3, i4, i5, i6, i7⟩ := tyI_spec hie
  have hte := tyI_slice hi hk
  have hsz : m * ie.size = parts.length * ie.size := by rw [hm0]
  obtain ⟨h3, h4, h5, h6⟩ := rows_sound hm parts 0 rows [] (((Array.range (m * ie.size)).map (fun q => (z.cells[q % z.cells.size]!))).toList) hf (by simp) (by rw [Array.length_toList, Array.size_map, Array.size_range, hsz])
  rw [List.nil_append, List.nil_append, Array.toArray_toList] at h3
  have hfl := flatten_len h5
  obtain ⟨ρ', he, hx, hm'⟩ := hm.made hn (x := .slice (some ⟨w.heap.size, 0, none⟩) m m) (o := .row i.elem ie.size rows) (ob := .cells rows.flatten.toArray i.elem) rfl
    (fun ρ' _ => ⟨by
      refine ⟨hfl, .inr ⟨w.heap.size, m, rows.flatten.toArray, by rw [h4, hm0], Nat.zero_le _, heap_alloc_new w _, by omega, ?_, by simp only [List.size_toArray]; rw [hfl, h4, hm0], by show rows.flatten.take (rows.length * ie.size) = rows.flatten; rw [← hfl, List.take_length]⟩⟩
      unfold maxLen
      have := Nat.le_mul_of_pos_right m h0
      omega, h5, h6⟩) (fun g hg => by simp [oblk, blkOf] at hg; omega)
  unfold Oper.wp
  have hr : (execOp a.eval o).run P w = .ok (.value (.slice (some ⟨w.heap.size, 0, none⟩) m m)) (w.alloc (.cells rows.flatten.toArray i.elem)) := by
    unfold execOp
    rw [ho]
    refine run_v ?_
    rcases Nat.eq_zero_or_pos m with hz | hp
    · have hp0 : parts = [] := List.eq_nil_of_length_eq_zero (by omega)
      have hr0 : rows = [] := List.eq_nil_of_length_eq_zero (by omega)
      subst hz; subst hp0; subst hr0
      simp [Instr.buildSlice, run_underlying hte, sizeOf, typeInfo, i1, Instr.fill, newRow]
      have hz0 : Array.map (fun _ : Nat => (default : Value)) (Array.range 0) = #[] := Array.eq_empty_of_size_eq_zero (by simp)
      rw [hz0]
    · have hpos : ¬ m * xi.size = 0 := by rw [i4]; have := Nat.mul_pos hp h0; omega
      have hsmall : ¬ m * xi.size > 2 ^ 24 := by rw [i4]; omega
      refine run_buildSlice w t i.elem m _ _ xi z hte i1 i3 hsmall hpos ?_
      rw [i4]
      simpa only [List.map_toArray] using h3
  rw [hr]
  exact hK _ ρ' _ hm' (by simp only [Rep]; exact hx)

/-- the nil slice is a row of the call's own, with nothing in it. -/
theorem Mod.nilrow {c : Ctx} {p : Nat → Prop} {ρ : Env} {S : AS} {tm : Array Value} {w : World} (h : Mod c p ρ S tm w) {n : Nat} (hn : ∀ i, p i → i / 8 ≠ n) (e : TypeId) (s : Nat) :
    ∃ ρ', ExtE ρ ρ' ∧ ρ' (8 * n) = some (.slice none 0 0) ∧ Mod c (fun i => p i ∨ i / 8 = n) ρ' (S.upd [(8 * n, some (.row e s []))]) tm w := by
  have hfr : ρ (8 * n) = none := by
    cases e : ρ (8 * n) with
    | none => rfl
    | some y => exact absurd (by omega) (hn _ (h.dom _ _ e).1)
  have he : ExtE ρ (fun i => if i = 8 * n then some (.slice none 0 0) else ρ i) := fun i y e => by
    have : i ≠ 8 * n := fun e2 => by subst e2; rw [hfr] at e; cases e
    simpa [this] using e
  have hn0 : n ≠ 0 := fun e => hn 0 (h.lo 0 (by omega)) (by omega)
  refine ⟨_, he, by simp, h.step [(8 * n, some (.row e s []))] he (fun i hi => if_neg (by omega)) (fun i h => .inl h) ?_ rfl rfl rfl (Nat.le_refl _) (fun _ _ _ => rfl) ?_ ?_⟩
  · intro i y e
    split at e
    · next e2 => obtain rfl := Option.some.inj e; exact ⟨.inr (by omega), rfl⟩
    · exact ⟨.inl (h.dom i y e).1, (h.dom i y e).2⟩
  · intro i o' hf
    simp only [find] at hf
    split at hf
    · next e =>
      subst e
      injection hf with hf
      injection hf with hf
      subst hf
      exact ⟨.slice none 0 0, by simp, ⟨⟨by simp, .inl ⟨rfl, rfl⟩⟩, by simp, by simp⟩, fun g hg => by simp [oblk, blkOf] at hg⟩
    · cases hf
  · intro i j oi oj x' y' hne h1 h2
    simp only [find] at h1 h2
    split at h1
    · next e1 =>
      split at h2
      · next e2 => omega
      · cases h2
    · cases h1
theorem does_nil {P : Program} {o : Oper} {S : AS} {n : Nat} {x : Operand} {i ie : TI} (ho : o.op = .move x ∨ o.op = .assign x) (_ : tyI P o.type = some i) (_ : tyI P i.elem = some ie) (hx : S.val x = .raw (.slice none 0 0)) : DoesAt P o S n ⟨.hdr (8 * n), [(8 * n, some (.row i.elem ie.size []))], []⟩ := by
  intro c p ρ a w hm hn K Q hK
  obtain ⟨ρ', he, hx', hm'⟩ := hm.nilrow hn i.elem ie.size
  unfold Oper.wp
  have hr : (execOp a.eval o).run P w = .ok (.value (.slice none 0 0)) w := by rcases ho with ho | ho <;> simp [execOp, ho, hm.raw hx]
  rw [hr]
  exact hK _ ρ' _ hm' (by simp only [Rep]; exact hx')

theorem does_append {P : Program} {o : Oper} {S : AS} {n : Nat} {x y : Operand} {t e : TypeId} {s : Nat} {i ie : TI} {id1 id2 : Nat} {ob : AO} {rows rows2 : List (List Value)} (ho : o.op = .call { callee := .builtin .append, args := #[x, y], argTypes := #[t, t] }) (hi : tyI P t = some i) (hk : i.kind = 1) (he : i.elem = e) (hie : tyI P e = some ie) (hs : ie.size = s) (h0 : 0 < s)
    (hz : ie.zero.length = s) (hx : S.val x = .hdr id1) (ho1 : S.obj id1 = some (.row e s rows)) (hy : S.val y = .hdr id2) (ho2 : S.obj id2 = some ob) (hor : ob.rows = some (s, rows2)) (_ : id1 ≠ id2) (hb : (rows.length + rows2.length) * ie.bytes ≤ 140737488355328) (hb2 : rows.length + rows2.length ≤ 9223372036854775807) :
    DoesAt P o S n ⟨.hdr (8 * n), [(id1, none), (8 * n, some (.row e s (rows ++ rows2)))], [id1, id2]⟩ := by
  intro c p ρ a w hm hn K Q hK
  obtain ⟨xi, d, z, i1, i2, i3, i4, i5, i6, i7⟩ := tyI_spec hie
  have hte := tyI_slice hi hk
  rw [he] at hte
  obtain ⟨v1, hv1, hown, hr1, hone1⟩ := hm.objs id1 _ ho1
  obtain ⟨v2, hv2, hov2⟩ := hm.objs id2 _ ho2
  obtain ⟨A, cp, rfl, hA⟩ := hov2.head hor
  have e1 : a.eval x = v1 := by
    have := hm.val x
    rw [hx] at this
    simp only [Rep] at this
    rw [hv1] at this
    exact (Option.some.inj this).symm
  have e2 : a.eval y = .slice A rows2.length cp := by
    have := hm.val y
    rw [hy] at this
    simp only [Rep] at this
    rw [hv2] at this
    exact (Option.some.inj this).symm
  have hrd : Reads w w.heap.size s A rows2.length rows2.flatten ∧ (∀ r ∈ rows2, r.length = s) ∧ (∀ r ∈ rows2, ∀ u ∈ r, u.oneCell' = true) := by
    cases ob with
    | cells => simp [AO.rows] at hor
    | ext s' r' =>
      simp only [AO.rows, Option.some.injEq, Prod.mk.injEq] at hor
      obtain ⟨rfl, rfl⟩ := hor
      obtain ⟨A', c', e3, h1, h2, h3, -⟩ := hov2
      injection e3 with e3 e4 e5
      subst e3; subst e5
      refine ⟨?_, h2, h3⟩
      have hc := CellsAt.reads (w := w) (A := A) (cs := r'.flatten) (size := s') (n := r'.length) ?_ (flatten_len h2) h0
      · exact hc
      · intro j hj
        have hfl := flatten_len h2
        have hk' : j / s' < r'.length := by rw [hfl] at hj; exact Nat.div_lt_of_lt_mul (by rw [Nat.mul_comm]; exact hj)
        obtain ⟨b, off, e, hlt, hcell⟩ := h1 (j / s') hk'
        have hi' : j % s' < s' := Nat.mod_lt _ h0
        have hj2 : j / s' * s' + j % s' = j := by rw [Nat.mul_comm]; exact Nat.div_add_mod j s'
        refine ⟨b, off, e, hlt, ?_⟩
        have h4 := hcell (j % s') hi'
        rw [Nat.add_assoc, hj2] at h4
        rw [h4]
        have h5 := flatten_get h2 (j / s') (j % s') hi'
        rw [hj2, List.getElem?_eq_getElem hk', List.getElem?_eq_getElem hj] at h5
        exact h5.symm
    | row e' s' r' =>
      simp only [AO.rows, Option.some.injEq, Prod.mk.injEq] at hor
      obtain ⟨rfl, rfl⟩ := hor
      exact ⟨Reads.of_own hov2.1, hov2.2.1, hov2.2.2⟩
  obtain ⟨hreads, hr2, hone2⟩ := hrd
  obtain ⟨v', w', hrun, hown', hgrow, hblk⟩ := run_append_any (P := P) w 0 t o.type e xi z s ie.bytes hte i1 i3 (by rw [i4, hs]) i5 (by rw [← hz, ← i7]; simp) h0 v1 rows.length rows.flatten hown w.heap.size A rows2.length cp rows2.flatten hreads
    (fun u hu => by obtain ⟨r, hr, hu'⟩ := List.mem_flatten.1 hu; exact hone2 r hr u hu') (by unfold maxLen; omega) hb (Nat.zero_le _)
  have hfr : ρ (8 * n) = none := by
    cases e : ρ (8 * n) with
    | none => rfl
    | some y => exact absurd (by omega) (hn _ (hm.dom _ _ e).1)
  have hid1 : id1 ≠ 8 * n := fun e => by rw [e, hfr] at hv1; cases hv1
  have hext : ExtE ρ (fun i => if i = 8 * n then some v' else ρ i) := fun i y e => by
    have : i ≠ 8 * n := fun e2 => by subst e2; rw [hfr] at e; cases e
    simpa [this] using e
  have hblk1 : blkOf v1 = v1.ownBlock := by
    rcases hown.2 with ⟨rfl, -⟩ | ⟨g, cap, cur, rfl, -⟩ <;> rfl
  have hblk2 : blkOf v' = v'.ownBlock := by
    rcases hown'.2 with ⟨rfl, -⟩ | ⟨g, cap, cur, rfl, -⟩ <;> rfl
  have hone' : v'.oneCell' = true := by
    rcases hown'.2 with ⟨rfl, -⟩ | ⟨g, cap, cur, rfl, -⟩ <;> rfl
  have hT : ∀ g, blkOf v1 = some g → Touch ρ S [(id1, none), (8 * n, some (.row e s (rows ++ rows2)))] g := fun g hg =>
    ⟨id1, _, v1, none, by simp [find], ho1, rfl, hv1, hg⟩
  have hm' := hm.step [(id1, none), (8 * n, some (.row e s (rows ++ rows2)))] hext (fun i hi => if_neg (by have : n ≠ 0 := fun e => hn 0 (hm.lo 0 (by omega)) (by omega); omega)) (p' := fun i => p i ∨ i / 8 = n) (fun i h => .inl h) (w' := w') (fun i y e => by
      split at e
      · next e2 => obtain rfl := Option.some.inj e; exact ⟨.inr (by omega), hone'⟩
      · exact ⟨.inl (hm.dom i y e).1, (hm.dom i y e).2⟩) hgrow.os hgrow.tape hgrow.output hgrow.size (fun g hg hT' => hgrow.block g hg (fun e => hT' (hT g (by rw [hblk1]; exact e.symm))))
      (fun i oi hf => by
        simp only [find] at hf
        split at hf
        · next e1 => cases hf
        · split at hf
          · next e2 =>
            subst e2
            injection hf with hf
            injection hf with hf
            subst hf
            refine ⟨v', by simp, ⟨by rw [List.length_append, List.flatten_append]; exact hown', fun r hr => ?_, fun r hr => ?_⟩, fun g hg => ?_⟩
            · rcases List.mem_append.1 hr with h | h
              · exact hr1 r h
              · exact hr2 r h
            · rcases List.mem_append.1 hr with h | h
              · exact hone1 r h
              · exact hone2 r h
            · have hg' : blkOf v' = some g := hg
              rcases hblk with h | h
              · exact .inr (.inl (hT g (by rw [hblk1, ← h, ← hblk2]; exact hg')))
              · rw [hblk2, h] at hg'; injection hg' with hg'; exact .inl (by omega)
          · cases hf)
      (fun i j oi oj x' y' hne' h1 h2 => by
        simp only [find] at h1 h2
        split at h1
        · cases h1
        · split at h1
          · split at h2
            · cases h2
            · split at h2
              · omega
              · cases h2
          · cases h1)
  unfold Oper.wp
  have hr : (execOp a.eval o).run P w = .ok (.value v') w' := by
    unfold execOp
    rw [ho]
    simp only [resolve, Sem.run_bind, Sem.run_pure, Result.andThen_ok, invoke, builtin, List.map_toArray, List.map_cons, List.map_nil, e1, e2, hrun]
  rw [hr]
  exact hK _ _ _ hm' (by simp [Rep])

/-! structs of numbers are compared -/
def kindOfT (P : Program) (t : TypeId) : Option Bool :=
  match P.underlying t with
  | some (.int _) => some true
  | some .bool => some false
  | _ => none
def flatG (P : Program) : List Field → Nat → Option (List Bool)
  | [], _ => some []
  | f :: fs, k => if f.name != "_" && f.offset == k then match kindOfT P f.type, flatG P fs (k + 1) with
    | some b, some l => some (b :: l)
    | _, _ => none
    else none
def flatK (P : Program) (t : TypeId) : Option (List Bool) :=
  match P.underlying t with
  | some (.struct fs) => if !P.stoodInHeld t && !P.eqGuardType P.depth t then flatG P fs.toList 0 else none
  | _ => none
def eqV : List Bool → List Value → List Value → Option Bool
  | [], [], [] => some true
  | true :: ks, .int k a :: l, .int k' b :: m => if k = k' then (match eqV ks l m with | some r => some (decide (a = b) && r) | none => none) else none
  | false :: ks, .bool a :: l, .bool b :: m => match eqV ks l m with | some r => some ((a == b) && r) | none => none
  | _, _, _ => none
theorem run_part1 {P : Program} {w : World} {t : TypeId} {cs : Array Value} {k : Nat} {v : Value} {b : Bool} (ht : kindOfT P t = some b) (hv : cs[k]? = some v) : (part t cs k).run P w = .ok v w := by
  have hagg : (isAgg t).run P w = .ok false w := by
    unfold kindOfT at ht
    cases h : P.underlying t with
    | none => rw [h] at ht; simp at ht
    | some d =>
      unfold isAgg
      rw [Sem.run_bind, run_underlying h w]
      rw [h] at ht
      cases d <;> first | rfl | simp at ht
  simp [part, hagg, hv]
theorem run_eqFields {P : Program} {w : World} {X Y : Array Value} : ∀ (fs : List Field) (k : Nat) (ks : List Bool) (xs ys : List Value) (r : Bool), flatG P fs k = some ks → (∀ i v, xs[i]? = some v → X[k + i]? = some v) → (∀ i v, ys[i]? = some v → Y[k + i]? = some v) →
    eqV ks xs ys = some r → (Op.eqFields 9999 X Y fs).run P w = .ok r w
  | [], k, ks, xs, ys, r, hf, _, _, h => by
    simp only [flatG, Option.some.injEq] at hf
    subst hf
    cases xs <;> cases ys <;> simp [eqV] at h
    subst h
    simp [Op.eqFields]
  | f :: fs, k, ks, xs, ys, r, hf, hx, hy, h => by
    simp only [flatG] at hf
    split at hf
    · next hn =>
      simp only [Bool.and_eq_true, bne_iff_ne, ne_eq, beq_iff_eq] at hn
      obtain ⟨h1, h2⟩ := hn
      cases hk : kindOfT P f.type with
      | none => rw [hk] at hf; simp at hf
      | some b =>
        cases hl : flatG P fs (k + 1) with
        | none => rw [hk, hl] at hf; simp at hf
        | some ks' =>
          rw [hk, hl] at hf
          simp only [Option.some.injEq] at hf
          subst hf
          cases xs with
          | nil => cases b <;> simp [eqV] at h
          | cons x xs =>
            cases ys with
            | nil => cases b <;> cases x <;> simp [eqV] at h
            | cons y ys =>
              have p1 : (part f.type X f.offset).run P w = .ok x w := run_part1 hk (by rw [h2]; simpa using hx 0 x rfl)
              have p2 : (part f.type Y f.offset).run P w = .ok y w := run_part1 hk (by rw [h2]; simpa using hy 0 y rfl)
              have ih := fun q hq => run_eqFields (P := P) (w := w) (X := X) (Y := Y) fs (k + 1) ks' xs ys q hl (fun i v hv => by rw [show k + 1 + i = k + (i + 1) by omega]; exact hx (i + 1) v (by simpa using hv)) (fun i v hv => by rw [show k + 1 + i = k + (i + 1) by omega]; exact hy (i + 1) v (by simpa using hv)) hq
              have key : ∀ (c : Bool), (Op.equalIn 9999 f.type x y).run P w = .ok c w → ∀ q, eqV ks' xs ys = some q → r = (c && q) → (Op.eqFields 9999 X Y (f :: fs)).run P w = .ok r w := by
                intro c hc q hq hr
                unfold Op.eqFields
                rw [if_pos h1]
                simp only [Sem.run_bind, p1, p2, Result.andThen_ok, hc]
                cases c with
                | false => simp [hr]
                | true => simp [hr, ih q hq]
              unfold kindOfT at hk
              cases b with
              | true =>
                cases x <;> cases y <;> simp only [eqV, reduceCtorEq] at h
                next k1 a k2 c =>
                  split at h
                  · next hkk =>
                    subst hkk
                    cases hq : eqV ks' xs ys with
                    | none => rw [hq] at h; simp at h
                    | some q =>
                      rw [hq] at h
                      simp only [Option.some.injEq] at h
                      cases hd : P.underlying f.type with
                      | none => rw [hd] at hk; simp at hk
                      | some d =>
                        rw [hd] at hk
                        cases d <;> simp at hk
                        next kk => exact key (a == c) (run_equalIn_int w 9998 f.type k1 kk a c hd) q hq h.symm
                  · simp at h
              | false =>
                cases x <;> cases y <;> simp only [eqV, reduceCtorEq] at h
                next a c =>
                  cases hq : eqV ks' xs ys with
                  | none => rw [hq] at h; simp at h
                  | some q =>
                    rw [hq] at h
                    simp only [Option.some.injEq] at h
                    cases hd : P.underlying f.type with
                    | none => rw [hd] at hk; simp at hk
                    | some d =>
                      rw [hd] at hk
                      cases d <;> simp at hk
                      exact key (a == c) (run_equalIn_bool' w 9998 f.type a c hd) q hq h.symm
    · simp at hf
theorem does_eqs {P : Program} {o : Oper} {S : AS} {n : Nat} {x y : Operand} {t u : TypeId} {op : BinOp} {la lb : List AV} {xs ys : List Value} {ks : List Bool} {r : Bool} (ho : o.op = .binOp op t x y u) (hop : op = .eql ∨ op = .neq) (hk : flatK P t = some ks) (hx : S.val x = .agg la) (hy : S.val y = .agg lb)
    (hxs : rawsOf la = some xs) (hys : rawsOf lb = some ys) (hr : eqV ks xs ys = some r) : DoesAt P o S n ⟨.raw (.bool (if op = .eql then r else !r)), [], []⟩ :=
  does_pure rfl fun c p ρ a w hm => by
    have e1 : a.eval x = .agg xs.toArray := by
      have := hm.val x
      rw [hx] at this
      simp only [Rep] at this
      obtain ⟨cs, h1, h2⟩ := this
      rw [h1, raws_of hxs h2]
    have e2 : a.eval y = .agg ys.toArray := by
      have := hm.val y
      rw [hy] at this
      simp only [Rep] at this
      obtain ⟨cs, h1, h2⟩ := this
      rw [h1, raws_of hys h2]
    unfold flatK at hk
    cases hu : P.underlying t with
    | none => rw [hu] at hk; simp at hk
    | some d =>
      rw [hu] at hk
      cases d <;> simp at hk
      next fs =>
        obtain ⟨⟨hs, hg⟩, hfl⟩ := hk
        have hfs : P.fieldsOf t = fs := by simp [Program.fieldsOf, hu]
        have hrun : (Op.equalIn 10000 t (.agg xs.toArray) (.agg ys.toArray)).run P w = .ok r w := by
          rw [run_equalIn_struct w 9999 t xs.toArray ys.toArray (by rw [hfs]; exact hu) hs, hfs]
          exact run_eqFields fs.toList 0 ks xs ys r hfl (fun i v h => by simpa using h) (fun i v h => by simpa using h) hr
        refine ⟨.bool (if op = .eql then r else !r), ?_, by simp only [Rep]⟩
        unfold execOp
        rw [ho]
        refine run_v ?_
        simp only [e1, e2, Sem.run_bind, run_eqGuard_agg w op t x y _ _ hg, Result.andThen_ok]
        rcases hop with rfl | rfl
        · simp [run_eql_struct, hrun]
        · simp [run_neq_struct, hrun]

/-! a part of a row -/
theorem run_bound {P : Program} {w : World} {k : IntKind} {q : Int} {y : Nat} {c : BoundsCode} (h0 : 0 ≤ q) (h1 : q ≤ y) : (Instr.sliceBound (.int k q) y c).run P w = .ok q.toNat w := by
  simp [Instr.sliceBound, asIntOf, h0, h1]
def optInt (S : AS) : Option Operand → Option (Option Int)
  | none => some none
  | some x => match S.val x with
    | .raw (.int _ q) => some (some q)
    | _ => none
theorem does_slice {P : Program} {o : Oper} {S : AS} {n : Nat} {t : TypeId} {x : Operand} {lo hi mx : Option Operand} {i ie : TI} {id : Nat} {ob : AO} {s : Nat} {rows : List (List Value)} {ql qh qm : Option Int} {l h : Nat}
    (ho : o.op = .slice t x lo hi mx) (hi' : tyI P t = some i) (hk : i.kind = 1) (hie : tyI P i.elem = some ie) (hes : ie.size = s) (hx : S.val x = .hdr id) (hob : S.obj id = some ob) (hor : ob.rows = some (s, rows))
    (h1 : optInt S lo = some ql) (h2 : optInt S hi = some qh) (h3 : optInt S mx = some qm) (hmx : qm.isSome = true → qh.isSome = true)
    (hl : (ql.getD 0) = l) (hh : (qh.getD rows.length) = h) (hlh : l ≤ h) (hhn : h ≤ rows.length) (hm3 : ∀ q, qm = some q → (h : Int) ≤ q ∧ q ≤ rows.length) :
    DoesAt P o S n ⟨.hdr (8 * n), (8 * n, some (.ext s ((rows.drop l).take (h - l)))) :: (if ob.live = true then [(id, none)] else []), [id]⟩ := by
  intro c p ρ a w hm hn K Q hK
  obtain ⟨v1, hv1, hov⟩ := hm.objs id _ hob
  have hone := (hm.dom id v1 hv1).2
  have hcap : ∃ A cap, v1 = .slice A rows.length cap ∧ rows.length ≤ cap ∧ (0 < rows.length → ∃ b off, A = some ⟨b, off, none⟩) := by
    cases ob with
    | cells => simp [AO.rows] at hor
    | ext s' r' =>
      simp only [AO.rows, Option.some.injEq, Prod.mk.injEq] at hor
      obtain ⟨rfl, rfl⟩ := hor
      obtain ⟨A, cp, rfl, g1, g2, g3, g4⟩ := hov
      exact ⟨A, cp, rfl, g4, fun h0 => by obtain ⟨b, off, e, -⟩ := g1 0 h0; exact ⟨b, off, e⟩⟩
    | row e s' r' =>
      simp only [AO.rows, Option.some.injEq, Prod.mk.injEq] at hor
      obtain ⟨rfl, rfl⟩ := hor
      obtain ⟨⟨_, ⟨rfl, h0⟩ | ⟨g, cap, cur, rfl, _, _, hc, _⟩⟩, _⟩ := hov
      · exact ⟨none, 0, by rw [h0], by omega, fun h => by omega⟩
      · exact ⟨_, cap, rfl, hc, fun _ => ⟨g, 0, rfl⟩⟩
  obtain ⟨A, cap, rfl, hcl, hA⟩ := hcap
  have ex : a.eval x = .slice A rows.length cap := by
    have := hm.val x
    rw [hx] at this
    simp only [Rep] at this
    rw [hv1] at this
    exact (Option.some.inj this).symm
  have eo : ∀ (y : Option Operand) (q : Option Int), optInt S y = some q → (q = none ∧ y = none) ∨ ∃ z k r, q = some r ∧ y = some z ∧ a.eval z = .int k r := fun y q hy => by
    cases y with
    | none => simp only [optInt, Option.some.injEq] at hy; exact .inl ⟨hy.symm, rfl⟩
    | some z =>
      simp only [optInt] at hy
      split at hy
      · next k r hz => injection hy with hy; exact .inr ⟨z, k, r, hy.symm, rfl, hm.raw hz⟩
      · cases hy
  obtain ⟨xi, d, z, i1, i2, i3, i4, i5, i6, i7⟩ := tyI_spec hie
  have hte := tyI_slice hi' hk
  -- the bounds
  have hb : ∃ m : Nat, h ≤ m ∧ m ≤ cap ∧ (Instr.sliceBounds true rows.length cap (lo.map a.eval) (hi.map a.eval) (mx.map a.eval)).run P w = .ok (l, h, m) w := by
    rcases eo mx qm h3 with ⟨rfl, rfl⟩ | ⟨zm, km, rm, rfl, rfl, em⟩
    · refine ⟨cap, by omega, Nat.le_refl _, ?_⟩
      rcases eo hi qh h2 with ⟨rfl, rfl⟩ | ⟨zh, kh, rh, rfl, rfl, eh⟩ <;> rcases eo lo ql h1 with ⟨rfl, rfl⟩ | ⟨zl, kl, rl, rfl, rfl, el⟩ <;> simp only [Option.getD_none, Option.getD_some] at hl hh
      · obtain rfl : h = rows.length := by omega
        obtain rfl : l = 0 := by omega
        simp [Instr.sliceBounds]
      · obtain rfl : h = rows.length := by omega
        simp only [Instr.sliceBounds, Option.map_none, Option.map_some, el, Sem.run_bind, Sem.run_pure, Result.andThen_ok, run_bound (show 0 ≤ rl by omega) (show rl ≤ ((rows.length : Nat) : Int) by omega)]
        rw [show rl.toNat = l by omega]
      · obtain rfl : l = 0 := by omega
        simp only [Instr.sliceBounds, Option.map_none, Option.map_some, eh, Sem.run_bind, Sem.run_pure, Result.andThen_ok, run_bound (show 0 ≤ rh by omega) (show rh ≤ (cap : Int) by omega)]
        rw [show rh.toNat = h by omega]
      · simp only [Instr.sliceBounds, Option.map_none, Option.map_some, el, eh, Sem.run_bind, Sem.run_pure, Result.andThen_ok, run_bound (show 0 ≤ rh by omega) (show rh ≤ (cap : Int) by omega)]
        rw [show rh.toNat = h by omega, run_bound (show 0 ≤ rl by omega) (show rl ≤ (h : Int) by omega)]
        simp only [Result.andThen_ok, Sem.run_pure]
        rw [show rl.toNat = l by omega]
    · have hq := hm3 rm rfl
      refine ⟨rm.toNat, by omega, by omega, ?_⟩
      rcases eo hi qh h2 with ⟨rfl, rfl⟩ | ⟨zh, kh, rh, rfl, rfl, eh⟩
      · simp at hmx
      · rcases eo lo ql h1 with ⟨rfl, rfl⟩ | ⟨zl, kl, rl, rfl, rfl, el⟩ <;> simp only [Option.getD_none, Option.getD_some] at hl hh
        · obtain rfl : l = 0 := by omega
          simp only [Instr.sliceBounds, Option.map_none, Option.map_some, eh, em, Sem.run_bind, Sem.run_pure, Result.andThen_ok, run_bound (show 0 ≤ rm by omega) (show rm ≤ (cap : Int) by omega), run_bound (show 0 ≤ rh by omega) (show rh ≤ ((rm.toNat : Nat) : Int) by omega)]
          rw [show rh.toNat = h by omega]
        · simp only [Instr.sliceBounds, Option.map_none, Option.map_some, el, eh, em, Sem.run_bind, Sem.run_pure, Result.andThen_ok, run_bound (show 0 ≤ rm by omega) (show rm ≤ (cap : Int) by omega), run_bound (show 0 ≤ rh by omega) (show rh ≤ ((rm.toNat : Nat) : Int) by omega)]
          rw [show rh.toNat = h by omega, run_bound (show 0 ≤ rl by omega) (show rl ≤ (h : Int) by omega)]
          simp only [Result.andThen_ok, Sem.run_pure]
          rw [show rl.toNat = l by omega]
  obtain ⟨m, hm1, hm2, hrun⟩ := hb
  have hlen : ((rows.drop l).take (h - l)).length = h - l := by simp; omega
  have hr : (execOp a.eval o).run P w = .ok (.value (.slice (if m = l then A else A.map (·.add (l * s))) (h - l) (m - l))) w := by
    unfold execOp
    rw [ho]
    refine run_v ?_
    simp only [Instr.sliceAt, Instr.slice, Sem.run_bind, run_underlying hte w, Result.andThen_ok, ex, hrun, sizeOf, typeInfo, run_program, i1, i4, hes, Sem.run_pure]
  have hfr : ρ (8 * n) = none := by
    cases e : ρ (8 * n) with
    | none => rfl
    | some y => exact absurd (by omega) (hn _ (hm.dom _ _ e).1)
  have hid1 : id ≠ 8 * n := fun e => by rw [e, hfr] at hv1; cases hv1
  have hext : ExtE ρ (fun i => if i = 8 * n then some (.slice (if m = l then A else A.map (·.add (l * s))) (h - l) (m - l)) else ρ i) := fun i y e => by
    have : i ≠ 8 * n := fun e2 => by subst e2; rw [hfr] at e; cases e
    simpa [this] using e
  have hpart : ∀ ρ', ObjAt ρ' w (.slice (if m = l then A else A.map (·.add (l * s))) (h - l) (m - l)) (.ext s ((rows.drop l).take (h - l))) := fun ρ' => by
    refine ⟨_, m - l, by rw [hlen], fun k hk => ?_, fun r hr => ?_, fun r hr => ?_, by rw [hlen]; omega⟩
    · have hk1 : k < h - l := by rw [hlen] at hk; exact hk
      obtain ⟨b, off, hbase, hlt, hrl, -, hcell⟩ := hov.cell hor (k := l + k) (by omega)
      have hA' : A = some ⟨b, off, none⟩ := by
        rcases hbase with hb | ⟨_, _, hb⟩
        · cases hb
        · injection hb
      refine ⟨b, off + l * s, by rw [if_neg (by omega), hA']; simp [add_none], hlt, fun j hj => ?_⟩
      have := hcell j hj
      have e1 : ((rows.drop l).take (h - l))[k] = rows[l + k] := by simp
      show _ = (((rows.drop l).take (h - l))[k])[j]?
      rw [e1, ← this]
      congr 2
      rw [Nat.add_mul]
      omega
    · have := List.mem_of_mem_drop (List.mem_of_mem_take hr)
      cases ob with
      | cells => simp [AO.rows] at hor
      | ext s' r' => simp only [AO.rows, Option.some.injEq, Prod.mk.injEq] at hor; obtain ⟨rfl, rfl⟩ := hor; obtain ⟨_, _, _, _, g, -⟩ := hov; exact g r this
      | row e s' r' => simp only [AO.rows, Option.some.injEq, Prod.mk.injEq] at hor; obtain ⟨rfl, rfl⟩ := hor; exact hov.2.1 r this
    · have := List.mem_of_mem_drop (List.mem_of_mem_take hr)
      cases ob with
      | cells => simp [AO.rows] at hor
      | ext s' r' => simp only [AO.rows, Option.some.injEq, Prod.mk.injEq] at hor; obtain ⟨rfl, rfl⟩ := hor; obtain ⟨_, _, _, _, _, g, -⟩ := hov; exact g r this
      | row e s' r' => simp only [AO.rows, Option.some.injEq, Prod.mk.injEq] at hor; obtain ⟨rfl, rfl⟩ := hor; exact hov.2.2 r this
  have hblk : ∀ g, oblk (.slice (if m = l then A else A.map (·.add (l * s))) (h - l) (m - l)) (.ext s ((rows.drop l).take (h - l))) = some g → oblk (.slice A rows.length cap) ob = some g := fun g hg => by
    cases hrw : (rows.drop l).take (h - l) with
    | nil => rw [hrw] at hg; simp [oblk] at hg
    | cons r rs =>
      have hpos : 0 < h - l := by rw [← hlen, hrw]; simp
      rw [hrw] at hg
      simp only [oblk] at hg
      obtain ⟨b, off, rfl⟩ := hA (by omega)
      rw [if_neg (by omega)] at hg
      simp only [Option.map_some, blkOf, add_none, Option.some.injEq] at hg
      subst hg
      cases ob with
      | cells => simp [AO.rows] at hor
      | row => rfl
      | ext s' r' =>
        simp only [AO.rows, Option.some.injEq, Prod.mk.injEq] at hor
        obtain ⟨rfl, rfl⟩ := hor
        cases r' with
        | nil => simp at hhn; omega
        | cons => rfl
  have hn0 : n ≠ 0 := fun e => hn 0 (hm.lo 0 (by omega)) (by omega)
  unfold Oper.wp
  rw [hr]
  refine hK _ _ w (hm.step _ hext (fun i hi => if_neg (by omega)) (fun i h => .inl h) (fun i y e => ?_) rfl rfl rfl (Nat.le_refl _) (fun _ _ _ => rfl) (fun j oj hf => ?_) (fun i j oi oj x' y' hne f1 f2 => ?_)) (by simp [Rep])
  · split at e
    · next e2 => obtain rfl := Option.some.inj e; exact ⟨.inr (by omega), rfl⟩
    · exact ⟨.inl (hm.dom i y e).1, (hm.dom i y e).2⟩
  · simp only [find] at hf
    split at hf
    · next e1 =>
      subst e1
      injection hf with hf
      injection hf with hf
      subst hf
      refine ⟨_, by simp, hpart _, fun g hg => ?_⟩
      have hg' := hblk g hg
      cases hlv : ob.live with
      | true => exact .inr (.inl ⟨id, ob, _, none, by simp [find, hlv, Ne.symm hid1], hob, hlv, hv1, hg'⟩)
      | false => exact .inr (.inr ⟨rfl, id, ob, _, hob, hlv, hv1, hg'⟩)
    · split at hf
      · simp only [find] at hf
        split at hf <;> cases hf
      · simp [find] at hf
  · simp only [find] at f1 f2
    split at f1
    · split at f2
      · omega
      · split at f2
        · simp only [find] at f2
          split at f2 <;> cases f2
        · simp [find] at f2
    · split at f1
      · simp only [find] at f1
        split at f1 <;> cases f1
      · simp [find] at f1
end Go.Proofs.Ytmgckellncfjpaa
