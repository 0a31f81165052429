/- ENGINE (second) 5: what is put together; rows; over any program. -/
import Derived.Test.YtiidfcadmdahmaaG4
set_option linter.unusedSimpArgs false
set_option linter.unusedVariables false
namespace Go.Proofs.Ytiidfcadmdahmaa
open Go.RowKit

theorem splice_len {α : Type} {l m : List α} {k : Nat} (h : k + m.length ≤ l.length) : (splice l k m).length = l.length := by
  unfold splice; simp; omega
theorem splice_cons {α : Type} (l : List α) (k : Nat) (u : α) (m : List α) (h : k + 1 + m.length ≤ l.length) : splice (l.set k u) (k + 1) m = splice l k (u :: m) := by
  unfold splice
  have e1 : (l.set k u).take (k + 1) = l.take k ++ [u] := by
    rw [List.take_succ_eq_append_getElem (by simp; omega), List.take_set_of_le (Nat.le_refl _)]
    simp
  have e2 : (l.set k u).drop (k + 1 + m.length) = l.drop (k + (u :: m).length) := by
    rw [List.drop_set_of_lt (by omega)]
    simp [Nat.add_assoc, Nat.add_comm 1]
  rw [e1, e2]
  simp
theorem splice_nil {α : Type} (l : List α) (k : Nat) : splice l k [] = l := by simp [splice]
theorem fold_set (off : Nat) : ∀ (us : List Value) (k : Nat) (arr : Array Value), off + k + us.length ≤ arr.size →
    (us.zipIdx k).foldl (fun cs (p : Value × Nat) => cs.setIfInBounds (off + p.2) p.1) arr = (splice arr.toList (off + k) us).toArray
  | [], k, arr, _ => by simp [splice_nil]
  | u :: us, k, arr, h => by
    simp only [List.length_cons] at h
    rw [List.zipIdx_cons, List.foldl_cons, fold_set off us (k + 1) _ (by simp; omega)]
    have : (arr.setIfInBounds (off + k) u).toList = arr.toList.set (off + k) u := by simp
    rw [this, ← Nat.add_assoc, splice_cons _ _ _ _ (by simp; omega)]

/-- parts laid into cells. -/
def fillA (places : Nat → Option (Nat × Nat)) : List AV → List (Nat × AV) → Option (List AV)
  | l, [] => some l
  | l, (i, v) :: rest => match places i, cellsOf v with
    | some (off, s), some m => if m.length = s ∧ off + s ≤ l.length then fillA places (splice l off m) rest else none
    | _, _ => none
theorem fill_sound {c : Ctx} {p : Nat → Prop} {ρ : Env} {S : AS} {a : Act} {w : World} (hm : Mod c p ρ S a.tmps w) (places : Nat → Option (Nat × Nat)) : ∀ (parts : List (Nat × Operand)) (l l' : List AV) (cs : List Value), RepL ρ l cs → (∀ u ∈ cs, u.oneCell' = true) →
    fillA places l (parts.map fun q => (q.1, S.val q.2)) = some l' → ∃ cs' : List Value, Instr.fill places cs.toArray (parts.map fun q => (q.1, a.eval q.2)) = some cs'.toArray ∧ RepL ρ l' cs' ∧ ∀ u ∈ cs', u.oneCell' = true
  | [], l, l', cs, hr, h1, hf => by
    simp only [List.map_nil, fillA, Option.some.injEq] at hf
    subst hf
    exact ⟨cs, rfl, hr, h1⟩
  | (i, x) :: parts, l, l', cs, hr, h1, hf => by
    simp only [List.map_cons, fillA] at hf
    cases hp : places i with
    | none => rw [hp] at hf; simp at hf
    | some q =>
      obtain ⟨off, s⟩ := q
      cases hc : cellsOf (S.val x) with
      | none => rw [hp, hc] at hf; simp at hf
      | some m =>
        rw [hp, hc] at hf
        dsimp only at hf
        split at hf
        · next hl =>
          obtain ⟨us, e1, hru, hu1⟩ := cells_of hm hc (hm.val x)
          have hlu := hru.length
          have hlc := hr.length
          obtain ⟨cs', h2, h3, h4⟩ := fill_sound hm places parts _ l' (splice cs off us) (hr.splice hru off) (fun u hu => by
            unfold splice at hu
            rcases List.mem_append.1 hu with h | h
            · rcases List.mem_append.1 h with h | h
              · exact h1 u (List.mem_of_mem_take h)
              · exact hu1 u h
            · exact h1 u (List.mem_of_mem_drop h)) hf
          refine ⟨cs', ?_, h3, h4⟩
          simp only [List.map_cons, Instr.fill, hp, e1]
          have h5 : us.toArray.size = s := by simp; omega
          have h6 : ¬ (off + us.toArray.size > cs.toArray.size) := by simp; omega
          have h7 := fold_set off us 0 cs.toArray (by simp; omega)
          simp only [Nat.add_zero] at h7
          have h8 : us.toArray.zipIdx.foldl (fun cs (x : Value × Nat) => cs.setIfInBounds (off + x.2) x.1) cs.toArray = (splice cs off us).toArray := by
            rw [← h7]
            simp
          rw [← h2]
          simp only [h5, ne_eq, not_true, decide_false, Bool.false_or, decide_eq_true_eq]
          rw [if_neg (by rw [h5] at h6; exact h6)]
          exact congrArg (fun q => Instr.fill places q _) h8
        · simp at hf

/-- where a type's parts lie. -/
def TI.place (i : TI) (q : Nat) : Option (Nat × Nat) := if i.kind = 2 then match i.places with
  | (_, s) :: _ => if 0 < s then some (q * s, s) else none
  | [] => none
  else i.places[q]?
theorem tyI_built {P : Program} {t : TypeId} {i : TI} (h : tyI P t = some i) (hk : i.kind = 2 ∨ i.kind = 3) (hpos : ∀ q ∈ i.places, 0 < q.2) (parts : List (Nat × Value)) (cells : Array Value) (hf : Instr.fill i.place i.zero.toArray parts = some cells) :
    P.built t parts = some cells := by
  unfold tyI at h
  split at h
  · next x d h1 h2 =>
    split at h
    · next z hz =>
      obtain rfl := Option.some.inj h
      have hzz : z.cells.toList.toArray = z.cells := by simp
      unfold Program.built
      cases d <;> simp at hk
      next n e =>
        simp only [h1, h2, hz]
        have h3 := hpos (0, ((P.info? e).map (·.size)).getD 0) (by simp)
        cases hi : P.info? e with
        | none => rw [hi] at h3; simp at h3
        | some y =>
          rw [hi] at h3
          simp only [Option.map_some, Option.getD_some] at h3
          simp only
          rw [← hf, hzz]
          congr 1
          funext q
          simp [TI.place, hi, h3]
      next fs =>
        simp only [h1, h2, hz]
        have key : ∀ (l : List Field), (∀ f ∈ l, 0 < ((P.info? f.type).map (·.size)).getD 0) → (l.mapM (fun f => (P.info? f.type).map fun i => (f.offset, i.size))) = some (l.map fun f => (f.offset, ((P.info? f.type).map (·.size)).getD 0)) := by
          intro l
          induction l with
          | nil => intro _; simp
          | cons f l ih =>
            intro hl
            have h3 := hl f (by simp)
            cases hi : P.info? f.type with
            | none => rw [hi] at h3; simp at h3
            | some y =>
              have := ih (fun g hg => hl g (by simp [hg]))
              simp [List.mapM_cons, hi, this]
        rw [key fs.toList (fun f hf => hpos (f.offset, _) (by simp only [List.mem_map]; exact ⟨f, hf, rfl⟩))]
        simp only
        rw [← hf, hzz]
        congr 1
        funext q
        simp [TI.place]
    · simp at h
  · simp at h
theorem does_build {P : Program} {o : Oper} {S : AS} {n : Nat} {t : TypeId} {i : TI} {parts : List (Nat × Operand)} {l : List AV} (ho : o.op = .build t parts.toArray) (hi : tyI P t = some i) (hk : i.kind = 2 ∨ i.kind = 3) (hpos : ∀ q ∈ i.places, 0 < q.2) (h1 : ∀ u ∈ i.zero, u.oneCell' = true)
    (hf : fillA i.place (i.zero.map .raw) (parts.map fun q => (q.1, S.val q.2)) = some l) : DoesAt P o S n ⟨.agg l, [], []⟩ :=
  does_pure rfl fun c p ρ a w hm => by
    obtain ⟨cs', h2, h3, h4⟩ := fill_sound hm i.place parts _ l i.zero (RepL.raws _) h1 hf
    refine ⟨.agg cs'.toArray, ?_, by simp only [Rep]; exact ⟨cs', rfl, h3⟩⟩
    unfold execOp
    rw [ho]
    refine run_v ?_
    have := tyI_built hi hk hpos _ _ h2
    have h5 := run_build (P := P) w t (parts.toArray.map fun (q : Nat × Operand) => (q.1, a.eval q.2)) cs'.toArray (by simpa using this)
    exact h5
/-- values told. -/
def rawsOf : List AV → Option (List Value)
  | [] => some []
  | .raw v :: l => match rawsOf l with
    | some vs => some (v :: vs)
    | none => none
  | _ => none
theorem raws_of {ρ : Env} : ∀ {l : List AV} {vs cs : List Value}, rawsOf l = some vs → RepL ρ l cs → cs = vs
  | [], vs, cs, h, hr => by
    simp only [rawsOf, Option.some.injEq] at h
    cases cs with
    | nil => exact h
    | cons => simp [RepL] at hr
  | a :: l, vs, cs, h, hr => by
    cases a with
    | raw v =>
      simp only [rawsOf] at h
      cases hl : rawsOf l with
      | none => rw [hl] at h; simp at h
      | some us =>
        rw [hl] at h
        simp only [Option.some.injEq] at h
        cases cs with
        | nil => simp [RepL] at hr
        | cons c cs =>
          simp only [RepL, Rep] at hr
          rw [hr.1, raws_of hl hr.2, h]
    | _ => simp [rawsOf] at h
/-! what a state knows of a value: headers of slices that never turn are such slices -/
mutual
def AS.see (S : AS) : AV → AV
  | .dead => .dead
  | .raw v => .raw v
  | .sl s rows => .sl s rows
  | .hdr id => match S.obj id with
    | some (.fro s rows) => .sl s rows
    | _ => .hdr id
  | .ptr id s k j => .ptr id s k j
  | .vw id s l h => .vw id s l h
  | .spt s rows k j => .spt s rows k j
  | .agg l => .agg (AS.seeL S l)
  | .tup l => .tup (AS.seeL S l)
  | .clo f l => .clo f (AS.seeL S l)
def AS.seeL (S : AS) : List AV → List AV
  | [] => []
  | a :: l => AS.see S a :: AS.seeL S l
end
mutual
theorem Mod.see {c : Ctx} {p : Nat → Prop} {ρ : Env} {S : AS} {tm : Array Value} {w : World} (hm : Mod c p ρ S tm w) : ∀ (a : AV) (v : Value), Rep ρ a v → Rep ρ (S.see a) v
  | .dead, _, e => by simpa [AS.see] using e
  | .raw _, _, e => by simpa [AS.see] using e
  | .sl _ _, _, e => by simpa [AS.see] using e
  | .hdr id, v, e => by
    simp only [AS.see]
    split
    · next s rows ho =>
      obtain ⟨x, h1, h2⟩ := hm.objs id _ ho
      simp only [Rep] at e ⊢
      rw [h1] at e
      obtain rfl := Option.some.inj e
      exact h2
    · exact e
  | .ptr .., _, e => by simpa [AS.see] using e
  | .vw .., _, e => by simpa [AS.see] using e
  | .spt .., _, e => by simpa [AS.see] using e
  | .agg l, v, e => by
    simp only [AS.see, Rep] at e ⊢
    obtain ⟨cs, h1, h2⟩ := e
    exact ⟨cs, h1, Mod.seeL hm l cs h2⟩
  | .tup l, v, e => by
    simp only [AS.see, Rep] at e ⊢
    obtain ⟨cs, h1, h2⟩ := e
    exact ⟨cs, h1, Mod.seeL hm l cs h2⟩
  | .clo f l, v, e => by
    simp only [AS.see, Rep] at e ⊢
    obtain ⟨cs, h1, h2⟩ := e
    exact ⟨cs, h1, Mod.seeL hm l cs h2⟩
theorem Mod.seeL {c : Ctx} {p : Nat → Prop} {ρ : Env} {S : AS} {tm : Array Value} {w : World} (hm : Mod c p ρ S tm w) : ∀ (l : List AV) (vs : List Value), RepL ρ l vs → RepL ρ (S.seeL l) vs
  | [], [], _ => by simp [AS.seeL, RepL]
  | [], _ :: _, e => by simp [RepL] at e
  | _ :: _, [], e => by simp [RepL] at e
  | a :: l, v :: vs, e => by
    simp only [AS.seeL, RepL] at e ⊢
    exact ⟨Mod.see hm a v e.1, Mod.seeL hm l vs e.2⟩
end
def pvsOf : List AV → Option (List PV)
  | [] => some []
  | .raw v :: l => (pvsOf l).map (PV.raw v :: ·)
  | .sl s rows :: l => (pvsOf l).map (PV.sl s rows :: ·)
  | _ => none
theorem pvs_of {ρ : Env} : ∀ {l : List AV} {ps : List PV} {cs : List Value}, pvsOf l = some ps → RepL ρ l cs → PRepL ρ.R ps cs ∧ ps.length = l.length
  | [], ps, cs, h, hr => by
    simp only [pvsOf, Option.some.injEq] at h
    subst h
    cases cs with
    | nil => exact ⟨trivial, rfl⟩
    | cons => simp [RepL] at hr
  | a :: l, ps, cs, h, hr => by
    cases cs with
    | nil => simp [RepL] at hr
    | cons c cs =>
      simp only [RepL] at hr
      cases a with
      | raw v =>
        simp only [pvsOf, Option.map_eq_some_iff] at h
        obtain ⟨qs, h1, rfl⟩ := h
        obtain ⟨k1, k2⟩ := pvs_of h1 hr.2
        exact ⟨⟨by simpa [Rep, PRep] using hr.1, k1⟩, by simp [k2]⟩
      | sl s rows =>
        simp only [pvsOf, Option.map_eq_some_iff] at h
        obtain ⟨qs, h1, rfl⟩ := h
        obtain ⟨k1, k2⟩ := pvs_of h1 hr.2
        exact ⟨⟨by simpa only [Rep] using hr.1, k1⟩, by simp [k2]⟩
      | _ => simp [pvsOf] at h
mutual
/-- the headers that occur. -/
def AV.deep : AV → List Nat
  | .hdr id => [id]
  | .agg l => deepL l
  | .tup l => deepL l
  | .clo _ l => deepL l
  | .dead => []
  | .raw _ => []
  | .sl _ _ => []
  | .ptr _ _ _ _ => []
  | .vw _ _ _ _ => []
  | .spt _ _ _ _ => []
def deepL : List AV → List Nat
  | [] => []
  | a :: l => a.deep ++ deepL l
end
mutual
theorem see_congr {S S' : AS} : ∀ (a : AV), (∀ i ∈ a.deep, S'.obj i = S.obj i) → S'.see a = S.see a
  | .hdr id, h => by simp only [AS.see]; rw [h id (by simp [AV.deep])]
  | .agg l, h => by simp only [AS.see]; rw [seeL_congr l (by simpa [AV.deep] using h)]
  | .tup l, h => by simp only [AS.see]; rw [seeL_congr l (by simpa [AV.deep] using h)]
  | .clo f l, h => by simp only [AS.see]; rw [seeL_congr l (by simpa [AV.deep] using h)]
  | .dead, _ => rfl
  | .raw _, _ => rfl
  | .sl _ _, _ => rfl
  | .ptr _ _ _ _, _ => rfl
  | .vw _ _ _ _, _ => rfl
  | .spt _ _ _ _, _ => rfl
theorem seeL_congr {S S' : AS} : ∀ (l : List AV), (∀ i ∈ deepL l, S'.obj i = S.obj i) → S'.seeL l = S.seeL l
  | [], _ => rfl
  | a :: l, h => by
    simp only [AS.seeL]
    simp only [deepL, List.mem_append] at h
    rw [see_congr a (fun i hi => h i (.inl hi)), seeL_congr l (fun i hi => h i (.inr hi))]
end
/-- a value as an element. -/
def AS.elem (S : AS) (a : AV) : Option (List PV) := (cellsOf (S.see a)).bind pvsOf
theorem elem_of {c : Ctx} {p : Nat → Prop} {ρ : Env} {S : AS} {a : Act} {w : World} (hm : Mod c p ρ S a.tmps w) {x : AV} {r : List PV} {u : Value} (h : S.elem x = some r) (hu : Rep ρ x u) : ∃ cs : List Value, u.cells = cs.toArray ∧ PRepL ρ.R r cs ∧ cs.length = r.length ∧ ∀ v ∈ cs, v.oneCell' = true := by
  obtain ⟨l, h1, h2⟩ := Option.bind_eq_some_iff.1 h
  obtain ⟨cs, e, hr, h3⟩ := cells_of hm h1 (hm.see _ _ hu)
  obtain ⟨k1, k2⟩ := pvs_of h2 hr
  exact ⟨cs, e, k1, k1.length, h3⟩
theorem elem_congr {S S' : AS} {a : AV} (h : ∀ i ∈ a.deep, S'.obj i = S.obj i) : S'.elem a = S.elem a := by unfold AS.elem; rw [see_congr a h]
def deepP : List (Nat × AV) → List Nat
  | [] => []
  | (_, a) :: l => a.deep ++ deepP l
/-- a row's rows out of a literal's parts. -/
def elemsOf (S : AS) (s : Nat) : Nat → List (Nat × AV) → Option (List (List PV))
  | _, [] => some []
  | k, (i, x) :: parts => match S.elem x, elemsOf S s (k + 1) parts with
    | some r, some rows => if i = k ∧ r.length = s then some (r :: rows) else none
    | _, _ => none
theorem elems_congr {S S' : AS} {s : Nat} : ∀ (l : List (Nat × AV)) (k : Nat), (∀ i ∈ deepP l, S'.obj i = S.obj i) → elemsOf S' s k l = elemsOf S s k l
  | [], _, _ => rfl
  | (i, x) :: l, k, h => by
    simp only [deepP, List.mem_append] at h
    simp only [elemsOf]
    rw [elem_congr (fun i hi => h i (.inl hi)), elems_congr l (k + 1) (fun i hi => h i (.inr hi))]
theorem elems_sound {c : Ctx} {p : Nat → Prop} {ρ : Env} {S : AS} {a : Act} {w : World} (hm : Mod c p ρ S a.tmps w) {s : Nat} : ∀ (parts : List (Nat × Operand)) (k : Nat) (rows : List (List PV)) (done rest : List Value), elemsOf S s k (parts.map fun q => (q.1, S.val q.2)) = some rows → done.length = k * s → rest.length = parts.length * s →
    ∃ vals, Instr.fill (fun i => some (i * s, s)) (done ++ rest).toArray (parts.map fun q => (q.1, a.eval q.2)) = some (done ++ vals.flatten).toArray ∧ PRepLL ρ.R rows vals ∧ rows.length = parts.length ∧ (∀ r ∈ vals, r.length = s) ∧ ∀ r ∈ vals, ∀ u ∈ r, u.oneCell' = true
  | [], k, rows, done, rest, h, hd, hr => by
    simp only [List.map_nil, elemsOf, Option.some.injEq] at h
    subst h
    have : rest = [] := List.eq_nil_of_length_eq_zero (by simpa using hr)
    subst this
    exact ⟨[], rfl, trivial, rfl, by simp, by simp⟩
  | (i, x) :: parts, k, rows, done, rest, h, hd, hr => by
    simp only [List.map_cons, elemsOf] at h
    cases h1 : S.elem (S.val x) with
    | none => rw [h1] at h; simp at h
    | some r =>
      cases h2 : elemsOf S s (k + 1) (parts.map fun q => (q.1, S.val q.2)) with
      | none => rw [h1, h2] at h; simp at h
      | some rows' =>
        rw [h1, h2] at h
        dsimp only at h
        split at h
        · next hc =>
          obtain ⟨rfl, hrl⟩ := hc
          obtain rfl := Option.some.inj h
          obtain ⟨vr, e1, e0, e3, e2⟩ := elem_of hm h1 (hm.val x)
          rw [hrl] at e3
          simp only [List.length_cons, Nat.succ_mul] at hr
          obtain ⟨vals, h3, h8, h4, h5, h6⟩ := elems_sound hm parts (i + 1) rows' (done ++ vr) (rest.drop s) h2 (by simp [hd, e3, Nat.succ_mul]) (by simp; omega)
          refine ⟨vr :: vals, ?_, ⟨e0, h8⟩, by simp [h4], fun q hq => ?_, fun q hq => ?_⟩
          · simp only [List.map_cons, Instr.fill, e1]
            have h7 := fold_set (i * s) vr 0 (done ++ rest).toArray (by simp [hd, e3]; omega)
            simp only [Nat.add_zero] at h7
            have h8 : vr.toArray.zipIdx.foldl (fun cs (x : Value × Nat) => cs.setIfInBounds (i * s + x.2) x.1) (done ++ rest).toArray = ((done ++ vr) ++ rest.drop s).toArray := by
              have : splice (done ++ rest) (i * s) vr = (done ++ vr) ++ rest.drop s := by
                unfold splice
                rw [← hd, List.take_left, e3, List.drop_append, List.drop_eq_nil_of_le (by omega)]
                simp
              rw [← this, ← h7]
              simp
            have h9 : vr.toArray.size = s := by simp [e3]
            have h10 : ¬ (i * s + vr.toArray.size > (done ++ rest).toArray.size) := by simp [hd, e3]; omega
            simp only [h9, ne_eq, not_true, decide_false, Bool.false_or, decide_eq_true_eq]
            rw [if_neg (by rw [h9] at h10; exact h10)]
            refine (congrArg (fun q => Instr.fill _ q _) h8).trans (h3.trans ?_)
            simp
          · rcases List.mem_cons.1 hq with rfl | hq
            · exact e3
            · exact h5 q hq
          · rcases List.mem_cons.1 hq with rfl | hq
            · exact e2
            · exact h6 q hq
        · simp at h
theorem ownAt_new {w : World} {e : TypeId} {s : Nat} {vals : List (List Value)} (hs : ∀ r ∈ vals, r.length = s) (hm : vals.length ≤ maxLen) : OwnAt (w.alloc (.cells vals.flatten.toArray e)) e s (.slice (some ⟨w.heap.size, 0, none⟩) vals.length vals.length) vals :=
  ownAt_of ⟨flatten_len hs, .inr ⟨w.heap.size, vals.length, vals.flatten.toArray, rfl, Nat.zero_le _, heap_alloc_new w _, Nat.le_refl _, hm, by simp only [List.size_toArray]; exact flatten_len hs, by show vals.flatten.take (vals.length * s) = vals.flatten; rw [← flatten_len hs, List.take_length]⟩⟩
theorem oblk_row_lt {w : World} {x : Value} {g : Nat} {e s : Nat} {rows : List (List PV)} (h : oblk x (.row e s rows) = some g) : blkOf x = some g := by
  cases x <;> simp [oblk] at h
  next A n c => cases A <;> cases c <;> simp [oblk] at h <;> simpa [blkOf] using h
theorem does_buildSlice {P : Program} {o : Oper} {S : AS} {n : Nat} {t : TypeId} {m : Nat} {i ie : TI} {parts : List (Nat × Operand)} {rows : List (List PV)} (ho : o.op = .buildSlice t m parts.toArray) (hi : tyI P t = some i) (hk : i.kind = 1) (hie : tyI P i.elem = some ie) (h0 : 0 < ie.size) (hm0 : m = parts.length) (hb : m * ie.size ≤ 16777216)
    {rd0 : List Nat} (hf : elemsOf S ie.size 0 (parts.map fun q => (q.1, S.val q.2)) = some rows) : DoesAt P o S n ⟨.hdr (8 * n), [(8 * n, some (.row i.elem ie.size rows))], rd0⟩ := by
  intro rd m0 c p ρ a w hm hn K Q hK
  obtain ⟨xi, d, z, i1, i2, i3, i4, i5, i6, i7⟩ := tyI_spec hie
  have hte := tyI_slice hi hk
  have hsz : m * ie.size = parts.length * ie.size := by rw [hm0]
  obtain ⟨vals, h3, h8, h4, h5, h6⟩ := elems_sound hm parts 0 rows [] (((Array.range (m * ie.size)).map (fun q => (z.cells[q % z.cells.size]!))).toList) hf (by simp) (by rw [Array.length_toList, Array.size_map, Array.size_range, hsz])
  rw [List.nil_append, List.nil_append, Array.toArray_toList] at h3
  have hvl : vals.length = m := by rw [h8.length, h4, hm0]
  obtain ⟨ρ', he, hx, hm'⟩ := hm.made hn (x := .slice (some ⟨w.heap.size, 0, none⟩) m m) (o := .row i.elem ie.size rows) (ob := .cells vals.flatten.toArray i.elem) rfl
    (fun ρ' he => ⟨vals, h8.sub he.R, h5, h6, by
      rw [← hvl]
      refine ownAt_new h5 ?_
      unfold maxLen
      have := Nat.le_mul_of_pos_right m h0
      omega⟩) (fun g hg => by have := oblk_row_lt (w := w) hg; simp [blkOf] at this; omega)
  have hr : (execOp a.eval o).run P w = .ok (.value (.slice (some ⟨w.heap.size, 0, none⟩) m m)) (w.alloc (.cells vals.flatten.toArray i.elem)) := by
    unfold execOp
    rw [ho]
    refine run_v ?_
    rcases Nat.eq_zero_or_pos m with hz | hp
    · have hp0 : parts = [] := List.eq_nil_of_length_eq_zero (by omega)
      have hr0 : vals = [] := List.eq_nil_of_length_eq_zero (by omega)
      subst hz; subst hp0; subst hr0
      simp [Instr.buildSlice, run_underlying hte, sizeOf, typeInfo, i1, Instr.fill, newRow]
      have hz0 : Array.map (fun _ : Nat => (default : Value)) (Array.range 0) = #[] := Array.eq_empty_of_size_eq_zero (by simp)
      rw [hz0]
    · have hpos : ¬ m * xi.size = 0 := by rw [i4]; have := Nat.mul_pos hp h0; omega
      have hsmall : ¬ m * xi.size > 2 ^ 24 := by rw [i4]; omega
      refine run_buildSlice w t i.elem m _ _ xi z hte i1 i3 hsmall hpos ?_
      rw [i4]
      simpa only [List.map_toArray] using h3
  refine wpIn_value hr ?_
  exact hK _ ρ' _ hm' (by simp only [Rep]; exact hx)

/-- a header that owns nothing yet. -/
theorem Mod.nilrow {c : Ctx} {p : Nat → Prop} {ρ : Env} {S : AS} {tm : Array Value} {w : World} (h : Mod c p ρ S tm w) {n : Nat} (hn : ∀ i, p i → i / 8 ≠ n) (e : TypeId) (s : Nat) (A : Option Addr) :
    ∃ ρ', ExtE ρ ρ' ∧ ρ'.f (8 * n) = some (.slice A 0 0) ∧ Mod c (fun i => p i ∨ i / 8 = n) ρ' (S.upd [(8 * n, some (.row e s []))]) tm w := by
  have hfr := h.fresh hn (k := 8 * n) (by omega)
  have hn0 := h.n0 hn
  have he := ext_with (x := .slice A 0 0) hfr
  refine ⟨_, he, with_self .., h.step0 [(8 * n, some (.row e s []))] he.f rfl (fun i hi => with_low hi (by omega)) (fun i h => .inl h) (with_dom h (by omega) rfl) rfl rfl rfl (Nat.le_refl _) (fun _ _ _ => rfl) ?_ ?_⟩
  · intro i o' hf
    simp only [find] at hf
    split at hf
    · next e =>
      subst e
      injection hf with hf
      injection hf with hf
      subst hf
      exact ⟨.slice A 0 0, with_self .., ⟨[], trivial, by simp, by simp, .inl ⟨rfl, A, rfl⟩⟩, fun g hg => by cases A <;> simp [oblk] at hg⟩
    · cases hf
  · intro i j oi oj x' y' hne h1 h2
    simp only [find] at h1 h2
    split at h1
    · next e1 =>
      split at h2
      · next e2 => omega
      · cases h2
    · cases h1
theorem does_nil {P : Program} {o : Oper} {S : AS} {n : Nat} {x : Operand} {i ie : TI} (ho : o.op = .move x ∨ o.op = .assign x) (_ : tyI P o.type = some i) (_ : tyI P i.elem = some ie) (hx : S.val x = .raw (.slice none 0 0)) : DoesAt P o S n ⟨.hdr (8 * n), [(8 * n, some (.row i.elem ie.size []))], []⟩ := by
  intro rd m0 c p ρ a w hm hn K Q hK
  obtain ⟨ρ', he, hx', hm'⟩ := hm.nilrow hn i.elem ie.size none
  have hr : (execOp a.eval o).run P w = .ok (.value (.slice none 0 0)) w := by rcases ho with ho | ho <;> simp [execOp, ho, hm.raw hx]
  refine wpIn_value hr ?_
  exact hK _ ρ' _ hm' (by simp only [Rep]; exact hx')

theorem run_append_some0 {P : Program} (w : World) (t ty e : TypeId) (i : TypeInfo) (ht : P.underlying t = some (.slice e)) (hi : P.info? e = some i) (ad : Addr) (A : Option Addr) (m c : Nat) (h0 : 0 < m) (hb : m * i.bytes ≤ 140737488355328) (h63 : m ≤ maxLen) :
    (Builtin.append_ #[t, t] ty #[.slice (some ad) 0 0, .slice A m c]).run P w = (Builtin.append_ #[t, t] ty #[.slice none 0 0, .slice A m c]).run P w := by
  have h1 : ¬ (0 + m ≤ 0) := by omega
  have h2 : ¬ (m * i.bytes > 2 ^ 48) := by omega
  simp [Builtin.append_, run_underlying ht, sizeOf, typeInfo, hi, Builtin.lenOf, Builtin.firstCells, h1, loadCells, loadCellsFrom, Builtin.nextslicecap, h0, h2, h1]
  have h3 : ¬ m = 0 := by omega
  have h4 : ¬ (281474976710656 < m * i.bytes) := by omega
  simp [h3, h4]
theorem OwnAt.block {w : World} {e : TypeId} {s : Nat} {x : Value} {vals : List (List Value)} {rows : List (List PV)} (h : OwnAt w e s x vals) : oblk x (.row e s rows) = none ∨ oblk x (.row e s rows) = x.ownBlock := by
  rcases h with ⟨-, A, rfl⟩ | ⟨⟨g, cap, rfl, hp⟩, -⟩
  · cases A <;> exact .inl rfl
  · obtain ⟨q, rfl⟩ : ∃ q, cap = q + 1 := ⟨cap - 1, by omega⟩
    exact .inr rfl
/-- append onto an own row. -/
theorem run_append_own {P : Program} {w : World} {t ty e : TypeId} {i : TypeInfo} {z : Value} {s bytes : Nat} (ht : P.underlying t = some (.slice e)) (hi : P.info? e = some i) (hz : i.zero = some z) (hsize : i.size = s) (hby : i.bytes = bytes) (hzs : z.cells.size = s) (hsz : 0 < s)
    {v : Value} {vals : List (List Value)} (hs : ∀ r ∈ vals, r.length = s) (hown : OwnAt w e s v vals) {A : Option Addr} {m c : Nat} {news : List (List Value)} (hr : Reads w w.heap.size s A m news.flatten) (hnl : news.length = m) (hn : ∀ r ∈ news, r.length = s) (h1 : ∀ r ∈ news, ∀ u ∈ r, u.oneCell' = true)
    (h63 : vals.length + m ≤ maxLen) (hbytes : (vals.length + m) * bytes ≤ 140737488355328) (rows rows' : List (List PV)) :
    ∃ v' w', (Builtin.append_ #[t, t] ty #[v, .slice A m c]).run P w = .ok v' w' ∧ OwnAt w' e s v' (vals ++ news) ∧ v'.oneCell' = true ∧ w.grownBy w' (oblk v (.row e s rows)) ∧ ∀ g, oblk v' (.row e s rows') = some g → oblk v (.row e s rows) = some g ∨ w.heap.size ≤ g := by
  have h1' : ∀ u ∈ news.flatten, u.oneCell' = true := fun u hu => by obtain ⟨r, hr, hu'⟩ := List.mem_flatten.1 hu; exact h1 r hr u hu'
  have main : ∀ v0, w.ownsRow 0 e s v0 vals.length vals.flatten → (oblk v0 (.row e s rows) = none → v0 = .slice none 0 0 ∨ m = 0) → ∃ v' w', (Builtin.append_ #[t, t] ty #[v0, .slice A m c]).run P w = .ok v' w' ∧ OwnAt w' e s v' (vals ++ news) ∧ v'.oneCell' = true ∧ w.grownBy w' (oblk v0 (.row e s rows)) ∧ ∀ g, oblk v' (.row e s rows') = some g → oblk v0 (.row e s rows) = some g ∨ w.heap.size ≤ g := by
    intro v0 hv0 hcap
    obtain ⟨v', w', hrun, hown', hgrow, hblk⟩ := run_append_any (P := P) w 0 t ty e i z s bytes ht hi hz hsize hby hzs hsz v0 vals.length vals.flatten hv0 w.heap.size A m c news.flatten hr h1' h63 hbytes (Nat.zero_le _)
    have ho' : w'.ownsRow 0 e s v' (vals ++ news).length (vals ++ news).flatten := by rw [List.length_append, List.flatten_append, hnl]; exact hown'
    have hone : v'.oneCell' = true := by rcases hown'.2 with ⟨rfl, -⟩ | ⟨g, cap, cur, rfl, -⟩ <;> rfl
    have hb' : ∀ g, oblk v' (.row e s rows') = some g → v'.ownBlock = some g := fun g hg => by
      rcases (ownAt_of ho').block (rows := rows') with h | h
      · rw [h] at hg; cases hg
      · rw [← h]; exact hg
    rcases (ownAt_of hv0).block (rows := rows) with hb | hb
    · rw [hb]
      rcases hcap hb with rfl | rfl
      · refine ⟨v', w', hrun, ownAt_of ho', hone, hgrow, fun g hg => ?_⟩
        rcases hblk with h | h
        · rw [hb' g hg] at h; cases h
        · rw [hb' g hg] at h; injection h with h; exact .inr (by omega)
      · have hn0 : news = [] := List.eq_nil_of_length_eq_zero hnl
        subst hn0
        have hrun0 : (Builtin.append_ #[t, t] ty #[v0, .slice A 0 c]).run P w = .ok v0 w := by
          rcases hv0.2 with ⟨rfl, h2⟩ | ⟨g, cap, cur, rfl, _, _, hnc, _⟩
          · cases A with
            | none => simp [Builtin.append_, run_underlying ht, sizeOf, typeInfo, hi, Builtin.lenOf, Builtin.firstCells]
            | some ad => simp [Builtin.append_, run_underlying ht, sizeOf, typeInfo, hi, Builtin.lenOf, Builtin.firstCells, loadCells, loadCellsFrom, storeCells]
          · cases A with
            | none => simp [Builtin.append_, run_underlying ht, sizeOf, typeInfo, hi, Builtin.lenOf, Builtin.firstCells, hnc, storeCells]
            | some ad => simp [Builtin.append_, run_underlying ht, sizeOf, typeInfo, hi, Builtin.lenOf, Builtin.firstCells, hnc, storeCells, loadCells, loadCellsFrom]
        refine ⟨v0, w, hrun0, by simpa using ownAt_of hv0, (by rcases hv0.2 with ⟨rfl, -⟩ | ⟨g, cap, cur, rfl, -⟩ <;> rfl), World.grownBy.refl w _, fun g hg => ?_⟩
        rw [show oblk v0 (.row e s rows') = oblk v0 (.row e s rows) from rfl, hb] at hg
        cases hg
    · rw [hb]
      refine ⟨v', w', hrun, ownAt_of ho', hone, hgrow, fun g hg => ?_⟩
      rcases hblk with h | h
      · exact .inl (by rw [← h]; exact hb' g hg)
      · rw [hb' g hg] at h; injection h with h; exact .inr (by omega)
  rcases hown with ⟨rfl, B, rfl⟩ | ⟨⟨g, cap, rfl, hp⟩, hown⟩
  · cases B with
    | none => exact main _ ⟨by simp, .inl ⟨rfl, rfl⟩⟩ fun _ => .inl rfl
    | some ad =>
      rcases Nat.eq_zero_or_pos m with hm0 | hm0
      · subst hm0
        have hn0 : news = [] := List.eq_nil_of_length_eq_zero hnl
        subst hn0
        refine ⟨.slice (some ad) 0 0, w, ?_, .inl ⟨rfl, _, rfl⟩, rfl, World.grownBy.refl w _, fun g hg => by cases hg⟩
        cases A with
        | none => simp [Builtin.append_, run_underlying ht, sizeOf, typeInfo, hi, Builtin.lenOf, Builtin.firstCells, storeCells]
        | some a2 => simp [Builtin.append_, run_underlying ht, sizeOf, typeInfo, hi, Builtin.lenOf, Builtin.firstCells, storeCells, loadCells, loadCellsFrom]
      · obtain ⟨v', w', h2, h3⟩ := main (.slice none 0 0) ⟨by simp, .inl ⟨rfl, rfl⟩⟩ fun _ => .inl rfl
        refine ⟨v', w', ?_, h3⟩
        rw [run_append_some0 w t ty e i ht hi ad A m c hm0 (by rw [hby]; simpa using hbytes) (by simpa using h63)]
        exact h2
  · exact main _ hown fun hb => by
      obtain ⟨q, rfl⟩ : ∃ q, cap = q + 1 := ⟨cap - 1, by omega⟩
      cases hb
theorem Reads.of_slice {R : Frz} {w : World} {A : Option Addr} {s : Nat} {rows : List (List PV)} (h0 : 0 < s) (h : ∀ k r, rows[k]? = some r → ∃ b off vs, A = some ⟨b, off, none⟩ ∧ Elem R w b (off + k * s) s r vs) :
    ∃ vals, PRepLL R rows vals ∧ (∀ r ∈ vals, r.length = s) ∧ (∀ r ∈ vals, ∀ u ∈ r, u.oneCell' = true) ∧ vals.length = rows.length ∧ Reads w w.heap.size s A rows.length vals.flatten := by
  have key : ∀ (rows : List (List PV)) (k0 : Nat), (∀ k r, rows[k]? = some r → ∃ b off vs, A = some ⟨b, off, none⟩ ∧ Elem R w b (off + (k0 + k) * s) s r vs) →
      ∃ vals, PRepLL R rows vals ∧ (∀ r ∈ vals, r.length = s) ∧ (∀ r ∈ vals, ∀ u ∈ r, u.oneCell' = true) ∧ vals.length = rows.length ∧ ∀ k vs, vals[k]? = some vs → ∃ b off, A = some ⟨b, off, none⟩ ∧ ∀ i, i < s → w.cell? ⟨b, off + (k0 + k) * s + i, none⟩ = vs[i]? := by
    intro rows
    induction rows with
    | nil => intro k0 _; exact ⟨[], trivial, by simp, by simp, rfl, by simp⟩
    | cons r rows ih =>
      intro k0 h
      obtain ⟨b, off, vs, e1, e2⟩ := h 0 r rfl
      obtain ⟨vals, k1, k2, k3, k4, k5⟩ := ih (k0 + 1) fun k r' hk => by
        have := h (k + 1) r' (by simpa using hk)
        rwa [show k0 + (k + 1) = k0 + 1 + k by omega] at this
      refine ⟨vs :: vals, ⟨e2.rep, k1⟩, fun q hq => ?_, fun q hq => ?_, by simp [k4], fun k q hk => ?_⟩
      · rcases List.mem_cons.1 hq with rfl | hq
        · exact e2.len
        · exact k2 q hq
      · rcases List.mem_cons.1 hq with rfl | hq
        · exact e2.one
        · exact k3 q hq
      · cases k with
        | zero => obtain rfl : vs = q := by simpa using hk
                  exact ⟨b, off, e1, e2.cell⟩
        | succ k =>
          have := k5 k q (by simpa using hk)
          rwa [show k0 + 1 + k = k0 + (k + 1) by omega] at this
  obtain ⟨vals, k1, k2, k3, k4, k5⟩ := key rows 0 (by simpa using h)
  refine ⟨vals, k1, k2, k3, k4, ?_⟩
  rw [← k4]
  have hfl := flatten_len k2
  refine CellsAt.reads (w := w) (A := A) (cs := vals.flatten) (size := s) (n := vals.length) ?_ hfl h0
  intro j hj
  have hk' : j / s < vals.length := by rw [hfl] at hj; exact Nat.div_lt_of_lt_mul (by rw [Nat.mul_comm]; exact hj)
  obtain ⟨b, off, e, hcell⟩ := k5 (j / s) vals[j / s] (by simp [hk'])
  have hi' : j % s < s := Nat.mod_lt _ h0
  have hj2 : j / s * s + j % s = j := by rw [Nat.mul_comm]; exact Nat.div_add_mod j s
  have h4 := hcell (j % s) hi'
  rw [Nat.zero_add, Nat.add_assoc, hj2] at h4
  have h5 := flatten_get k2 (j / s) (j % s) hi'
  rw [hj2, List.getElem?_eq_getElem hk', List.getElem?_eq_getElem hj] at h5
  have h6 : w.cell? ⟨b, off + j, none⟩ = some vals.flatten[j] := by rw [h4]; exact h5.symm
  refine ⟨b, off, e, ?_, h6⟩
  unfold World.cell? at h6
  split at h6
  · next c e f hq => exact (Array.getElem?_eq_some_iff.1 hq).1
  · cases h6

theorem does_append {P : Program} {o : Oper} {S : AS} {n : Nat} {x y : Operand} {t e : TypeId} {s : Nat} {i ie : TI} {id1 : Nat} {a2 : AV} {rows rows2 : List (List PV)} (ho : o.op = .call { callee := .builtin .append, args := #[x, y], argTypes := #[t, t] }) (hi : tyI P t = some i) (hk : i.kind = 1) (he : i.elem = e) (hie : tyI P e = some ie) (hs : ie.size = s) (h0 : 0 < s)
    (hz : ie.zero.length = s) (hx : S.val x = .hdr id1) (ho1 : S.obj id1 = some (.row e s rows)) (hy : S.val y = a2) (hor : S.rowsOf a2 = some (s, rows2)) (hb : (rows.length + rows2.length) * ie.bytes ≤ 140737488355328) (hb2 : rows.length + rows2.length ≤ 9223372036854775807) :
    DoesAt P o S n ⟨.hdr (8 * n), [(id1, none), (8 * n, some (.row e s (rows ++ rows2)))], id1 :: a2.ids⟩ := by
  intro rd m0 c p ρ a w hm hn K Q hK
  obtain ⟨xi, d, z, i1, i2, i3, i4, i5, i6, i7⟩ := tyI_spec hie
  have hte := tyI_slice hi hk
  rw [he] at hte
  obtain ⟨v1, hv1, vals, hp1, hr1, hone1, hown⟩ := hm.objs id1 _ ho1
  have e1 : a.eval x = v1 := by
    have := hm.val x
    rw [hx] at this
    simp only [Rep] at this
    rw [hv1] at this
    exact (Option.some.inj this).symm
  obtain ⟨A, cp, e2, -, hel⟩ := hm.slice hor (u := a.eval y) (by rw [← hy]; exact hm.val y)
  obtain ⟨news, k1, k2, k3, k4, k5⟩ := Reads.of_slice h0 hel
  have hl1 := hp1.length
  obtain ⟨v', w', hrun, hown', hone', hgrow, hblk⟩ := run_append_own (P := P) (ty := o.type) (c := cp) hte i1 i3 (by rw [i4, hs]) i5 (by rw [← hz, ← i7]; simp) h0 hr1 hown k5 k4 k2 k3 (by unfold maxLen; omega) (by rw [hl1]; exact hb) rows (rows ++ rows2)
  have hfr := hm.fresh hn (k := 8 * n) (by omega)
  have hn0 := hm.n0 hn
  have hid1 : id1 ≠ 8 * n := fun e => by rw [e, hfr] at hv1; cases hv1
  have hext := ext_with (x := v') hfr
  have hT : ∀ g, oblk v1 (.row e s rows) = some g → Touch ρ S [(id1, none), (8 * n, some (.row e s (rows ++ rows2)))] g := fun g hg =>
    ⟨id1, _, v1, none, by simp [find], ho1, hv1, hg⟩
  have hm' := hm.step0 [(id1, none), (8 * n, some (.row e s (rows ++ rows2)))] hext.f rfl (fun i hi => with_low hi (by omega)) (p' := fun i => p i ∨ i / 8 = n) (fun i h => .inl h) (w' := w') (with_dom hm (by omega) hone') hgrow.os hgrow.tape hgrow.output hgrow.size (fun g hg hT' => hgrow.block g hg (fun e => hT' (hT g e.symm)))
      (fun i oi hf => by
        simp only [find] at hf
        split at hf
        · next e1 => cases hf
        · split at hf
          · next e2 =>
            subst e2
            injection hf with hf
            injection hf with hf
            subst hf
            refine ⟨v', with_self .., ⟨vals ++ news, (hp1.append k1), fun r hr => ?_, fun r hr => ?_, hown'⟩, fun g hg => ?_⟩
            · rcases List.mem_append.1 hr with h | h
              · exact hr1 r h
              · exact k2 r h
            · rcases List.mem_append.1 hr with h | h
              · exact hone1 r h
              · exact k3 r h
            · rcases hblk g hg with h | h
              · exact .inr (hT g h)
              · exact .inl h
          · cases hf)
      (fun i j oi oj x' y' hne' h1 h2 => by
        simp only [find] at h1 h2
        split at h1
        · cases h1
        · split at h1
          · split at h2
            · cases h2
            · split at h2
              · omega
              · cases h2
          · cases h1)
  have hr : (execOp a.eval o).run P w = .ok (.value v') w' := by
    unfold execOp
    rw [ho]
    simp only [resolve, Sem.run_bind, Sem.run_pure, Result.andThen_ok, invoke, builtin, List.map_toArray, List.map_cons, List.map_nil, e1, e2, hrun]
  refine wpIn_value hr ?_
  exact hK _ _ _ hm' (by simp only [Rep]; exact with_self ..)

/-! structs of numbers are compared -/
def kindOfT (P : Program) (t : TypeId) : Option Bool :=
  match P.underlying t with
  | some (.int _) => some true
  | some .bool => some false
  | _ => none
def flatG (P : Program) : List Field → Nat → Option (List Bool)
  | [], _ => some []
  | f :: fs, k => if f.name != "_" && f.offset == k then match kindOfT P f.type, flatG P fs (k + 1) with
    | some b, some l => some (b :: l)
    | _, _ => none
    else none
def flatK (P : Program) (t : TypeId) : Option (List Bool) :=
  match P.underlying t with
  | some (.struct fs) => if !P.stoodInHeld t && !P.eqGuardType P.depth t then flatG P fs.toList 0 else none
  | _ => none
def eqV : List Bool → List Value → List Value → Option Bool
  | [], [], [] => some true
  | true :: ks, .int k a :: l, .int k' b :: m => if k = k' then (match eqV ks l m with | some r => some (decide (a = b) && r) | none => none) else none
  | false :: ks, .bool a :: l, .bool b :: m => match eqV ks l m with | some r => some ((a == b) && r) | none => none
  | _, _, _ => none
theorem run_part1 {P : Program} {w : World} {t : TypeId} {cs : Array Value} {k : Nat} {v : Value} {b : Bool} (ht : kindOfT P t = some b) (hv : cs[k]? = some v) : (part t cs k).run P w = .ok v w := by
  have hagg : (isAgg t).run P w = .ok false w := by
    unfold kindOfT at ht
    cases h : P.underlying t with
    | none => rw [h] at ht; simp at ht
    | some d =>
      unfold isAgg
      rw [Sem.run_bind, run_underlying h w]
      rw [h] at ht
      cases d <;> first | rfl | simp at ht
  simp [part, hagg, hv]
theorem run_eqFields {P : Program} {w : World} {X Y : Array Value} : ∀ (fs : List Field) (k : Nat) (ks : List Bool) (xs ys : List Value) (r : Bool), flatG P fs k = some ks → (∀ i v, xs[i]? = some v → X[k + i]? = some v) → (∀ i v, ys[i]? = some v → Y[k + i]? = some v) →
    eqV ks xs ys = some r → (Op.eqFields 9999 X Y fs).run P w = .ok r w
  | [], k, ks, xs, ys, r, hf, _, _, h => by
    simp only [flatG, Option.some.injEq] at hf
    subst hf
    cases xs <;> cases ys <;> simp [eqV] at h
    subst h
    simp [Op.eqFields]
  | f :: fs, k, ks, xs, ys, r, hf, hx, hy, h => by
    simp only [flatG] at hf
    split at hf
    · next hn =>
      simp only [Bool.and_eq_true, bne_iff_ne, ne_eq, beq_iff_eq] at hn
      obtain ⟨h1, h2⟩ := hn
      cases hk : kindOfT P f.type with
      | none => rw [hk] at hf; simp at hf
      | some b =>
        cases hl : flatG P fs (k + 1) with
        | none => rw [hk, hl] at hf; simp at hf
        | some ks' =>
          rw [hk, hl] at hf
          simp only [Option.some.injEq] at hf
          subst hf
          cases xs with
          | nil => cases b <;> simp [eqV] at h
          | cons x xs =>
            cases ys with
            | nil => cases b <;> cases x <;> simp [eqV] at h
            | cons y ys =>
              have p1 : (part f.type X f.offset).run P w = .ok x w := run_part1 hk (by rw [h2]; simpa using hx 0 x rfl)
              have p2 : (part f.type Y f.offset).run P w = .ok y w := run_part1 hk (by rw [h2]; simpa using hy 0 y rfl)
              have ih := fun q hq => run_eqFields (P := P) (w := w) (X := X) (Y := Y) fs (k + 1) ks' xs ys q hl (fun i v hv => by rw [show k + 1 + i = k + (i + 1) by omega]; exact hx (i + 1) v (by simpa using hv)) (fun i v hv => by rw [show k + 1 + i = k + (i + 1) by omega]; exact hy (i + 1) v (by simpa using hv)) hq
              have key : ∀ (c : Bool), (Op.equalIn 9999 f.type x y).run P w = .ok c w → ∀ q, eqV ks' xs ys = some q → r = (c && q) → (Op.eqFields 9999 X Y (f :: fs)).run P w = .ok r w := by
                intro c hc q hq hr
                unfold Op.eqFields
                rw [if_pos h1]
                simp only [Sem.run_bind, p1, p2, Result.andThen_ok, hc]
                cases c with
                | false => simp [hr]
                | true => simp [hr, ih q hq]
              unfold kindOfT at hk
              cases b with
              | true =>
                cases x <;> cases y <;> simp only [eqV, reduceCtorEq] at h
                next k1 a k2 c =>
                  split at h
                  · next hkk =>
                    subst hkk
                    cases hq : eqV ks' xs ys with
                    | none => rw [hq] at h; simp at h
                    | some q =>
                      rw [hq] at h
                      simp only [Option.some.injEq] at h
                      cases hd : P.underlying f.type with
                      | none => rw [hd] at hk; simp at hk
                      | some d =>
                        rw [hd] at hk
                        cases d <;> simp at hk
                        next kk => exact key (a == c) (run_equalIn_int w 9998 f.type k1 kk a c hd) q hq h.symm
                  · simp at h
              | false =>
                cases x <;> cases y <;> simp only [eqV, reduceCtorEq] at h
                next a c =>
                  cases hq : eqV ks' xs ys with
                  | none => rw [hq] at h; simp at h
                  | some q =>
                    rw [hq] at h
                    simp only [Option.some.injEq] at h
                    cases hd : P.underlying f.type with
                    | none => rw [hd] at hk; simp at hk
                    | some d =>
                      rw [hd] at hk
                      cases d <;> simp at hk
                      exact key (a == c) (run_equalIn_bool' w 9998 f.type a c hd) q hq h.symm
    · simp at hf
theorem does_eqs {P : Program} {o : Oper} {S : AS} {n : Nat} {x y : Operand} {t u : TypeId} {op : BinOp} {la lb : List AV} {xs ys : List Value} {ks : List Bool} {r : Bool} (ho : o.op = .binOp op t x y u) (hop : op = .eql ∨ op = .neq) (hk : flatK P t = some ks) (hx : S.val x = .agg la) (hy : S.val y = .agg lb)
    (hxs : rawsOf la = some xs) (hys : rawsOf lb = some ys) (hr : eqV ks xs ys = some r) : DoesAt P o S n ⟨.raw (.bool (if op = .eql then r else !r)), [], []⟩ :=
  does_pure rfl fun c p ρ a w hm => by
    have e1 : a.eval x = .agg xs.toArray := by
      have := hm.val x
      rw [hx] at this
      simp only [Rep] at this
      obtain ⟨cs, h1, h2⟩ := this
      rw [h1, raws_of hxs h2]
    have e2 : a.eval y = .agg ys.toArray := by
      have := hm.val y
      rw [hy] at this
      simp only [Rep] at this
      obtain ⟨cs, h1, h2⟩ := this
      rw [h1, raws_of hys h2]
    unfold flatK at hk
    cases hu : P.underlying t with
    | none => rw [hu] at hk; simp at hk
    | some d =>
      rw [hu] at hk
      cases d <;> simp at hk
      next fs =>
        obtain ⟨⟨hs, hg⟩, hfl⟩ := hk
        have hfs : P.fieldsOf t = fs := by simp [Program.fieldsOf, hu]
        have hrun : (Op.equalIn 10000 t (.agg xs.toArray) (.agg ys.toArray)).run P w = .ok r w := by
          rw [run_equalIn_struct w 9999 t xs.toArray ys.toArray (by rw [hfs]; exact hu) hs, hfs]
          exact run_eqFields fs.toList 0 ks xs ys r hfl (fun i v h => by simpa using h) (fun i v h => by simpa using h) hr
        refine ⟨.bool (if op = .eql then r else !r), ?_, by simp only [Rep]⟩
        unfold execOp
        rw [ho]
        refine run_v ?_
        simp only [e1, e2, Sem.run_bind, run_eqGuard_agg w op t x y _ _ hg, Result.andThen_ok]
        rcases hop with rfl | rfl
        · simp [run_eql_struct, hrun]
        · simp [run_neq_struct, hrun]

end Go.Proofs.Ytiidfcadmdahmaa
