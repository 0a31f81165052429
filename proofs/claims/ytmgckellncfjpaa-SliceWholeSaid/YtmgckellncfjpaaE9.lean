/- ENGINE 9: contracts of functions, proved and used; over any program. -/
import Derived.Test.YtmgckellncfjpaaE8
set_option linter.unusedSimpArgs false
set_option linter.unusedVariables false
namespace Go.Proofs.Ytmgckellncfjpaa
open Go.RowKit

/-- the objects that a call is handed. -/
structure ArgsOk (ρ : Env) (w : World) (s : List (Nat × AO)) : Prop where
  dom : ∀ i x, ρ i = some x → i < 8 ∧ x.oneCell' = true
  objs : ∀ i o, find s i = some o → ∃ x, ρ i = some x ∧ ObjAt ρ w x o
  apart : ∀ i j oi oj x y, i ≠ j → find s i = some oi → find s j = some oj → oi.live = true → ρ i = some x → ρ j = some y → ∀ g, oblk x oi = some g → oblk y oj ≠ some g
/-- the blocks that it may turn, or look at. -/
def liveB (ρ : Env) (s : List (Nat × AO)) (g : Nat) : Prop := ∃ i o x, find s i = some o ∧ o.live = true ∧ ρ i = some x ∧ oblk x o = some g
def readB (ρ : Env) (s : List (Nat × AO)) (g : Nat) : Prop := ∃ i o x, find s i = some o ∧ o.live = false ∧ ρ i = some x ∧ oblk x o = some g
def somes (l : List (Nat × AO)) : List (Nat × Option AO) := l.map fun q => (q.1, some q.2)
theorem find_somes (l : List (Nat × AO)) (i : Nat) : find (somes l) i = (find l i).map some := by
  induction l with
  | nil => rfl
  | cons q l ih =>
    obtain ⟨k, o⟩ := q
    simp only [somes, List.map_cons, find] at ih ⊢
    split
    · rfl
    · exact ih
def slots (args : List AV) : List (Nat × AV) := args.zipIdx.map fun q => (q.2, q.1)

/-- **a contract**: of a function that is handed such values and objects: what it hands back, and which objects there are then (those handed in that may be turned, and are not told again, are lost). -/
def FnOk (P : Program) (f : FuncId) (args : List AV) (s : List (Nat × AO)) (val : AV) (objs : List (Nat × AO)) : Prop :=
  fnB P f = true ∧ ∀ (ρ : Env) (w : World) (vs : List Value), ArgsOk ρ w s → RepL ρ args vs → Calls P f vs.toArray w fun e w' => ∃ v ρ', e = .returned v ∧
    Mod ⟨1, liveB ρ s, readB ρ s, w, ρ⟩ (fun i => i < 16) ρ' ⟨[(0, val)], somes objs, none⟩ #[v] w'

/-- what is handed back. -/
def resV (P : Program) (S : AS) : ResultVar → Option AV
  | .tmp t => some (S.get t)
  | .cell a t => match S.get a, tyI P t with
    | .hdr id, some i => match S.obj id with
      | some (.cells _ l) => if i.size ≤ l.length ∧ (i.agg = true ∨ i.size = 1) then some (ofCells i.agg (l.take i.size)) else none
      | _ => none
    | _, _ => none
def resL (P : Program) (S : AS) : List ResultVar → Option (List AV)
  | [] => some []
  | r :: l => match resV P S r, resL P S l with
    | some v, some vs => some (v :: vs)
    | _, _ => none
def resAV (P : Program) (S : AS) (rs : List ResultVar) : Option AV :=
  match rs with
  | [r] => resV P S r
  | rs => (resL P S rs).map .tup
def RetV (v val : AV) (objs : List (Nat × AO)) (s : List (Nat × Option AO)) : Prop := ∃ L, Ent L 2 ⟨[(0, v)], s, none⟩ ⟨[(0, val)], somes objs, none⟩
def RetOk (P : Program) (rs : List ResultVar) (val : AV) (objs : List (Nat × AO)) (S : AS) : Prop :=
  match resAV P S rs with
  | some v => RetV v val objs S.s
  | none => False
def retQ (P : Program) (rs : List ResultVar) (val : AV) (objs : List (Nat × AO)) : Exit → Nat → AS → Prop
  | .normal => fun _ S => RetOk P rs val objs S
  | .ret => fun _ S => RetOk P rs val objs S
  | _ => fun _ _ => False

def getV (tmps : Array Value) : ResultVar → Sem Value
  | .tmp t => pure (tmps.getD t undef)
  | .cell a t => do loadVar t (← asAddr (tmps.getD a undef))
theorem results_getV (fn : Func) (tmps : Array Value) : results fn tmps = (do
    let vs ← fn.results.mapM (getV tmps)
    pure (if h : vs.size = 1 then vs[0] else .tuple vs)) := by
  unfold results
  congr 1

theorem resV_sound {P : Program} {c : Ctx} {p : Nat → Prop} {ρ : Env} {S : AS} {a : Act} {w : World} (hm : Mod c p ρ S a.tmps w) {r : ResultVar} {v : AV} (h : resV P S r = some v) :
    ∃ u, (getV a.tmps r).run P w = .ok u w ∧ Rep ρ v u := by
  cases r with
  | tmp t =>
    simp only [resV, Option.some.injEq] at h
    subst h
    exact ⟨_, by simp [getV], hm.tmps t⟩
  | cell b t =>
    simp only [resV] at h
    split at h
    · next id i hg hi =>
      split at h
      · next t' l hob =>
        split at h
        · next hc =>
          simp only [Option.some.injEq] at h
          subst h
          obtain ⟨g, cs, h1, h2, h3, h4, -⟩ := hm.at_cells (x := .tmp b) (id := id) (s := 0) (k := 0) (j := 0) (by simp [AS.val, hg, AV.loc]) hob
          have hlen := h4.length
          have h2' : a.tmps.getD b undef = .pointer (some ⟨g, 0, none⟩) := by simpa [Act.eval] using h2
          have hload := run_loadAt_cells (P := P) (w := w) hi (b := g) (o := 0) (cs := cs.take i.size) (by simp; omega) (fun m v hv => by
            have hm' : m < i.size := by
              rcases Nat.lt_or_ge m i.size with h | h
              · exact h
              · rw [List.getElem?_eq_none (by simp; omega)] at hv; cases hv
            rw [List.getElem?_take_of_lt hm'] at hv
            rw [h3.cell, Nat.zero_add, ← hv]
            simp) hc.2
          refine ⟨_, ?_, rep_ofCells (h4.take i.size) i.agg⟩
          simp only [getV, h2', asAddr, Sem.run_bind, Sem.run_pure, Result.andThen_ok]
          simpa [Instr.loadAt, Instr.sureAddr] using hload
        · simp at h
      · simp at h
    · simp at h
theorem resL_sound {P : Program} {c : Ctx} {p : Nat → Prop} {ρ : Env} {S : AS} {a : Act} {w : World} (hm : Mod c p ρ S a.tmps w) : ∀ {rs : List ResultVar} {vs : List AV}, resL P S rs = some vs →
    ∃ us, (rs.mapM (getV a.tmps)).run P w = .ok us w ∧ RepL ρ vs us
  | [], vs, h => by
    simp only [resL, Option.some.injEq] at h
    subst h
    exact ⟨[], by simp, by simp [RepL]⟩
  | r :: rs, vs, h => by
    simp only [resL] at h
    cases h1 : resV P S r with
    | none => rw [h1] at h; simp at h
    | some v =>
      cases h2 : resL P S rs with
      | none => rw [h1, h2] at h; simp at h
      | some vs' =>
        rw [h1, h2] at h
        simp only [Option.some.injEq] at h
        subst h
        obtain ⟨u, e1, e2⟩ := resV_sound hm h1
        obtain ⟨us, e3, e4⟩ := resL_sound hm h2
        refine ⟨u :: us, ?_, by simp only [RepL]; exact ⟨e2, e4⟩⟩
        rw [List.mapM_cons, Sem.run_bind, e1]
        simp only [Result.andThen_ok, Sem.run_bind]
        rw [e3]
        rfl
theorem resAV_sound {P : Program} {c : Ctx} {p : Nat → Prop} {ρ : Env} {S : AS} {a : Act} {w : World} (hm : Mod c p ρ S a.tmps w) {fn : Func} {v : AV} (h : resAV P S fn.results.toList = some v) : ∃ u, (results fn a.tmps).run P w = .ok u w ∧ Rep ρ v u := by
  rw [results_getV, Array.mapM_eq_mapM_toList]
  simp only [Sem.run_bind, Sem.run_map]
  have one : ∀ {vs : List AV}, resL P S fn.results.toList = some vs → ∃ us, (fn.results.toList.mapM (getV a.tmps)).run P w = .ok us w ∧ RepL ρ vs us := fun h => resL_sound hm h
  unfold resAV at h
  split at h
  · next r hr =>
    obtain ⟨us, e1, e2⟩ := one (vs := [v]) (by rw [hr]; simp [resL, h])
    cases us with
    | nil => simp [RepL] at e2
    | cons u us =>
      simp only [RepL] at e2
      have : us = [] := by have := e2.2.length; exact List.eq_nil_of_length_eq_zero (by simpa using this)
      subst this
      refine ⟨u, ?_, e2.1⟩
      rw [e1]
      simp
  · next rs hne =>
    cases hl : resL P S fn.results.toList with
    | none => rw [hl] at h; simp at h
    | some vs =>
      rw [hl] at h
      simp only [Option.map_some, Option.some.injEq] at h
      subst h
      obtain ⟨us, e1, e2⟩ := one hl
      refine ⟨.tuple us.toArray, ?_, by simp only [Rep]; exact ⟨us, rfl, e2⟩⟩
      rw [e1]
      have hlen : us.length ≠ 1 := by
        rw [e2.length]
        have hll : ∀ (rs : List ResultVar) (vs : List AV), resL P S rs = some vs → vs.length = rs.length := by
          intro rs
          induction rs with
          | nil => intro vs h; simp only [resL, Option.some.injEq] at h; subst h; rfl
          | cons r rs ih =>
            intro vs h
            simp only [resL] at h
            cases h1 : resV P S r with
            | none => rw [h1] at h; simp at h
            | some v =>
              cases h2 : resL P S rs with
              | none => rw [h1, h2] at h; simp at h
              | some vs' => rw [h1, h2] at h; simp only [Option.some.injEq] at h; subst h; simp [ih vs' h2]
        rw [hll _ _ hl]
        intro e
        cases hr : fn.results.toList with
        | nil => rw [hr] at e; simp at e
        | cons r rs =>
          rw [hr] at e
          have : rs = [] := List.eq_nil_of_length_eq_zero (by simpa using e)
          subst this
          exact hne r hr
      simp [hlen]

theorem find_map_some (s : List (Nat × AO)) (i : Nat) : AS.obj ⟨[], somes s, none⟩ i = find s i := by
  unfold AS.obj
  rw [find_somes]
  cases find s i <;> rfl
theorem find_slots {args : List AV} {d : Nat} : find (slots args) d = args[d]? := by
  have key : ∀ (l : List AV) (k : Nat), find ((l.zipIdx k).map fun q => (q.2, q.1)) d = if k ≤ d then l[d - k]? else none := by
    intro l
    induction l with
    | nil => intro k; simp [find]
    | cons a l ih =>
      intro k
      simp only [List.zipIdx_cons, List.map_cons, find]
      by_cases h : k = d
      · subst h; simp
      · rw [if_neg h, ih]
        by_cases h2 : k ≤ d
        · have : d - k = (d - (k + 1)) + 1 := by omega
          rw [if_pos (by omega), if_pos h2, this]; simp
        · rw [if_neg (by omega), if_neg h2]
  unfold slots
  simpa using key args 0

/-- **a function's contract, out of what is shown of its text.** -/
theorem fn_of_awp {P : Program} {f : FuncId} {fn : Func} {code : Code} {args : List AV} {s : List (Nat × AO)} {val : AV} {objs : List (Nat × AO)} (hf : P.funcs[f]? = some fn) (hb : fn.body = some code) (hfn : fnB P f = true) (hd : dstB fn.ntmps code = true) (hl : args.length ≤ fn.ntmps) {rs : List ResultVar} (hrs : fn.results = rs.toArray)
    (h : AWP P code (retQ P rs val objs) 1 ⟨slots args, somes s, none⟩) : FnOk P f args s val objs := by
  obtain rfl : fn.results.toList = rs := by rw [hrs]
  refine ⟨hfn, fun ρ w vs hA hr => ?_⟩
  have hlen := hr.length
  let c : Ctx := ⟨fn.ntmps, liveB ρ s, readB ρ s, w, ρ⟩
  have hm : Mod c (fun i => i < 8) ρ ⟨slots args, somes s, none⟩ (vs.toArray ++ Array.replicate (fn.ntmps - vs.toArray.size) undef) w := by
    refine ⟨by simp [c]; omega, fun _ _ => rfl, fun _ h => h, hA.dom, fun d => ?_, fun i o e => ?_, fun i j oi oj x y hne hi hj => ?_, fun i o x g hi hl' hx hg => ?_, fun i o x g hi hx hg => ?_, FrameM.refl _ _⟩
    · show Rep ρ (AS.get ⟨slots args, somes s, none⟩ d) _
      unfold AS.get
      dsimp only
      rw [find_slots]
      cases ha : args[d]? with
      | none => simp [Rep]
      | some v =>
        obtain ⟨u, h1, h2⟩ := RepL.get d hr ha
        simp only [Option.getD_some]
        have hdl : d < vs.length := (List.getElem?_eq_some_iff.1 h1).1
        have e1 : (vs.toArray ++ Array.replicate (fn.ntmps - vs.toArray.size) undef).getD d undef = u := by
          rw [Array.getD_eq_getD_getElem?, Array.getElem?_append_left (by simpa using hdl)]
          simp [h1]
        rw [e1]
        exact h2
    · exact hA.objs i o ((find_map_some s i).symm.trans e)
    · exact hA.apart i j oi oj x y hne ((find_map_some s i).symm.trans hi) ((find_map_some s j).symm.trans hj)
    · exact .inl ⟨i, o, x, (find_map_some s i).symm.trans hi, hl', hx, hg⟩
    · have hi' := (find_map_some s i).symm.trans hi
      cases hlv : o.live with
      | true => exact .inl ⟨i, o, x, hi', hlv, hx, hg⟩
      | false => exact .inr (.inr ⟨i, o, x, hi', hlv, hx, hg⟩)
  refine calls_of_wp hf hb (wp_mono (awp_sound (c := c) code _ 1 _ _ ρ _ w hd h hm (fun i hi => by omega) rfl) ?_)
  have fin : ∀ (S' : AS) (p' : Nat → Prop) (ρ' : Env) (a' : Act) (w' : World), RetOk P fn.results.toList val objs S' → Mod c p' ρ' S' a'.tmps w' → a'.defers = [] → a'.defers = [] ∧ ∃ v, (results fn a'.tmps).run P w' = .ok v w' ∧ ∃ v' ρ', (Ending.returned v) = .returned v' ∧
      Mod ⟨1, liveB ρ s, readB ρ s, w, ρ⟩ (fun i => i < 16) ρ' ⟨[(0, val)], somes objs, none⟩ #[v'] w' := by
    intro S' p' ρ' a' w' hr' hm' ha'
    unfold RetOk at hr'
    split at hr'
    · next v hv =>
      obtain ⟨L, hE⟩ := hr'
      obtain ⟨u, h1, h2⟩ := resAV_sound hm' hv
      have hm1 : Mod ⟨1, liveB ρ s, readB ρ s, w, ρ⟩ p' ρ' ⟨[(0, v)], S'.s, none⟩ #[u] w' := by
        refine ⟨rfl, hm'.base, hm'.lo, hm'.dom, fun d => ?_, hm'.objs, hm'.apart, hm'.old, hm'.rd, hm'.frame⟩
        unfold AS.get
        simp only [find]
        split
        · next e => subst e; simpa using h2
        · simp [Rep]
      obtain ⟨ρ2, hm2⟩ := hE.mod hm1
      exact ⟨ha', u, h1, u, ρ2, rfl, hm2.mono fun i hi => by omega⟩
    · exact hr'.elim
  rintro e a' w' ⟨h1, n', S', p', ρ', h2, h3, h4⟩
  cases e with
  | normal => exact fin S' p' ρ' a' w' h2 h3 h1
  | ret => exact fin S' p' ρ' a' w' h2 h3 h1
  | _ => exact h2.elim

/-- a contract's names, at a call: those handed in are the caller's; those made are named by the operation. -/
def callMap (ι : List Nat) (n i : Nat) : Nat := if i < 8 then (ι[i]?).getD 0 else 8 * n + (i - 8)
def callEff (ι : List Nat) (n : Nat) (s : List (Nat × AO)) (val : AV) (objs : List (Nat × AO)) : Eff :=
  ⟨val.ren (callMap ι n), (objs.map fun q => (callMap ι n q.1, some (q.2.ren (callMap ι n)))) ++ ((s.filter fun q => q.2.live).map fun q => (callMap ι n q.1, none)), s.map fun q => callMap ι n q.1⟩
/-- an object serves as another one: as itself; a row of the call's own as one that is read. -/
def readsAs (lv : Bool) : Option AO → AO → Prop
  | some (.row e s rows), o => o = .row e s rows ∨ (lv = true ∧ o = .ext s rows)
  | some o', o => o' = o
  | none, _ => False
theorem readsAs_cases {lv : Bool} {q : Option AO} {o : AO} (h : readsAs lv q o) : q = some o ∨ ∃ e s rows, lv = true ∧ q = some (.row e s rows) ∧ o = .ext s rows := by
  cases q with
  | none => exact h.elim
  | some o' =>
    cases o' with
    | row e s rows =>
      rcases h with rfl | ⟨h1, rfl⟩
      · exact .inl rfl
      · exact .inr ⟨e, s, rows, h1, rfl, rfl⟩
    | cells t l => exact .inl (by rw [show AO.cells t l = o from h])
    | ext s rows => exact .inl (by rw [show AO.ext s rows = o from h])
theorem ObjAt.asExt {ρ : Env} {w : World} {x : Value} {e : TypeId} {s : Nat} {rows : List (List Value)} (h : ObjAt ρ w x (.row e s rows)) : ObjAt ρ w x (.ext s rows) := by
  have h0 := h
  obtain ⟨⟨h1, h2⟩, h3, h4⟩ := h
  have hc : ∃ A c, x = .slice A rows.length c ∧ rows.length ≤ c := by
    rcases h2 with ⟨rfl, hz⟩ | ⟨g, cap, cur, rfl, _, _, hc, _⟩
    · exact ⟨none, 0, by rw [hz], by omega⟩
    · exact ⟨_, cap, rfl, hc⟩
  obtain ⟨A, c, rfl, hc⟩ := hc
  refine ⟨A, c, rfl, fun k hk => ?_, h3, h4, hc⟩
  obtain ⟨b, off, hb, hlt, -, -, hcell⟩ := h0.cell rfl hk
  refine ⟨b, off, ?_, hlt, fun i hi => by rw [Nat.add_assoc]; exact hcell i hi⟩
  rcases hb with hb | ⟨_, _, hb⟩
  · cases hb
  · injection hb
/-- what must hold at a call. -/
def CallFit (ι : List Nat) (n : Nat) (args actual : List AV) (s : List (Nat × AO)) (objs : List (Nat × AO)) (S : AS) : Prop :=
  actual = renL (callMap ι n) args ∧ bdL 1 args = true ∧ (∀ q ∈ s, q.1 < 8 ∧ q.2.bd 1 = true ∧ readsAs (objs.all fun r => r.2.live) (S.obj (callMap ι n q.1)) (q.2.ren (callMap ι n))) ∧
  s.Pairwise (fun q r => q.1 ≠ r.1 ∧ callMap ι n q.1 ≠ callMap ι n r.1) ∧ (∀ q ∈ objs, q.1 < 16) ∧ (∀ q ∈ objs, q.1 < 8 → ∃ r ∈ s, r.1 = q.1 ∧ r.2.live = true) ∧ objs.Pairwise (fun q r => q.1 ≠ r.1)

mutual
theorem Rep.renF {ρ ρ' : Env} {m : Nat → Nat} (h : ∀ i x, ρ i = some x → ρ' (m i) = some x) : ∀ (a : AV) (v : Value), Rep ρ a v → Rep ρ' (a.ren m) v
  | .dead, _, _ => by simp [AV.ren, Rep]
  | .raw _, _, e => by simpa [AV.ren, Rep] using e
  | .hdr i, v, e => by simp only [AV.ren, Rep] at e ⊢; exact h i v e
  | .ptr i s k j, v, e => by
    simp only [AV.ren, Rep] at e ⊢
    obtain ⟨x, b, o, h1, h2, h3⟩ := e
    exact ⟨x, b, o, h i x h1, h2, h3⟩
  | .agg l, v, e => by
    simp only [AV.ren, Rep] at e ⊢
    obtain ⟨cs, h1, h2⟩ := e
    exact ⟨cs, h1, RepL.renF h l cs h2⟩
  | .tup l, v, e => by
    simp only [AV.ren, Rep] at e ⊢
    obtain ⟨cs, h1, h2⟩ := e
    exact ⟨cs, h1, RepL.renF h l cs h2⟩
  | .clo f l, v, e => by
    simp only [AV.ren, Rep] at e ⊢
    obtain ⟨cs, h1, h2⟩ := e
    exact ⟨cs, h1, RepL.renF h l cs h2⟩
theorem RepL.renF {ρ ρ' : Env} {m : Nat → Nat} (h : ∀ i x, ρ i = some x → ρ' (m i) = some x) : ∀ (l : List AV) (vs : List Value), RepL ρ l vs → RepL ρ' (renL m l) vs
  | [], [], _ => by simp [renL, RepL]
  | [], _ :: _, e => by simp [RepL] at e
  | _ :: _, [], e => by simp [RepL] at e
  | a :: l, v :: vs, e => by
    simp only [renL, RepL] at e ⊢
    exact ⟨Rep.renF h a v e.1, RepL.renF h l vs e.2⟩
end
theorem ObjAt.renF {ρ ρ' : Env} {m : Nat → Nat} (h : ∀ i x, ρ i = some x → ρ' (m i) = some x) {w : World} {x : Value} {o : AO} (ho : ObjAt ρ w x o) : ObjAt ρ' w x (o.ren m) := by
  cases o with
  | cells t l =>
    obtain ⟨g, cs, h1, h2, h3, h4⟩ := ho
    exact ⟨g, cs, h1, h2, RepL.renF h l cs h3, h4⟩
  | row e s r => exact ho
  | ext s r => exact ho

theorem find_objs {objs : List (Nat × AO)} {m : Nat → Nat} {i : Nat} {o : AO} (h : find (objs.map fun q => (m q.1, some (q.2.ren m))) i = some (some o)) : ∃ q ∈ objs, m q.1 = i ∧ q.2.ren m = o := by
  have := find_mem h
  simp only [List.mem_map, Prod.mk.injEq, Option.some.injEq] at this
  obtain ⟨q, hq, h1, h2⟩ := this
  exact ⟨q, hq, h1, h2⟩
theorem find_of_pair {α : Type} {l : List (Nat × α)} (hp : l.Pairwise (fun q r => q.1 ≠ r.1)) {q : Nat × α} (hq : q ∈ l) : find l q.1 = some q.2 := by
  induction l with
  | nil => cases hq
  | cons a l ih =>
    obtain ⟨k, v⟩ := a
    rw [List.pairwise_cons] at hp
    simp only [find]
    rcases List.mem_cons.1 hq with e | hq'
    · subst e; simp
    · rw [if_neg (hp.1 q hq'), ih hp.2 hq']

theorem pair_inj {s : List (Nat × AO)} {m : Nat → Nat} (hpw : s.Pairwise (fun q r => q.1 ≠ r.1 ∧ m q.1 ≠ m r.1)) : ∀ q ∈ s, ∀ r ∈ s, q.1 ≠ r.1 → m q.1 ≠ m r.1 := by
  intro q hq r hr' hne
  induction s with
  | nil => cases hq
  | cons a s ih =>
    rw [List.pairwise_cons] at hpw
    rcases List.mem_cons.1 hq with e1 | hq' <;> rcases List.mem_cons.1 hr' with e2 | hr2
    · subst e1; subst e2; exact absurd rfl hne
    · subst e1; exact (hpw.1 r hr2).2
    · subst e2; exact fun e => (hpw.1 q hq').2 e.symm
    · exact ih hpw.2 hq' hr2
theorem find_map_some' (objs : List (Nat × AO)) (hp : objs.Pairwise (fun q r => q.1 ≠ r.1)) (q : Nat × AO) (hq : q ∈ objs) {t : List (Nat × AV)} : AS.obj ⟨t, somes objs, none⟩ q.1 = some q.2 := by
  have h := find_map_some objs q.1
  rw [find_of_pair hp hq] at h
  exact h

set_option maxHeartbeats 1000000 in
/-- **a contract at a call.** -/
theorem call_ok {P : Program} {f : FuncId} {args actual : List AV} {s : List (Nat × AO)} {val : AV} {objs : List (Nat × AO)} (hf : FnOk P f args s val objs) {ι : List Nat} {n : Nat} {S : AS} (h : CallFit ι n args actual s objs S) :
    CallOk P f actual S n (callEff ι n s val objs) := by
  obtain ⟨rfl, hb, hs, hpw, ho16, holo, hopw⟩ := h
  intro S' hag
  have hs : ∀ q ∈ s, q.1 < 8 ∧ q.2.bd 1 = true ∧ readsAs (objs.all fun r => r.2.live) (S'.obj (callMap ι n q.1)) (q.2.ren (callMap ι n)) := fun q hq => ⟨(hs q hq).1, (hs q hq).2.1, by rw [hag _ (List.mem_map.2 ⟨q, hq, rfl⟩)]; exact (hs q hq).2.2⟩
  intro c p ρ tm w vs hm hn hr
  have hn0 : n ≠ 0 := fun e => hn 0 (hm.lo 0 (by omega)) (by omega)
  let ρl : Env := fun i => if i < 8 ∧ (∃ q ∈ s, q.1 = i) ∨ i < 8 then ρ (callMap ι n i) else none
  have hl : ∀ i x, i / 8 < 1 → ρ (callMap ι n i) = some x → ρl i = some x := fun i x hi e => by
    show (if _ then _ else _) = _
    rw [if_pos (.inr (by omega))]; exact e
  have hl2 : ∀ i x, ρl i = some x → i < 8 ∧ ρ (callMap ι n i) = some x := fun i x e => by
    have e : (if _ then _ else _) = some x := e
    split at e
    · next hc => exact ⟨by rcases hc with hc | hc <;> omega, e⟩
    · cases e
  have hfs : ∀ i o, find s i = some o → i < 8 ∧ o.bd 1 = true ∧ (∃ o', S'.obj (callMap ι n i) = some o' ∧ (∀ x, ObjAt ρ w x o' → ObjAt ρ w x (o.ren (callMap ι n))) ∧ (o.live = true → o' = o.ren (callMap ι n)) ∧ (∀ x g, oblk x o = some g → oblk x o' = some g) ∧ ((objs.all fun r => r.2.live) = false → o'.live = o.live)) ∧ (i, o) ∈ s := fun i o e => by
    have hmem := find_mem e
    have := hs _ hmem
    refine ⟨this.1, this.2.1, ?_, hmem⟩
    rcases readsAs_cases this.2.2 with h | ⟨e', s', rows, h0, h1, h2⟩
    · exact ⟨_, h, fun _ h => h, fun _ => rfl, fun x g hg => by rw [oblk_ren]; exact hg, fun _ => live_ren _ _⟩
    · dsimp only at h2
      refine ⟨_, h1, fun x h => by rw [h2]; exact h.asExt, fun hl => ?_, fun x g hg => ?_, fun hf => by rw [hf] at h0; cases h0⟩
      · rw [← live_ren o (callMap ι n), h2] at hl; cases hl
      · rw [← oblk_ren x o (callMap ι n), h2] at hg
        cases rows with
        | nil => simp [oblk] at hg
        | cons => exact hg
  have hinj := pair_inj hpw
  have hA : ArgsOk ρl w s := by
    refine ⟨fun i x e => ⟨(hl2 i x e).1, (hm.dom _ x (hl2 i x e).2).2⟩, fun i o e => ?_, fun i j oi oj x y hne hi hj hlv hx hy g hg hg' => ?_⟩
    · obtain ⟨h1, h2, ⟨o', h3, h6, -⟩, -⟩ := hfs i o e
      obtain ⟨x, h4, h5⟩ := hm.objs _ _ h3
      exact ⟨x, hl i x (by omega) h4, (h6 x h5).ren hl h2⟩
    · obtain ⟨h1, h2, ⟨o1, h3, -, h5, h6, -⟩, h4⟩ := hfs i oi hi
      obtain ⟨k1, k2, ⟨o2, k3, -, k5, k6, -⟩, k4⟩ := hfs j oj hj
      exact hm.apart _ _ _ _ x y (hinj _ h4 _ k4 hne) h3 k3 (by rw [h5 hlv, live_ren]; exact hlv) (hl2 i x hx).2 (hl2 j y hy).2 g (h6 x g hg) (k6 y g hg')
  refine (hf.2 ρl w vs hA (RepL.ren hl args vs hb hr)).mono ?_
  rintro e w' ⟨v, ρl', rfl, hml⟩
  -- the caller's names
  let ρ' : Env := fun i => if i / 8 = n then ρl' (8 + (i - 8 * n)) else ρ i
  have he : ExtE ρ ρ' := fun i x e => by
    show (if _ then _ else _) = _
    rw [if_neg (hn i (hm.dom i x e).1)]; exact e
  have hF : ∀ i x, ρl' i = some x → ρ' (callMap ι n i) = some x := fun i x e => by
    have hi16 := (hml.dom i x e).1
    by_cases hi : i < 8
    · have h1 := hml.base i hi
      have h2 : ρl i = some x := by rw [← e]; exact h1.symm
      exact he _ x (hl2 i x h2).2
    · have e1 : callMap ι n i = 8 * n + (i - 8) := by unfold callMap; rw [if_neg hi]
      show (if _ then _ else _) = _
      rw [e1, if_pos (by omega)]
      rw [show 8 + (8 * n + (i - 8) - 8 * n) = i by omega]
      exact e
  have hval : Rep ρl' val v := by
    have := hml.tmps 0
    simpa [AS.get, find] using this
  have hob : ∀ q ∈ objs, ∃ x, ρl' q.1 = some x ∧ ObjAt ρl' w' x q.2 := fun q hq => hml.objs q.1 q.2 (by rw [find_map_some' objs hopw q hq])
  have hfm : ∀ i, find ((callEff ι n s val objs).objs) i = match find (objs.map fun q => (callMap ι n q.1, some (q.2.ren (callMap ι n)))) i with | some x => some x | none => find ((s.filter fun q => q.2.live).map fun q => (callMap ι n q.1, (none : Option AO))) i := fun i => by
    show find (_ ++ _) i = _
    rw [find_append]
    cases find (objs.map fun q => (callMap ι n q.1, some (q.2.ren (callMap ι n)))) i <;> rfl
  have hliveT : ∀ g, liveB ρl s g → Touch ρ S' (callEff ι n s val objs).objs g := fun g ⟨i, o, x, h1, h2, h3, h4⟩ => by
    obtain ⟨k1, k2, ⟨o', k3, -, k5, k6, -⟩, k4⟩ := hfs i o h1
    have hin : ∃ q, find (callEff ι n s val objs).objs (callMap ι n i) = some q := by
      rw [hfm]
      cases hz : find (objs.map fun q => (callMap ι n q.1, some (q.2.ren (callMap ι n)))) (callMap ι n i) with
      | some z => exact ⟨z, rfl⟩
      | none =>
        have : ∀ (l : List (Nat × AO)), (i, o) ∈ l → ∃ q, find (l.map fun q => (callMap ι n q.1, (none : Option AO))) (callMap ι n i) = some q := by
          intro l
          induction l with
          | nil => intro hc; cases hc
          | cons b l ih =>
            intro hc
            simp only [List.map_cons, find]
            split
            · exact ⟨_, rfl⟩
            · next hne =>
              rcases List.mem_cons.1 hc with e | hc
              · subst e; exact absurd rfl hne
              · exact ih hc
        exact this _ (List.mem_filter.2 ⟨k4, h2⟩)
    obtain ⟨q, hq⟩ := hin
    exact ⟨_, _, x, q, hq, k3, by rw [k5 h2, live_ren]; exact h2, (hl2 i x h3).2, k6 x g h4⟩
  refine ⟨v, ρ', rfl, ?_, Rep.renF hF val v hval⟩
  have hfr := hml.frame
  refine hm.step _ he (fun i hi => if_neg (by omega)) (fun i h => .inl h) (fun i x e => ?_) hfr.os hfr.tape hfr.output hfr.size (fun g hg hT => hfr.block g hg (fun hc => hT (hliveT g hc))) ?_ ?_
  · have e : (if _ then _ else _) = some x := e
    split at e
    · next hi => exact ⟨.inr hi, (hml.dom _ x e).2⟩
    · exact ⟨.inl (hm.dom i x e).1, (hm.dom i x e).2⟩
  · intro i o hfi
    rw [hfm] at hfi
    cases hz : find (objs.map fun q => (callMap ι n q.1, some (q.2.ren (callMap ι n)))) i with
    | none =>
      rw [hz] at hfi
      have := find_mem hfi
      simp at this
    | some z =>
      rw [hz] at hfi
      simp only [Option.some.injEq] at hfi
      subst hfi
      obtain ⟨q, hq, rfl, rfl⟩ := find_objs hz
      obtain ⟨x, h1, h2⟩ := hob q hq
      refine ⟨x, hF _ x h1, h2.renF hF, fun g hg => ?_⟩
      rw [oblk_ren] at hg
      rcases hml.rd q.1 q.2 x g (by rw [find_map_some' objs hopw q hq]) h1 hg with h3 | h3 | ⟨j, oj, y, k1, k2, k3, k4⟩
      · exact .inr (.inl (hliveT g h3))
      · exact .inl h3
      · cases hlq : q.2.live with
        | true =>
          rcases hml.old q.1 q.2 x g (by rw [find_map_some' objs hopw q hq]) hlq h1 hg with h3 | h3
          · exact .inr (.inl (hliveT g h3))
          · exact .inl h3
        | false =>
          obtain ⟨m1, m2, ⟨o', m3, -, -, m6, m7⟩, m4⟩ := hfs j oj k1
          have hnl : (objs.all fun r => r.2.live) = false := by
            rw [List.all_eq_false]
            exact ⟨q, hq, by simp [hlq]⟩
          exact .inr (.inr ⟨by rw [live_ren]; exact hlq, _, _, y, m3, by rw [m7 hnl]; exact k2, (hl2 j y k3).2, m6 y g k4⟩)
  · intro i j oi oj x y hne hi hj hlv hx hy g hg hg'
    rw [hfm] at hi hj
    cases hzi : find (objs.map fun q => (callMap ι n q.1, some (q.2.ren (callMap ι n)))) i with
    | none => rw [hzi] at hi; have := find_mem hi; simp at this
    | some zi =>
      cases hzj : find (objs.map fun q => (callMap ι n q.1, some (q.2.ren (callMap ι n)))) j with
      | none => rw [hzj] at hj; have := find_mem hj; simp at this
      | some zj =>
        rw [hzi] at hi
        rw [hzj] at hj
        simp only [Option.some.injEq] at hi hj
        subst hi; subst hj
        obtain ⟨q, hq, rfl, rfl⟩ := find_objs hzi
        obtain ⟨r, hr', rfl, rfl⟩ := find_objs hzj
        obtain ⟨x', h1, -⟩ := hob q hq
        obtain ⟨y', h2, -⟩ := hob r hr'
        have e1 := hF _ _ h1
        have e2 := hF _ _ h2
        rw [hx] at e1; rw [hy] at e2
        obtain rfl := Option.some.inj e1
        obtain rfl := Option.some.inj e2
        rw [live_ren] at hlv
        rw [oblk_ren] at hg hg'
        exact hml.apart q.1 r.1 q.2 r.2 x y (fun e => hne (by rw [e])) (by rw [find_map_some' objs hopw q hq]) (by rw [find_map_some' objs hopw r hr']) hlv h1 h2 g hg hg'
end Go.Proofs.Ytmgckellncfjpaa
