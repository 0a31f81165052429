/- ENGINE (second) 9: contracts of functions, proved and used; over any program. -/
import Derived.Test.YtiidfcadmdahmaaG8
set_option linter.unusedSimpArgs false
set_option linter.unusedVariables false
namespace Go.Proofs.Ytiidfcadmdahmaa
open Go.RowKit

/-- the objects that a call is handed. -/
structure ArgsOk (ρ : Env) (w : World) (s : List (Nat × AO)) : Prop where
  dom : ∀ i x, ρ.f i = some x → i < 8 ∧ x.oneCell' = true
  objs : ∀ i o, find s i = some o → ∃ x, ρ.f i = some x ∧ ObjAt ρ w x o
  apart : ∀ i j oi oj x y, i ≠ j → find s i = some oi → find s j = some oj → ρ.f i = some x → ρ.f j = some y → ∀ g, oblk x oi = some g → oblk y oj ≠ some g
  ro : ∀ g o, ρ.R g = some o → w.heap[g]? = some o
  rsep : ∀ i o x g, find s i = some o → ρ.f i = some x → oblk x o = some g → ρ.R g = none
  rdf : ∀ g o, ρ.R g = some o → isDefd o = false
/-- the blocks that it may turn. -/
def liveB (ρ : Env) (s : List (Nat × AO)) (g : Nat) : Prop := ∃ i o x, find s i = some o ∧ ρ.f i = some x ∧ oblk x o = some g
def somes (l : List (Nat × AO)) : List (Nat × Option AO) := l.map fun q => (q.1, some q.2)
theorem find_somes (l : List (Nat × AO)) (i : Nat) : find (somes l) i = (find l i).map some := by
  induction l with
  | nil => rfl
  | cons q l ih =>
    obtain ⟨k, o⟩ := q
    simp only [somes, List.map_cons, find] at ih ⊢
    split
    · rfl
    · exact ih
def slots (args : List AV) : List (Nat × AV) := args.zipIdx.map fun q => (q.2, q.1)

/-- **a contract**: of a function that is handed such values and objects: what it hands back, and which objects there are then (those handed in that may be turned, and are not told again, are lost). -/
def FnOk (P : Program) (f : FuncId) (args : List AV) (s : List (Nat × AO)) (val : AV) (objs : List (Nat × AO)) : Prop :=
  fnB P f = true ∧ ∀ (ρ : Env) (w : World) (vs : List Value), ArgsOk ρ w s → RepL ρ args vs → Calls P f vs.toArray w fun e w' => ∃ v ρ', e = .returned v ∧
    Mod ⟨1, liveB ρ s, w, ρ, fun _ => False⟩ (fun i => i < 16) ρ' ⟨[(0, val)], somes objs, none⟩ #[v] w'

/-- what is handed back. -/
def resV (P : Program) (S : AS) : ResultVar → Option AV
  | .tmp t => some (S.get t)
  | .cell a t => match S.get a, tyI P t with
    | .hdr id, some i => match S.obj id with
      | some (.cells _ l) => if i.size ≤ l.length ∧ (i.agg = true ∨ i.size = 1) then some (ofCells i.agg (l.take i.size)) else none
      | _ => none
    | _, _ => none
def resL (P : Program) (S : AS) : List ResultVar → Option (List AV)
  | [] => some []
  | r :: l => match resV P S r, resL P S l with
    | some v, some vs => some (v :: vs)
    | _, _ => none
def resAV (P : Program) (S : AS) (rs : List ResultVar) : Option AV :=
  match rs with
  | [r] => resV P S r
  | rs => (resL P S rs).map .tup
def RetV (v val : AV) (objs : List (Nat × AO)) (s : List (Nat × Option AO)) : Prop := ∃ L fr, EntF L 2 fr ⟨[(0, v)], s, none⟩ ⟨[(0, val)], somes objs, none⟩
def RetOk (P : Program) (rs : List ResultVar) (val : AV) (objs : List (Nat × AO)) (S : AS) : Prop :=
  match resAV P S rs with
  | some v => RetV v val objs S.s
  | none => False
def retQ (P : Program) (rs : List ResultVar) (val : AV) (objs : List (Nat × AO)) : Exit → Nat → AS → Prop
  | .normal => fun _ S => RetOk P rs val objs S
  | .ret => fun _ S => RetOk P rs val objs S
  | _ => fun _ _ => False

def getV (tmps : Array Value) : ResultVar → Sem Value
  | .tmp t => pure (tmps.getD t undef)
  | .cell a t => do loadVar t (← asAddr (tmps.getD a undef))
theorem results_getV (fn : Func) (tmps : Array Value) : results fn tmps = (do
    let vs ← fn.results.mapM (getV tmps)
    pure (if h : vs.size = 1 then vs[0] else .tuple vs)) := by
  unfold results
  congr 1

theorem resV_sound {P : Program} {c : Ctx} {p : Nat → Prop} {ρ : Env} {S : AS} {a : Act} {w : World} (hm : Mod c p ρ S a.tmps w) {r : ResultVar} {v : AV} (h : resV P S r = some v) :
    ∃ u, (getV a.tmps r).run P w = .ok u w ∧ Rep ρ v u := by
  cases r with
  | tmp t =>
    simp only [resV, Option.some.injEq] at h
    subst h
    exact ⟨_, by simp [getV], hm.tmps t⟩
  | cell b t =>
    simp only [resV] at h
    split at h
    · next id i hg hi =>
      split at h
      · next t' l hob =>
        split at h
        · next hc =>
          simp only [Option.some.injEq] at h
          subst h
          obtain ⟨g, cs, h1, h2, h3, h4, -⟩ := hm.at_cells (x := .tmp b) (id := id) (s := 0) (k := 0) (j := 0) (by simp [AS.val, hg, AV.loc]) hob
          have hlen := h4.length
          have h2' : a.tmps.getD b undef = .pointer (some ⟨g, 0, none⟩) := by simpa [Act.eval] using h2
          have hload := run_loadAt_cells (P := P) (w := w) hi (b := g) (o := 0) (cs := cs.take i.size) (by simp; omega) (fun m v hv => by
            have hm' : m < i.size := by
              rcases Nat.lt_or_ge m i.size with h | h
              · exact h
              · rw [List.getElem?_eq_none (by simp; omega)] at hv; cases hv
            rw [List.getElem?_take_of_lt hm'] at hv
            rw [h3.cell, Nat.zero_add, ← hv]
            simp) hc.2
          refine ⟨_, ?_, rep_ofCells (h4.take i.size) i.agg⟩
          simp only [getV, h2', asAddr, Sem.run_bind, Sem.run_pure, Result.andThen_ok]
          simpa [Instr.loadAt, Instr.sureAddr] using hload
        · simp at h
      · simp at h
    · simp at h
theorem resL_sound {P : Program} {c : Ctx} {p : Nat → Prop} {ρ : Env} {S : AS} {a : Act} {w : World} (hm : Mod c p ρ S a.tmps w) : ∀ {rs : List ResultVar} {vs : List AV}, resL P S rs = some vs →
    ∃ us, (rs.mapM (getV a.tmps)).run P w = .ok us w ∧ RepL ρ vs us
  | [], vs, h => by
    simp only [resL, Option.some.injEq] at h
    subst h
    exact ⟨[], by simp, by simp [RepL]⟩
  | r :: rs, vs, h => by
    simp only [resL] at h
    cases h1 : resV P S r with
    | none => rw [h1] at h; simp at h
    | some v =>
      cases h2 : resL P S rs with
      | none => rw [h1, h2] at h; simp at h
      | some vs' =>
        rw [h1, h2] at h
        simp only [Option.some.injEq] at h
        subst h
        obtain ⟨u, e1, e2⟩ := resV_sound hm h1
        obtain ⟨us, e3, e4⟩ := resL_sound hm h2
        refine ⟨u :: us, ?_, by simp only [RepL]; exact ⟨e2, e4⟩⟩
        rw [List.mapM_cons, Sem.run_bind, e1]
        simp only [Result.andThen_ok, Sem.run_bind]
        rw [e3]
        rfl
theorem resAV_sound {P : Program} {c : Ctx} {p : Nat → Prop} {ρ : Env} {S : AS} {a : Act} {w : World} (hm : Mod c p ρ S a.tmps w) {fn : Func} {v : AV} (h : resAV P S fn.results.toList = some v) : ∃ u, (results fn a.tmps).run P w = .ok u w ∧ Rep ρ v u := by
  rw [results_getV, Array.mapM_eq_mapM_toList]
  simp only [Sem.run_bind, Sem.run_map]
  have one : ∀ {vs : List AV}, resL P S fn.results.toList = some vs → ∃ us, (fn.results.toList.mapM (getV a.tmps)).run P w = .ok us w ∧ RepL ρ vs us := fun h => resL_sound hm h
  unfold resAV at h
  split at h
  · next r hr =>
    obtain ⟨us, e1, e2⟩ := one (vs := [v]) (by rw [hr]; simp [resL, h])
    cases us with
    | nil => simp [RepL] at e2
    | cons u us =>
      simp only [RepL] at e2
      have : us = [] := by have := e2.2.length; exact List.eq_nil_of_length_eq_zero (by simpa using this)
      subst this
      refine ⟨u, ?_, e2.1⟩
      rw [e1]
      simp
  · next rs hne =>
    cases hl : resL P S fn.results.toList with
    | none => rw [hl] at h; simp at h
    | some vs =>
      rw [hl] at h
      simp only [Option.map_some, Option.some.injEq] at h
      subst h
      obtain ⟨us, e1, e2⟩ := one hl
      refine ⟨.tuple us.toArray, ?_, by simp only [Rep]; exact ⟨us, rfl, e2⟩⟩
      rw [e1]
      have hlen : us.length ≠ 1 := by
        rw [e2.length]
        have hll : ∀ (rs : List ResultVar) (vs : List AV), resL P S rs = some vs → vs.length = rs.length := by
          intro rs
          induction rs with
          | nil => intro vs h; simp only [resL, Option.some.injEq] at h; subst h; rfl
          | cons r rs ih =>
            intro vs h
            simp only [resL] at h
            cases h1 : resV P S r with
            | none => rw [h1] at h; simp at h
            | some v =>
              cases h2 : resL P S rs with
              | none => rw [h1, h2] at h; simp at h
              | some vs' => rw [h1, h2] at h; simp only [Option.some.injEq] at h; subst h; simp [ih vs' h2]
        rw [hll _ _ hl]
        intro e
        cases hr : fn.results.toList with
        | nil => rw [hr] at e; simp at e
        | cons r rs =>
          rw [hr] at e
          have : rs = [] := List.eq_nil_of_length_eq_zero (by simpa using e)
          subst this
          exact hne r hr
      simp [hlen]

theorem find_map_some (s : List (Nat × AO)) (i : Nat) : AS.obj ⟨[], somes s, none⟩ i = find s i := by
  unfold AS.obj
  rw [find_somes]
  cases find s i <;> rfl
theorem find_slots {args : List AV} {d : Nat} : find (slots args) d = args[d]? := by
  have key : ∀ (l : List AV) (k : Nat), find ((l.zipIdx k).map fun q => (q.2, q.1)) d = if k ≤ d then l[d - k]? else none := by
    intro l
    induction l with
    | nil => intro k; simp [find]
    | cons a l ih =>
      intro k
      simp only [List.zipIdx_cons, List.map_cons, find]
      by_cases h : k = d
      · subst h; simp
      · rw [if_neg h, ih]
        by_cases h2 : k ≤ d
        · have : d - k = (d - (k + 1)) + 1 := by omega
          rw [if_pos (by omega), if_pos h2, this]; simp
        · rw [if_neg (by omega), if_neg h2]
  unfold slots
  simpa using key args 0

/-- **a function's contract, out of what is shown of its text.** -/
theorem fn_of_swp {P : Program} {f : FuncId} {fn : Func} {code : Code} {args : List AV} {s : List (Nat × AO)} {val : AV} {objs : List (Nat × AO)} (hf : P.funcs[f]? = some fn) (hb : fn.body = some code) (hfn : fnB P f = true) (hd : dstB fn.ntmps code = true) (hl : args.length ≤ fn.ntmps) {rs : List ResultVar} (hrs : fn.results = rs.toArray)
    (h : SWP P code (retQ P rs val objs) 1 ⟨slots args, somes s, none⟩) : FnOk P f args s val objs := by
  obtain rfl : fn.results.toList = rs := by rw [hrs]
  refine ⟨hfn, fun ρ w vs hA hr => ?_⟩
  have hlen := hr.length
  let c : Ctx := ⟨fn.ntmps, liveB ρ s, w, ρ, fun _ => False⟩
  have hm : Mod c (fun i => i < 8) ρ ⟨slots args, somes s, none⟩ (vs.toArray ++ Array.replicate (fn.ntmps - vs.toArray.size) undef) w := by
    refine ⟨by simp [c]; omega, fun _ _ => rfl, SubR.refl _, fun _ h => h, hA.dom, fun d => ?_, fun i o e => ?_, fun i j oi oj x y hne hi hj => ?_, fun i o x g hi hx hg => ?_, hA.ro, fun i o x g hi hx hg => ?_, fun g o e => .inl e, hA.rdf, fun g e => e.elim, FrameM.refl _ _⟩
    · show Rep ρ (AS.get ⟨slots args, somes s, none⟩ d) _
      unfold AS.get
      dsimp only
      rw [find_slots]
      cases ha : args[d]? with
      | none => simp [Rep]
      | some v =>
        obtain ⟨u, h1, h2⟩ := RepL.get d hr ha
        simp only [Option.getD_some]
        have hdl : d < vs.length := (List.getElem?_eq_some_iff.1 h1).1
        have e1 : (vs.toArray ++ Array.replicate (fn.ntmps - vs.toArray.size) undef).getD d undef = u := by
          rw [Array.getD_eq_getD_getElem?, Array.getElem?_append_left (by simpa using hdl)]
          simp [h1]
        rw [e1]
        exact h2
    · exact hA.objs i o ((find_map_some s i).symm.trans e)
    · exact hA.apart i j oi oj x y hne ((find_map_some s i).symm.trans hi) ((find_map_some s j).symm.trans hj)
    · exact .inl ⟨i, o, x, (find_map_some s i).symm.trans hi, hx, hg⟩
    · exact hA.rsep i o x g ((find_map_some s i).symm.trans hi) hx hg
  refine (callsIn_wide (n := 0)).1 (callsIn_of_wp_marks hf hb trivial (wpIn_mono (h.h none 0 c _ ρ _ w (.inl rfl) hd hm (fun i hi => by omega) (.nil rfl)) ?_))
  have fin0 : ∀ (S' : AS) (p' : Nat → Prop) (ρ' : Env) (a' : Act) (w' : World), RetOk P fn.results.toList val objs S' → Mod c p' ρ' S' a'.tmps w' → ∃ v, (results fn a'.tmps).run P w' = .ok v w' ∧ ∃ v' ρ', (Ending.returned v) = .returned v' ∧
      Mod ⟨1, liveB ρ s, w, ρ, fun _ => False⟩ (fun i => i < 16) ρ' ⟨[(0, val)], somes objs, none⟩ #[v'] w' := by
    intro S' p' ρ' a' w' hr' hm'
    unfold RetOk at hr'
    split at hr'
    · next v hv =>
      obtain ⟨L, fr, hE⟩ := hr'
      obtain ⟨u, h1, h2⟩ := resAV_sound hm' hv
      have hm1 : Mod ⟨1, liveB ρ s, w, ρ, fun _ => False⟩ p' ρ' ⟨[(0, v)], S'.s, none⟩ #[u] w' := by
        refine ⟨rfl, hm'.base, hm'.baseR, hm'.lo, hm'.dom, fun d => ?_, hm'.objs, hm'.apart, hm'.old, hm'.ro, hm'.rsep, hm'.rnew, hm'.rdf, hm'.dfr, hm'.frame⟩
        unfold AS.get
        simp only [find]
        split
        · next e => subst e; simpa using h2
        · simp [Rep]
      obtain ⟨ρ2, hm2⟩ := hE.mod hm1
      exact ⟨u, h1, u, ρ2, rfl, hm2.mono fun i hi => by omega⟩
    · exact hr'.elim
  have fin : ∀ (Ds : List Nat) (S' : AS) (p' : Nat → Prop) (ρ' : Env) (a' : Act) (w' : World), RetOk P fn.results.toList val objs S' → Mod c p' ρ' S' a'.tmps w' → Ds.Nodup → (∀ D ∈ Ds, w.heap.size ≤ D ∧ ¬ False ∧ w'.heap[D]? = some (.deferred (some []))) →
      LeavesInM Fence.wide 0 P fn a'.tmps (fun e w' => ∃ v' ρ', e = .returned v' ∧ Mod ⟨1, liveB ρ s, w, ρ, fun _ => False⟩ (fun i => i < 16) ρ' ⟨[(0, val)], somes objs, none⟩ #[v'] w') (Ds.map markD) .returning w' := by
    intro Ds
    induction Ds with
    | nil => intro S' p' ρ' a' w' hr' hm' _ _; exact fin0 S' p' ρ' a' w' hr' hm'
    | cons D Ds ih =>
      intro S' p' ρ' a' w' hr' hm' hn hD
      obtain ⟨hb1, -, hD1⟩ := hD D (List.mem_cons_self ..)
      rw [List.nodup_cons] at hn
      refine ⟨by simp, .inl ⟨D, _, rfl, run_takeDeferred hD1, ih S' p' ρ' a' _ hr' (hm'.putObj _ hD1 rfl hb1 (fun h => h)) hn.2 fun D2 h2 => ?_⟩⟩
      obtain ⟨k1, k3, k2⟩ := hD D2 (List.mem_cons_of_mem _ h2)
      have hne : D2 ≠ D := fun e => by subst e; exact hn.1 h2
      exact ⟨k1, k3, (World.putObj_heap_other hne).trans k2⟩
  rintro e a' w' ⟨⟨Ds, e1, e2, e3⟩, n', S', p', ρ', h2, h3, h4⟩
  cases e with
  | normal => show LeavesInM _ _ _ _ _ _ a'.defers _ _; rw [e1]; exact fin Ds S' p' ρ' a' w' h2 h3 e2 e3
  | ret => show LeavesInM _ _ _ _ _ _ a'.defers _ _; rw [e1]; exact fin Ds S' p' ρ' a' w' h2 h3 e2 e3
  | _ => exact h2.elim

theorem fn_of_awp {P : Program} {f : FuncId} {fn : Func} {code : Code} {args : List AV} {s : List (Nat × AO)} {val : AV} {objs : List (Nat × AO)} (hf : P.funcs[f]? = some fn) (hb : fn.body = some code) (hfn : fnB P f = true) (hd : dstB fn.ntmps code = true) (hl : args.length ≤ fn.ntmps) {rs : List ResultVar} (hrs : fn.results = rs.toArray)
    (h : AWP P code (retQ P rs val objs) 1 ⟨slots args, somes s, none⟩) : FnOk P f args s val objs := fn_of_swp hf hb hfn hd hl hrs (swp_awp h)
/-- a contract's names, at a call: those handed in are the caller's; those made are named by the operation. -/
def callMap (ι : List Nat) (n i : Nat) : Nat := if i < 8 then (ι[i]?).getD 0 else 8 * n + (i - 8)
def deepO : Option AO → List Nat
  | some (.cells _ l) => deepL l
  | some (.frm _ t) => deepP t
  | _ => []
def deepS (S : AS) : List Nat → List Nat
  | [] => []
  | i :: l => i :: (deepO (S.obj i) ++ deepS S l)
def callEff (ι : List Nat) (n : Nat) (S : AS) (bor : List Nat) (actual : List AV) (s : List (Nat × AO)) (val : AV) (objs : List (Nat × AO)) : Eff :=
  ⟨val.ren (callMap ι n), (objs.map fun q => (callMap ι n q.1, some (q.2.ren (callMap ι n)))) ++ (s.map fun q => (callMap ι n q.1, none)), deepS S (s.map fun q => callMap ι n q.1) ++ (deepL actual ++ bor)⟩
mutual
/-- nothing within that never turns. -/
def AV.noR : AV → Bool
  | .dead => true
  | .raw _ => true
  | .sl _ rows => rows.isEmpty
  | .hdr _ => true
  | .ptr _ _ _ _ => true
  | .vw _ _ _ _ => true
  | .spt _ _ _ _ => false
  | .agg l => noRL l
  | .tup l => noRL l
  | .clo _ l => noRL l
def noRL : List AV → Bool
  | [] => true
  | a :: l => a.noR && noRL l
end
def PV.noR : PV → Bool
  | .raw _ => true
  | .sl _ rows => rows.isEmpty
/-- elements that are cells alone. -/
def RawRows (rows : List (List PV)) : Prop := ∀ r ∈ rows, ∀ p ∈ r, p.noR = true
def AO.noR : AO → Prop
  | .cells _ l => noRL l = true
  | .row _ _ rows => RawRows rows
  | .fro _ rows => rows = []
  | .loop .. => True
  | .frm .. => False
/-- what must hold at a call (bor: own rows that are lent). -/
def CallFit (ι : List Nat) (n : Nat) (bor : List Nat) (args actual : List AV) (s : List (Nat × AO)) (val : AV) (objs : List (Nat × AO)) (S : AS) : Prop :=
  (ServesL (S.upd (frz S bor)) (renL (callMap ι n) args) actual ∧ bdL 1 args = true) ∧ (∀ q ∈ s, q.1 < 8 ∧ q.2.bd 1 = true ∧ ServesO (S.upd (frz S bor)) (q.2.ren (callMap ι n)) ((S.upd (frz S bor)).obj (callMap ι n q.1)) ∧ callMap ι n q.1 ∉ bor) ∧
  s.Pairwise (fun q r => q.1 ≠ r.1 ∧ callMap ι n q.1 ≠ callMap ι n r.1) ∧ (∀ q ∈ objs, q.1 < 16) ∧ objs.Pairwise (fun q r => q.1 ≠ r.1) ∧ (bor = [] ∨ (val.noR = true ∧ ∀ q ∈ objs, q.2.noR))

theorem PRep.noR {R R' : Frz} {p : PV} {v : Value} (h : p.noR = true) (e : PRep R p v) : PRep R' p v := by
  cases p with
  | raw u => simpa [PRep] using e
  | sl s rows =>
    obtain rfl : rows = [] := by simpa [PV.noR] using h
    simp only [PRep] at e ⊢
    obtain ⟨A, c, h1, h2, -⟩ := e
    exact ⟨A, c, h1, h2, by simp [PRows]⟩
theorem PRepL.noR {R R' : Frz} : ∀ {ps : List PV} {vs : List Value}, (∀ p ∈ ps, p.noR = true) → PRepL R ps vs → PRepL R' ps vs
  | [], [], _, _ => trivial
  | [], _ :: _, _, e => e.elim
  | _ :: _, [], _, e => e.elim
  | p :: ps, _ :: _, h, e => ⟨e.1.noR (h p List.mem_cons_self), PRepL.noR (fun q hq => h q (List.mem_cons_of_mem _ hq)) e.2⟩
theorem PRepLL.noR {R R' : Frz} : ∀ {ps : List (List PV)} {vs : List (List Value)}, RawRows ps → PRepLL R ps vs → PRepLL R' ps vs
  | [], [], _, _ => trivial
  | [], _ :: _, _, e => e.elim
  | _ :: _, [], _, e => e.elim
  | p :: ps, _ :: _, h, e => ⟨e.1.noR (h p List.mem_cons_self), PRepLL.noR (fun q hq => h q (List.mem_cons_of_mem _ hq)) e.2⟩
mutual
theorem Rep.renF {ρ ρ' : Env} {m : Nat → Nat} (h : ∀ i x, ρ.f i = some x → ρ'.f (m i) = some x) : ∀ (a : AV) (v : Value), (SubR ρ.R ρ'.R ∨ a.noR = true) → Rep ρ a v → Rep ρ' (a.ren m) v
  | .dead, _, _, _ => by simp [AV.ren, Rep]
  | .raw _, _, _, e => by simpa [AV.ren, Rep] using e
  | .sl s rows, v, hR, e => by
    simp only [AV.ren, Rep] at e ⊢
    rcases hR with hR | hR
    · exact e.sub hR
    · exact PRep.noR (p := .sl s rows) hR e
  | .hdr i, v, _, e => by simp only [AV.ren, Rep] at e ⊢; exact h i v e
  | .ptr i s k j, v, _, e => by
    simp only [AV.ren, Rep] at e ⊢
    obtain ⟨x, b, o, h1, h2, h3⟩ := e
    exact ⟨x, b, o, h i x h1, h2, h3⟩
  | .vw i s l hh, v, _, e => by
    simp only [AV.ren, Rep] at e ⊢
    obtain ⟨A, n', c, h1, h2⟩ := e
    exact ⟨A, n', c, h i _ h1, h2⟩
  | .spt s rows k j, v, hR, e => by
    simp only [AV.ren, Rep] at e ⊢
    rcases hR with hR | hR
    · obtain ⟨b, o, h1, h2⟩ := e
      exact ⟨b, o, h1, h2.sub hR⟩
    · cases hR
  | .agg l, v, hR, e => by
    simp only [AV.ren, Rep] at e ⊢
    obtain ⟨cs, h1, h2⟩ := e
    exact ⟨cs, h1, RepL.renF h l cs hR h2⟩
  | .tup l, v, hR, e => by
    simp only [AV.ren, Rep] at e ⊢
    obtain ⟨cs, h1, h2⟩ := e
    exact ⟨cs, h1, RepL.renF h l cs hR h2⟩
  | .clo f l, v, hR, e => by
    simp only [AV.ren, Rep] at e ⊢
    obtain ⟨cs, h1, h2⟩ := e
    exact ⟨cs, h1, RepL.renF h l cs hR h2⟩
theorem RepL.renF {ρ ρ' : Env} {m : Nat → Nat} (h : ∀ i x, ρ.f i = some x → ρ'.f (m i) = some x) : ∀ (l : List AV) (vs : List Value), (SubR ρ.R ρ'.R ∨ noRL l = true) → RepL ρ l vs → RepL ρ' (renL m l) vs
  | [], [], _, _ => by simp [renL, RepL]
  | [], _ :: _, _, e => by simp [RepL] at e
  | _ :: _, [], _, e => by simp [RepL] at e
  | a :: l, v :: vs, hR, e => by
    simp only [renL, RepL] at e ⊢
    have h2 : (SubR ρ.R ρ'.R ∨ a.noR = true) ∧ (SubR ρ.R ρ'.R ∨ noRL l = true) := by
      rcases hR with hR | hR
      · exact ⟨.inl hR, .inl hR⟩
      · simp only [noRL, Bool.and_eq_true] at hR
        exact ⟨.inr hR.1, .inr hR.2⟩
    exact ⟨Rep.renF h a v h2.1 e.1, RepL.renF h l vs h2.2 e.2⟩
end
theorem ObjAt.renF {ρ ρ' : Env} {m : Nat → Nat} (h : ∀ i x, ρ.f i = some x → ρ'.f (m i) = some x) {w : World} {x : Value} {o : AO} (hR : SubR ρ.R ρ'.R ∨ o.noR) (ho : ObjAt ρ w x o) : ObjAt ρ' w x (o.ren m) := by
  cases o with
  | cells t l =>
    obtain ⟨g, cs, h1, h2, h3, h4⟩ := ho
    exact ⟨g, cs, h1, h2, RepL.renF h l cs hR h3, h4⟩
  | row e s r =>
    obtain ⟨vals, h1, h2⟩ := ho
    refine ⟨vals, ?_, h2⟩
    rcases hR with hR | hR
    · exact h1.sub hR
    · exact h1.noR hR
  | fro s r =>
    rcases hR with hR | hR
    · exact PRep.sub hR _ _ ho
    · exact PRep.noR (p := .sl s r) (by have : r = [] := hR; subst this; rfl) ho
  | loop tm lc md => exact ho
  | frm tm t =>
    rcases hR with hR | hR
    · intro d v hv
      rw [find'_eq, find_renT] at hv
      cases hq : find t d with
      | none => rw [hq] at hv; cases hv
      | some u =>
        rw [hq] at hv
        simp only [Option.map_some, Option.some.injEq] at hv
        subst hv
        exact Rep.renF h u _ (.inl hR) (ho d u (by rw [find'_eq]; exact hq))
    · exact hR.elim

theorem find_objs {objs : List (Nat × AO)} {m : Nat → Nat} {i : Nat} {o : AO} (h : find (objs.map fun q => (m q.1, some (q.2.ren m))) i = some (some o)) : ∃ q ∈ objs, m q.1 = i ∧ q.2.ren m = o := by
  have := find_mem h
  simp only [List.mem_map, Prod.mk.injEq, Option.some.injEq] at this
  obtain ⟨q, hq, h1, h2⟩ := this
  exact ⟨q, hq, h1, h2⟩
theorem find_of_pair {α : Type} {l : List (Nat × α)} (hp : l.Pairwise (fun q r => q.1 ≠ r.1)) {q : Nat × α} (hq : q ∈ l) : find l q.1 = some q.2 := by
  induction l with
  | nil => cases hq
  | cons a l ih =>
    obtain ⟨k, v⟩ := a
    rw [List.pairwise_cons] at hp
    simp only [find]
    rcases List.mem_cons.1 hq with e | hq'
    · subst e; simp
    · rw [if_neg (hp.1 q hq'), ih hp.2 hq']

theorem pair_inj {s : List (Nat × AO)} {m : Nat → Nat} (hpw : s.Pairwise (fun q r => q.1 ≠ r.1 ∧ m q.1 ≠ m r.1)) : ∀ q ∈ s, ∀ r ∈ s, q.1 ≠ r.1 → m q.1 ≠ m r.1 := by
  intro q hq r hr' hne
  induction s with
  | nil => cases hq
  | cons a s ih =>
    rw [List.pairwise_cons] at hpw
    rcases List.mem_cons.1 hq with e1 | hq' <;> rcases List.mem_cons.1 hr' with e2 | hr2
    · subst e1; subst e2; exact absurd rfl hne
    · subst e1; exact (hpw.1 r hr2).2
    · subst e2; exact fun e => (hpw.1 q hq').2 e.symm
    · exact ih hpw.2 hq' hr2
theorem find_map_some' (objs : List (Nat × AO)) (hp : objs.Pairwise (fun q r => q.1 ≠ r.1)) (q : Nat × AO) (hq : q ∈ objs) {t : List (Nat × AV)} : AS.obj ⟨t, somes objs, none⟩ q.1 = some q.2 := by
  have h := find_map_some objs q.1
  rw [find_of_pair hp hq] at h
  exact h

theorem deepS_mem {S : AS} {i : Nat} : ∀ {l : List Nat}, i ∈ l → i ∈ deepS S l ∧ ∀ j ∈ deepO (S.obj i), j ∈ deepS S l
  | [], h => by cases h
  | k :: l, h => by
    unfold deepS
    rcases List.mem_cons.1 h with rfl | h
    · exact ⟨List.mem_cons_self, fun j hj => List.mem_cons_of_mem _ (List.mem_append_left _ hj)⟩
    · obtain ⟨h1, h2⟩ := deepS_mem h
      exact ⟨List.mem_cons_of_mem _ (List.mem_append_right _ h1), fun j hj => List.mem_cons_of_mem _ (List.mem_append_right _ (h2 j hj))⟩
theorem serves_congr {S S' : AS} {v a : AV} (h : ∀ i ∈ a.deep, S'.obj i = S.obj i) (hs : Serves S v a) : Serves S' v a := by
  rcases hs with hs | hs | hs
  · exact .inl hs
  · exact .inr (.inl (by rw [see_congr a h]; exact hs))
  · exact .inr (.inr hs)
theorem servesL_congr {S S' : AS} : ∀ {l m : List AV}, (∀ i ∈ deepL m, S'.obj i = S.obj i) → ServesL S l m → ServesL S' l m
  | [], [], _, _ => trivial
  | [], _ :: _, _, h => h.elim
  | _ :: _, [], _, h => h.elim
  | v :: l, a :: m, h, hs => by
    simp only [deepL, List.mem_append] at h
    exact ⟨serves_congr (fun i hi => h i (.inl hi)) hs.1, servesL_congr (fun i hi => h i (.inr hi)) hs.2⟩
theorem deepP_find {t : List (Nat × AV)} {d i : Nat} (h : i ∈ ((find t d).getD .dead).deep) : i ∈ deepP t := by
  induction t with
  | nil => simp [find, AV.deep] at h
  | cons q t ih =>
    obtain ⟨k, v⟩ := q
    simp only [find] at h
    simp only [deepP, List.mem_append]
    split at h
    · exact .inl h
    · exact .inr (ih h)
theorem servesT_congr {S S' : AS} {t' : List (Nat × AV)} (h : ∀ i ∈ deepP t', S'.obj i = S.obj i) : ∀ {t : List (Nat × AV)}, ServesT S t' t → ServesT S' t' t
  | [], _ => trivial
  | (d, v) :: t, hs => ⟨serves_congr (fun i hi => h i (deepP_find hi)) hs.1, servesT_congr h hs.2⟩
theorem servesO_congr {S S' : AS} {o : AO} {q : Option AO} (h : ∀ i ∈ deepO q, S'.obj i = S.obj i) (hs : ServesO S o q) : ServesO S' o q := by
  cases q with
  | none => cases o <;> exact hs.elim
  | some o' =>
    cases o <;> cases o' <;> first | exact hs | exact ⟨hs.1, servesL_congr h hs.2⟩ | exact ⟨hs.1, servesT_congr h hs.2⟩

set_option maxHeartbeats 1000000 in
/-- **a contract at a call.** -/
theorem call_ok {P : Program} {f : FuncId} {args actual : List AV} {s : List (Nat × AO)} {val : AV} {objs : List (Nat × AO)} (hf : FnOk P f args s val objs) {ι : List Nat} {n : Nat} {bor : List Nat} {S : AS} (h : CallFit ι n bor args actual s val objs S) :
    CallOk P f actual S n (callEff ι n S bor actual s val objs) := by
  obtain ⟨⟨hsv, hb⟩, hs, hpw, ho16, hopw, hnoR⟩ := h
  intro S' hag
  have ag1 : ∀ i ∈ bor, S'.obj i = S.obj i := fun i hi => hag i (List.mem_append_right _ (List.mem_append_right _ hi))
  have ag2 : ∀ i ∈ deepL actual, S'.obj i = S.obj i := fun i hi => hag i (List.mem_append_right _ (List.mem_append_left _ hi))
  have ag3 : ∀ q ∈ s, S'.obj (callMap ι n q.1) = S.obj (callMap ι n q.1) ∧ ∀ j ∈ deepO (S.obj (callMap ι n q.1)), S'.obj j = S.obj j := fun q hq => by
    obtain ⟨h1, h2⟩ := deepS_mem (S := S) (List.mem_map_of_mem (f := fun q => callMap ι n q.1) hq)
    exact ⟨hag _ (List.mem_append_left _ h1), fun j hj => hag _ (List.mem_append_left _ (h2 j hj))⟩
  have hfz : frz S' bor = frz S bor := frz_congr ag1
  have agf : ∀ i, S'.obj i = S.obj i → (S'.upd (frz S' bor)).obj i = (S.upd (frz S bor)).obj i := fun i hi => by rw [upd_obj, upd_obj, hfz, hi]
  have notb : ∀ (T : AS) i, i ∉ bor → (T.upd (frz T bor)).obj i = T.obj i := fun T i hi => by
    rw [upd_obj]
    cases hq : find (frz T bor) i with
    | none => rfl
    | some q => exact absurd (frz_find hq).1 hi
  have hs : ∀ q ∈ s, q.1 < 8 ∧ q.2.bd 1 = true ∧ ServesO (S'.upd (frz S' bor)) (q.2.ren (callMap ι n)) ((S'.upd (frz S' bor)).obj (callMap ι n q.1)) ∧ callMap ι n q.1 ∉ bor := fun q hq => by
    obtain ⟨h1, h2, h3, h4⟩ := hs q hq
    refine ⟨h1, h2, ?_, h4⟩
    rw [agf _ (ag3 q hq).1]
    refine servesO_congr (fun j hj => agf j ?_) h3
    rw [notb S _ h4] at hj
    exact (ag3 q hq).2 j hj
  have hsv : ServesL (S'.upd (frz S' bor)) (renL (callMap ι n) args) actual := servesL_congr (fun i hi => agf i (ag2 i hi)) hsv
  intro c p ρ tm w vs hm hn hr
  have hn0 := hm.n0 hn
  obtain ⟨Rf, hsub, hmf, hR0⟩ : ∃ Rf, SubR ρ.R Rf ∧ Mod c p ⟨ρ.f, Rf⟩ (S'.upd (frz S' bor)) tm w ∧ (bor = [] → Rf = ρ.R) := by
    by_cases hb0 : bor = []
    · subst hb0; exact ⟨ρ.R, SubR.refl _, hm, fun _ => rfl⟩
    · obtain ⟨Rf, h1, h2⟩ := hm.frz bor
      exact ⟨Rf, h1, h2, fun e => absurd e hb0⟩
  let ρl : Env := ⟨fun i => if i < 8 then ρ.f (callMap ι n i) else none, Rf⟩
  have hl : ∀ i x, i / 8 < 1 → ρ.f (callMap ι n i) = some x → ρl.f i = some x := fun i x hi e => by
    show (if _ then _ else _) = _
    rw [if_pos (by omega)]; exact e
  have hl2 : ∀ i x, ρl.f i = some x → i < 8 ∧ ρ.f (callMap ι n i) = some x := fun i x e => by
    have e : (if _ then _ else _) = some x := e
    split at e
    · next hc => exact ⟨hc, e⟩
    · cases e
  have hfs : ∀ i o, find s i = some o → i < 8 ∧ o.bd 1 = true ∧ (∃ o', (S'.upd (frz S' bor)).obj (callMap ι n i) = some o' ∧ S'.obj (callMap ι n i) = some o' ∧ (∀ x, ObjAt ⟨ρ.f, Rf⟩ w x o' → ObjAt ⟨ρ.f, Rf⟩ w x (o.ren (callMap ι n))) ∧ ∀ x, oblk x o = oblk x o') ∧ (i, o) ∈ s := fun i o e => by
    have hmem := find_mem e
    obtain ⟨h1, h2, h3, h4⟩ := hs _ hmem
    obtain ⟨o', k1, k2, k3⟩ := h3.at_ hmf
    exact ⟨h1, h2, ⟨o', k1, by rw [← notb S' _ h4]; exact k1, k2, fun x => by rw [← k3, oblk_ren]⟩, hmem⟩
  have hpw' : s.Pairwise (fun q r => q.1 ≠ r.1 ∧ callMap ι n q.1 ≠ callMap ι n r.1) := hpw
  have hinj := pair_inj hpw'
  have hA : ArgsOk ρl w s := by
    refine ⟨fun i x e => ⟨(hl2 i x e).1, (hm.dom _ x (hl2 i x e).2).2⟩, fun i o e => ?_, fun i j oi oj x y hne hi hj hx hy g hg hg' => ?_, hmf.ro, fun i o x g hi hx hg => ?_, hmf.rdf⟩
    · obtain ⟨h1, h2, ⟨o', h3, h3', h6, -⟩, -⟩ := hfs i o e
      obtain ⟨x, h4, h5⟩ := hmf.objs _ _ h3
      exact ⟨x, hl i x (by omega) h4, ObjAt.ren (ρ := ⟨ρ.f, Rf⟩) (ρ' := ρl) hl (SubR.refl _) h2 (h6 x h5)⟩
    · obtain ⟨h1, h2, ⟨o1, h3, -, -, h6⟩, h4⟩ := hfs i oi hi
      obtain ⟨k1, k2, ⟨o2, k3, -, -, k6⟩, k4⟩ := hfs j oj hj
      exact hmf.apart _ _ _ _ x y (hinj _ h4 _ k4 hne) h3 k3 (hl2 i x hx).2 (hl2 j y hy).2 g (by rw [← h6]; exact hg) (by rw [← k6]; exact hg')
    · obtain ⟨h1, h2, ⟨o1, h3, -, -, h6⟩, h4⟩ := hfs i o hi
      exact hmf.rsep _ _ x g h3 (hl2 i x hx).2 (by rw [← h6]; exact hg)
  have hra : RepL ρl args vs := RepL.ren (ρ := ⟨ρ.f, Rf⟩) (ρ' := ρl) hl (SubR.refl _) args vs hb (hsv.rep hmf (RepL.ext (ρ := ρ) (ρ' := ⟨ρ.f, Rf⟩) ⟨fun _ _ h => h, hsub⟩ _ _ hr))
  refine (hf.2 ρl w vs hA hra).mono ?_
  rintro e w' ⟨v, ρl', rfl, hml⟩
  -- what never turns, then
  obtain ⟨RR, hRR⟩ : ∃ RR : Frz, (RR = ρl'.R ∧ bor = []) ∨ (RR = ρ.R ∧ val.noR = true ∧ ∀ q ∈ objs, q.2.noR) := by
    rcases hnoR with h | h
    · exact ⟨_, .inl ⟨rfl, h⟩⟩
    · exact ⟨_, .inr ⟨rfl, h⟩⟩
  -- the caller's names
  let ρ' : Env := ⟨fun i => if i / 8 = n then ρl'.f (8 + (i - 8 * n)) else ρ.f i, RR⟩
  have he : ∀ i x, ρ.f i = some x → ρ'.f i = some x := fun i x e => by
    show (if _ then _ else _) = _
    rw [if_neg (hn i (hm.dom i x e).1)]; exact e
  have heR : SubR ρ.R RR := by
    rcases hRR with ⟨rfl, hb0⟩ | ⟨rfl, -⟩
    · exact hsub.trans hml.baseR
    · exact SubR.refl _
  have hF : ∀ i x, ρl'.f i = some x → ρ'.f (callMap ι n i) = some x := fun i x e => by
    have hi16 := (hml.dom i x e).1
    by_cases hi : i < 8
    · have h1 := hml.base i hi
      have h2 : ρl.f i = some x := by rw [← e]; exact h1.symm
      exact he _ x (hl2 i x h2).2
    · have e1 : callMap ι n i = 8 * n + (i - 8) := by unfold callMap; rw [if_neg hi]
      show (if _ then _ else _) = _
      rw [e1, if_pos (by omega)]
      rw [show 8 + (8 * n + (i - 8) - 8 * n) = i by omega]
      exact e
  have hval : Rep ρl' val v := by
    have := hml.tmps 0
    simpa [AS.get, find] using this
  have hob : ∀ q ∈ objs, ∃ x, ρl'.f q.1 = some x ∧ ObjAt ρl' w' x q.2 := fun q hq => hml.objs q.1 q.2 (by rw [find_map_some' objs hopw q hq])
  have hRv : SubR ρl'.R ρ'.R ∨ val.noR = true := by
    rcases hRR with ⟨h, -⟩ | ⟨-, h, -⟩
    · exact .inl (by show SubR _ RR; rw [h]; exact SubR.refl _)
    · exact .inr h
  have hRo : ∀ q ∈ objs, SubR ρl'.R ρ'.R ∨ q.2.noR := fun q hq => by
    rcases hRR with ⟨h, -⟩ | ⟨-, -, h⟩
    · exact .inl (by show SubR _ RR; rw [h]; exact SubR.refl _)
    · exact .inr (h q hq)
  have hfm : ∀ i, find ((callEff ι n S bor actual s val objs).objs) i = match find (objs.map fun q => (callMap ι n q.1, some (q.2.ren (callMap ι n)))) i with | some x => some x | none => find (s.map fun q => (callMap ι n q.1, (none : Option AO))) i := fun i => by
    show find (_ ++ _) i = _
    rw [find_append]
    cases find (objs.map fun q => (callMap ι n q.1, some (q.2.ren (callMap ι n)))) i <;> rfl
  have hliveT : ∀ g, liveB ρl s g → Touch ρ S' (callEff ι n S bor actual s val objs).objs g := fun g ⟨i, o, x, h1, h3, h4⟩ => by
    obtain ⟨k1, k2, ⟨o', k0, k3, -, k6⟩, k4⟩ := hfs i o h1
    have hin : ∃ q, find (callEff ι n S bor actual s val objs).objs (callMap ι n i) = some q := by
      rw [hfm]
      cases hz : find (objs.map fun q => (callMap ι n q.1, some (q.2.ren (callMap ι n)))) (callMap ι n i) with
      | some z => exact ⟨z, rfl⟩
      | none =>
        have : ∀ (l : List (Nat × AO)), (i, o) ∈ l → ∃ q, find (l.map fun q => (callMap ι n q.1, (none : Option AO))) (callMap ι n i) = some q := by
          intro l
          induction l with
          | nil => intro hc; cases hc
          | cons b l ih =>
            intro hc
            simp only [List.map_cons, find]
            split
            · exact ⟨_, rfl⟩
            · next hne =>
              rcases List.mem_cons.1 hc with e | hc
              · subst e; exact absurd rfl hne
              · exact ih hc
        exact this _ k4
    obtain ⟨q, hq⟩ := hin
    exact ⟨_, _, x, q, hq, k3, (hl2 i x h3).2, by rw [← k6]; exact h4⟩
  refine ⟨v, ρ', rfl, ?_, Rep.renF hF val v hRv hval⟩
  have hfr := hml.frame
  refine hm.step _ ⟨he, heR⟩ (fun i hi => if_neg (by omega)) (fun i h => .inl h) (fun i x e => ?_) hfr.os hfr.tape hfr.output hfr.size (fun g hg hT => hfr.block g hg (fun hc => hT (hliveT g hc))) ?_ ?_ ?_
  · have e : (if _ then _ else _) = some x := e
    split at e
    · next hi => exact ⟨.inr hi, (hml.dom _ x e).2⟩
    · exact ⟨.inl (hm.dom i x e).1, (hm.dom i x e).2⟩
  · intro g o hg
    have hg : RR g = some o := hg
    rcases hRR with ⟨rfl, hb0⟩ | ⟨rfl, -⟩
    · rcases hml.rnew g o hg with h1 | h1 | h1
      · exact .inl (by have : Rf g = some o := h1; rw [hR0 hb0] at this; exact this)
      · exact .inr ⟨.inr (hliveT g h1), hml.ro g o hg, hml.rdf g o hg⟩
      · exact .inr ⟨.inl h1, hml.ro g o hg, hml.rdf g o hg⟩
    · exact .inl hg
  · intro i o hfi
    rw [hfm] at hfi
    cases hz : find (objs.map fun q => (callMap ι n q.1, some (q.2.ren (callMap ι n)))) i with
    | none =>
      rw [hz] at hfi
      have := find_mem hfi
      simp at this
    | some z =>
      rw [hz] at hfi
      simp only [Option.some.injEq] at hfi
      subst hfi
      obtain ⟨q, hq, rfl, rfl⟩ := find_objs hz
      obtain ⟨x, h1, h2⟩ := hob q hq
      refine ⟨x, hF _ x h1, h2.renF hF (hRo q hq), fun g hg => ?_⟩
      rw [oblk_ren] at hg
      have hobj : AS.obj ⟨[(0, val)], somes objs, none⟩ q.1 = some q.2 := by rw [find_map_some' objs hopw q hq]
      have hgt : w.heap.size ≤ g ∨ Touch ρ S' (callEff ι n S bor actual s val objs).objs g := by
        rcases hml.old q.1 q.2 x g hobj h1 hg with h3 | h3
        · exact .inr (hliveT g h3)
        · exact .inl h3
      refine ⟨hgt, ?_⟩
      show RR g = none
      rcases hRR with ⟨rfl, -⟩ | ⟨rfl, -⟩
      · exact hml.rsep q.1 q.2 x g hobj h1 hg
      · rcases hgt with e | e
        · exact hm.new_R e
        · exact (hm.touch_lt e).2.1
  · intro i j oi oj x y hne hi hj hx hy g hg hg'
    rw [hfm] at hi hj
    cases hzi : find (objs.map fun q => (callMap ι n q.1, some (q.2.ren (callMap ι n)))) i with
    | none => rw [hzi] at hi; have := find_mem hi; simp at this
    | some zi =>
      cases hzj : find (objs.map fun q => (callMap ι n q.1, some (q.2.ren (callMap ι n)))) j with
      | none => rw [hzj] at hj; have := find_mem hj; simp at this
      | some zj =>
        rw [hzi] at hi
        rw [hzj] at hj
        simp only [Option.some.injEq] at hi hj
        subst hi; subst hj
        obtain ⟨q, hq, rfl, rfl⟩ := find_objs hzi
        obtain ⟨r, hr', rfl, rfl⟩ := find_objs hzj
        obtain ⟨x', h1, -⟩ := hob q hq
        obtain ⟨y', h2, -⟩ := hob r hr'
        have e1 := hF _ _ h1
        have e2 := hF _ _ h2
        rw [hx] at e1; rw [hy] at e2
        obtain rfl := Option.some.inj e1
        obtain rfl := Option.some.inj e2
        rw [oblk_ren] at hg hg'
        exact hml.apart q.1 r.1 q.2 r.2 x y (fun e => hne (by rw [e])) (by rw [find_map_some' objs hopw q hq]) (by rw [find_map_some' objs hopw r hr']) h1 h2 g hg hg'
end Go.Proofs.Ytiidfcadmdahmaa
