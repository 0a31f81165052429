/- ENGINE (second) 5D: rows that never turn again; structs whose slices hold nothing; strings; over any program. -/
import Derived.Test.YtiidfcadmdahmaaG5C
import Derived.Laws.BytesString
set_option linter.unusedSimpArgs false
set_option linter.unusedVariables false
namespace Go.Proofs.Ytiidfcadmdahmaa
open Go.RowKit

theorem upd_obj (S : AS) (u : List (Nat × Option AO)) (i : Nat) : (S.upd u).obj i = match find u i with | some q => q | none => S.obj i := by
  unfold AS.obj AS.upd
  simp only [find_append]
  cases find u i <;> rfl
/-- two states that tell the same. -/
theorem Mod.same {c : Ctx} {p : Nat → Prop} {ρ : Env} {S S' : AS} {tm : Array Value} {w : World} (h : Mod c p ρ S tm w) (hg : ∀ t, S'.get t = S.get t) (ho : ∀ i, S'.obj i = S.obj i) : Mod c p ρ S' tm w :=
  ⟨h.size, h.base, h.baseR, h.lo, h.dom, fun d => by rw [hg]; exact h.tmps d, fun i o e => h.objs i o ((ho i).symm.trans e), fun i j oi oj x y hne hi hj => h.apart i j oi oj x y hne ((ho i).symm.trans hi) ((ho j).symm.trans hj),
    fun i o x g e => h.old i o x g ((ho i).symm.trans e), h.ro, fun i o x g e => h.rsep i o x g ((ho i).symm.trans e), h.rnew, h.rdf, h.dfr, h.frame⟩
/-! an own row that never turns again -/
def frz (S : AS) : List Nat → List (Nat × Option AO)
  | [] => []
  | i :: l => match S.obj i with
    | some (.row _ s rows) => (i, some (.fro s rows)) :: frz S l
    | _ => frz S l
theorem frz_find {S : AS} {i : Nat} : ∀ {l : List Nat} {q : Option AO}, find (frz S l) i = some q → i ∈ l ∧ ∃ e s rows, S.obj i = some (.row e s rows) ∧ q = some (.fro s rows)
  | [], _, h => by cases h
  | j :: l, q, h => by
    unfold frz at h
    split at h
    · next e s rows ho =>
      simp only [find] at h
      split at h
      · next e1 => subst e1; injection h with h; exact ⟨List.mem_cons_self, e, s, rows, ho, h.symm⟩
      · obtain ⟨h1, h2⟩ := frz_find h; exact ⟨List.mem_cons_of_mem _ h1, h2⟩
    · obtain ⟨h1, h2⟩ := frz_find h; exact ⟨List.mem_cons_of_mem _ h1, h2⟩
theorem OwnAt.frozen {w : World} {R : Frz} {e : TypeId} {s : Nat} {x : Value} {vals : List (List Value)} {rows : List (List PV)} (h : OwnAt w e s x vals) (hp : PRepLL R rows vals) (hs : ∀ r ∈ vals, r.length = s) (h1 : ∀ r ∈ vals, ∀ u ∈ r, u.oneCell' = true) (hR : ∀ g, oblk x (.row e s rows) = some g → ∀ o, w.heap[g]? = some o → R g = some o) : PRep R (.sl s rows) x := by
  obtain ⟨A, c, rfl, hc⟩ := head_of_own h
  have hl := hp.length
  simp only [PRep]
  refine ⟨A, c, by rw [hl], by omega, PRows.mk_ fun k r hk => ?_⟩
  obtain ⟨vs, k1, k2⟩ := hp.get hk
  obtain ⟨g, cap, e1, k3⟩ := h.elem hs k1
  injection e1 with e1 _ e3
  subst e1; subst e3
  have hvs := hs vs (List.mem_of_getElem? k1)
  refine ⟨by rw [← k2.length, hvs], g, 0, rfl, PCells.mk_ fun i p hi => ?_⟩
  obtain ⟨u, hu1, hu2⟩ := k2.get hi
  have hil : i < s := by rw [← hvs]; exact (List.getElem?_eq_some_iff.1 hu1).1
  refine ⟨u, ?_, h1 vs (List.mem_of_getElem? k1) u (List.mem_of_getElem? hu1), hu2⟩
  have h4 := k3 i hil
  rw [hu1] at h4
  have hpos : 0 < vals.length := Nat.lt_of_le_of_lt (Nat.zero_le _) (List.getElem?_eq_some_iff.1 k1).1
  have hg : oblk (.slice (some ⟨g, 0, none⟩) vals.length c) (.row e s rows) = some g := by
    obtain ⟨q, rfl⟩ : ∃ q, c = q + 1 := ⟨c - 1, by omega⟩
    rfl
  unfold World.cell? at h4
  unfold rcell
  simp only [Nat.zero_add] at h4 ⊢
  cases ho : w.heap[g]? with
  | none => rw [ho] at h4; cases h4
  | some o =>
    rw [hR g hg o ho]
    rw [ho] at h4
    cases o <;> first | exact h4 | cases h4
theorem Mod.frz1 {c : Ctx} {p : Nat → Prop} {ρ : Env} {S : AS} {tm : Array Value} {w : World} (h : Mod c p ρ S tm w) {id : Nat} {e : TypeId} {s : Nat} {rows : List (List PV)} (ho : S.obj id = some (.row e s rows)) :
    ∃ R', SubR ρ.R R' ∧ Mod c p ⟨ρ.f, R'⟩ (S.upd [(id, some (.fro s rows))]) tm w := by
  obtain ⟨x, hx, vals, h1, h2, h3, h4⟩ := h.objs id _ ho
  have hsub : SubR ρ.R (fun g => if oblk x (.row e s rows) = some g then w.heap[g]? else ρ.R g) := fun g o hg => by
    show (if _ then _ else _) = _
    split
    · next e1 => rw [h.rsep id _ x g ho hx e1] at hg; cases hg
    · exact hg
  have hT : ∀ g, oblk x (.row e s rows) = some g → Touch ρ S [(id, some (.fro s rows))] g := fun g hg => ⟨id, _, x, some (.fro s rows), by simp [find], ho, hx, hg⟩
  refine ⟨_, hsub, h.step [(id, some (.fro s rows))] ⟨fun _ _ h => h, hsub⟩ (fun _ _ => rfl) (fun _ h => h) h.dom rfl rfl rfl (Nat.le_refl _) (fun _ _ _ => rfl) (fun g o hg => ?_) (fun i o hf => ?_) (fun i j oi oj x' y' hne f1 f2 => ?_)⟩
  · have hg : (if oblk x (.row e s rows) = some g then w.heap[g]? else ρ.R g) = some o := hg
    split at hg
    · next e1 =>
      obtain ⟨ob, k1, k2⟩ := (h.touch_lt (hT g e1)).1
      rw [k1] at hg; cases hg
      exact .inr ⟨.inr (hT g e1), k1, k2⟩
    · exact .inl hg
  · simp only [find] at hf
    split at hf
    · next e1 =>
      subst e1
      injection hf with hf
      injection hf with hf
      subst hf
      exact ⟨x, hx, h4.frozen (h1.sub hsub) h2 h3 (fun g hg o hgo => by show (if _ then _ else _) = _; rw [if_pos hg]; exact hgo), fun g hg => by cases hg⟩
    · cases hf
  · simp only [find] at f1 f2
    split at f1
    · split at f2
      · omega
      · cases f2
    · cases f1
theorem frz_obj {S : AS} {l : List Nat} {i : Nat} {e : TypeId} {s : Nat} {rows : List (List PV)} (h : S.obj i = some (.row e s rows)) : (S.upd (frz S l)).obj i = some (.row e s rows) ∨ (S.upd (frz S l)).obj i = some (.fro s rows) := by
  rw [upd_obj]
  cases hf : find (frz S l) i with
  | none => exact .inl h
  | some q =>
    obtain ⟨-, e', s', rows', h1, h2⟩ := frz_find hf
    rw [h] at h1
    injection h1 with h1
    injection h1 with _ h3 h4
    subst h3; subst h4
    exact .inr h2
theorem Mod.frz {c : Ctx} {p : Nat → Prop} {ρ : Env} {S : AS} {tm : Array Value} {w : World} (h : Mod c p ρ S tm w) : ∀ (l : List Nat), ∃ R', SubR ρ.R R' ∧ Mod c p ⟨ρ.f, R'⟩ (S.upd (Go.Proofs.Ytiidfcadmdahmaa.frz S l)) tm w
  | [] => ⟨ρ.R, SubR.refl _, h⟩
  | i :: l => by
    obtain ⟨R1, h1, h2⟩ := Mod.frz h l
    unfold Go.Proofs.Ytiidfcadmdahmaa.frz
    split
    · next e s rows ho =>
      rcases frz_obj (l := l) ho with h3 | h3
      · obtain ⟨R2, h4, h5⟩ := h2.frz1 h3
        exact ⟨R2, h1.trans h4, h5⟩
      · refine ⟨R1, h1, h2.same (fun _ => rfl) fun j => ?_⟩
        by_cases hj : j = i
        · subst hj
          rw [h3, upd_obj]
          simp [find]
        · rw [upd_obj, upd_obj]
          simp only [find]
          rw [if_neg (Ne.symm hj)]
    · exact ⟨R1, h1, h2⟩
theorem frz_congr {S S' : AS} : ∀ {l : List Nat}, (∀ i ∈ l, S'.obj i = S.obj i) → frz S' l = frz S l
  | [], _ => rfl
  | i :: l, h => by
    unfold frz
    rw [h i List.mem_cons_self, frz_congr (fun j hj => h j (List.mem_cons_of_mem _ hj))]
def frzEff (S : AS) (l : List Nat) (E : Eff) : Eff := ⟨E.val, E.objs ++ frz S l, E.reads ++ l⟩
theorem does_frz {P : Program} {o : Oper} {S : AS} {n : Nat} {E : Eff} (l : List Nat) (h : DoesAt P o (S.upd (frz S l)) n E) : DoesAt P o S n (frzEff S l E) := by
  intro rd m0 c p ρ a w hm hn K Q hK
  obtain ⟨R', h1, h2⟩ := hm.frz l
  refine h rd m0 c p ⟨ρ.f, R'⟩ a w h2 hn K Q fun v ρ' w' h3 h4 => hK v ρ' w' ?_ h4
  have e1 : (S.upd (frz S l)).upd E.objs = S.upd (frzEff S l E).objs := by simp [AS.upd, frzEff]
  rw [← e1]
  exact h3

/-! slices within structs that hold nothing yet -/
def rowsT (P : Program) : Nat → TypeId → List (Option (Nat × Nat))
  | 0, _ => []
  | k + 1, t => match tyI P t with
    | some i => if i.kind = 1 then [some (i.elem, match tyI P i.elem with | some ie => ie.size | none => 0)]
      else if i.kind = 3 then (List.range i.places.length).flatMap fun f => match fieldT P t f with | some u => rowsT P k u | none => []
      else List.replicate i.size none
    | none => []
def rowsTy (P : Program) (t : TypeId) : List (Option (Nat × Nat)) := if (rowsT P 8 t).any Option.isSome = true then rowsT P 8 t else []
def isNilA : AV → Bool
  | .raw (.slice none 0 0) => true
  | _ => false
theorem isNilA_eq {a : AV} (h : isNilA a = true) : a = .raw (.slice none 0 0) := by
  unfold isNilA at h
  split at h
  · rfl
  · cases h
def nilL (n : Nat) : Nat → List AV → List (Option (Nat × Nat)) → List AV
  | _, [], _ => []
  | _, a :: l, [] => a :: l
  | j, a :: l, some _ :: ts => if isNilA a = true then .hdr (8 * n + j) :: nilL n (j + 1) l ts else a :: nilL n j l ts
  | j, a :: l, none :: ts => a :: nilL n j l ts
def nilT : List AV → List (Option (Nat × Nat)) → List (Nat × Nat)
  | [], _ => []
  | _ :: _, [] => []
  | a :: l, some q :: ts => if isNilA a = true then q :: nilT l ts else nilT l ts
  | _ :: l, none :: ts => nilT l ts
def nilO (n : Nat) : Nat → List (Nat × Nat) → List (Nat × Option AO)
  | _, [] => []
  | j, (e, s) :: l => nilO n (j + 1) l ++ [(8 * n + j, some (.row e s []))]
theorem Mod.nils {c : Ctx} {p : Nat → Prop} {tm : Array Value} {w : World} (n : Nat) (hn0 : n ≠ 0) (hp : ∀ i, i / 8 = n → p i) : ∀ (l : List (Nat × Nat)) (j : Nat) (ρ : Env) (S : AS), Mod c p ρ S tm w → (∀ q, j ≤ q → q < 8 → ρ.f (8 * n + q) = none) → j + l.length ≤ 8 →
    ∃ ρ', ExtE ρ ρ' ∧ (∀ q, j ≤ q → q < j + l.length → ρ'.f (8 * n + q) = some (.slice none 0 0)) ∧ (∀ k, k < 8 * n + j → ρ'.f k = ρ.f k) ∧ Mod c p ρ' (S.upd (nilO n j l)) tm w
  | [], j, ρ, S, hm, _, _ => ⟨ρ, ExtE.refl _, fun q h1 h2 => by simp at h2; omega, fun _ _ => rfl, hm⟩
  | (e, s) :: l, j, ρ, S, hm, hf, hl => by
    simp only [List.length_cons] at hl
    have hk : ρ.f (8 * n + j) = none := hf j (Nat.le_refl _) (by omega)
    have h1 := hm.add (p' := p) (w' := w) hk (by omega) (fun i h => h) (hp _ (by omega)) (x := .slice none 0 0) (o := .row e s []) rfl (.inl rfl) (fun ρ' he => ⟨[], by simp [PRepLL], by simp, by simp, .inl ⟨rfl, none, rfl⟩⟩) (fun g hg => by cases hg)
    have hw : ∀ k, k ≠ 8 * n + j → (ρ.with (8 * n + j) (.slice none 0 0)).f k = ρ.f k := fun k h => by
      show (if _ then _ else _) = _
      rw [if_neg h]
    obtain ⟨ρ', k1, k2, k3, k4⟩ := Mod.nils n hn0 hp l (j + 1) _ _ h1 (fun q a b => by rw [hw _ (by omega)]; exact hf q (by omega) b) (by omega)
    refine ⟨ρ', (ext_with hk).trans k1, fun q a b => ?_, fun k h => ?_, ?_⟩
    · simp only [List.length_cons] at b
      by_cases hq : q = j
      · subst hq
        rw [k3 _ (by omega)]
        exact with_self ..
      · exact k2 q (by omega) (by omega)
    · rw [k3 k (by omega), hw k (by omega)]
    · have e1 : (S.upd [(8 * n + j, some (.row e s []))]).upd (nilO n (j + 1) l) = S.upd (nilO n j ((e, s) :: l)) := by simp [AS.upd, nilO]
      rw [← e1]
      exact k4
theorem nilL_rep (n : Nat) {ρ ρ' : Env} (he : ExtE ρ ρ') : ∀ (j : Nat) (l : List AV) (ts : List (Option (Nat × Nat))) (cs : List Value), RepL ρ l cs → (∀ q, j ≤ q → q < j + (nilT l ts).length → ρ'.f (8 * n + q) = some (.slice none 0 0)) → RepL ρ' (nilL n j l ts) cs
  | _, [], _, _, h, _ => by simpa [nilL] using RepL.ext he _ _ h
  | _, a :: l, [], _, h, _ => by simpa [nilL] using RepL.ext he _ _ h
  | _, a :: l, _ :: _, [], h, _ => by simp [RepL] at h
  | j, a :: l, some q :: ts, v :: cs, h, hq => by
    simp only [RepL] at h
    simp only [nilL, nilT] at hq ⊢
    split
    · next hn =>
      rw [if_pos hn] at hq
      obtain rfl := isNilA_eq hn
      have hv : v = .slice none 0 0 := by simpa [Rep] using h.1
      simp only [RepL]
      refine ⟨by simp only [Rep]; rw [hv]; exact hq j (Nat.le_refl _) (by simp), nilL_rep n he (j + 1) l ts cs h.2 fun q a b => hq q (by omega) (by simp; omega)⟩
    · next hn =>
      rw [if_neg hn] at hq
      simp only [RepL]
      exact ⟨Rep.ext he _ _ h.1, nilL_rep n he j l ts cs h.2 hq⟩
  | j, a :: l, none :: ts, v :: cs, h, hq => by
    simp only [RepL] at h
    simp only [nilL, nilT] at hq ⊢
    simp only [RepL]
    exact ⟨Rep.ext he _ _ h.1, nilL_rep n he j l ts cs h.2 hq⟩
theorem does_buildN {P : Program} {o : Oper} {S : AS} {n : Nat} {t : TypeId} {i : TI} {parts : List (Nat × Operand)} {l : List AV} (ts : List (Option (Nat × Nat))) (ho : o.op = .build t parts.toArray) (hi : tyI P t = some i) (hk : i.kind = 2 ∨ i.kind = 3) (hpos : ∀ q ∈ i.places, 0 < q.2) (h1 : ∀ u ∈ i.zero, u.oneCell' = true)
    (hf : fillA i.place (i.zero.map .raw) (parts.map fun q => (q.1, S.val q.2)) = some l) (h8 : (nilT l ts).length < 8) : DoesAt P o S n ⟨.agg (nilL n 0 l ts), nilO n 0 (nilT l ts), []⟩ := by
  intro rd m0 c p ρ a w hm hn K Q hK
  obtain ⟨cs', h2, h3, h4⟩ := fill_sound hm i.place parts _ l i.zero (RepL.raws _) h1 hf
  have hr : (execOp a.eval o).run P w = .ok (.value (.agg cs'.toArray)) w := by
    unfold execOp
    rw [ho]
    refine run_v ?_
    have := tyI_built hi hk hpos _ _ h2
    exact run_build (P := P) w t (parts.toArray.map fun (q : Nat × Operand) => (q.1, a.eval q.2)) cs'.toArray (by simpa using this)
  obtain ⟨ρ', he, k1, -, hm'⟩ := Mod.nils n (hm.n0 hn) (fun i h => .inr h) (nilT l ts) 0 ρ S (hm.mono (p' := fun i => p i ∨ i / 8 = n) fun i h => .inl h) (fun q _ hq => hm.fresh hn (by omega)) (by omega)
  refine wpIn_value hr ?_
  exact hK _ ρ' _ hm' (by simp only [Rep]; exact ⟨cs', rfl, nilL_rep n he 0 l ts cs' h3 k1⟩)
theorem does_allocN {P : Program} {o : Oper} {S : AS} {n : Nat} {t : TypeId} {i : TI} (ts : List (Option (Nat × Nat))) (ho : o.op = .alloc t) (hi : tyI P t = some i) (h1 : ∀ u ∈ i.zero, u.oneCell' = true) (h8 : (nilT (i.zero.map .raw) ts).length < 7) :
    DoesAt P o S n ⟨.hdr (8 * n), (8 * n, some (.cells t (nilL n 1 (i.zero.map .raw) ts))) :: nilO n 1 (nilT (i.zero.map .raw) ts), []⟩ := by
  intro rd m0 c p ρ a w hm hn K Q hK
  obtain ⟨x, d, z, e1, e2, e3, e4, e5, e6, e7⟩ := tyI_spec hi
  have hz : z.cells = i.zero.toArray := by rw [← e7]
  have hn0 := hm.n0 hn
  obtain ⟨ρ1, he, k1, k2, hm1⟩ := Mod.nils n hn0 (fun i h => .inr h) (nilT (i.zero.map .raw) ts) 1 ρ S (hm.mono (p' := fun i => p i ∨ i / 8 = n) fun i h => .inl h) (fun q _ hq => hm.fresh hn (by omega)) (by omega)
  have hfr : ρ1.f (8 * n) = none := by rw [k2 _ (by omega)]; exact hm.fresh hn (by omega)
  have h2 := hm1.add (p' := fun i => p i ∨ i / 8 = n) hfr (by omega) (fun i h => h) (.inr (by omega)) (x := .pointer (some ⟨w.heap.size, 0, none⟩)) (o := .cells t (nilL n 1 (i.zero.map .raw) ts)) rfl (.inr ⟨.cells i.zero.toArray t, rfl⟩)
    (obj_cells (nilL_rep n he 1 _ ts _ (RepL.raws _) k1) h1) (fun g hg => by simp [oblk, blkOf] at hg; omega)
  have hr : (execOp a.eval o).run P w = .ok (.value (.pointer (some ⟨w.heap.size, 0, none⟩))) (w.alloc (.cells i.zero.toArray t)) := by
    simp [execOp, ho, Instr.alloc, newVar, newRow, zeroValue, typeInfo, e1, e3, hz]
  refine wpIn_value hr ?_
  exact hK _ _ _ h2 (by simp only [Rep]; exact with_self ..)

/-! strings, and the smaller numbers -/
/-- a byte of a text. -/
def byteAt (s : ByteArray) (q : Nat) : Int := ((s.data.toList.getD q 0).toNat : Int)
theorem does_strIdx {P : Program} {o : Oper} {S : AS} {n : Nat} {t : TypeId} {x y : Operand} {s : ByteArray} {kd : IntKind} {q : Int} (ho : o.op = .index t x y) (ht : P.underlying t = some .string) (hx : S.val x = .raw (.string s)) (hy : S.val y = .raw (.int kd q)) (h0 : 0 ≤ q) (h1 : q < s.size) : DoesAt P o S n ⟨.raw (.int .u8 (byteAt s q.toNat)), [], []⟩ :=
  does_pure rfl fun c p ρ a w hm => ⟨_, by
    unfold execOp; rw [ho]
    refine run_v (v := .int .u8 (byteAt s q.toNat)) ?_
    have hq : q.toNat < s.size := by omega
    have e1 : s[q.toNat]? = some s[q.toNat] := getElem?_pos s q.toNat hq
    have e2 : byteAt s q.toNat = (s[q.toNat].toNat : Int) := by
      unfold byteAt
      have : s.data.toList.getD q.toNat 0 = s[q.toNat] := by
        rw [List.getD_eq_getElem?_getD, List.getElem?_eq_getElem (by simpa using hq)]
        rfl
      rw [this]
    simp [Instr.index, asIntOf, hm.raw hx, hm.raw hy, run_underlying ht, h0, e1, e2], by simp [Rep]⟩
theorem does_strLen {P : Program} {o : Oper} {S : AS} {n : Nat} {x : Operand} {t : TypeId} {s : ByteArray} (ho : o.op = .call { callee := .builtin .len, args := #[x], argTypes := #[t] }) (ht : P.underlying t = some .string) (hx : S.val x = .raw (.string s)) : DoesAt P o S n ⟨.raw (.int .i64 s.size), [], []⟩ :=
  does_pure rfl fun c p ρ a w hm => ⟨.int .i64 s.size, by
    unfold execOp
    rw [ho]
    simp only [resolve, Sem.run_bind, Sem.run_pure, Result.andThen_ok, invoke, builtin]
    have := run_len_string (P := P) (w := w) t o.type s ht
    simp [hm.raw hx, this, goInt], by simp [Rep]⟩
theorem does_strCat {P : Program} {o : Oper} {S : AS} {n : Nat} {x y : Operand} {t u : TypeId} {a b : ByteArray} (ho : o.op = .binOp .add t x y u) (hx : S.val x = .raw (.string a)) (hy : S.val y = .raw (.string b)) (hl : a.size + b.size ≤ 9223372036854775807) : DoesAt P o S n ⟨.raw (.string (a ++ b)), [], []⟩ :=
  does_pure rfl fun c p ρ ac w hm => ⟨_, by
    unfold execOp; rw [ho]
    refine run_v (v := .string (a ++ b)) ?_
    have h1 : ¬ (((a.size + b.size : Nat) : Int) > IntKind.i64.max) := by
      have : IntKind.i64.max = 9223372036854775807 := rfl
      omega
    simp only [hm.raw hx, hm.raw hy, eqGuard, binOp, Op.stringOp]
    rw [if_neg h1]
    simp, by simp [Rep]⟩
/-- how numbers are compared. -/
def cmpOp : BinOp → Int → Int → Option Value
  | .eql, a, b => some (.bool (decide (a = b)))
  | .neq, a, b => some (.bool (!decide (a = b)))
  | .lss, a, b => some (.bool (decide (a < b)))
  | .leq, a, b => some (.bool (decide (a ≤ b)))
  | .gtr, a, b => some (.bool (decide (b < a)))
  | .geq, a, b => some (.bool (decide (b ≤ a)))
  | _, _, _ => none
theorem does_cmp {P : Program} {o : Oper} {S : AS} {n : Nat} {op : BinOp} {x y : Operand} {t u : TypeId} {kd : IntKind} {k l : Int} {v : Value} (ho : o.op = .binOp op t x y u) (hx : S.val x = .raw (.int kd k)) (hy : S.val y = .raw (.int kd l)) (hv : cmpOp op k l = some v) : DoesAt P o S n ⟨.raw v, [], []⟩ :=
  does_pure rfl fun c p ρ a w hm => ⟨v, by
    unfold execOp; rw [ho]
    refine run_v ?_
    have e1 := hm.raw hx
    have e2 := hm.raw hy
    cases op <;> simp only [cmpOp, Option.some.injEq, reduceCtorEq] at hv <;> subst hv
    · simp [e1, e2, eqGuard, binOp, Op.intCmp]; rfl
    · simp [e1, e2, eqGuard, binOp, Op.intCmp]; rfl
    · simp [e1, e2, eqGuard, binOp, Op.intCmp]
    · simp [e1, e2, eqGuard, binOp, Op.intCmp]
    · simp [e1, e2, eqGuard, binOp, Op.intCmp]
    · simp [e1, e2, eqGuard, binOp, Op.intCmp], by simp [Rep]⟩
theorem does_sub8 {P : Program} {o : Oper} {S : AS} {n : Nat} {x y : Operand} {t u : TypeId} {k l : Int} (ho : o.op = .binOp .sub t x y u) (hx : S.val x = .raw (.int .u8 k)) (hy : S.val y = .raw (.int .u8 l)) (h : 0 ≤ k - l ∧ k - l ≤ 255) : DoesAt P o S n ⟨.raw (.int .u8 (k - l)), [], []⟩ :=
  does_pure rfl fun c p ρ a w hm => ⟨.int .u8 (k - l), by
    unfold execOp; rw [ho]
    refine run_v ?_
    have e3 : IntKind.u8.wrap (k - l) = k - l := by
      rw [IntKind.wrap_u8]
      omega
    simp [hm.raw hx, hm.raw hy, eqGuard, binOp, Op.intArith, e3], by simp [Rep]⟩
theorem does_byteStr {P : Program} {o : Oper} {S : AS} {n : Nat} {x : Operand} {t u : TypeId} {i : TI} {v : AV} {c : Int} (ho : o.op = .convert t u x) (hi : tyI P t = some i) (hk : i.kind = 1) (he : P.underlying i.elem = some (.int .u8)) (hu : P.underlying u = some .string) (hx : S.val x = v) (hr : S.rowsOf v = some (1, [[.raw (.int .u8 c)]])) : DoesAt P o S n ⟨.raw (.string (ByteArray.empty.push (UInt8.ofNat c.toNat))), [], v.ids⟩ :=
  does_pure rfl fun cx p ρ a w hm => ⟨_, by
    obtain ⟨A, cp, e2, -, hel⟩ := hm.slice hr (u := a.eval x) (by rw [← hx]; exact hm.val x)
    obtain ⟨b, off, vs, rfl, he1⟩ := hel 0 _ rfl
    have h1 := he1.cell 0 (by omega)
    obtain ⟨v0, h2, h3⟩ := he1.rep.get (i := 0) (p := .raw (.int .u8 c)) rfl
    simp only [PRep] at h3
    subst h3
    rw [h2] at h1
    have hl : (loadCells ⟨b, off, none⟩ 1).run P w = .ok #[.int .u8 c] w := by
      have := run_loadCells_list (P := P) (w := w) ⟨b, off, none⟩ [.int .u8 c] (fun j v hj => by
        match j with
        | 0 => simp at hj; subst hj; simpa [Addr.add] using h1
        | j + 1 => simp at hj)
      simpa using this
    unfold execOp; rw [ho]
    refine run_v (v := .string (ByteArray.empty.push (UInt8.ofNat c.toNat))) ?_
    rw [e2, run_convert_bytes_string w t u i.elem _ _ _ (tyI_slice hi hk) he hu]
    have := run_bytesToString (P := P) w ⟨b, off, none⟩ 1 cp [c] (by simpa using hl)
    simpa using this, by simp [Rep]⟩
end Go.Proofs.Ytiidfcadmdahmaa
