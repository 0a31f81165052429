/- ENGINE 12: contracts that were proved otherwise; small words; over any program. -/
import Derived.Test.YtmgckellncfjpaaE10
set_option linter.unusedSimpArgs false
set_option linter.unusedVariables false
namespace Go.Proofs.Ytmgckellncfjpaa
open Go.RowKit

def cInt (x : Int) : List Value := [.int .i64 x]
attribute [go_sem] cInt
theorem rows_ints {w : World} {A : Option Addr} {xs : List Int} (h : RowAt w A 1 id (xs.map cInt)) : IntsAt w A xs := fun k hk => by
  obtain ⟨b, off, e, hb, hc⟩ := h k (by simpa using hk)
  refine ⟨b, off, e, hb, ?_⟩
  have := hc 0 (by omega)
  simpa [cInt] using this
theorem ints_rows {w : World} {A : Option Addr} {xs : List Int} (h : IntsAt w A xs) : RowAt w A 1 id (xs.map cInt) := fun k hk => by
  obtain ⟨b, off, e, hb, hc⟩ := h k (by simpa using hk)
  refine ⟨b, off, e, hb, fun i hi => ?_⟩
  obtain rfl : i = 0 := by omega
  simpa [cInt] using hc

/-- nothing is turned: a contract of the plain kind. -/
theorem mod_plain {ρ : Env} {w w' : World} {s : List (Nat × AO)} {val : AV} {u : Value} (hA : ArgsOk ρ w s) (hv : Rep ρ val u) (hb : Below w.heap.size w w') :
    Mod ⟨1, liveB ρ s, readB ρ s, w, ρ⟩ (fun i => i < 16) ρ ⟨[(0, val)], somes [], none⟩ #[u] w' := by
  refine ⟨rfl, fun _ _ => rfl, fun i hi => by omega, fun i x e => ⟨by have := (hA.dom i x e).1; omega, (hA.dom i x e).2⟩, fun d => ?_, fun i o e => by simp [somes, AS.obj, find] at e, fun i j oi oj x y _ e => by simp [somes, AS.obj, find] at e,
    fun i o x g e => by simp [somes, AS.obj, find] at e, fun i o x g e => by simp [somes, AS.obj, find] at e, ⟨hb.os, hb.tape, hb.output, hb.size, fun g hg _ => hb.block g hg⟩⟩
  unfold AS.get
  simp only [find]
  split
  · next e => subst e; simpa using hv
  · simp [Rep]
/-- a contract of a function that is handed one slice, and numbers. -/
theorem fn_ext1 {P : Program} {f : FuncId} {s : Nat} {rows : List (List Value)} {rest : List Value} {val : AV} {u : Value} (hfn : fnB P f = true) (hv : ∀ ρ, Rep ρ val u)
    (h : ∀ A c w, RowAt w A s id rows → rows.length ≤ c → Calls P f (.slice A rows.length c :: rest).toArray w (RetB u w)) : FnOk P f (.hdr 0 :: rest.map .raw) [(0, .ext s rows)] val [] := by
  refine ⟨hfn, fun ρ w vs hA hr => ?_⟩
  cases vs with
  | nil => simp [RepL] at hr
  | cons x vs =>
    simp only [RepL, Rep] at hr
    obtain ⟨h0, hr⟩ := hr
    have hraw : ∀ (l vs : List Value), RepL ρ (l.map .raw) vs → vs = l := by
      intro l
      induction l with
      | nil => intro vs h; cases vs <;> simp [RepL] at h; rfl
      | cons a l ih => intro vs h; cases vs with
        | nil => simp [RepL] at h
        | cons v vs => simp only [List.map_cons, RepL, Rep] at h; rw [h.1, ih vs h.2]
    obtain rfl := hraw rest vs hr
    obtain ⟨x', e1, A, c, e2, e3, -, -, e4⟩ := hA.objs 0 (.ext s rows) (by simp [find])
    rw [h0] at e1
    injection e1 with e1
    subst e1; subst e2
    refine (h A c w e3 e4).mono ?_
    rintro e w' ⟨rfl, hb⟩
    exact ⟨u, ρ, rfl, mod_plain hA (hv ρ) hb⟩
/-- the plain kind, out of a contract of this kind: one slice, and numbers. -/
theorem calls_ext1 {P : Program} {f : FuncId} {s : Nat} {rows : List (List Value)} {rest : List Value} {v : Value} (h : FnOk P f (.hdr 0 :: rest.map .raw) [(0, .ext s rows)] (.raw v) []) {A : Option Addr} {c : Nat} {w : World} (hr : RowAt w A s id rows)
    (hl : ∀ r ∈ rows, r.length = s) (h1 : ∀ r ∈ rows, ∀ u ∈ r, u.oneCell' = true) (hcap : rows.length ≤ c) : Calls P f (.slice A rows.length c :: rest).toArray w (RetB v w) := by
  have hA : ArgsOk (fun i => if i = 0 then some (.slice A rows.length c) else none) w [(0, .ext s rows)] := by
    refine ⟨fun i x e => ?_, fun i o e => ?_, fun i j oi oj x y hne hi hj hl' => ?_⟩
    · split at e
      · next h => injection e with e; subst e; exact ⟨by omega, rfl⟩
      · cases e
    · simp only [find] at e
      split at e
      · next h =>
        injection e with e
        subst e; subst h
        exact ⟨_, by simp, A, c, rfl, hr, hl, h1, hcap⟩
      · cases e
    · simp only [find] at hi
      split at hi
      · injection hi with hi; subst hi; cases hl'
      · cases hi
  refine (h.2 _ w (.slice A rows.length c :: rest) hA (by simp only [RepL, Rep]; exact ⟨by simp, RepL.raws rest⟩)).mono ?_
  rintro e w' ⟨u, ρ', rfl, hm⟩
  have hv := hm.tmps 0
  simp only [AS.get, find, if_true, Option.getD_some, Rep] at hv
  refine ⟨by rw [show u = v by simpa using hv], hm.frame.os, hm.frame.tape, hm.frame.output, hm.frame.size, fun g hg => hm.frame.block g hg ?_⟩
  rintro ⟨i, o, x, e1, e2, -⟩
  simp only [find] at e1
  split at e1
  · injection e1 with e1; subst e1; cases e2
  · cases e1
/-- the plain kind, of numbers alone. -/
theorem calls_raw {P : Program} {f : FuncId} {rest : List Value} {v : Value} (h : FnOk P f (rest.map .raw) [] (.raw v) []) {w : World} : Calls P f rest.toArray w (RetB v w) := by
  have hA : ArgsOk (fun _ => none) w [] := ⟨(fun i x e => by cases e), (fun i o e => by simp [find] at e), (fun i j oi oj x y hne hi => by simp [find] at hi)⟩
  refine (h.2 _ w rest hA (RepL.raws rest)).mono ?_
  rintro e w' ⟨u, ρ', rfl, hm⟩
  have hv := hm.tmps 0
  simp only [AS.get, find, if_true, Option.getD_some, Rep] at hv
  refine ⟨by rw [show u = v by simpa using hv], hm.frame.os, hm.frame.tape, hm.frame.output, hm.frame.size, fun g hg => hm.frame.block g hg ?_⟩
  rintro ⟨i, o, x, e1, -⟩
  simp [find] at e1

/-- a call, its contract at hand. -/
theorem acall {P : Program} {dst : Option Nat} {n : Nat} {C : AS → Prop} {S : AS} {actual args : List AV} {s : List (Nat × AO)} {val : AV} {objs : List (Nat × AO)} {f : FuncId} (ι : List Nat) (hf : FnOk P f args s val objs) (h : CallFit ι n args actual s objs S) (hC : C (fin dst (callEff ι n s val objs) S)) : ACall P dst n C S actual (.clo (.func f) []) :=
  ⟨_, hf.1, by simpa using call_ok hf h, hC⟩
theorem acall_clo {P : Program} {dst : Option Nat} {n : Nat} {C : AS → Prop} {S : AS} {actual caps args : List AV} {s : List (Nat × AO)} {val : AV} {objs : List (Nat × AO)} {f : FuncId} (ι : List Nat) (hf : FnOk P f args s val objs) (h : CallFit ι n args (actual ++ caps) s objs S) (hC : C (fin dst (callEff ι n s val objs) S)) : ACall P dst n C S actual (.clo (.func f) caps) :=
  ⟨_, hf.1, call_ok hf h, hC⟩

/-! what a call's fit comes to -/
def fitS (lv : Bool) (ι : List Nat) (n : Nat) (S : AS) : List (Nat × AO) → Prop
  | [] => True
  | (i, o) :: s => (i < 8 ∧ o.bd 1 = true ∧ readsAs lv (S.obj (callMap ι n i)) (o.ren (callMap ι n))) ∧ fitS lv ι n S s
def fitP (ι : List Nat) (n i : Nat) : List (Nat × AO) → Prop
  | [] => True
  | (j, _) :: s => (i ≠ j ∧ callMap ι n i ≠ callMap ι n j) ∧ fitP ι n i s
def fitPs (ι : List Nat) (n : Nat) : List (Nat × AO) → Prop
  | [] => True
  | (i, _) :: s => fitP ι n i s ∧ fitPs ι n s
def fitO (s : List (Nat × AO)) : List (Nat × AO) → Prop
  | [] => True
  | (i, _) :: l => (i < 16 ∧ (i < 8 → (find s i).any AO.live = true)) ∧ fitO s l
def fitN (i : Nat) : List (Nat × AO) → Prop
  | [] => True
  | (j, _) :: l => i ≠ j ∧ fitN i l
def fitNs : List (Nat × AO) → Prop
  | [] => True
  | (i, _) :: l => fitN i l ∧ fitNs l
theorem fit_of {ι : List Nat} {n : Nat} {args actual : List AV} {s objs : List (Nat × AO)} {S : AS} (h0 : renL (callMap ι n) args = actual) (h1 : bdL 1 args = true) (h2 : fitS (objs.all fun r => r.2.live) ι n S s) (h3 : fitPs ι n s) (h4 : fitO s objs) (h5 : fitNs objs) : CallFit ι n args actual s objs S := by
  have e2 : ∀ s, fitS (objs.all fun r => r.2.live) ι n S s → ∀ q ∈ s, q.1 < 8 ∧ q.2.bd 1 = true ∧ readsAs (objs.all fun r => r.2.live) (S.obj (callMap ι n q.1)) (q.2.ren (callMap ι n)) := by
    intro s
    induction s with
    | nil => intro _ q hq; cases hq
    | cons a s ih => obtain ⟨i, o⟩ := a; intro h q hq; rcases List.mem_cons.1 hq with rfl | hq
                     · exact h.1
                     · exact ih h.2 q hq
  have e3 : ∀ s i, fitP ι n i s → ∀ q ∈ s, i ≠ q.1 ∧ callMap ι n i ≠ callMap ι n q.1 := by
    intro s
    induction s with
    | nil => intro i _ q hq; cases hq
    | cons a s ih => obtain ⟨j, o⟩ := a; intro i h q hq; rcases List.mem_cons.1 hq with rfl | hq
                     · exact h.1
                     · exact ih i h.2 q hq
  have e4 : ∀ s, fitPs ι n s → s.Pairwise (fun q r => q.1 ≠ r.1 ∧ callMap ι n q.1 ≠ callMap ι n r.1) := by
    intro s
    induction s with
    | nil => intro _; exact List.Pairwise.nil
    | cons a s ih => obtain ⟨j, o⟩ := a; intro h; exact List.Pairwise.cons (e3 s j h.1) (ih h.2)
  have e5 : ∀ l, fitO s l → ∀ q ∈ l, q.1 < 16 ∧ (q.1 < 8 → ∃ r ∈ s, r.1 = q.1 ∧ r.2.live = true) := by
    intro l
    induction l with
    | nil => intro _ q hq; cases hq
    | cons a l ih =>
      obtain ⟨i, o⟩ := a
      intro h q hq
      rcases List.mem_cons.1 hq with rfl | hq
      · refine ⟨h.1.1, fun hi => ?_⟩
        have := h.1.2 hi
        cases hf : find s i with
        | none => rw [hf] at this; simp at this
        | some o' => rw [hf] at this; exact ⟨(i, o'), find_mem hf, rfl, by simpa using this⟩
      · exact ih h.2 q hq
  have e6 : ∀ l i, fitN i l → ∀ q ∈ l, i ≠ q.1 := by
    intro l
    induction l with
    | nil => intro i _ q hq; cases hq
    | cons a l ih => obtain ⟨j, o⟩ := a; intro i h q hq; rcases List.mem_cons.1 hq with rfl | hq
                     · exact h.1
                     · exact ih i h.2 q hq
  have e7 : ∀ l, fitNs l → l.Pairwise (fun (q r : Nat × AO) => q.1 ≠ r.1) := by
    intro l
    induction l with
    | nil => intro _; exact List.Pairwise.nil
    | cons a l ih => obtain ⟨j, o⟩ := a; intro h; exact List.Pairwise.cons (e6 l j h.1) (ih h.2)
  exact ⟨h0.symm, h1, e2 s h2, e4 s h3, fun q hq => (e5 objs h4 q hq).1, fun q hq => (e5 objs h4 q hq).2, e7 objs h5⟩
attribute [go_sem] false_implies implies_true readsAs List.all_nil List.all_cons callMap callEff fitS fitPs fitP fitO fitN fitNs List.filter_nil List.append_nil List.getElem?_nil Bool.false_eq_true List.map_nil Option.any_some Option.any_none Nat.zero_lt_succ
@[go_sem] theorem live_ext (s : Nat) (r : List (List Value)) : AO.live (.ext s r) = false := rfl
@[go_sem] theorem live_row (e s : Nat) (r : List (List Value)) : AO.live (.row e s r) = true := rfl
@[go_sem] theorem live_cells (t : Nat) (l : List AV) : AO.live (.cells t l) = true := rfl
@[go_sem] theorem filt_live (i : Nat) (o : AO) (l : List (Nat × AO)) : ((i, o) :: l).filter (fun q => q.2.live) = if o.live = true then (i, o) :: l.filter (fun q => q.2.live) else l.filter (fun q => q.2.live) := by
  rw [List.filter_cons]
end Go.Proofs.Ytmgckellncfjpaa
