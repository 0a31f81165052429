/- ENGINE 13: which name goes where is reckoned; laws' arguments; over any program. -/
import Derived.Test.YtmgckellncfjpaaE12
set_option linter.unusedSimpArgs false
set_option linter.unusedVariables false
namespace Go.Proofs.Ytmgckellncfjpaa
open Go.RowKit

mutual
/-- the names of a form beside those of what is at hand. -/
def avPairs : AV → AV → List (Nat × Nat)
  | .hdr i, .hdr j => [(i, j)]
  | .ptr i _ _ _, .ptr j _ _ _ => [(i, j)]
  | .agg l, .agg m => avPairsL l m
  | .tup l, .tup m => avPairsL l m
  | .clo _ l, .clo _ m => avPairsL l m
  | _, _ => []
def avPairsL : List AV → List AV → List (Nat × Nat)
  | a :: l, b :: m => avPairs a b ++ avPairsL l m
  | _, _ => []
end
@[go_sem] theorem avPairs_hdr (i j : Nat) : avPairs (.hdr i) (.hdr j) = [(i, j)] := rfl
@[go_sem] theorem avPairs_ptr (i j a b c d e f : Nat) : avPairs (.ptr i a b c) (.ptr j d e f) = [(i, j)] := rfl
@[go_sem] theorem avPairs_agg (l m : List AV) : avPairs (.agg l) (.agg m) = avPairsL l m := rfl
@[go_sem] theorem avPairs_tup (l m : List AV) : avPairs (.tup l) (.tup m) = avPairsL l m := rfl
@[go_sem] theorem avPairs_clo (f g : Fn) (l m : List AV) : avPairs (.clo f l) (.clo g m) = avPairsL l m := rfl
@[go_sem] theorem avPairs_raw (v : Value) (a : AV) : avPairs (.raw v) a = [] := by cases a <;> rfl
@[go_sem] theorem avPairs_dead (a : AV) : avPairs .dead a = [] := by cases a <;> rfl
@[go_sem] theorem avPairsL_cons (a b : AV) (l m : List AV) : avPairsL (a :: l) (b :: m) = avPairs a b ++ avPairsL l m := rfl
@[go_sem] theorem avPairsL_nil (m : List AV) : avPairsL [] m = [] := by cases m <;> rfl
def lk (ps : List (Nat × Nat)) (i : Nat) : Nat := (find ps i).getD i
def aoPairs : AO → Option AO → List (Nat × Nat)
  | .cells _ l, some (.cells _ m) => avPairsL l m
  | _, _ => []
@[go_sem] theorem aoPairs_cells (t u : TypeId) (l m : List AV) : aoPairs (.cells t l) (some (.cells u m)) = avPairsL l m := rfl
@[go_sem] theorem aoPairs_row (e s : Nat) (r : List (List Value)) (o : Option AO) : aoPairs (.row e s r) o = [] := by cases o <;> rfl
@[go_sem] theorem aoPairs_ext (s : Nat) (r : List (List Value)) (o : Option AO) : aoPairs (.ext s r) o = [] := by cases o <;> rfl
@[go_sem] theorem aoPairs_none (o : AO) : aoPairs o none = [] := by cases o <;> rfl
def stPairs (S : AS) : List (Nat × Option AO) → List (Nat × Nat) → List (Nat × Nat)
  | [], ps => ps
  | (i, some o) :: s, ps => stPairs S s (ps ++ aoPairs o (S.obj (lk ps i)))
  | (_, none) :: s, ps => stPairs S s ps
def up8 : List (Nat × Nat) → List (Nat × Nat)
  | [] => []
  | (i, j) :: l => if 8 ≤ i then (i, j) :: up8 l else up8 l
def tPairs (S : AS) : List (Nat × AV) → List (Nat × Nat)
  | [] => []
  | (d, v) :: t => avPairs v (S.get d) ++ tPairs S t
def loopL (S S' : AS) : List (Nat × Nat) := up8 (stPairs S S'.s (tPairs S S'.t))
def callL (S : AS) (args actual : List AV) (s : List (Nat × AO)) : List Nat :=
  let ps := stPairs S (somes s) (avPairsL args actual)
  [lk ps 0, lk ps 1, lk ps 2, lk ps 3, lk ps 4, lk ps 5, lk ps 6, lk ps 7]
def retL (v val : AV) (objs : List (Nat × AO)) (s : List (Nat × Option AO)) : List (Nat × Nat) := up8 (stPairs ⟨[], s, none⟩ (somes objs) (avPairs val v))
@[go_sem] theorem callL_eq (S : AS) (args actual : List AV) (s : List (Nat × AO)) : callL S args actual s = (fun ps => [lk ps 0, lk ps 1, lk ps 2, lk ps 3, lk ps 4, lk ps 5, lk ps 6, lk ps 7]) (stPairs S (somes s) (avPairsL args actual)) := rfl
attribute [go_sem] lk stPairs up8 tPairs loopL retL somes

theorem acall2 {P : Program} {dst : Option Nat} {n : Nat} {C : AS → Prop} {S : AS} {actual args : List AV} {s : List (Nat × AO)} {val : AV} {objs : List (Nat × AO)} {f : FuncId} (hf : FnOk P f args s val objs) {ι : List Nat} (_ : callL S args actual s = ι) (h : CallFit ι n args actual s objs S) (hC : C (fin dst (callEff ι n s val objs) S)) : ACall P dst n C S actual (.clo (.func f) []) :=
  acall ι hf h hC
theorem acall2_clo {P : Program} {dst : Option Nat} {n : Nat} {C : AS → Prop} {S : AS} {actual caps args : List AV} {s : List (Nat × AO)} {val : AV} {objs : List (Nat × AO)} {f : FuncId} (hf : FnOk P f args s val objs) {ι : List Nat} (_ : callL S args (actual ++ caps) s = ι) (h : CallFit ι n args (actual ++ caps) s objs S) (hC : C (fin dst (callEff ι n s val objs) S)) : ACall P dst n C S actual (.clo (.func f) caps) :=
  acall_clo ι hf h hC
theorem ret2 {v val : AV} {objs : List (Nat × AO)} {s : List (Nat × Option AO)} {L : List (Nat × Nat)} (_ : retL v val objs s = L) (e : Ent L 2 ⟨[(0, v)], s, none⟩ ⟨[(0, val)], somes objs, none⟩) : RetV v val objs s := ret_ent L e
theorem loop_end {X : Type} {St : X → AS} {inv : X → Prop} {μ : X → Nat} {n0 : Nat} {x : X} {S : AS} (x' : X) {L : List (Nat × Nat)} (_ : loopL S (St x') = L) (h1 : μ x' < μ x) (e : Ent L n0 S (St x')) (h2 : inv x') : LoopEnd St inv μ n0 x S := ⟨x', L, h2, h1, e⟩
theorem aloop2 {P : Program} {b : Code} {Q : Exit → Nat → AS → Prop} {S : AS} {X : Type} (St : X → AS) (inv : X → Prop) (μ : X → Nat) (n0 : Nat) (x0 : X) {L0 : List (Nat × Nat)} (_ : loopL S (St x0) = L0) (e0 : Ent L0 n0 S (St x0)) (h0 : inv x0) (hr : ∀ x, inv x → AWP P b (loopX St inv μ n0 x Q) n0 (St x)) :
    ALoop (W (AWP P b)) Q S := aloop St inv μ n0 x0 L0 h0 e0 hr

/-! an own row that is henceforth only read -/
def frz (S : AS) : List Nat → List (Nat × Option AO)
  | [] => []
  | i :: l => (match S.obj i with | some (.row _ s rows) => [(i, some (.ext s rows))] | _ => []) ++ frz S l
theorem frz_find {S S' : AS} {l : List Nat} (ha : ∀ i ∈ l, S'.obj i = S.obj i) : ∀ i q, find (frz S l) i = some q → ∃ e s rows, S'.obj i = some (.row e s rows) ∧ q = some (.ext s rows) := by
  induction l with
  | nil => intro i q h; cases h
  | cons j l ih =>
    intro i q h
    unfold frz at h
    rw [find_append] at h
    have ih := ih (fun k hk => ha k (List.mem_cons_of_mem _ hk)) i q
    have hj := ha j (List.mem_cons_self ..)
    split at h
    · next v hv =>
      injection h with h
      subst h
      split at hv
      · next e s rows he =>
        simp only [find] at hv
        split at hv
        · next hij => subst hij; injection hv with hv; exact ⟨e, s, rows, by rw [hj]; exact he, hv.symm⟩
        · cases hv
      · cases hv
    · exact ih h
theorem Mod.frz {c : Ctx} {p : Nat → Prop} {ρ : Env} {S S' : AS} {tm : Array Value} {w : World} (h : Mod c p ρ S' tm w) {l : List Nat} (ha : ∀ i ∈ l, S'.obj i = S.obj i) : Mod c p ρ (S'.upd (Go.Proofs.Ytmgckellncfjpaa.frz S l)) tm w := by
  have hobj : ∀ i, (S'.upd (Go.Proofs.Ytmgckellncfjpaa.frz S l)).obj i = match find (Go.Proofs.Ytmgckellncfjpaa.frz S l) i with | some q => q | none => S'.obj i := fun i => by
    unfold AS.obj AS.upd
    simp only [find_append]
    cases find (Go.Proofs.Ytmgckellncfjpaa.frz S l) i <;> rfl
  -- each object is as it was, or a row of the call's own that is read now
  have hcase : ∀ i o, (S'.upd (Go.Proofs.Ytmgckellncfjpaa.frz S l)).obj i = some o → S'.obj i = some o ∨ ∃ e s rows, S'.obj i = some (.row e s rows) ∧ o = .ext s rows := fun i o ho => by
    rw [hobj] at ho
    split at ho
    · next q hq => obtain ⟨e, s, rows, h1, h2⟩ := frz_find ha i q hq; rw [h2] at ho; injection ho with ho; exact .inr ⟨e, s, rows, h1, ho.symm⟩
    · exact .inl ho
  have hblk : ∀ (x : Value) (e s : Nat) (rows : List (List Value)) g, oblk x (.ext s rows) = some g → oblk x (.row e s rows) = some g := fun x e s rows g hg => by
    cases rows with
    | nil => simp [oblk] at hg
    | cons => exact hg
  refine ⟨h.size, h.base, h.lo, h.dom, h.tmps, fun i o ho => ?_, fun i j oi oj x y hne hi hj hl hx hy g hg hg' => ?_, fun i o x g ho hl hx hg => ?_, fun i o x g ho hx hg => ?_, h.frame⟩
  · rcases hcase i o ho with h1 | ⟨e, s, rows, h1, rfl⟩
    · exact h.objs i o h1
    · obtain ⟨x, h2, h3⟩ := h.objs i _ h1
      exact ⟨x, h2, h3.asExt⟩
  · rcases hcase i oi hi with h1 | ⟨e, s, rows, h1, rfl⟩
    · rcases hcase j oj hj with k1 | ⟨e, s, rows, k1, rfl⟩
      · exact h.apart i j oi oj x y hne h1 k1 hl hx hy g hg hg'
      · exact h.apart i j oi _ x y hne h1 k1 hl hx hy g hg (hblk _ _ _ _ _ hg')
    · cases hl
  · rcases hcase i o ho with h1 | ⟨e, s, rows, h1, rfl⟩
    · exact h.old i o x g h1 hl hx hg
    · cases hl
  · rcases hcase i o ho with h1 | ⟨e, s, rows, h1, rfl⟩
    · exact h.rd i o x g h1 hx hg
    · exact h.rd i _ x g h1 hx (hblk _ _ _ _ _ hg)
def frzEff (S : AS) (l : List Nat) (E : Eff) : Eff := ⟨E.val, E.objs ++ Go.Proofs.Ytmgckellncfjpaa.frz S l, E.reads ++ l⟩
theorem call_frz {P : Program} {f : FuncId} {args : List AV} {S : AS} {n : Nat} {E : Eff} (l : List Nat) (h : CallOk P f args (S.upd (Go.Proofs.Ytmgckellncfjpaa.frz S l)) n E) : CallOk P f args S n (frzEff S l E) := by
  intro S' ha c p ρ tm w vs hm hn hr
  have hl : ∀ i ∈ l, S'.obj i = S.obj i := fun i hi => ha i (List.mem_append_right _ hi)
  have h1 := h (S'.upd (Go.Proofs.Ytmgckellncfjpaa.frz S l)) (fun i hi => by
    have := ha i (List.mem_append_left _ hi)
    unfold AS.obj at this ⊢
    unfold AS.upd
    simp only [find_append]
    cases find (Go.Proofs.Ytmgckellncfjpaa.frz S l) i with
    | some q => rfl
    | none => exact this) c p ρ tm w vs (hm.frz hl) hn hr
  refine h1.mono ?_
  rintro e w' ⟨v, ρ', h2, h3, h4⟩
  refine ⟨v, ρ', h2, ?_, h4⟩
  have e1 : (S'.upd (Go.Proofs.Ytmgckellncfjpaa.frz S l)).upd E.objs = S'.upd (frzEff S l E).objs := by simp [AS.upd, frzEff]
  rw [← e1]
  exact h3
theorem acallF {P : Program} {dst : Option Nat} {n : Nat} {C : AS → Prop} {S : AS} {actual args : List AV} {s : List (Nat × AO)} {val : AV} {objs : List (Nat × AO)} {f : FuncId} (l : List Nat) (hf : FnOk P f args s val objs) {ι : List Nat} (_ : callL S args actual s = ι) (h : CallFit ι n args actual s objs (S.upd (Go.Proofs.Ytmgckellncfjpaa.frz S l))) (hC : C (fin dst (frzEff S l (callEff ι n s val objs)) S)) : ACall P dst n C S actual (.clo (.func f) []) :=
  ⟨_, hf.1, by simpa using call_frz l (call_ok hf h), hC⟩
attribute [go_sem] frz frzEff AS.upd

/-! an object that a call tells again as it was: it is only read -/
def memN (i : Nat) : List Nat → Bool
  | [] => false
  | j :: l => if j = i then true else memN i l
def dropL (l : List Nat) : List (Nat × Option AO) → List (Nat × Option AO)
  | [] => []
  | (i, o) :: r => if memN i l = true then dropL l r else (i, o) :: dropL l r
def keptB (E : Eff) (S : AS) : List Nat → Prop
  | [] => True
  | i :: l => (memN i E.reads = true ∧ find E.objs i = some (S.obj i)) ∧ keptB E S l
def dropE (l : List Nat) (E : Eff) : Eff := ⟨E.val, dropL l E.objs, E.reads⟩
theorem memN_iff {i : Nat} : ∀ {l : List Nat}, memN i l = true ↔ i ∈ l
  | [] => by simp [memN]
  | j :: l => by
    unfold memN
    split
    · next h => subst h; simp
    · next h => rw [memN_iff, List.mem_cons]; exact ⟨.inr, fun q => q.resolve_left fun e => h e.symm⟩
theorem keptB_mem {E : Eff} {S : AS} : ∀ {l : List Nat}, keptB E S l → ∀ i ∈ l, i ∈ E.reads ∧ find E.objs i = some (S.obj i)
  | [], _, i, hi => by cases hi
  | j :: l, h, i, hi => by
    rcases List.mem_cons.1 hi with rfl | hi
    · exact ⟨memN_iff.1 h.1.1, h.1.2⟩
    · exact keptB_mem h.2 i hi
theorem dropL_find (l : List Nat) (i : Nat) : ∀ r : List (Nat × Option AO), find (dropL l r) i = if memN i l = true then none else find r i
  | [] => by simp [dropL, find]
  | (j, o) :: r => by
    unfold dropL
    split
    · next h =>
      rw [dropL_find l i r]
      split
      · rfl
      · next h2 => rw [find]; rw [if_neg (fun e => by subst e; exact h2 h)]
    · next h =>
      rw [find, dropL_find l i r]
      split
      · next e => subst e; rw [if_neg h, find, if_pos rfl]
      · next e => split; · rfl
                  · rw [find, if_neg e]
theorem call_drop {P : Program} {f : FuncId} {args : List AV} {S : AS} {n : Nat} {E : Eff} (l : List Nat) (hk : keptB E S l) (h : CallOk P f args S n E) : CallOk P f args S n (dropE l E) := by
  intro S' ha c p ρ tm w vs hm hn hr
  have ha : ∀ i ∈ E.reads, S'.obj i = S.obj i := ha
  refine (h S' ha c p ρ tm w vs hm hn hr).mono ?_
  rintro e w' ⟨v, ρ', h2, h3, h4⟩
  refine ⟨v, ρ', h2, ?_, h4⟩
  refine h3.same (fun t => rfl) (fun i => ?_)
  rw [upd_obj, upd_obj]
  show (match find (dropL l E.objs) i with | some q => q | none => S'.obj i) = _
  rw [dropL_find]
  by_cases hm : memN i l = true
  · rw [if_pos hm]
    obtain ⟨k1, k2⟩ := keptB_mem hk i (memN_iff.1 hm)
    rw [k2]
    exact ha i k1
  · rw [if_neg hm]
    cases find E.objs i <;> rfl
theorem acallR {P : Program} {dst : Option Nat} {n : Nat} {C : AS → Prop} {S : AS} {actual args : List AV} {s : List (Nat × AO)} {val : AV} {objs : List (Nat × AO)} {f : FuncId} (l : List Nat) (hf : FnOk P f args s val objs) {ι : List Nat} (_ : callL S args actual s = ι) (h : CallFit ι n args actual s objs S) (hk : keptB (callEff ι n s val objs) S (l.map (callMap ι n))) (hC : C (fin dst (dropE (l.map (callMap ι n)) (callEff ι n s val objs)) S)) : ACall P dst n C S actual (.clo (.func f) []) :=
  ⟨_, hf.1, by simpa using call_drop (l.map (callMap ι n)) hk (call_ok hf h), hC⟩
@[go_sem] theorem dropE_eq (l : List Nat) (v : AV) (o : List (Nat × Option AO)) (r : List Nat) : dropE l ⟨v, o, r⟩ = ⟨v, dropL l o, r⟩ := rfl
attribute [go_sem] memN dropL keptB

theorem ex_get {α : Type} {xs : List α} {k : Nat} {C : α → Prop} (h : k < xs.length) (hC : C xs[k]) : ∃ x, xs[k]? = some x ∧ C x := ⟨_, by simp, hC⟩

/-! a law's arguments -/
def envOf (l : List (Nat × Value × AO)) : Env := fun i => (find l i).map (·.1)
def objsOf (l : List (Nat × Value × AO)) : List (Nat × AO) := l.map fun q => (q.1, q.2.2)
theorem find_objsOf (l : List (Nat × Value × AO)) (i : Nat) : find (objsOf l) i = (find l i).map (·.2) := by
  induction l with
  | nil => rfl
  | cons q l ih =>
    obtain ⟨k, o⟩ := q
    simp only [objsOf, List.map_cons, find] at ih ⊢
    split
    · rfl
    · exact ih
/-- one that is handed in, and only read. -/
def ExtArg (w : World) (q : Nat × Value × AO) : Prop := q.1 < 8 ∧ q.2.1.oneCell' = true ∧ q.2.2.live = false ∧ ∀ ρ, ObjAt ρ w q.2.1 q.2.2
theorem args_ext {w : World} {l : List (Nat × Value × AO)} (h : ∀ q ∈ l, ExtArg w q) : ArgsOk (envOf l) w (objsOf l) := by
  have hf : ∀ i x, find l i = some x → ExtArg w (i, x) := fun i x e => h _ (find_mem e)
  refine ⟨fun i x e => ?_, fun i o e => ?_, fun i j oi oj x y hne hi hj hl => ?_⟩
  · unfold envOf at e
    cases hx : find l i with
    | none => rw [hx] at e; cases e
    | some q => rw [hx] at e; injection e with e; subst e; exact ⟨(hf i q hx).1, (hf i q hx).2.1⟩
  · rw [find_objsOf] at e
    cases hx : find l i with
    | none => rw [hx] at e; cases e
    | some q => rw [hx] at e; injection e with e; subst e; exact ⟨q.1, by simp [envOf, hx], (hf i q hx).2.2.2 _⟩
  · rw [find_objsOf] at hi
    cases hx : find l i with
    | none => rw [hx] at hi; cases hi
    | some q => rw [hx] at hi; injection hi with hi; subst hi; rw [(hf i q hx).2.2.1] at hl; cases hl
theorem ext_arg {w : World} {i : Nat} {A : Option Addr} {c s : Nat} {rows : List (List Value)} (h : i < 8) (hr : RowAt w A s id rows) (hl : ∀ r ∈ rows, r.length = s) (h1 : ∀ r ∈ rows, ∀ u ∈ r, u.oneCell' = true) (hc : rows.length ≤ c) : ExtArg w (i, .slice A rows.length c, .ext s rows) :=
  ⟨h, rfl, rfl, fun _ => ⟨A, c, rfl, hr, hl, h1, hc⟩⟩
/-- what a contract says of a law: it comes back with what is told, and below nothing is turned. -/
theorem calls_fn {P : Program} {f : FuncId} {args : List AV} {l : List (Nat × Value × AO)} {v : Value} (h : FnOk P f args (objsOf l) (.raw v) []) {w : World} {vs : List Value} (hl : ∀ q ∈ l, ExtArg w q) (hr : RepL (envOf l) args vs) : Calls P f vs.toArray w (RetB v w) := by
  refine (h.2 _ w vs (args_ext hl) hr).mono ?_
  rintro e w' ⟨u, ρ', rfl, hm⟩
  have hv := hm.tmps 0
  simp only [AS.get, find, if_true, Option.getD_some, Rep] at hv
  refine ⟨by rw [show u = v by simpa using hv], hm.frame.os, hm.frame.tape, hm.frame.output, hm.frame.size, fun g hg => hm.frame.block g hg ?_⟩
  rintro ⟨i, o, x, e1, e2, -⟩
  have := find_mem e1
  simp only [objsOf, List.mem_map] at this
  obtain ⟨q, hq, e3⟩ := this
  injection e3 with e3 e4
  rw [← e4, (hl q hq).2.2.1] at e2
  cases e2
end Go.Proofs.Ytmgckellncfjpaa
