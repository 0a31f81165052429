/- ENGINE (second) 12: contracts at calls; which name goes where is reckoned; laws' arguments; over any program. -/
import Derived.Test.YtiidfcadmdahmaaG10
set_option linter.unusedSimpArgs false
set_option linter.unusedVariables false
namespace Go.Proofs.Ytiidfcadmdahmaa
open Go.RowKit

def cInt (x : Int) : List PV := [.raw (.int .i64 x)]
attribute [go_sem] cInt
def callEffW (ι : List Nat) (n : Nat) (S : AS) (bor : List Nat) (actual : List AV) (s : List (Nat × AO)) (val : AV) (objs : List (Nat × AO)) : Eff :=
  ⟨val.ren (callMap ι n), (objs.map fun q => (callMap ι n q.1, some (q.2.ren (callMap ι n)))) ++ (s.map fun q => (callMap ι n q.1, none)), W (deepS S (s.map fun q => callMap ι n q.1) ++ (deepL actual ++ bor))⟩
/-! an own row that a call is handed for good -/
theorem call_frz {P : Program} {f : FuncId} {args : List AV} {S : AS} {n : Nat} {E : Eff} (l : List Nat) (h : CallOk P f args (S.upd (frz S l)) n E) : CallOk P f args S n (frzEff S l E) := by
  intro S' ha c p ρ tm w vs hm hn hr
  have hl : ∀ i ∈ l, S'.obj i = S.obj i := fun i hi => ha i (List.mem_append_right _ hi)
  obtain ⟨Rf, h1, h2⟩ := hm.frz l
  have hfz : frz S' l = frz S l := frz_congr hl
  have h3 := h (S'.upd (frz S' l)) (fun i hi => by rw [upd_obj, upd_obj, hfz, ha i (List.mem_append_left _ hi)]) c p _ tm w vs h2 hn (RepL.ext (ρ := ρ) (ρ' := ⟨ρ.f, Rf⟩) ⟨fun _ _ h => h, h1⟩ _ _ hr)
  refine h3.mono ?_
  rintro e w' ⟨v, ρ', h4, h5, h6⟩
  refine ⟨v, ρ', h4, ?_, h6⟩
  have e1 : (S'.upd (frz S' l)).upd E.objs = S'.upd (frzEff S l E).objs := by simp [AS.upd, frzEff, hfz]
  rw [← e1]
  exact h5
/-! an object that a call tells again as it was: it is only read -/
def memN (i : Nat) : List Nat → Bool
  | [] => false
  | j :: l => if j = i then true else memN i l
def dropL (l : List Nat) : List (Nat × Option AO) → List (Nat × Option AO)
  | [] => []
  | (i, o) :: r => if memN i l = true then dropL l r else (i, o) :: dropL l r
def keptB (E : Eff) (S : AS) : List Nat → Prop
  | [] => True
  | i :: l => (memN i E.reads = true ∧ find E.objs i = some (S.obj i)) ∧ keptB E S l
def dropE (l : List Nat) (E : Eff) : Eff := ⟨E.val, dropL l E.objs, E.reads⟩
theorem memN_iff {i : Nat} : ∀ {l : List Nat}, memN i l = true ↔ i ∈ l
  | [] => by simp [memN]
  | j :: l => by
    unfold memN
    split
    · next h => subst h; simp
    · next h => rw [memN_iff, List.mem_cons]; exact ⟨.inr, fun q => q.resolve_left fun e => h e.symm⟩
theorem keptB_mem {E : Eff} {S : AS} : ∀ {l : List Nat}, keptB E S l → ∀ i ∈ l, i ∈ E.reads ∧ find E.objs i = some (S.obj i)
  | [], _, i, hi => by cases hi
  | j :: l, h, i, hi => by
    rcases List.mem_cons.1 hi with rfl | hi
    · exact ⟨memN_iff.1 h.1.1, h.1.2⟩
    · exact keptB_mem h.2 i hi
theorem dropL_find (l : List Nat) (i : Nat) : ∀ r : List (Nat × Option AO), find (dropL l r) i = if memN i l = true then none else find r i
  | [] => by simp [dropL, find]
  | (j, o) :: r => by
    unfold dropL
    split
    · next h =>
      rw [dropL_find l i r]
      split
      · rfl
      · next h2 => rw [find]; rw [if_neg (fun e => by subst e; exact h2 h)]
    · next h =>
      rw [find, dropL_find l i r]
      split
      · next e => subst e; rw [if_neg h, find, if_pos rfl]
      · next e => split; · rfl
                  · rw [find, if_neg e]
theorem call_drop {P : Program} {f : FuncId} {args : List AV} {S : AS} {n : Nat} {E : Eff} (l : List Nat) (hk : keptB E S l) (h : CallOk P f args S n E) : CallOk P f args S n (dropE l E) := by
  intro S' ha c p ρ tm w vs hm hn hr
  have ha : ∀ i ∈ E.reads, S'.obj i = S.obj i := ha
  refine (h S' ha c p ρ tm w vs hm hn hr).mono ?_
  rintro e w' ⟨v, ρ', h2, h3, h4⟩
  refine ⟨v, ρ', h2, ?_, h4⟩
  refine h3.same (fun t => rfl) (fun i => ?_)
  rw [upd_obj, upd_obj]
  show (match find (dropL l E.objs) i with | some q => q | none => S'.obj i) = _
  rw [dropL_find]
  by_cases hm : memN i l = true
  · rw [if_pos hm]
    obtain ⟨k1, k2⟩ := keptB_mem hk i (memN_iff.1 hm)
    rw [k2]
    exact ha i k1
  · rw [if_neg hm]
    cases find E.objs i <;> rfl

section
variable {P : Program} {dst : Option Nat} {n : Nat} {CN : Nat → AS → Prop} {S : AS} {actual caps args : List AV} {s : List (Nat × AO)} {val : AV} {objs : List (Nat × AO)} {f : FuncId}
theorem acall {ι : List Nat} (bor : List Nat) (hf : FnOk P f args s val objs) (h : CallFit ι n bor args (actual ++ caps) s val objs S) (hC : CN (n + 1) (fin dst (callEffW ι n S bor (actual ++ caps) s val objs) S)) : ACall P dst n CN S actual (.clo (.func f) caps) :=
  ⟨_, hf.1, call_ok hf h, hC⟩
theorem acallF {ι : List Nat} (l bor : List Nat) (hf : FnOk P f args s val objs) (h : CallFit ι n bor args (actual ++ caps) s val objs (S.upd (frz S l))) (hC : CN (n + 1) (fin dst (frzEff S l (callEffW ι n (S.upd (frz S l)) bor (actual ++ caps) s val objs)) S)) : ACall P dst n CN S actual (.clo (.func f) caps) :=
  ⟨_, hf.1, call_frz l (call_ok hf h), hC⟩
theorem acallR {ι : List Nat} (l bor : List Nat) (hf : FnOk P f args s val objs) (h : CallFit ι n bor args (actual ++ caps) s val objs S) (hk : keptB (callEff ι n S bor (actual ++ caps) s val objs) S (l.map (callMap ι n))) (hC : CN (n + 1) (fin dst (dropE (l.map (callMap ι n)) (callEffW ι n S bor (actual ++ caps) s val objs)) S)) : ACall P dst n CN S actual (.clo (.func f) caps) :=
  ⟨_, hf.1, call_drop (l.map (callMap ι n)) hk (call_ok hf h), hC⟩
end
@[go_sem] theorem dropE_eq (l : List Nat) (v : AV) (o : List (Nat × Option AO)) (r : List Nat) : dropE l ⟨v, o, r⟩ = ⟨v, dropL l o, r⟩ := rfl
attribute [go_sem] memN dropL keptB callEffW List.append_nil

/-! what a call's fit comes to -/
def fitS (ι : List Nat) (n : Nat) (bor : List Nat) (S : AS) : List (Nat × AO) → Prop
  | [] => True
  | (i, o) :: s => (i < 8 ∧ o.bd 1 = true ∧ ServesO S (o.ren (callMap ι n)) (S.obj (callMap ι n i)) ∧ memN (callMap ι n i) bor = false) ∧ fitS ι n bor S s
def fitP (ι : List Nat) (n i : Nat) : List (Nat × AO) → Prop
  | [] => True
  | (j, _) :: s => (i ≠ j ∧ callMap ι n i ≠ callMap ι n j) ∧ fitP ι n i s
def fitPs (ι : List Nat) (n : Nat) : List (Nat × AO) → Prop
  | [] => True
  | (i, _) :: s => fitP ι n i s ∧ fitPs ι n s
def fitO : List (Nat × AO) → Prop
  | [] => True
  | (i, _) :: l => i < 16 ∧ fitO l
def fitN (i : Nat) : List (Nat × AO) → Prop
  | [] => True
  | (j, _) :: l => i ≠ j ∧ fitN i l
def fitNs : List (Nat × AO) → Prop
  | [] => True
  | (i, _) :: l => fitN i l ∧ fitNs l
def allNoR : List (Nat × AO) → Prop
  | [] => True
  | (_, o) :: l => o.noR ∧ allNoR l
def fitR (val : AV) (objs : List (Nat × AO)) : List Nat → Prop
  | [] => True
  | _ => val.noR = true ∧ allNoR objs
def rawP : List PV → Bool
  | [] => true
  | p :: l => p.noR && rawP l
theorem rawP_all {l : List PV} (h : rawP l = true) : ∀ p ∈ l, p.noR = true := by
  induction l with
  | nil => intro p hp; cases hp
  | cons q l ih =>
    simp only [rawP, Bool.and_eq_true] at h
    intro p hp
    rcases List.mem_cons.1 hp with rfl | hp
    · exact h.1
    · exact ih h.2 p hp
theorem rawP_of {l : List PV} (h : ∀ p ∈ l, p.noR = true) : rawP l = true := by
  induction l with
  | nil => rfl
  | cons q l ih =>
    simp only [rawP, Bool.and_eq_true]
    exact ⟨h q List.mem_cons_self, ih fun p hp => h p (List.mem_cons_of_mem _ hp)⟩
@[go_sem] theorem rawRows_map {α : Type} (f : α → List PV) (xs : List α) : RawRows (xs.map f) = ∀ x ∈ xs, rawP (f x) = true := by
  refine propext ⟨fun h x hx => rawP_of (h _ (List.mem_map_of_mem hx)), fun h r hr => ?_⟩
  obtain ⟨x, hx, rfl⟩ := List.mem_map.1 hr
  exact rawP_all (h x hx)
@[go_sem] theorem rawRows_nil : RawRows [] = True := propext ⟨fun _ => trivial, fun _ r hr => by cases hr⟩
@[go_sem] theorem rawRows_cons (r : List PV) (l : List (List PV)) : RawRows (r :: l) = (rawP r = true ∧ RawRows l) := propext ⟨fun h => ⟨rawP_of (h r List.mem_cons_self), fun q hq => h q (List.mem_cons_of_mem _ hq)⟩, fun h q hq => by
  rcases List.mem_cons.1 hq with rfl | hq
  · exact rawP_all h.1
  · exact h.2 q hq⟩
@[go_sem] theorem rawRows_append (l m : List (List PV)) : RawRows (l ++ m) = (RawRows l ∧ RawRows m) := propext ⟨fun h => ⟨fun q hq => h q (List.mem_append_left _ hq), fun q hq => h q (List.mem_append_right _ hq)⟩, fun h q hq => (List.mem_append.1 hq).elim (h.1 q) (h.2 q)⟩
theorem fit_of {ι : List Nat} {n : Nat} {bor : List Nat} {args actual : List AV} {s : List (Nat × AO)} {val : AV} {objs : List (Nat × AO)} {S : AS} (h0 : ServesL (S.upd (frz S bor)) (renL (callMap ι n) args) actual) (h1 : bdL 1 args = true) (h2 : fitS ι n bor (S.upd (frz S bor)) s) (h3 : fitPs ι n s) (h4 : fitO objs) (h5 : fitNs objs) (h6 : fitR val objs bor) : CallFit ι n bor args actual s val objs S := by
  have e2 : ∀ s, fitS ι n bor (S.upd (frz S bor)) s → ∀ q ∈ s, q.1 < 8 ∧ q.2.bd 1 = true ∧ ServesO (S.upd (frz S bor)) (q.2.ren (callMap ι n)) ((S.upd (frz S bor)).obj (callMap ι n q.1)) ∧ callMap ι n q.1 ∉ bor := by
    intro s
    induction s with
    | nil => intro _ q hq; cases hq
    | cons a s ih => obtain ⟨i, o⟩ := a; intro h q hq; rcases List.mem_cons.1 hq with rfl | hq
                     · exact ⟨h.1.1, h.1.2.1, h.1.2.2.1, fun hm => by have := memN_iff.2 hm; rw [h.1.2.2.2] at this; cases this⟩
                     · exact ih h.2 q hq
  have e3 : ∀ s i, fitP ι n i s → ∀ q ∈ s, i ≠ q.1 ∧ callMap ι n i ≠ callMap ι n q.1 := by
    intro s
    induction s with
    | nil => intro i _ q hq; cases hq
    | cons a s ih => obtain ⟨j, o⟩ := a; intro i h q hq; rcases List.mem_cons.1 hq with rfl | hq
                     · exact h.1
                     · exact ih i h.2 q hq
  have e4 : ∀ s, fitPs ι n s → s.Pairwise (fun q r => q.1 ≠ r.1 ∧ callMap ι n q.1 ≠ callMap ι n r.1) := by
    intro s
    induction s with
    | nil => intro _; exact List.Pairwise.nil
    | cons a s ih => obtain ⟨j, o⟩ := a; intro h; exact List.Pairwise.cons (e3 s j h.1) (ih h.2)
  have e5 : ∀ l, fitO l → ∀ q ∈ l, q.1 < 16 := by
    intro l
    induction l with
    | nil => intro _ q hq; cases hq
    | cons a l ih =>
      obtain ⟨i, o⟩ := a
      intro h q hq
      rcases List.mem_cons.1 hq with rfl | hq
      · exact h.1
      · exact ih h.2 q hq
  have e6 : ∀ l i, fitN i l → ∀ q ∈ l, i ≠ q.1 := by
    intro l
    induction l with
    | nil => intro i _ q hq; cases hq
    | cons a l ih => obtain ⟨j, o⟩ := a; intro i h q hq; rcases List.mem_cons.1 hq with rfl | hq
                     · exact h.1
                     · exact ih i h.2 q hq
  have e7 : ∀ l, fitNs l → l.Pairwise (fun (q r : Nat × AO) => q.1 ≠ r.1) := by
    intro l
    induction l with
    | nil => intro _; exact List.Pairwise.nil
    | cons a l ih => obtain ⟨j, o⟩ := a; intro h; exact List.Pairwise.cons (e6 l j h.1) (ih h.2)
  have e8 : ∀ l, allNoR l → ∀ q ∈ l, q.2.noR := by
    intro l
    induction l with
    | nil => intro _ q hq; cases hq
    | cons a l ih =>
      obtain ⟨i, o⟩ := a
      intro h q hq
      rcases List.mem_cons.1 hq with rfl | hq
      · exact h.1
      · exact ih h.2 q hq
  refine ⟨⟨h0, h1⟩, e2 s h2, e4 s h3, e5 objs h4, e7 objs h5, ?_⟩
  cases bor with
  | nil => exact .inl rfl
  | cons b l => exact .inr ⟨h6.1, e8 objs h6.2⟩
attribute [go_sem] false_implies implies_true List.all_nil List.all_cons callMap fitS fitPs fitP fitO fitN fitNs fitR allNoR rawP PV.noR AV.noR noRL AO.noR List.isEmpty_nil List.isEmpty_cons List.filter_nil List.getElem?_nil Bool.false_eq_true Nat.zero_lt_succ

/-! the names of a form beside those of what is at hand -/
mutual
def avPairs : AV → AV → List (Nat × Nat)
  | .hdr i, .hdr j => [(i, j)]
  | .ptr i _ _ _, .ptr j _ _ _ => [(i, j)]
  | .vw i _ _ _, .vw j _ _ _ => [(i, j)]
  | .agg l, .agg m => avPairsL l m
  | .tup l, .tup m => avPairsL l m
  | .clo _ l, .clo _ m => avPairsL l m
  | _, _ => []
def avPairsL : List AV → List AV → List (Nat × Nat)
  | a :: l, b :: m => avPairs a b ++ avPairsL l m
  | _, _ => []
end
@[go_sem] theorem avPairs_hdr (i j : Nat) : avPairs (.hdr i) (.hdr j) = [(i, j)] := rfl
@[go_sem] theorem avPairs_ptr (i j a b c d e f : Nat) : avPairs (.ptr i a b c) (.ptr j d e f) = [(i, j)] := rfl
@[go_sem] theorem avPairs_vw (i j a b c d e f : Nat) : avPairs (.vw i a b c) (.vw j d e f) = [(i, j)] := rfl
@[go_sem] theorem avPairs_agg (l m : List AV) : avPairs (.agg l) (.agg m) = avPairsL l m := rfl
@[go_sem] theorem avPairs_tup (l m : List AV) : avPairs (.tup l) (.tup m) = avPairsL l m := rfl
@[go_sem] theorem avPairs_clo (f g : Fn) (l m : List AV) : avPairs (.clo f l) (.clo g m) = avPairsL l m := rfl
@[go_sem] theorem avPairs_raw (v : Value) (a : AV) : avPairs (.raw v) a = [] := by cases a <;> rfl
@[go_sem] theorem avPairs_dead (a : AV) : avPairs .dead a = [] := by cases a <;> rfl
@[go_sem] theorem avPairs_sl (s : Nat) (r : List (List PV)) (a : AV) : avPairs (.sl s r) a = [] := by cases a <;> rfl
@[go_sem] theorem avPairs_spt (s : Nat) (r : List (List PV)) (k j : Nat) (a : AV) : avPairs (.spt s r k j) a = [] := by cases a <;> rfl
@[go_sem] theorem avPairs_hr (i : Nat) (v : Value) : avPairs (.hdr i) (.raw v) = [] := rfl
@[go_sem] theorem avPairsL_cons (a b : AV) (l m : List AV) : avPairsL (a :: l) (b :: m) = avPairs a b ++ avPairsL l m := rfl
@[go_sem] theorem avPairsL_nil (m : List AV) : avPairsL [] m = [] := by cases m <;> rfl
def lk (ps : List (Nat × Nat)) (i : Nat) : Nat := (find ps i).getD i
def avPairsT : List (Nat × AV) → List (Nat × AV) → List (Nat × Nat)
  | [], _ => []
  | (d, v) :: t, t' => avPairs v ((find t' d).getD .dead) ++ avPairsT t t'
def aoPairs : AO → Option AO → List (Nat × Nat)
  | .cells _ l, some (.cells _ m) => avPairsL l m
  | .frm _ t, some (.frm _ t') => avPairsT t t'
  | _, _ => []
@[go_sem] theorem aoPairs_cells (t u : TypeId) (l m : List AV) : aoPairs (.cells t l) (some (.cells u m)) = avPairsL l m := rfl
@[go_sem] theorem aoPairs_row (e s : Nat) (r : List (List PV)) (o : Option AO) : aoPairs (.row e s r) o = [] := by cases o <;> rfl
@[go_sem] theorem aoPairs_fro (s : Nat) (r : List (List PV)) (o : Option AO) : aoPairs (.fro s r) o = [] := by cases o <;> rfl
@[go_sem] theorem aoPairs_loop (tm : Array Value) (lc : LoopCode) (m : LM) (o : Option AO) : aoPairs (.loop tm lc m) o = [] := by cases o <;> rfl
@[go_sem] theorem aoPairs_frm (tm tm' : Array Value) (t t' : List (Nat × AV)) : aoPairs (.frm tm t) (some (.frm tm' t')) = avPairsT t t' := rfl
@[go_sem] theorem aoPairs_none (o : AO) : aoPairs o none = [] := by cases o <;> rfl
def stPairs (S : AS) : List (Nat × Option AO) → List (Nat × Nat) → List (Nat × Nat)
  | [], ps => ps
  | (i, some o) :: s, ps => stPairs S s (ps ++ aoPairs o (S.obj (lk ps i)))
  | (_, none) :: s, ps => stPairs S s ps
def up8 : List (Nat × Nat) → List (Nat × Nat)
  | [] => []
  | (i, j) :: l => if 8 ≤ i then (i, j) :: up8 l else up8 l
def tPairs (S : AS) : List (Nat × AV) → List (Nat × Nat)
  | [] => []
  | (d, v) :: t => avPairs v (S.get d) ++ tPairs S t
def loopL (S S' : AS) : List (Nat × Nat) := up8 (stPairs S S'.s (tPairs S S'.t))
def callL (S : AS) (args actual : List AV) (s : List (Nat × AO)) : List Nat :=
  let ps := stPairs S (somes s) (avPairsL args actual)
  [lk ps 0, lk ps 1, lk ps 2, lk ps 3, lk ps 4, lk ps 5, lk ps 6, lk ps 7]
def retL (v val : AV) (objs : List (Nat × AO)) (s : List (Nat × Option AO)) : List (Nat × Nat) := up8 (stPairs ⟨[], s, none⟩ (somes objs) (avPairs val v))
@[go_sem] theorem callL_eq (S : AS) (args actual : List AV) (s : List (Nat × AO)) : callL S args actual s = (fun ps => [lk ps 0, lk ps 1, lk ps 2, lk ps 3, lk ps 4, lk ps 5, lk ps 6, lk ps 7]) (stPairs S (somes s) (avPairsL args actual)) := rfl
attribute [go_sem] lk avPairsT stPairs up8 tPairs loopL retL somes

section
variable {P : Program} {dst : Option Nat} {n : Nat} {CN : Nat → AS → Prop} {S : AS} {actual caps args : List AV} {s : List (Nat × AO)} {val : AV} {objs : List (Nat × AO)} {f : FuncId}
theorem acall2 (bor : List Nat) (hf : FnOk P f args s val objs) {ι : List Nat} (_ : callL S args (actual ++ caps) s = ι) (h : CallFit ι n bor args (actual ++ caps) s val objs S) (hC : CN (n + 1) (fin dst (callEffW ι n S bor (actual ++ caps) s val objs) S)) : ACall P dst n CN S actual (.clo (.func f) caps) :=
  acall bor hf h hC
theorem acallF2 (l bor : List Nat) (hf : FnOk P f args s val objs) {ι : List Nat} (_ : callL S args (actual ++ caps) s = ι) (h : CallFit ι n bor args (actual ++ caps) s val objs (S.upd (frz S l))) (hC : CN (n + 1) (fin dst (frzEff S l (callEffW ι n (S.upd (frz S l)) bor (actual ++ caps) s val objs)) S)) : ACall P dst n CN S actual (.clo (.func f) caps) :=
  acallF l bor hf h hC
theorem acallR2 (l bor : List Nat) (hf : FnOk P f args s val objs) {ι : List Nat} (_ : callL S args (actual ++ caps) s = ι) (h : CallFit ι n bor args (actual ++ caps) s val objs S) (hk : keptB (callEff ι n S bor (actual ++ caps) s val objs) S (l.map (callMap ι n))) (hC : CN (n + 1) (fin dst (dropE (l.map (callMap ι n)) (callEffW ι n S bor (actual ++ caps) s val objs)) S)) : ACall P dst n CN S actual (.clo (.func f) caps) :=
  acallR l bor hf h hk hC
end
theorem ret2 {v val : AV} {objs : List (Nat × AO)} {s : List (Nat × Option AO)} {L : List (Nat × Nat)} (fr : List Nat) (_ : retL v val objs s = L) (e : EntF L 2 fr ⟨[(0, v)], s, none⟩ ⟨[(0, val)], somes objs, none⟩) : RetV v val objs s := ret_ent L fr e
theorem loop_end {X : Type} {St : X → AS} {inv : X → Prop} {μ : X → Nat} {n0 : Nat} {x : X} {S : AS} (fr : List Nat) (x' : X) {L : List (Nat × Nat)} (_ : loopL S (St x') = L) (h1 : μ x' < μ x) (e : EntF L n0 fr S (St x')) (h2 : inv x') : LoopEnd St inv μ n0 x S := ⟨x', L, fr, h2, h1, e⟩
theorem aloop2 {P : Program} {b : Code} {Q : Exit → Nat → AS → Prop} {S : AS} {X : Type} (fr : List Nat) (St : X → AS) (inv : X → Prop) (μ : X → Nat) (n0 : Nat) (x0 : X) {L0 : List (Nat × Nat)} (_ : loopL S (St x0) = L0) (e0 : EntF L0 n0 fr S (St x0)) (h0 : inv x0) (hr : ∀ x, inv x → AWP P b (loopX St inv μ n0 x Q) n0 (St x)) :
    ALoop (W (AWP P b)) Q S := aloop St inv μ n0 x0 L0 fr h0 e0 hr

theorem ex_get {α : Type} {xs : List α} {k : Nat} {C : α → Prop} (h : k < xs.length) (hC : C xs[k]) : ∃ x, xs[k]? = some x ∧ C x := ⟨_, by simp, hC⟩

/-! a law's arguments: whatever lies there never turns -/
def frzOf (w : World) : Frz := fun g => match w.heap[g]? with
  | some o => if isDefd o then none else some o
  | none => none
theorem frzOf_ro {w : World} {g : Nat} {o : Obj} (h : frzOf w g = some o) : w.heap[g]? = some o ∧ isDefd o = false := by
  unfold frzOf at h
  split at h
  · next o' ho =>
    split at h
    · cases h
    · next hd => injection h with h; subst h; exact ⟨ho, by simpa using hd⟩
  · cases h
theorem rcell_of {w : World} {b o : Nat} {v : Value} (h : w.cell? ⟨b, o, none⟩ = some v) : rcell (frzOf w) b o = some v := by
  unfold World.cell? at h
  unfold rcell frzOf
  cases hb : w.heap[b]? with
  | none => rw [hb] at h; cases h
  | some ob =>
    rw [hb] at h
    cases ob <;> first | exact h | cases h
def lawEnv (w : World) : Env := ⟨fun _ => none, frzOf w⟩
theorem args_law (w : World) : ArgsOk (lawEnv w) w [] :=
  ⟨(fun i x e => by cases e), (fun i o e => by cases e), (fun i j oi oj x y hne hi => by cases hi), fun g o h => (frzOf_ro h).1, (fun i o x g e => by cases e), fun g o h => (frzOf_ro h).2⟩
/-- what a contract says of a law: it comes back with what is told, and below nothing is turned. -/
theorem calls_fn {P : Program} {f : FuncId} {args : List AV} {v : Value} (h : FnOk P f args [] (.raw v) []) {w : World} {vs : List Value} (hr : RepL (lawEnv w) args vs) : Calls P f vs.toArray w (RetB v w) := by
  refine (h.2 _ w vs (args_law w) hr).mono ?_
  rintro e w' ⟨u, ρ', rfl, hm⟩
  have hv := hm.tmps 0
  simp only [AS.get, find, if_true, Option.getD_some, Rep] at hv
  refine ⟨by rw [show u = v by simpa using hv], hm.frame.os, hm.frame.tape, hm.frame.output, hm.frame.size, fun g hg => hm.frame.block g hg ?_⟩
  rintro ⟨i, o, x, e1, -⟩
  cases e1
/-- a slice of structs of plain cells. -/
theorem rep_sl {α : Type} {w : World} {A : Option Addr} {c s : Nat} {f : α → List PV} {g : α → List Value} {xs : List α} (hfg : ∀ x, f x = (g x).map .raw) (hr : RowAt w A s g xs) (hl : ∀ x, (g x).length = s) (h1 : ∀ x, ∀ u ∈ g x, u.oneCell' = true) (hc : xs.length ≤ c) : Rep (lawEnv w) (.sl s (xs.map f)) (.slice A xs.length c) := by
  simp only [Rep, PRep]
  refine ⟨A, c, by rw [List.length_map], by rw [List.length_map]; exact hc, PRows.mk_ fun k r hk => ?_⟩
  rw [List.getElem?_map] at hk
  cases hx : xs[k]? with
  | none => rw [hx] at hk; cases hk
  | some x =>
    rw [hx] at hk
    simp only [Option.map_some, Option.some.injEq] at hk
    subst hk
    obtain ⟨hkl, rfl⟩ := List.getElem?_eq_some_iff.1 hx
    obtain ⟨b, off, rfl, hb, hcell⟩ := hr k hkl
    rw [hfg]
    refine ⟨by simp [hl], b, off, rfl, PCells.mk_ fun i p hi => ?_⟩
    rw [List.getElem?_map] at hi
    cases hu : (g xs[k])[i]? with
    | none => rw [hu] at hi; cases hi
    | some u =>
      rw [hu] at hi
      simp only [Option.map_some, Option.some.injEq] at hi
      subst hi
      have hil : i < s := by rw [← hl xs[k]]; exact (List.getElem?_eq_some_iff.1 hu).1
      refine ⟨u, rcell_of ?_, h1 _ u (List.mem_of_getElem? hu), by simp [PRep]⟩
      rw [Nat.zero_add]
      exact (hcell i hil).trans hu

/-! contracts that were proved otherwise -/
theorem mod_plain {ρ : Env} {w w' : World} {s : List (Nat × AO)} {val : AV} {u : Value} (hA : ArgsOk ρ w s) (hv : Rep ρ val u) (hb : Below w.heap.size w w') :
    Mod ⟨1, liveB ρ s, w, ρ, fun _ => False⟩ (fun i => i < 16) ρ ⟨[(0, val)], somes [], none⟩ #[u] w' := by
  refine ⟨rfl, fun _ _ => rfl, SubR.refl _, fun i hi => by omega, fun i x e => ⟨by have := (hA.dom i x e).1; omega, (hA.dom i x e).2⟩, fun d => ?_, fun i o e => by simp [somes, AS.obj, find] at e, fun i j oi oj x y _ e => by simp [somes, AS.obj, find] at e,
    fun i o x g e => by simp [somes, AS.obj, find] at e, fun g o e => ?_, fun i o x g e => by simp [somes, AS.obj, find] at e, fun g o e => .inl e, hA.rdf, fun g e => e.elim, ⟨hb.os, hb.tape, hb.output, hb.size, fun g hg _ => hb.block g hg⟩⟩
  · unfold AS.get
    simp only [find]
    split
    · next e => subst e; simpa using hv
    · simp [Rep]
  · have h := hA.ro g o e
    rw [hb.block g (Array.getElem?_eq_some_iff.1 h).1]
    exact h
theorem repL_raws : ∀ {ρ : Env} {l vs : List Value}, RepL ρ (l.map .raw) vs → vs = l
  | _, [], [], _ => rfl
  | _, [], _ :: _, h => by simp [RepL] at h
  | _, _ :: _, [], h => by simp [RepL] at h
  | ρ, a :: l, v :: vs, h => by
    simp only [List.map_cons, RepL, Rep] at h
    rw [h.1, repL_raws h.2]
/-- a contract of a function that is handed one slice of integers, and numbers. -/
theorem fn_ints {P : Program} {f : FuncId} {xs : List Int} {rest : List Value} {val : AV} {u : Value} (hfn : fnB P f = true) (hv : ∀ ρ, Rep ρ val u)
    (h : ∀ A c w, IntsAt w A xs → xs.length ≤ c → Calls P f (.slice A xs.length c :: rest).toArray w (RetB u w)) : FnOk P f (.sl 1 (xs.map cInt) :: rest.map .raw) [] val [] := by
  refine ⟨hfn, fun ρ w vs hA hr => ?_⟩
  cases vs with
  | nil => simp [RepL] at hr
  | cons x vs =>
    simp only [RepL] at hr
    obtain ⟨h0, hr⟩ := hr
    obtain rfl := repL_raws hr
    simp only [Rep, PRep] at h0
    obtain ⟨A, c, rfl, hc, hrows⟩ := h0
    rw [List.length_map] at hc ⊢
    refine (h A c w (fun k hk => ?_) hc).mono ?_
    · obtain ⟨b, off, vs', rfl, hel⟩ := hrows.elem hA.ro (k := k) (r := cInt xs[k]) (by simp [hk])
      have h1 := hel.cell 0 (by omega)
      obtain ⟨v0, h2, h3⟩ := hel.rep.get (i := 0) (p := .raw (.int .i64 xs[k])) rfl
      simp only [PRep] at h3
      subst h3
      rw [h2] at h1
      simp only [Nat.mul_one, Nat.add_zero] at h1
      refine ⟨b, off, rfl, ?_, h1⟩
      unfold World.cell? at h1
      split at h1
      · next c e f hq => exact (Array.getElem?_eq_some_iff.1 hq).1
      · cases h1
    · rintro e w' ⟨rfl, hb⟩
      exact ⟨u, ρ, rfl, mod_plain hA (hv ρ) hb⟩
/-- a contract of the plain kind, of numbers alone. -/
theorem fn_plain {P : Program} {f : FuncId} {rest : List Value} {val : AV} {u : Value} (hfn : fnB P f = true) (hv : ∀ ρ, Rep ρ val u) (h : ∀ w, Calls P f rest.toArray w (RetB u w)) : FnOk P f (rest.map .raw) [] val [] := by
  refine ⟨hfn, fun ρ w vs hA hr => ?_⟩
  obtain rfl := repL_raws hr
  refine (h w).mono ?_
  rintro e w' ⟨rfl, hb⟩
  exact ⟨u, ρ, rfl, mod_plain hA (hv ρ) hb⟩
end Go.Proofs.Ytiidfcadmdahmaa
