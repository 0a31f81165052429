/- ENGINE (second) 8: what is shown as a proposition is so: statements and code; over any program. -/
import Derived.Test.YtiidfcadmdahmaaG7D
set_option linter.unusedSimpArgs false
set_option linter.unusedVariables false
namespace Go.Proofs.Ytiidfcadmdahmaa
open Go.RowKit

/-- a slot is told again. -/
theorem Mod.again {c : Ctx} {p : Nat → Prop} {ρ : Env} {S : AS} {tm : Array Value} {w : World} (h : Mod c p ρ S tm w) {d : Nat} {v : AV} (e : S.get d = v) : Mod c p ρ (S.put d v) tm w := by
  refine ⟨h.size, h.base, h.baseR, h.lo, h.dom, fun k => ?_, h.objs, h.apart, h.old, h.ro, h.rsep, h.rnew, h.rdf, h.dfr, h.frame⟩
  unfold AS.put AS.get
  simp only [find]
  by_cases hk : d = k
  · subst hk
    rw [if_pos rfl]
    simp only [Option.getD_some]
    rw [← e]
    exact h.tmps d
  · rw [if_neg hk]
    exact h.tmps k

theorem Mod.note {c : Ctx} {p : Nat → Prop} {ρ : Env} {S : AS} {tm : Array Value} {w : World} (h : Mod c p ρ S tm w) (r u : List Nat) : Mod c p ρ (S.note r u) tm w :=
  ⟨h.size, h.base, h.baseR, h.lo, h.dom, h.tmps, h.objs, h.apart, h.old, h.ro, h.rsep, h.rnew, h.rdf, h.dfr, h.frame⟩

theorem aops_sound {rd : Option Nat} {m0 : Nat} {P : Program} {D : List (Option Nat)} {opsA : Array Oper} (hD : ∀ j : Nat, D[j]? = (opsA[j]?).map (·.dst)) {c : Ctx} {Q : Exit → Act → World → Prop} {K : Nat → AS → Prop}
    (hQ : ∀ n S p ρ a w, K n S → Mod c p ρ S a.tmps w → (∀ i, p i → i / 8 < n) → DefOk c a w → Q .normal a w) :
    ∀ (ops : List Oper) (n : Nat) (S : AS) (p : Nat → Prop) (ρ : Env) (a : Act) (w : World), (∀ o ∈ ops, ∀ d, o.dst = some d → d < c.N) → AOps P D ops K n S → Mod c p ρ S a.tmps w → (∀ i, p i → i / 8 < n) → DefOk c a w → wpListIn (FW rd) m0 P opsA Q ops a w
  | [], n, S, p, ρ, a, w, _, h, hm, hn, ha => hQ n S p ρ a w h hm hn ha
  | o :: rest, n, S, p, ρ, a, w, hd, h, hm, hn, ha => by
    have ih := aops_sound (rd := rd) (m0 := m0) (P := P) hD hQ rest
    have hd' : ∀ o' ∈ rest, ∀ d, o'.dst = some d → d < c.N := fun o' ho' => hd o' (List.mem_cons_of_mem _ ho')
    have hdo : ∀ d, o.dst = some d → d < c.N := hd o List.mem_cons_self
    have hdf : ∀ v, DefOk c (a.put o.dst v) w := fun v => ha.put o.dst v
    -- it is done
    have does : ∀ S', Mod c p ρ S' a.tmps w → aop P o.op o.type o.dst n (AOps P D rest K) S' → Region.wanted o (yielded opsA a.tmps) = true → wpListIn (FW rd) m0 P opsA Q (o :: rest) a w := fun S' hm' h' hw => by
      show if Region.wanted o (yielded opsA a.tmps) then _ else _
      rw [if_pos hw]
      rcases aop_sound h' with ⟨E, h1, h2⟩ | ⟨-, hN⟩
      case inr => exact hN rd m0 c p ρ a w hdo hm' hn ha _ Q fun n' S2 p' ρ' a' w' hK hm2 hn2 ha2 => ih n' S2 p' ρ' a' w' hd' hK hm2 hn2 ha2
      refine h1 S' (fun _ _ => rfl) (fun _ _ => rfl) rd m0 (c.anew S' ρ w) p ρ a w hm'.rebase (fun i hi e => by have := hn i hi; omega) _ Q fun v ρ' w' hm3 hv => ?_
      have hm2 := hm'.back hm3
      exact ih (n + 1) _ _ ρ' _ w' hd' h2 ((hm2.put o.dst hv hdo).note _ _) (fun i hi => by rcases hi with hi | hi <;> first | (have := hn i hi; omega) | omega) ((ha.keep hm' hm3).put o.dst v)
    -- it is left out
    have skips : ∀ S', Mod c p ρ S' a.tmps w → skipK o.dst (AOps P D rest K (n + 1)) S' → Region.wanted o (yielded opsA a.tmps) = false → wpListIn (FW rd) m0 P opsA Q (o :: rest) a w := fun S' hm' h' hw => by
      show if Region.wanted o (yielded opsA a.tmps) then _ else _
      rw [hw]
      refine ⟨fun _ _ => trivial, ?_⟩
      exact ih (n + 1) _ p ρ _ w hd' h' ((Mod.put (S := S'.upd []) hm' o.dst (by simp [Rep]) hdo).note _ _) (fun i hi => by have := hn i hi; omega) (hdf undef)
    have h : aguard D _ _ S o.guard := h
    cases hg : o.guard with
    | none =>
      rw [hg] at h
      exact does S hm h (by simp [Region.wanted, hg])
    | some q =>
      obtain ⟨j, want⟩ := q
      rw [hg] at h
      unfold aguard at h
      dsimp only at h
      split at h
      · next d hDj =>
        have hbind : (opsA[j]?).bind (·.dst) = some d := by
          have := hD j
          rw [hDj] at this
          cases ho : opsA[j]? with
          | none => rw [ho] at this; simp at this
          | some oj => rw [ho] at this; simp at this; simp [this]
        generalize hv : S.get d = v at h
        unfold gsplit at h
        split at h
        · next l =>
          have hb : a.tmps.getD d undef = .tuple l := by
            have := hm.tmps d
            rw [hv] at this
            simpa [Rep] using this
          exact skips _ hm h (by simp [Region.wanted, hg, yielded_bv hbind hb, bv])
        · next b =>
          have hb : a.tmps.getD d undef = .bool b := by
            have := hm.tmps d
            rw [hv] at this
            simpa [Rep] using this
          have hy : yielded opsA a.tmps j = some b := yielded_bv hbind hb
          by_cases e : b = want
          · subst e
            exact does _ (hm.again hv) (h.1 rfl) (by simp [Region.wanted, hg, hy])
          · have e' : b = !want := by cases b <;> cases want <;> simp_all
            exact skips _ (hm.again (hv.trans (by rw [e']))) (h.2 e') (by simp [Region.wanted, hg, hy, e'])
        · exact h.elim
      · exact h.elim

def seqK (B : Nat → AS → Prop) (Q : Exit → Nat → AS → Prop) : Exit → Nat → AS → Prop
  | .normal => B
  | e => Q e
def blockK (id : Nat) (Q : Exit → Nat → AS → Prop) : Exit → Nat → AS → Prop
  | .exit i => if i = id then Q .normal else Q (.exit i)
  | e => Q e
def kCond (T F : AS → Prop) (S : AS) : AV → Prop
  | .raw (.bool b) => (b = true → T S) ∧ (b = false → F S)
  | _ => False

/-! what a state says of another one's: names of objects are told anew -/
mutual
def AV.ren (m : Nat → Nat) : AV → AV
  | .dead => .dead
  | .raw v => .raw v
  | .sl s rows => .sl s rows
  | .hdr i => .hdr (m i)
  | .ptr i s k j => .ptr (m i) s k j
  | .vw i s l h => .vw (m i) s l h
  | .spt s rows k j => .spt s rows k j
  | .agg l => .agg (renL m l)
  | .tup l => .tup (renL m l)
  | .clo f l => .clo f (renL m l)
def renL (m : Nat → Nat) : List AV → List AV
  | [] => []
  | a :: l => a.ren m :: renL m l
end
mutual
/-- all names that occur are below 8 n. -/
def AV.bd (n : Nat) : AV → Bool
  | .dead => true
  | .raw _ => true
  | .sl _ _ => true
  | .hdr i => decide (i / 8 < n)
  | .ptr i _ _ _ => decide (i / 8 < n)
  | .vw i _ _ _ => decide (i / 8 < n)
  | .spt _ _ _ _ => true
  | .agg l => bdL n l
  | .tup l => bdL n l
  | .clo _ l => bdL n l
def bdL (n : Nat) : List AV → Bool
  | [] => true
  | a :: l => a.bd n && bdL n l
end
def renT (m : Nat → Nat) : List (Nat × AV) → List (Nat × AV)
  | [] => []
  | (d, v) :: t => (d, v.ren m) :: renT m t
def bdT (n : Nat) : List (Nat × AV) → Bool
  | [] => true
  | (_, v) :: t => v.bd n && bdT n t
theorem find_renT {m : Nat → Nat} {d : Nat} : ∀ (t : List (Nat × AV)), find (renT m t) d = (find t d).map (AV.ren m)
  | [] => rfl
  | (k, v) :: t => by
    simp only [renT, find]
    split
    · rfl
    · exact find_renT t
theorem find_bdT {n d : Nat} : ∀ {t : List (Nat × AV)} {v : AV}, bdT n t = true → find t d = some v → v.bd n = true
  | [], _, _, h => by cases h
  | (k, u) :: t, v, hb, h => by
    simp only [bdT, Bool.and_eq_true] at hb
    simp only [find] at h
    split at h
    · injection h with h; subst h; exact hb.1
    · exact find_bdT hb.2 h
def AO.ren (m : Nat → Nat) : AO → AO
  | .cells t l => .cells t (renL m l)
  | .row e s r => .row e s r
  | .fro s r => .fro s r
  | .loop tm lc md => .loop tm lc md
  | .frm tm t => .frm tm (renT m t)
def AO.bd (n : Nat) : AO → Bool
  | .cells _ l => bdL n l
  | .frm _ t => bdT n t
  | _ => true
mutual
theorem Rep.ren {ρ ρ' : Env} {m : Nat → Nat} {n : Nat} (h : ∀ i x, i / 8 < n → ρ.f (m i) = some x → ρ'.f i = some x) (hR : SubR ρ.R ρ'.R) : ∀ (a : AV) (v : Value), a.bd n = true → Rep ρ (a.ren m) v → Rep ρ' a v
  | .dead, _, _, _ => by simp [Rep]
  | .raw _, _, _, e => by simpa [AV.ren, Rep] using e
  | .sl s rows, v, _, e => by simp only [AV.ren, Rep] at e ⊢; exact e.sub hR
  | .hdr i, v, hb, e => by simp only [AV.ren, Rep] at e ⊢; exact h i v (by simpa [AV.bd] using hb) e
  | .ptr i s k j, v, hb, e => by
    simp only [AV.ren, Rep] at e ⊢
    obtain ⟨x, b, o, h1, h2, h3⟩ := e
    exact ⟨x, b, o, h i x (by simpa [AV.bd] using hb) h1, h2, h3⟩
  | .vw i s l hh, v, hb, e => by
    simp only [AV.ren, Rep] at e ⊢
    obtain ⟨A, n', c, h1, h2⟩ := e
    exact ⟨A, n', c, h i _ (by simpa [AV.bd] using hb) h1, h2⟩
  | .spt s rows k j, v, _, e => by
    simp only [AV.ren, Rep] at e ⊢
    obtain ⟨b, o, h1, h2⟩ := e
    exact ⟨b, o, h1, h2.sub hR⟩
  | .agg l, v, hb, e => by
    simp only [AV.ren, Rep] at e ⊢
    obtain ⟨cs, h1, h2⟩ := e
    exact ⟨cs, h1, RepL.ren h hR l cs (by simpa [AV.bd] using hb) h2⟩
  | .tup l, v, hb, e => by
    simp only [AV.ren, Rep] at e ⊢
    obtain ⟨cs, h1, h2⟩ := e
    exact ⟨cs, h1, RepL.ren h hR l cs (by simpa [AV.bd] using hb) h2⟩
  | .clo f l, v, hb, e => by
    simp only [AV.ren, Rep] at e ⊢
    obtain ⟨cs, h1, h2⟩ := e
    exact ⟨cs, h1, RepL.ren h hR l cs (by simpa [AV.bd] using hb) h2⟩
theorem RepL.ren {ρ ρ' : Env} {m : Nat → Nat} {n : Nat} (h : ∀ i x, i / 8 < n → ρ.f (m i) = some x → ρ'.f i = some x) (hR : SubR ρ.R ρ'.R) : ∀ (l : List AV) (vs : List Value), bdL n l = true → RepL ρ (renL m l) vs → RepL ρ' l vs
  | [], [], _, _ => by simp [RepL]
  | [], _ :: _, _, e => by simp [renL, RepL] at e
  | _ :: _, [], _, e => by simp [renL, RepL] at e
  | a :: l, v :: vs, hb, e => by
    simp only [renL, RepL] at e ⊢
    simp only [bdL, Bool.and_eq_true] at hb
    exact ⟨Rep.ren h hR a v hb.1 e.1, RepL.ren h hR l vs hb.2 e.2⟩
end
theorem ObjAt.ren {ρ ρ' : Env} {m : Nat → Nat} {n : Nat} (h : ∀ i x, i / 8 < n → ρ.f (m i) = some x → ρ'.f i = some x) (hR : SubR ρ.R ρ'.R) {w : World} {x : Value} {o : AO} (hb : o.bd n = true) (ho : ObjAt ρ w x (o.ren m)) : ObjAt ρ' w x o := by
  cases o with
  | cells t l =>
    obtain ⟨g, cs, h1, h2, h3, h4⟩ := ho
    exact ⟨g, cs, h1, h2, RepL.ren h hR l cs hb h3, h4⟩
  | row e s r =>
    obtain ⟨vals, h1, h2⟩ := ho
    exact ⟨vals, h1.sub hR, h2⟩
  | fro s r => exact PRep.sub hR _ _ ho
  | loop tm lc md => exact ho
  | frm tm t =>
    intro d v hv
    rw [find'_eq] at hv
    have := ho d (v.ren m) (by rw [find'_eq, find_renT, hv]; rfl)
    exact Rep.ren h hR v _ (find_bdT hb hv) this
theorem oblk_ren (x : Value) (o : AO) (m : Nat → Nat) : oblk x (o.ren m) = oblk x o := by cases o <;> rfl
theorem find_mem {α : Type} {l : List (Nat × α)} {i : Nat} {v : α} (h : find l i = some v) : (i, v) ∈ l := by
  induction l with
  | nil => simp [find] at h
  | cons p l ih =>
    obtain ⟨k, u⟩ := p
    simp only [find] at h
    split at h
    · next e => subst e; cases h; exact List.mem_cons_self
    · exact List.mem_cons_of_mem _ (ih h)

def mapOf (L : List (Nat × Nat)) (i : Nat) : Nat := (find L i).getD i
/-- nothing serves as an empty slice. -/
def NilS : AV → AV → Prop
  | .sl _ [], .raw (.slice none 0 0) => True
  | _, _ => False
theorem NilS.cases_ {v a : AV} (h : NilS v a) : ∃ s, v = .sl s [] ∧ a = .raw (.slice none 0 0) := by
  unfold NilS at h
  split at h
  · exact ⟨_, rfl, rfl⟩
  · exact h.elim
/-- a value at hand serves as the one told. -/
def Serves (S : AS) (v a : AV) : Prop := v = a ∨ v = S.see a ∨ NilS v a
def ServesL (S : AS) : List AV → List AV → Prop
  | [], [] => True
  | v :: l, a :: m => Serves S v a ∧ ServesL S l m
  | _, _ => False
def ServesT (S : AS) (t' : List (Nat × AV)) : List (Nat × AV) → Prop
  | [] => True
  | (d, v) :: t => Serves S v ((find t' d).getD .dead) ∧ ServesT S t' t
def ServesO (S : AS) : AO → Option AO → Prop
  | .cells t l, some (.cells t' l') => t = t' ∧ ServesL S l l'
  | .frm tm t, some (.frm tm' t') => tm = tm' ∧ ServesT S t' t
  | o, some o' => o = o'
  | _, none => False
theorem Serves.rep {c : Ctx} {p : Nat → Prop} {ρ : Env} {S : AS} {tm : Array Value} {w : World} (hm : Mod c p ρ S tm w) {v a : AV} {u : Value} (h : Serves S v a) (hr : Rep ρ a u) : Rep ρ v u := by
  rcases h with rfl | rfl | h
  · exact hr
  · exact hm.see _ _ hr
  · obtain ⟨s, rfl, rfl⟩ := h.cases_
    simp only [Rep] at hr
    subst hr
    simp only [Rep, PRep]
    exact ⟨none, 0, rfl, Nat.le_refl _, by simp [PRows]⟩
theorem ServesL.rep {c : Ctx} {p : Nat → Prop} {ρ : Env} {S : AS} {tm : Array Value} {w : World} (hm : Mod c p ρ S tm w) : ∀ {l l' : List AV} {us : List Value}, ServesL S l l' → RepL ρ l' us → RepL ρ l us
  | [], [], _, _, h => h
  | v :: l, a :: m, [], _, h => by simp [RepL] at h
  | v :: l, a :: m, u :: us, h, hr => by
    simp only [RepL] at hr ⊢
    exact ⟨h.1.rep hm hr.1, ServesL.rep hm h.2 hr.2⟩
  | [], _ :: _, _, h, _ => h.elim
  | _ :: _, [], _, h, _ => h.elim
theorem ServesT.rep {c : Ctx} {p : Nat → Prop} {ρ : Env} {S : AS} {tm : Array Value} {w : World} (hm : Mod c p ρ S tm w) {t' : List (Nat × AV)} {tm' : Array Value} (ht : ∀ d v, find t' d = some v → Rep ρ v (tm'.getD d undef)) : ∀ {t : List (Nat × AV)}, ServesT S t' t → ∀ d v, find t d = some v → Rep ρ v (tm'.getD d undef)
  | [], _, d, v, h => by cases h
  | (k, u) :: t, hs, d, v, h => by
    simp only [find] at h
    split at h
    · next e =>
      subst e
      injection h with h
      subst h
      refine hs.1.rep hm ?_
      cases hq : find t' k with
      | none => simp [Rep]
      | some a => exact ht k a hq
    · exact ServesT.rep hm ht hs.2 d v h
theorem ServesO.at_ {c : Ctx} {p : Nat → Prop} {ρ : Env} {S : AS} {tm : Array Value} {w : World} (hm : Mod c p ρ S tm w) {o : AO} {q : Option AO} (h : ServesO S o q) : ∃ o', q = some o' ∧ (∀ x, ObjAt ρ w x o' → ObjAt ρ w x o) ∧ ∀ x, oblk x o = oblk x o' := by
  cases q with
  | none => cases o <;> exact h.elim
  | some o' =>
    refine ⟨o', rfl, ?_⟩
    cases o with
    | cells t l =>
      cases o' with
      | cells t' l' =>
        obtain ⟨rfl, h⟩ := h
        refine ⟨fun x ⟨g, cs, h1, h2, h3, h4⟩ => ⟨g, cs, h1, h2, h.rep hm h3, h4⟩, fun x => rfl⟩
      | _ => cases h
    | frm tm1 t =>
      cases o' with
      | frm tm2 t' =>
        obtain ⟨rfl, h⟩ := h
        refine ⟨fun x hx => ?_, fun x => rfl⟩
        intro d v hv
        rw [find'_eq] at hv
        exact h.rep hm (fun d v hv => hx d v (by rw [find'_eq]; exact hv)) d v hv
      | _ => cases h
    | row e s r => cases o' <;> first | (cases h; exact ⟨fun x hx => hx, fun x => rfl⟩) | cases h
    | fro s r => cases o' <;> first | (cases h; exact ⟨fun x hx => hx, fun x => rfl⟩) | cases h
    | loop tm1 lc md => cases o' <;> first | (cases h; exact ⟨fun x hx => hx, fun x => rfl⟩) | cases h
/-- the state S says what S' says, whose names are below 8 n; some of them are others in S. -/
def Ent (L : List (Nat × Nat)) (n : Nat) (S S' : AS) : Prop :=
  (0 < n ∧ ∀ q ∈ L, 8 ≤ q.1) ∧ (∀ q ∈ S'.t, q.2.bd n = true ∧ Serves S (q.2.ren (mapOf L)) (S.get q.1)) ∧
  (∀ q ∈ S'.s, q.1 / 8 < n ∧ match q.2 with | some o => o.bd n = true ∧ ServesO S (o.ren (mapOf L)) (S.obj (mapOf L q.1)) | none => False) ∧
  S'.s.Pairwise (fun q r => q.1 ≠ r.1 → mapOf L q.1 ≠ mapOf L r.1)
theorem pairwise_ne {l : List (Nat × Option AO)} {m : Nat → Nat} (h : l.Pairwise (fun q r => q.1 ≠ r.1 → m q.1 ≠ m r.1)) {q r : Nat × Option AO} (hq : q ∈ l) (hr : r ∈ l) (hne : q.1 ≠ r.1) : m q.1 ≠ m r.1 := by
  induction l with
  | nil => cases hq
  | cons a l ih =>
    rw [List.pairwise_cons] at h
    rcases List.mem_cons.1 hq with e1 | hq' <;> rcases List.mem_cons.1 hr with e2 | hr'
    · subst e1; subst e2; exact absurd rfl hne
    · subst e1; exact h.1 r hr' hne
    · subst e2; exact fun e => h.1 q hq' (Ne.symm hne) e.symm
    · exact ih h.2 hq' hr'
theorem Ent.mod {L : List (Nat × Nat)} {n : Nat} {S S' : AS} (h : Ent L n S S') {c : Ctx} {p : Nat → Prop} {ρ : Env} {tm : Array Value} {w : World} (hm : Mod c p ρ S tm w) :
    ∃ ρ', Mod c (fun i => i / 8 < n) ρ' S' tm w := by
  obtain ⟨⟨hn, hL⟩, ht, hs, hpw⟩ := h
  have hlow : ∀ i, i < 8 → mapOf L i = i := fun i hi => by
    unfold mapOf
    cases e : find L i with
    | none => rfl
    | some j => have := hL _ (find_mem e); dsimp only at this; omega
  have hren : ∀ i x, i / 8 < n → ρ.f (mapOf L i) = some x → (if i / 8 < n then ρ.f (mapOf L i) else none) = some x := fun i x hi e => by rw [if_pos hi]; exact e
  have hobj : ∀ i o, S'.obj i = some o → i / 8 < n ∧ o.bd n = true ∧ ServesO S (o.ren (mapOf L)) (S.obj (mapOf L i)) ∧ (i, some o) ∈ S'.s := fun i o e => by
    unfold AS.obj at e
    cases hf : find S'.s i with
    | none => rw [hf] at e; simp at e
    | some q =>
      rw [hf] at e
      simp only [Option.getD_some] at e
      subst e
      have hmem := find_mem hf
      have := hs _ hmem
      exact ⟨this.1, this.2.1, this.2.2, hmem⟩
  refine ⟨⟨fun i => if i / 8 < n then ρ.f (mapOf L i) else none, ρ.R⟩, hm.size, fun i hi => ?_, hm.baseR, fun i hi => by omega, fun i x e => ?_, fun d => ?_, fun i o e => ?_, ?_, ?_, hm.ro, ?_, hm.rnew, hm.rdf, hm.dfr, hm.frame⟩
  · show (if _ then _ else _) = _
    rw [if_pos (by omega), hlow i hi]; exact hm.base i hi
  · have e : (if i / 8 < n then ρ.f (mapOf L i) else none) = some x := e
    split at e
    · next hi => exact ⟨hi, (hm.dom _ x e).2⟩
    · cases e
  · unfold AS.get
    cases hf : find S'.t d with
    | none => simp [Rep]
    | some v =>
      have := ht _ (find_mem hf)
      simp only [Option.getD_some]
      exact Rep.ren (ρ' := ⟨_, ρ.R⟩) hren (SubR.refl _) v _ this.1 (this.2.rep hm (hm.tmps d))
  · obtain ⟨h1, h2, h3, -⟩ := hobj i o e
    obtain ⟨o', k1, k2, -⟩ := h3.at_ hm
    obtain ⟨x, h4, h5⟩ := hm.objs _ _ k1
    exact ⟨x, hren i x h1 h4, (k2 x h5).ren (ρ' := ⟨_, ρ.R⟩) hren (SubR.refl _) h2⟩
  · intro i j oi oj x y hne hi hj hx hy g hg hg'
    obtain ⟨h1, h2, h3, h4⟩ := hobj i oi hi
    obtain ⟨k1, k2, k3, k4⟩ := hobj j oj hj
    have hx : (if i / 8 < n then ρ.f (mapOf L i) else none) = some x := hx
    have hy : (if j / 8 < n then ρ.f (mapOf L j) else none) = some y := hy
    rw [if_pos h1] at hx
    rw [if_pos k1] at hy
    obtain ⟨o1, a1, -, a3⟩ := h3.at_ hm
    obtain ⟨o2, b1, -, b3⟩ := k3.at_ hm
    exact hm.apart _ _ _ _ x y (pairwise_ne hpw h4 k4 hne) a1 b1 hx hy g (by rw [← a3, oblk_ren]; exact hg) (by rw [← b3, oblk_ren]; exact hg')
  · intro i o x g hi hx hg
    obtain ⟨h1, h2, h3, h4⟩ := hobj i o hi
    have hx : (if i / 8 < n then ρ.f (mapOf L i) else none) = some x := hx
    rw [if_pos h1] at hx
    obtain ⟨o1, a1, -, a3⟩ := h3.at_ hm
    exact hm.old _ _ x g a1 hx (by rw [← a3, oblk_ren]; exact hg)
  · intro i o x g hi hx hg
    obtain ⟨h1, h2, h3, h4⟩ := hobj i o hi
    have hx : (if i / 8 < n then ρ.f (mapOf L i) else none) = some x := hx
    rw [if_pos h1] at hx
    obtain ⟨o1, a1, -, a3⟩ := h3.at_ hm
    exact hm.rsep _ _ x g a1 hx (by rw [← a3, oblk_ren]; exact hg)

/-- the same, some own rows never turning again. -/
def EntF (L : List (Nat × Nat)) (n : Nat) (fr : List Nat) (S S' : AS) : Prop := Ent L n (S.upd (frz S fr)) S'
theorem EntF.mod {L : List (Nat × Nat)} {n : Nat} {fr : List Nat} {S S' : AS} (h : EntF L n fr S S') {c : Ctx} {p : Nat → Prop} {ρ : Env} {tm : Array Value} {w : World} (hm : Mod c p ρ S tm w) :
    ∃ ρ', Mod c (fun i => i / 8 < n) ρ' S' tm w := by
  obtain ⟨R', -, h1⟩ := hm.frz fr
  exact Ent.mod h h1
def loopK (I : Nat → AS → Prop) (n0 m : Nat) (Q : Exit → Nat → AS → Prop) : Exit → Nat → AS → Prop
  | .normal => fun _ S => ∃ m' S' L fr, m' < m ∧ I m' S' ∧ EntF L n0 fr S S'
  | e => Q e
/-- a loop: what holds ahead of each round, and a number that falls. -/
def ALoop (F : (Exit → Nat → AS → Prop) → Nat → AS → Prop) (Q : Exit → Nat → AS → Prop) (S : AS) : Prop :=
  ∃ (I : Nat → AS → Prop) (n0 : Nat), (∃ m S' L fr, I m S' ∧ EntF L n0 fr S S') ∧ ∀ m S', I m S' → F (loopK I n0 m Q) n0 S'
def ARegion (P : Program) (ops : List Oper) (K : Nat → AS → Prop) (n : Nat) (S : AS) : Bool → Prop
  | true => P.follows .mixedOrders = true ∧ AOps P (ops.map (·.dst)) ops (drawK ops K) n ⟨S.t, S.s, some []⟩
  | false => AOps P (ops.map (·.dst)) ops K n S

def Lift (c : Ctx) (Q : Exit → Nat → AS → Prop) (e : Exit) (a : Act) (w : World) : Prop :=
  DefOk c a w ∧ ∃ n S p ρ, Q e n S ∧ Mod c p ρ S a.tmps w ∧ ∀ i, p i → i / 8 < n

/-- no loop over a function within. -/
def rgB : Code → Bool
  | .seq a b => rgB a && rgB b
  | .cond _ a b => rgB a && rgB b
  | .block _ b => rgB b
  | .loop b => rgB b
  | .rangeFunc .. => false
  | _ => true
def dstB (N : Nat) : Code → Bool
  | .region _ ops _ => ops.toList.all fun o => match o.dst with | some d => decide (d < N) | none => true
  | .seq a b => dstB N a && dstB N b
  | .cond _ a b => dstB N a && dstB N b
  | .block _ b => dstB N b
  | .loop b => dstB N b
  | .rangeFunc _ ps a b => dstB N a && dstB N b && ps.all (decide <| · < N) && rgB a && rgB b
  | _ => true

/-- a loop over a function: what must be shown. -/
def ARange (P : Program) (g : Operand) (ps : Array Tmp) (asg body : Code) (Q : Exit → Nat → AS → Prop) (n : Nat) (S : AS) : Prop :=
  ∀ (m0 : Nat) (c : Ctx) (p : Nat → Prop) (ρ : Env) (a : Act) (w : World), dstB c.N asg = true → dstB c.N body = true → (∀ t ∈ ps, t < c.N) → rgB asg = true → rgB body = true → Mod c p ρ S a.tmps w → (∀ i, p i → i / 8 < n) → DefOk c a w →
    (Code.rangeFunc g ps asg body).wpIn (FW none) m0 P (Lift c Q) a w
/-- code. -/
def AWP (P : Program) : Code → (Exit → Nat → AS → Prop) → Nat → AS → Prop
  | .skip, Q, n, S => Q .normal n S
  | .region _ ops d, Q, n, S => ARegion P ops.toList (Q .normal) n S d
  | .seq a b, Q, n, S => AWP P a (seqK (AWP P b Q) Q) n S
  | .cond c x y, Q, n, S => kCond (AWP P x Q n) (AWP P y Q n) S (S.val c)
  | .block id b, Q, n, S => AWP P b (blockK id Q) n S
  | .loop b, Q, _, S => ALoop (AWP P b) Q S
  | .exit id, Q, n, S => Q (.exit id) n S
  | .ret, Q, n, S => Q .ret n S
  | .rangeFunc g ps asg body, Q, n, S => ARange P g ps asg body Q n S
  | _, _, _, _ => False

theorem least_of {p : Nat → Prop} (h : ∃ m, p m) : ∃ m, p m ∧ ∀ k, p k → m ≤ k := by
  classical
  obtain ⟨m, hm⟩ := h
  induction m using Nat.strongRecOn with
  | _ m ih =>
    by_cases hx : ∃ k, k < m ∧ p k
    · obtain ⟨k, hk, hp⟩ := hx
      exact ih k hk hp
    · exact ⟨m, hm, fun k hk => Nat.le_of_not_lt (fun hlt => hx ⟨k, hlt, hk⟩)⟩

theorem awp_sound {rd : Option Nat} {m0 : Nat} {P : Program} {c : Ctx} : ∀ (code : Code) (Q : Exit → Nat → AS → Prop) (n : Nat) (S : AS) (p : Nat → Prop) (ρ : Env) (a : Act) (w : World), (rd = none ∨ rgB code = true) → dstB c.N code = true → AWP P code Q n S → Mod c p ρ S a.tmps w → (∀ i, p i → i / 8 < n) → DefOk c a w →
    code.wpIn (FW rd) m0 P (Lift c Q) a w
  | .skip, Q, n, S, p, ρ, a, w, hrg, _, h, hm, hn, ha => wpIn_skip ⟨ha, n, S, p, ρ, h, hm, hn⟩
  | .exit id, Q, n, S, p, ρ, a, w, hrg, _, h, hm, hn, ha => wpIn_exit ⟨ha, n, S, p, ρ, h, hm, hn⟩
  | .ret, Q, n, S, p, ρ, a, w, hrg, _, h, hm, hn, ha => wpIn_ret ⟨ha, n, S, p, ρ, h, hm, hn⟩
  | .region id ops d, Q, n, S, p, ρ, a, w, hrg, hd, h, hm, hn, ha => by
    have hd' : ∀ o ∈ ops.toList, ∀ d, o.dst = some d → d < c.N := fun o ho d e => by
      have := List.all_eq_true.1 hd o ho
      rw [e] at this
      simpa using this
    have hK : ∀ n' S' p' ρ' (a' : Act) w', Q .normal n' S' → Mod c p' ρ' S' a'.tmps w' → (∀ i, p' i → i / 8 < n') → DefOk c a' w' → Lift c Q .normal a' w' := fun n' S' p' ρ' a' w' h1 h2 h3 h4 => ⟨h4, n', S', p', ρ', h1, h2, h3⟩
    cases d with
    | false =>
      have h : AOps P (ops.toList.map (·.dst)) ops.toList (Q .normal) n S := h
      refine wpIn_region_list ?_
      refine aops_sound (P := P) (D := ops.toList.map (·.dst)) (opsA := ops) (fun j => by simp) hK ops.toList n S p ρ a w hd' h hm hn ha
    | true =>
      have h : P.follows .mixedOrders = true ∧ AOps P (ops.toList.map (·.dst)) ops.toList (drawK ops.toList (Q .normal)) n ⟨S.t, S.s, some []⟩ := h
      have := draw_sound h.1 h.2 rd m0 c id p ρ a w (Lift c Q) hd' hm hn ha hK
      simpa using this
  | .seq x y, Q, n, S, p, ρ, a, w, hrg, hd, h, hm, hn, ha => by
    simp only [dstB, Bool.and_eq_true] at hd
    refine wpIn_seq (wpIn_mono (awp_sound x _ n S p ρ a w (hrg.imp_right fun e => (Bool.and_eq_true_iff.1 e).1) hd.1 h hm hn ha) ?_)
    rintro e a' w' ⟨h1, n', S', p', ρ', h2, h3, h4⟩
    cases e with
    | normal => exact awp_sound y Q n' S' p' ρ' a' w' (hrg.imp_right fun e => (Bool.and_eq_true_iff.1 e).2) hd.2 h2 h3 h4 h1
    | _ => exact ⟨h1, n', S', p', ρ', h2, h3, h4⟩
  | .cond cx x y, Q, n, S, p, ρ, a, w, hrg, hd, h, hm, hn, ha => by
    simp only [dstB, Bool.and_eq_true] at hd
    have h : kCond (AWP P x Q n) (AWP P y Q n) S (S.val cx) := h
    generalize hv : S.val cx = v at h
    unfold kCond at h
    split at h
    · next b =>
      refine wpIn_cond_split (hm.raw hv) (fun e => ?_) (fun e => ?_)
      · exact awp_sound x Q n S p ρ a w (hrg.imp_right fun e => (Bool.and_eq_true_iff.1 e).1) hd.1 (h.1 e) hm hn ha
      · exact awp_sound y Q n S p ρ a w (hrg.imp_right fun e => (Bool.and_eq_true_iff.1 e).2) hd.2 (h.2 e) hm hn ha
    · exact h.elim
  | .block id b, Q, n, S, p, ρ, a, w, hrg, hd, h, hm, hn, ha => by
    refine wpIn_block (wpIn_mono (awp_sound b _ n S p ρ a w hrg hd h hm hn ha) ?_)
    rintro e a' w' ⟨h1, n', S', p', ρ', h2, h3, h4⟩
    cases e with
    | exit i =>
      unfold blockK at h2
      unfold Exit.inBlock
      dsimp only at h2 ⊢
      split at h2
      · next e => rw [if_pos e]; exact ⟨h1, n', S', p', ρ', h2, h3, h4⟩
      · next e => rw [if_neg e]; exact ⟨h1, n', S', p', ρ', h2, h3, h4⟩
    | _ => exact ⟨h1, n', S', p', ρ', h2, h3, h4⟩
  | .loop b, Q, n, S, p, ρ, a, w, hrg, hd, h, hm, hn, ha => by
    obtain ⟨I, n0, ⟨m0, S0, L0, fr0, hI0, hE0⟩, hround⟩ := h
    let J : Nat → Act → World → Prop := fun m a w => DefOk c a w ∧ ∃ S' ρ', I m S' ∧ Mod c (fun i => i / 8 < n0) ρ' S' a.tmps w
    have hJ0 : J m0 a w := by
      obtain ⟨ρ', h1⟩ := hE0.mod hm
      exact ⟨ha, S0, ρ', hI0, h1⟩
    classical
    let μ : Act → World → Nat := fun a w => if h : ∃ m, J m a w then Classical.choose (least_of h) else 0
    have hμ : ∀ m a w, J m a w → μ a w ≤ m ∧ J (μ a w) a w := fun m a w hj => by
      have he : ∃ m, J m a w := ⟨m, hj⟩
      simp only [μ, dif_pos he]
      have hs := Classical.choose_spec (least_of he)
      exact ⟨hs.2 m hj, hs.1⟩
    refine wpIn_loop (fun a w => ∃ m, J m a w) μ ⟨m0, hJ0⟩ ?_
    rintro a' w' ⟨m, hj⟩
    obtain ⟨-, hj1, S', ρ', hI, hm'⟩ := hμ m a' w' hj
    refine wpIn_mono (awp_sound b _ n0 S' _ ρ' a' w' hrg hd (hround _ S' hI) hm' (fun i hi => hi) hj1) ?_
    rintro e a2 w2 ⟨h1, n2, S2, p2, ρ2, h2, h3, h4⟩
    cases e with
    | normal =>
      obtain ⟨m', S3, L, fr3, hlt, hI3, hE3⟩ := h2
      obtain ⟨ρ3, h5⟩ := hE3.mod h3
      have hj3 : J m' a2 w2 := ⟨h1, S3, ρ3, hI3, h5⟩
      exact ⟨⟨m', hj3⟩, Nat.lt_of_le_of_lt (hμ m' a2 w2 hj3).1 hlt⟩
    | _ => exact ⟨h1, n2, S2, p2, ρ2, h2, h3, h4⟩
  | .rangeFunc g ps asg body, Q, n, S, p, ρ, a, w, hrg, hd, h, hm, hn, ha => by
    rcases hrg with rfl | hrg
    · simp only [dstB, Bool.and_eq_true] at hd
      obtain ⟨⟨⟨⟨h1, h2⟩, h3⟩, h4⟩, h5⟩ := hd
      exact h m0 c p ρ a w h1 h2 (fun t ht => by have := Array.all_eq_true_iff_forall_mem.1 h3 t ht; simpa using this) h4 h5 hm hn ha
    · cases hrg
  | .scope .., _, _, _, _, _, _, _, _, _, h, _, _, _ => h.elim
  | .label .., _, _, _, _, _, _, _, _, _, h, _, _, _ => h.elim
  | .goto .., _, _, _, _, _, _, _, _, _, h, _, _, _ => h.elim
  | .refuse .., _, _, _, _, _, _, _, _, _, h, _, _, _ => h.elim
/-! what is shown of a text, as it is meant: to part a text, and to join its ways again -/
structure SWP (P : Program) (code : Code) (Q : Exit → Nat → AS → Prop) (n : Nat) (S : AS) : Prop where
  h : ∀ (rd : Option Nat) (m0 : Nat) (c : Ctx) (p : Nat → Prop) (ρ : Env) (a : Act) (w : World), (rd = none ∨ rgB code = true) → dstB c.N code = true → Mod c p ρ S a.tmps w → (∀ i, p i → i / 8 < n) → DefOk c a w → code.wpIn (FW rd) m0 P (Lift c Q) a w
theorem swp_awp {P : Program} {code : Code} {Q : Exit → Nat → AS → Prop} {n : Nat} {S : AS} (h : AWP P code Q n S) : SWP P code Q n S := .mk fun rd m0 c p ρ a w hrg hd hm hn ha => awp_sound code Q n S p ρ a w hrg hd h hm hn ha
def CutK {X : Type} (St : X → AS) (inv : X → Prop) (n0 : Nat) (_n : Nat) (S : AS) : Prop := ∃ x L fr, inv x ∧ EntF L n0 fr S (St x)
theorem swp_cut {P : Program} {x y : Code} {Q : Exit → Nat → AS → Prop} {n : Nat} {S : AS} {X : Type} (St : X → AS) (inv : X → Prop) (n0 : Nat) (h1 : SWP P x (seqK (CutK St inv n0) Q) n S) (h2 : ∀ x, inv x → SWP P y Q n0 (St x)) : SWP P (.seq x y) Q n S := by
  refine .mk ?_
  intro rd m0 c p ρ a w hrg hd hm hn ha
  simp only [dstB, Bool.and_eq_true] at hd
  refine wpIn_seq (wpIn_mono (h1.h rd m0 c p ρ a w (hrg.imp_right fun e => (Bool.and_eq_true_iff.1 e).1) hd.1 hm hn ha) ?_)
  rintro e a' w' ⟨k1, n', S', p', ρ', k2, k3, k4⟩
  cases e with
  | normal =>
    obtain ⟨z, L, fr, hi, hE⟩ := k2
    obtain ⟨ρ2, hm2⟩ := hE.mod k3
    exact (h2 z hi).h rd m0 c _ ρ2 a' w' (hrg.imp_right fun e => (Bool.and_eq_true_iff.1 e).2) hd.2 hm2 (fun i hi => hi) k1
  | _ => exact ⟨k1, n', S', p', ρ', k2, k3, k4⟩
theorem swp_block {P : Program} {id : Nat} {b : Code} {Q : Exit → Nat → AS → Prop} {n : Nat} {S : AS} (h : SWP P b (blockK id Q) n S) : SWP P (.block id b) Q n S := by
  refine .mk ?_
  intro rd m0 c p ρ a w hrg hd hm hn ha
  refine wpIn_block (wpIn_mono (h.h rd m0 c p ρ a w hrg hd hm hn ha) ?_)
  rintro e a' w' ⟨h1, n', S', p', ρ', h2, h3, h4⟩
  cases e with
  | exit i =>
    unfold blockK at h2
    unfold Exit.inBlock
    dsimp only at h2 ⊢
    split at h2
    · next e => rw [if_pos e]; exact ⟨h1, n', S', p', ρ', h2, h3, h4⟩
    · next e => rw [if_neg e]; exact ⟨h1, n', S', p', ρ', h2, h3, h4⟩
  | _ => exact ⟨h1, n', S', p', ρ', h2, h3, h4⟩
end Go.Proofs.Ytiidfcadmdahmaa
