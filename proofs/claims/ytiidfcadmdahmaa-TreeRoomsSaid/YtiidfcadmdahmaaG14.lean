/- ENGINE (second) 14: texts that are parted, within loops too; over any program. -/
/- G -/
import Derived.Test.YtiidfcadmdahmaaG13
set_option linter.unusedSimpArgs false
set_option linter.unusedVariables false
namespace Go.Proofs.Ytiidfcadmdahmaa
open Go.RowKit

/-- how many rounds, and what is kept. -/
structure KY (α : Type) where
  k : Nat
  o : α
section
variable {P : Program} {Q : Exit → Nat → AS → Prop} {n : Nat} {S : AS}
theorem swp_seqS {x y : Code} (h1 : SWP P x (seqK (W (SWP P (W y) Q)) Q) n S) : SWP P (.seq x y) Q n S := by
  refine .mk ?_
  intro rd m0 c p ρ a w hrg hd hm hn ha
  simp only [dstB, Bool.and_eq_true] at hd
  refine wpIn_seq (wpIn_mono (h1.h rd m0 c p ρ a w (hrg.imp_right fun e => (Bool.and_eq_true_iff.1 e).1) hd.1 hm hn ha) ?_)
  rintro e a' w' ⟨k1, n', S', p', ρ', k2, k3, k4⟩
  cases e with
  | normal =>
    have k2 : SWP P y Q n' S' := k2
    exact k2.h rd m0 c p' ρ' a' w' (hrg.imp_right fun e => (Bool.and_eq_true_iff.1 e).2) hd.2 k3 k4 k1
  | _ => exact ⟨k1, n', S', p', ρ', k2, k3, k4⟩
theorem swp_seqW {x y : Code} (h1 : AWP P x (seqK (W (SWP P (W y) Q)) Q) n S) : SWP P (.seq x y) Q n S := swp_seqS (swp_awp h1)
theorem swp_lastW {y : Code} (h : AWP P y Q n S) : SWP P (W y) Q n S := swp_awp h
theorem swp_skip (h : Q .normal n S) : SWP P .skip Q n S := swp_awp h
theorem swp_condW {c : Operand} {x y : Code} (h : kCond (W (SWP P (W x) Q n)) (W (SWP P (W y) Q n)) S (S.val c)) : SWP P (.cond c x y) Q n S := by
  refine .mk ?_
  intro rd m0 cx p ρ a w hrg hd hm hn ha
  simp only [dstB, Bool.and_eq_true] at hd
  generalize hv : S.val c = v at h
  unfold kCond at h
  split at h
  · next b =>
    refine wpIn_cond_split (hm.raw hv) (fun e => ?_) (fun e => ?_)
    · have h1 : SWP P x Q n S := h.1 e
      exact h1.h rd m0 cx p ρ a w (hrg.imp_right fun e => (Bool.and_eq_true_iff.1 e).1) hd.1 hm hn ha
    · have h1 : SWP P y Q n S := h.2 e
      exact h1.h rd m0 cx p ρ a w (hrg.imp_right fun e => (Bool.and_eq_true_iff.1 e).2) hd.2 hm hn ha
  · exact h.elim
theorem swp_loopI {b : Code} (I : Nat → AS → Prop) (n0 : Nat) (h0 : ∃ m S' L fr, I m S' ∧ EntF L n0 fr S S') (hround : ∀ m S', I m S' → SWP P b (loopK I n0 m Q) n0 S') : SWP P (.loop b) Q n S := by
  refine .mk ?_
  intro rd m0' c p ρ a w hrg hd hm hn ha
  obtain ⟨m0, S0, L0, fr0, hI0, hE0⟩ := h0
  let J : Nat → Act → World → Prop := fun m a w => DefOk c a w ∧ ∃ S' ρ', I m S' ∧ Mod c (fun i => i / 8 < n0) ρ' S' a.tmps w
  have hJ0 : J m0 a w := by
    obtain ⟨ρ', h1⟩ := hE0.mod hm
    exact ⟨ha, S0, ρ', hI0, h1⟩
  classical
  let μ : Act → World → Nat := fun a w => if h : ∃ m, J m a w then Classical.choose (least_of h) else 0
  have hμ : ∀ m a w, J m a w → μ a w ≤ m ∧ J (μ a w) a w := fun m a w hj => by
    have he : ∃ m, J m a w := ⟨m, hj⟩
    simp only [μ, dif_pos he]
    have hs := Classical.choose_spec (least_of he)
    exact ⟨hs.2 m hj, hs.1⟩
  refine wpIn_loop (fun a w => ∃ m, J m a w) μ ⟨m0, hJ0⟩ ?_
  rintro a' w' ⟨m, hj⟩
  obtain ⟨-, hj1, S', ρ', hI, hm'⟩ := hμ m a' w' hj
  refine wpIn_mono ((hround _ S' hI).h rd m0' c _ ρ' a' w' hrg hd hm' (fun i hi => hi) hj1) ?_
  rintro e a2 w2 ⟨h1, n2, S2, p2, ρ2, h2, h3, h4⟩
  cases e with
  | normal =>
    obtain ⟨m', S3, L, fr3, hlt, hI3, hE3⟩ := h2
    obtain ⟨ρ3, h5⟩ := hE3.mod h3
    have hj3 : J m' a2 w2 := ⟨h1, S3, ρ3, hI3, h5⟩
    exact ⟨⟨m', hj3⟩, Nat.lt_of_le_of_lt (hμ m' a2 w2 hj3).1 hlt⟩
  | _ => exact ⟨h1, n2, S2, p2, ρ2, h2, h3, h4⟩
theorem swp_loop2 {b : Code} {X : Type} (fr : List Nat) (St : X → AS) (inv : X → Prop) (μ : X → Nat) (n0 : Nat) (x0 : X) {L0 : List (Nat × Nat)} (_ : loopL S (St x0) = L0) (e0 : EntF L0 n0 fr S (St x0)) (h0 : inv x0) (hr : ∀ x, inv x → SWP P b (loopX St inv μ n0 x Q) n0 (St x)) : SWP P (.loop b) Q n S := by
  refine swp_loopI (fun m S' => ∃ x, inv x ∧ m = μ x ∧ S' = St x) n0 ⟨μ x0, St x0, L0, fr, ⟨x0, h0, rfl, rfl⟩, e0⟩ ?_
  rintro m S' ⟨x, hx, rfl, rfl⟩
  have h := hr x hx
  have e : loopX St inv μ n0 x Q = loopK (fun m S' => ∃ x, inv x ∧ m = μ x ∧ S' = St x) n0 (μ x) Q := by
    funext e n S
    cases e <;> try rfl
    refine propext ⟨fun ⟨x', L, fr, h1, h2, h3⟩ => ⟨μ x', St x', L, fr, h2, ⟨x', h1, rfl, rfl⟩, h3⟩, ?_⟩
    rintro ⟨m', S', L, fr, h1, ⟨x', h2, rfl, rfl⟩, h3⟩
    exact ⟨x', L, fr, h2, h1, h3⟩
  rw [e] at h
  exact h
/-! operations one by one, each shown apart -/
structure SLi (P : Program) (A : Array Oper) (Q : Exit → Nat → AS → Prop) (ops : List Oper) (n : Nat) (S : AS) : Prop where
  h : ∀ (rd : Option Nat) (m0 : Nat) (c : Ctx) (p : Nat → Prop) (ρ : Env) (a : Act) (w : World), (∀ o ∈ ops, ∀ d, o.dst = some d → d < c.N) → Mod c p ρ S a.tmps w → (∀ i, p i → i / 8 < n) → DefOk c a w → wpListIn (FW rd) m0 P A (Lift c Q) ops a w
theorem sli_nil {A : Array Oper} (h : Q .normal n S) : SLi P A Q [] n S := ⟨fun rd m0 c p ρ a w _ hm hn ha => ⟨ha, n, S, p, ρ, h, hm, hn⟩⟩
theorem sli_cons {A : Array Oper} {o : Oper} {rest : List Oper} {E : Eff} (g : o.guard = none) (h : DoesAt P o S n E) (hr : SLi P A Q rest (n + 1) (fin o.dst E S)) : SLi P A Q (o :: rest) n S := by
  refine ⟨fun rd m0 c p ρ a w hd hm hn ha => ?_⟩
  have hdo : ∀ d, o.dst = some d → d < c.N := hd o List.mem_cons_self
  show if Region.wanted o (yielded A a.tmps) then _ else _
  rw [if_pos (by simp [Region.wanted, g])]
  refine h rd m0 (c.anew S ρ w) p ρ a w hm.rebase (fun i hi e => by have := hn i hi; omega) _ _ fun v ρ' w' hm3 hv => ?_
  have hm2 := hm.back hm3
  exact hr.h rd m0 c _ ρ' _ w' (fun o' ho' => hd o' (List.mem_cons_of_mem _ ho')) ((hm2.put o.dst hv hdo).note _ _) (fun i hi => by rcases hi with hi | hi <;> first | (have := hn i hi; omega) | omega) ((ha.keep hm hm3).put o.dst v)
theorem swp_region {id : Nat} {ops : Array Oper} (h : SLi P ops Q ops.toList n S) : SWP P (.region id ops false) Q n S := by
  refine .mk fun rd m0 c p ρ a w hrg hd hm hn ha => ?_
  refine wpIn_region_list (h.h rd m0 c p ρ a w (fun o ho d e => ?_) hm hn ha)
  have := List.all_eq_true.1 hd o ho
  rw [e] at this
  simpa using this
theorem does_addw {o : Oper} {x y : Operand} {t u : TypeId} {k l : Int} (ho : o.op = .binOp .add t x y u) (hx : S.val x = .raw (.int .i64 k)) (hy : S.val y = .raw (.int .i64 l)) : DoesAt P o S n ⟨.raw (.int .i64 (IntKind.i64.wrap (k + l))), [], []⟩ :=
  does_pure rfl fun c p ρ a w hm => ⟨_, by
    unfold execOp; rw [ho]
    refine run_v (v := .int .i64 (IntKind.i64.wrap (k + l))) ?_
    simp [hm.raw hx, hm.raw hy, eqGuard, binOp, Op.intArith], by simp [Rep]⟩
end
end Go.Proofs.Ytiidfcadmdahmaa
