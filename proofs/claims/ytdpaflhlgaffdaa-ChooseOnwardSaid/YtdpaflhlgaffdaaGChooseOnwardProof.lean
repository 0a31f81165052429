/- THE ROW of ChooseOnward, proved: for every input the law returns true, and each argument reads as it read. -/
import Derived.Test.YtdpaflhlgaffdaaGChoL
import Derived.Test.YtdpaflhlgaffdaaGChoO
import Derived.Test.YtdpaflhlgaffdaaFrameG
set_option linter.unusedSimpArgs false
set_option linter.unusedVariables false
namespace Go.Proofs.Ytdpaflhlgaffdaa.chooseOnwardL
open Go.ChangeShapes Go.WideShapes Go.ChangeAt Go.RowKit

set_option maxRecDepth 100000 in
theorem lifted (os : Os) (started : os.Started) (H : Type) (enc : TypeId × Value → H) :
    ReturnsInHanded {} Try.checked os 9 .any (Rows.chooseOnwardSpec.pre6 enc Try.prog Try.f9 Rows.chooseOnwardRow.domain false) (Rows.chooseOnwardSpec.post enc Try.prog Try.f9 false true false false) := by
  refine returnsInHanded_of_change (C := Try.checked) own started (by kernel_rfl) Try.func9
    (ChangeSpec.witness6 (enc := enc) (C := Try.checked) false ⟨#[], #[.slice none 0 0, .slice none 0 0], []⟩ 8 (by kernel_rfl) (by kernel_rfl) (by kernel_rfl) (by kernel_rfl)) ?_
  intro W base args ds gs before hval0 hW hcnd _
  have hval : ∀ (j : Nat) t v, Try.f9.params[j]? = some t → args[j]? = some v → Value.okWide Try.prog W .any base t v := hval0
  have hW' := hW
  obtain ⟨p, q, hA0, hV, rfl, hfz, hnd⟩ := hW
  have hA : DataW.TrodAll enc Try.prog W 0 (fun _ => true) true Try.f9.params.toList args.toList ds p := hA0
  rw [Try.params9] at hA hval
  obtain ⟨v0, vs0, d0, ds0, p0, q0, hargs, rfl, rfl, h0, r0⟩ := trodAll_cons hA
  obtain ⟨v1, vs1, d1, ds1, p1, q1, rfl, rfl, rfl, h1, r1⟩ := trodAll_cons r0
  obtain ⟨rfl, rfl, rfl⟩ := trodAll_nil r1
  obtain rfl : args = #[v0, v1] := by cases args; simp_all
  obtain ⟨rfl, rfl⟩ := trodVars_none hV
  clear hA0 hval0
  have hlt := hW'.lt
  have k0 := h0
  have k1 := h1
  obtain ⟨A0, n0, c0, xs0, e0, m0, hl0, hb0, hx0⟩ := open_brks (hval 0 53 v0 rfl rfl) h0 (fun x hx => hlt x (by simp [hx]))
  subst e0; subst m0
  have g0 := slice_cap Try.underlying53 h0
  obtain ⟨A1, n1, c1, xs1, e1, m1, hl1, hb1, hx1⟩ := open_intsAt Try.underlying36 Try.underlying3 (by kernel_rfl) (hval 1 36 v1 rfl rfl) h1 (fun x hx => hlt x (by simp [hx]))
  subst e1; subst m1
  have g1 := slice_cap Try.underlying36 h1
  have hc := calls_fn (w := W) (vs := [.slice A0 xs0.length c0, .slice A1 xs1.length c1]) (chooseOnward_ok xs0 xs1 )
    (by simp only [RepL]; exact ⟨rep_sl (pv_brk) hx0 (fun _ => rfl) (fun x u hu => one_brk x u hu) g0, rep_sl (g := fun x : Int => [Value.int .i64 x]) (fun _ => rfl) (ints_rowsG hx1) (fun _ => rfl) (fun x u hu => by simp at hu; rw [hu]; rfl) g1, trivial⟩)
  refine hc.mono fun e W' ⟨he, hb⟩ => ?_
  subst he
  refine ⟨_, rfl, post_of_below (pa := p0 ++ (p1 ++ [])) (pv := []) hW' (fun _ _ _ => (trodAll_cons_mk (shut_bool Try.underlying4 _) trodAll_mk0)) (fun sp hsp => ?_) (fun _ _ => rfl) rfl hb (ok_one (by kernel_rfl) rfl (okWide_bool_mk Try.underlying4 _))⟩
  exact (trodAll_cons_mk (stays laidOut (by kernel_rfl) (of_decide_eq_true (by kernel_rfl)) k0 hb (fun x hx => hlt x (by simp [hx])) (fun x hx => hsp x (by simp [hx]))) (trodAll_cons_mk (stays laidOut (by kernel_rfl) (of_decide_eq_true (by kernel_rfl)) k1 hb (fun x hx => hlt x (by simp [hx])) (fun x hx => hsp x (by simp [hx]))) trodAll_mk0))

theorem proved : Rows.ChooseOnwardSaid :=
  OpenClaim.holds_of_wide 9 Try.f9 rfl rfl rfl rfl rfl rfl rfl ⟨rfl, rfl, rfl, rfl, rfl⟩ rfl rfl rfl rfl rfl (by kernel_rfl) Try.func9 (by kernel_rfl)
    (of_decide_eq_true (by kernel_rfl)) (by unfold Func.isWrapper; first | (rw [if_pos (by decide +kernel)]; kernel_rfl) | (rw [if_neg (by decide +kernel)]; exact ⟨rfl, rfl⟩))
    (fun os started H enc _ => lifted os started H enc)
end Go.Proofs.Ytdpaflhlgaffdaa.chooseOnwardL
