/- CHAPTER 22: arguments that are breaks. -/
/- G -/
import Derived.Test.YtdpaflhlgaffdaaGChoL
import Derived.Test.YtdpaflhlgaffdaaFrameG
set_option linter.unusedSimpArgs false
set_option linter.unusedVariables false
namespace Go.Proofs.Ytdpaflhlgaffdaa
set_option maxRecDepth 100000
open Go.ChangeShapes Go.WideShapes Go.ChangeAt Go.RowKit Go.Deep

def v_brk (x : LBrk) : List Value := [.int .i64 x.cl, .int .i64 x.fo, .int .i64 x.rk]
theorem pv_brk (x : LBrk) : cBrk x = (v_brk x).map .raw := rfl
theorem one_brk (x : LBrk) (u : Value) (h : u ∈ v_brk x) : u.oneCell' = true := by simp [v_brk] at h; rcases h with rfl | rfl | rfl <;> rfl
def brkIn (x : LBrk) : Prop := (-9223372036854775808 ≤ x.cl ∧ x.cl ≤ 9223372036854775807) ∧ (-9223372036854775808 ≤ x.fo ∧ x.fo ≤ 9223372036854775807) ∧ (-9223372036854775808 ≤ x.rk ∧ x.rk ≤ 9223372036854775807)
theorem open_brk {H : Type} {enc : TypeId × Value → H} {w : World} {v : Value} {d : DataW H} {p : List MemPlace} {r : Reach} {b0 : Nat} (hv : Value.okWide Try.prog w r b0 63 v) (h : DataW.Trod enc Try.prog w 0 (fun _ => true) true 63 v d p) :
    ∃ x : LBrk, v = .agg (v_brk x).toArray ∧ brkIn x := by
  obtain ⟨cs, rfl, hsz, hf⟩ := open_fields Try.underlying63 (by kernel_rfl) (by kernel_rfl) hv h
  obtain ⟨u0, y0, q0, e0, t0⟩ := hf 0 _ rfl
  obtain ⟨z0, h0, -, w0⟩ := DataW.trod_int (k := .i64) Try.underlying3 t0
  obtain rfl : u0 = _ := by injection h0
  obtain ⟨u1, y1, q1, e1, t1⟩ := hf 1 _ rfl
  obtain ⟨z1, h1, -, w1⟩ := DataW.trod_int (k := .i64) Try.underlying3 t1
  obtain rfl : u1 = _ := by injection h1
  obtain ⟨u2, y2, q2, e2, t2⟩ := hf 2 _ rfl
  obtain ⟨z2, h2, -, w2⟩ := DataW.trod_int (k := .i64) Try.underlying3 t2
  obtain rfl : u2 = _ := by injection h2
  refine ⟨⟨z0, z1, z2⟩, ?_, ⟨i64_of_wf w0, i64_of_wf w1, i64_of_wf w2⟩⟩
  refine congrArg Value.agg (arr_of (l := v_brk ⟨z0, z1, z2⟩) hsz (fun j hj => ?_))
  have : j = 0 ∨ j = 1 ∨ j = 2 := by simp [v_brk] at hj; omega
  rcases this with rfl | rfl | rfl <;> (first | exact e0 | exact e1 | exact e2)
theorem open_brks {H : Type} {enc : TypeId × Value → H} {w : World} {v : Value} {d : DataW H} {p : List MemPlace} {r : Reach} {b0 : Nat} (hv : Value.okWide Try.prog w r b0 53 v) (h : DataW.Trod enc Try.prog w 0 (fun _ => true) true 53 v d p) (hlt : ∀ x ∈ p, x.block < w.heap.size) :
    ∃ A n c, ∃ xs : List LBrk, v = .slice A n c ∧ n = xs.length ∧ n ≤ 9223372036854775807 ∧ (∀ x ∈ xs, brkIn x) ∧ RowAt w A 3 v_brk xs := by
  obtain ⟨A, n, c, rfl, hn, hi⟩ := open_rows Try.underlying53 Try.underlying63 (by kernel_rfl) (by kernel_rfl) (by decide) hv h hlt
  obtain ⟨xs, hl, hq⟩ := list_of (Q := fun i (x : LBrk) => brkIn x ∧ ∃ b off, A = some ⟨b, off, none⟩ ∧ b < w.heap.size ∧ ∀ j, j < 3 → w.cell? ⟨b, off + i * 3 + j, none⟩ = (v_brk x)[j]?) (n := n) (fun i hin => by
    obtain ⟨b, off, hA, hb, hf⟩ := hi i hin
    obtain ⟨u0, y0, q0, e0, t0⟩ := hf 0 _ rfl
    obtain ⟨z0, h0, -, w0⟩ := DataW.trod_int (k := .i64) Try.underlying3 t0
    obtain rfl : u0 = _ := by injection h0
    obtain ⟨u1, y1, q1, e1, t1⟩ := hf 1 _ rfl
    obtain ⟨z1, h1, -, w1⟩ := DataW.trod_int (k := .i64) Try.underlying3 t1
    obtain rfl : u1 = _ := by injection h1
    obtain ⟨u2, y2, q2, e2, t2⟩ := hf 2 _ rfl
    obtain ⟨z2, h2, -, w2⟩ := DataW.trod_int (k := .i64) Try.underlying3 t2
    obtain rfl : u2 = _ := by injection h2
    refine ⟨⟨z0, z1, z2⟩, ⟨i64_of_wf w0, i64_of_wf w1, i64_of_wf w2⟩, b, off, hA, hb, fun j hj => ?_⟩
    have : j = 0 ∨ j = 1 ∨ j = 2 := by omega
    rcases this with rfl | rfl | rfl <;> (first | exact e0 | exact e1 | exact e2))
  refine ⟨A, n, c, xs, rfl, hl.symm, hn, fun x hx => ?_, fun k hk => (hq k hk).2⟩
  obtain ⟨i, hi, rfl⟩ := List.getElem_of_mem hx
  exact (hq i hi).1

end Go.Proofs.Ytdpaflhlgaffdaa
