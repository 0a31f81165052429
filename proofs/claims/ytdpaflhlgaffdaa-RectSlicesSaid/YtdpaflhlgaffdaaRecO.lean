/- CHAPTER 3: arguments that are rectangles. -/
import Derived.Test.YtdpaflhlgaffdaaRecA
import Derived.Test.YtdpaflhlgaffdaaFrame3
set_option linter.unusedSimpArgs false
set_option linter.unusedVariables false
namespace Go.Proofs.Ytdpaflhlgaffdaa
set_option maxRecDepth 100000
open Go.ChangeShapes Go.WideShapes Go.ChangeAt Go.RowKit Go.Deep

theorem one_rect (x : LRect) (u : Value) (h : u ∈ cRect x) : u.oneCell' = true := by simp [cRect] at h; rcases h with rfl | rfl | rfl | rfl <;> rfl
def rectIn (x : LRect) : Prop := (-9223372036854775808 ≤ x.x ∧ x.x ≤ 9223372036854775807) ∧ (-9223372036854775808 ≤ x.y ∧ x.y ≤ 9223372036854775807) ∧ (-9223372036854775808 ≤ x.w ∧ x.w ≤ 9223372036854775807) ∧ (-9223372036854775808 ≤ x.h ∧ x.h ≤ 9223372036854775807)
theorem open_rect {H : Type} {enc : TypeId × Value → H} {w : World} {v : Value} {d : DataW H} {p : List MemPlace} {r : Reach} {b0 : Nat} (hv : Value.okWide Try.prog w r b0 24 v) (h : DataW.Trod enc Try.prog w 0 (fun _ => true) true 24 v d p) :
    ∃ x : LRect, v = .agg (cRect x).toArray ∧ rectIn x := by
  obtain ⟨cs, rfl, hsz, hf⟩ := open_fields Try.underlying24 (by kernel_rfl) (by kernel_rfl) hv h
  obtain ⟨u0, y0, q0, e0, t0⟩ := hf 0 _ rfl
  obtain ⟨z0, h0, -, w0⟩ := DataW.trod_int (k := .i64) Try.underlying3 t0
  obtain rfl : u0 = _ := by injection h0
  obtain ⟨u1, y1, q1, e1, t1⟩ := hf 1 _ rfl
  obtain ⟨z1, h1, -, w1⟩ := DataW.trod_int (k := .i64) Try.underlying3 t1
  obtain rfl : u1 = _ := by injection h1
  obtain ⟨u2, y2, q2, e2, t2⟩ := hf 2 _ rfl
  obtain ⟨z2, h2, -, w2⟩ := DataW.trod_int (k := .i64) Try.underlying3 t2
  obtain rfl : u2 = _ := by injection h2
  obtain ⟨u3, y3, q3, e3, t3⟩ := hf 3 _ rfl
  obtain ⟨z3, h3, -, w3⟩ := DataW.trod_int (k := .i64) Try.underlying3 t3
  obtain rfl : u3 = _ := by injection h3
  refine ⟨⟨z0, z1, z2, z3⟩, ?_, ⟨i64_of_wf w0, i64_of_wf w1, i64_of_wf w2, i64_of_wf w3⟩⟩
  refine congrArg Value.agg (arr_of (l := cRect ⟨z0, z1, z2, z3⟩) hsz (fun j hj => ?_))
  have : j = 0 ∨ j = 1 ∨ j = 2 ∨ j = 3 := by simp [cRect] at hj; omega
  rcases this with rfl | rfl | rfl | rfl <;> (first | exact e0 | exact e1 | exact e2 | exact e3)
theorem open_rects {H : Type} {enc : TypeId × Value → H} {w : World} {v : Value} {d : DataW H} {p : List MemPlace} {r : Reach} {b0 : Nat} (hv : Value.okWide Try.prog w r b0 22 v) (h : DataW.Trod enc Try.prog w 0 (fun _ => true) true 22 v d p) (hlt : ∀ x ∈ p, x.block < w.heap.size) :
    ∃ A n c, ∃ xs : List LRect, v = .slice A n c ∧ n = xs.length ∧ n ≤ 9223372036854775807 ∧ (∀ x ∈ xs, rectIn x) ∧ RowAt w A 4 cRect xs := by
  obtain ⟨A, n, c, rfl, hn, hi⟩ := open_rows Try.underlying22 Try.underlying24 (by kernel_rfl) (by kernel_rfl) (by decide) hv h hlt
  obtain ⟨xs, hl, hq⟩ := list_of (Q := fun i (x : LRect) => rectIn x ∧ ∃ b off, A = some ⟨b, off, none⟩ ∧ b < w.heap.size ∧ ∀ j, j < 4 → w.cell? ⟨b, off + i * 4 + j, none⟩ = (cRect x)[j]?) (n := n) (fun i hin => by
    obtain ⟨b, off, hA, hb, hf⟩ := hi i hin
    obtain ⟨u0, y0, q0, e0, t0⟩ := hf 0 _ rfl
    obtain ⟨z0, h0, -, w0⟩ := DataW.trod_int (k := .i64) Try.underlying3 t0
    obtain rfl : u0 = _ := by injection h0
    obtain ⟨u1, y1, q1, e1, t1⟩ := hf 1 _ rfl
    obtain ⟨z1, h1, -, w1⟩ := DataW.trod_int (k := .i64) Try.underlying3 t1
    obtain rfl : u1 = _ := by injection h1
    obtain ⟨u2, y2, q2, e2, t2⟩ := hf 2 _ rfl
    obtain ⟨z2, h2, -, w2⟩ := DataW.trod_int (k := .i64) Try.underlying3 t2
    obtain rfl : u2 = _ := by injection h2
    obtain ⟨u3, y3, q3, e3, t3⟩ := hf 3 _ rfl
    obtain ⟨z3, h3, -, w3⟩ := DataW.trod_int (k := .i64) Try.underlying3 t3
    obtain rfl : u3 = _ := by injection h3
    refine ⟨⟨z0, z1, z2, z3⟩, ⟨i64_of_wf w0, i64_of_wf w1, i64_of_wf w2, i64_of_wf w3⟩, b, off, hA, hb, fun j hj => ?_⟩
    have : j = 0 ∨ j = 1 ∨ j = 2 ∨ j = 3 := by omega
    rcases this with rfl | rfl | rfl | rfl <;> (first | exact e0 | exact e1 | exact e2 | exact e3))
  refine ⟨A, n, c, xs, rfl, hl.symm, hn, fun x hx => ?_, fun k hk => (hq k hk).2⟩
  obtain ⟨i, hi, rfl⟩ := List.getElem_of_mem hx
  exact (hq i hi).1
end Go.Proofs.Ytdpaflhlgaffdaa
