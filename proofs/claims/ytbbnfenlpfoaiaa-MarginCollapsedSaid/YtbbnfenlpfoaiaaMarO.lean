/- ARGUMENTS of chapter 13: a pen by value, a slice of steps. -/
import Derived.Test.YtbbnfenlpfoaiaaFrame2
import Derived.Test.YtbbnfenlpfoaiaaMarL
namespace Go.Proofs.Ytbbnfenlpfoaiaa
open Go.ChangeShapes Go.WideShapes Go.ChangeAt Go.RowKit

def penCells (x : Pen) : List Value := [.int .i64 x.y, .int .i64 x.m]
theorem pen_len (x : Pen) : (penCells x).length = 2 := rfl
theorem pen_one (xs : List Pen) : ∀ u ∈ xs.flatMap penCells, u.oneCell' = true := flat_one (fun x u hu => by simp [penCells] at hu; rcases hu with rfl | rfl <;> rfl) xs
def penIn (x : Pen) : Prop := (-9223372036854775808 ≤ x.y ∧ x.y ≤ 9223372036854775807) ∧ (-9223372036854775808 ≤ x.m ∧ x.m ≤ 9223372036854775807)
theorem open_pen {H : Type} {enc : TypeId × Value → H} {w : World} {v : Value} {d : DataW H} {p : List MemPlace} {r : Reach} {b0 : Nat} (hv : Value.okWide Try.prog w r b0 23 v) (h : DataW.Trod enc Try.prog w 0 (fun _ => true) true 23 v d p) :
    ∃ x : Pen, v = .agg (penCells x).toArray ∧ penIn x := by
  obtain ⟨cs, rfl, hsz, hf⟩ := open_fields Try.underlying23 (by kernel_rfl) (by kernel_rfl) hv h
  obtain ⟨u0, y0, q0, e0, t0⟩ := hf 0 _ rfl
  obtain ⟨z0, h0, -, w0⟩ := DataW.trod_int (k := .i64) Try.underlying3 t0
  obtain rfl : u0 = _ := by injection h0
  obtain ⟨u1, y1, q1, e1, t1⟩ := hf 1 _ rfl
  obtain ⟨z1, h1, -, w1⟩ := DataW.trod_int (k := .i64) Try.underlying3 t1
  obtain rfl : u1 = _ := by injection h1
  refine ⟨⟨z0, z1⟩, ?_, ⟨i64_of_wf w0, i64_of_wf w1⟩⟩
  refine congrArg Value.agg (arr_of (l := penCells ⟨z0, z1⟩) hsz (fun j hj => ?_))
  have : j = 0 ∨ j = 1 := by simp [penCells] at hj; omega
  rcases this with rfl | rfl <;> (first | exact e0 | exact e1)
def stepIn (x : Step) : Prop := (-9223372036854775808 ≤ x.kind ∧ x.kind ≤ 9223372036854775807) ∧ (-9223372036854775808 ≤ x.a ∧ x.a ≤ 9223372036854775807) ∧ (-9223372036854775808 ≤ x.b ∧ x.b ≤ 9223372036854775807)
theorem open_steps {H : Type} {enc : TypeId × Value → H} {w : World} {v : Value} {d : DataW H} {p : List MemPlace} {r : Reach} {b0 : Nat} (hv : Value.okWide Try.prog w r b0 24 v) (h : DataW.Trod enc Try.prog w 0 (fun _ => true) true 24 v d p) (hlt : ∀ x ∈ p, x.block < w.heap.size) :
    ∃ A n c, ∃ xs : List Step, v = .slice A n c ∧ n = xs.length ∧ n ≤ 9223372036854775807 ∧ (∀ x ∈ xs, stepIn x) ∧ RowAt w A 3 stepCells xs := by
  obtain ⟨A, n, c, rfl, hn, hi⟩ := open_rows Try.underlying24 Try.underlying33 (by kernel_rfl) (by kernel_rfl) (by decide) hv h hlt
  obtain ⟨xs, hl, hq⟩ := list_of (Q := fun i (x : Step) => stepIn x ∧ ∃ b off, A = some ⟨b, off, none⟩ ∧ b < w.heap.size ∧ ∀ j, j < 3 → w.cell? ⟨b, off + i * 3 + j, none⟩ = (stepCells x)[j]?) (n := n) (fun i hin => by
    obtain ⟨b, off, hA, hb, hf⟩ := hi i hin
    obtain ⟨u0, y0, q0, e0, t0⟩ := hf 0 _ rfl
    obtain ⟨z0, h0, -, w0⟩ := DataW.trod_int (k := .i64) Try.underlying3 t0
    obtain rfl : u0 = _ := by injection h0
    obtain ⟨u1, y1, q1, e1, t1⟩ := hf 1 _ rfl
    obtain ⟨z1, h1, -, w1⟩ := DataW.trod_int (k := .i64) Try.underlying3 t1
    obtain rfl : u1 = _ := by injection h1
    obtain ⟨u2, y2, q2, e2, t2⟩ := hf 2 _ rfl
    obtain ⟨z2, h2, -, w2⟩ := DataW.trod_int (k := .i64) Try.underlying3 t2
    obtain rfl : u2 = _ := by injection h2
    refine ⟨⟨z0, z1, z2⟩, ⟨i64_of_wf w0, i64_of_wf w1, i64_of_wf w2⟩, b, off, hA, hb, fun j hj => ?_⟩
    have : j = 0 ∨ j = 1 ∨ j = 2 := by omega
    rcases this with rfl | rfl | rfl <;> (first | exact e0 | exact e1 | exact e2))
  refine ⟨A, n, c, xs, rfl, hl.symm, hn, fun x hx => ?_, fun k hk => (hq k hk).2⟩
  obtain ⟨i, hi, rfl⟩ := List.getElem_of_mem hx
  exact (hq i hi).1
end Go.Proofs.Ytbbnfenlpfoaiaa
