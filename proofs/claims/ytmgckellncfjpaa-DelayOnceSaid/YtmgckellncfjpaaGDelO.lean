/- CHAPTER 23: arguments that are floats, atoms, a page's start. -/
/- G -/
import Derived.Test.YtmgckellncfjpaaGDelJ
import Derived.Test.YtmgckellncfjpaaFrameG
set_option linter.unusedSimpArgs false
set_option linter.unusedVariables false
namespace Go.Proofs.Ytmgckellncfjpaa
set_option maxRecDepth 100000
open Go.ChangeShapes Go.WideShapes Go.ChangeAt Go.RowKit Go.Deep

def v_fl (x : LFl) : List Value := [.int .i64 x.node, .int .i64 x.side, .int .i64 x.anchor, .int .i64 x.x, .int .i64 x.y, .int .i64 x.w, .int .i64 x.h]
theorem pv_fl (x : LFl) : cFl x = (v_fl x).map .raw := rfl
theorem one_fl (x : LFl) (u : Value) (h : u ∈ v_fl x) : u.oneCell' = true := by simp [v_fl] at h; rcases h with rfl | rfl | rfl | rfl | rfl | rfl | rfl <;> rfl
def flIn (x : LFl) : Prop := (-9223372036854775808 ≤ x.node ∧ x.node ≤ 9223372036854775807) ∧ (-9223372036854775808 ≤ x.side ∧ x.side ≤ 9223372036854775807) ∧ (-9223372036854775808 ≤ x.anchor ∧ x.anchor ≤ 9223372036854775807) ∧ (-9223372036854775808 ≤ x.x ∧ x.x ≤ 9223372036854775807) ∧ (-9223372036854775808 ≤ x.y ∧ x.y ≤ 9223372036854775807) ∧ (-9223372036854775808 ≤ x.w ∧ x.w ≤ 9223372036854775807) ∧ (-9223372036854775808 ≤ x.h ∧ x.h ≤ 9223372036854775807)
theorem open_fl {H : Type} {enc : TypeId × Value → H} {w : World} {v : Value} {d : DataW H} {p : List MemPlace} {r : Reach} {b0 : Nat} (hv : Value.okWide Try.prog w r b0 52 v) (h : DataW.Trod enc Try.prog w 0 (fun _ => true) true 52 v d p) :
    ∃ x : LFl, v = .agg (v_fl x).toArray ∧ flIn x := by
  obtain ⟨cs, rfl, hsz, hf⟩ := open_fields Try.underlying52 (by kernel_rfl) (by kernel_rfl) hv h
  obtain ⟨u0, y0, q0, e0, t0⟩ := hf 0 _ rfl
  obtain ⟨z0, h0, -, w0⟩ := DataW.trod_int (k := .i64) Try.underlying3 t0
  obtain rfl : u0 = _ := by injection h0
  obtain ⟨u1, y1, q1, e1, t1⟩ := hf 1 _ rfl
  obtain ⟨z1, h1, -, w1⟩ := DataW.trod_int (k := .i64) Try.underlying3 t1
  obtain rfl : u1 = _ := by injection h1
  obtain ⟨u2, y2, q2, e2, t2⟩ := hf 2 _ rfl
  obtain ⟨z2, h2, -, w2⟩ := DataW.trod_int (k := .i64) Try.underlying3 t2
  obtain rfl : u2 = _ := by injection h2
  obtain ⟨u3, y3, q3, e3, t3⟩ := hf 3 _ rfl
  obtain ⟨z3, h3, -, w3⟩ := DataW.trod_int (k := .i64) Try.underlying3 t3
  obtain rfl : u3 = _ := by injection h3
  obtain ⟨u4, y4, q4, e4, t4⟩ := hf 4 _ rfl
  obtain ⟨z4, h4, -, w4⟩ := DataW.trod_int (k := .i64) Try.underlying3 t4
  obtain rfl : u4 = _ := by injection h4
  obtain ⟨u5, y5, q5, e5, t5⟩ := hf 5 _ rfl
  obtain ⟨z5, h5, -, w5⟩ := DataW.trod_int (k := .i64) Try.underlying3 t5
  obtain rfl : u5 = _ := by injection h5
  obtain ⟨u6, y6, q6, e6, t6⟩ := hf 6 _ rfl
  obtain ⟨z6, h6, -, w6⟩ := DataW.trod_int (k := .i64) Try.underlying3 t6
  obtain rfl : u6 = _ := by injection h6
  refine ⟨⟨z0, z1, z2, z3, z4, z5, z6⟩, ?_, ⟨i64_of_wf w0, i64_of_wf w1, i64_of_wf w2, i64_of_wf w3, i64_of_wf w4, i64_of_wf w5, i64_of_wf w6⟩⟩
  refine congrArg Value.agg (arr_of (l := v_fl ⟨z0, z1, z2, z3, z4, z5, z6⟩) hsz (fun j hj => ?_))
  have : j = 0 ∨ j = 1 ∨ j = 2 ∨ j = 3 ∨ j = 4 ∨ j = 5 ∨ j = 6 := by simp [v_fl] at hj; omega
  rcases this with rfl | rfl | rfl | rfl | rfl | rfl | rfl <;> (first | exact e0 | exact e1 | exact e2 | exact e3 | exact e4 | exact e5 | exact e6)
theorem open_fls {H : Type} {enc : TypeId × Value → H} {w : World} {v : Value} {d : DataW H} {p : List MemPlace} {r : Reach} {b0 : Nat} (hv : Value.okWide Try.prog w r b0 42 v) (h : DataW.Trod enc Try.prog w 0 (fun _ => true) true 42 v d p) (hlt : ∀ x ∈ p, x.block < w.heap.size) :
    ∃ A n c, ∃ xs : List LFl, v = .slice A n c ∧ n = xs.length ∧ n ≤ 9223372036854775807 ∧ (∀ x ∈ xs, flIn x) ∧ RowAt w A 7 v_fl xs := by
  obtain ⟨A, n, c, rfl, hn, hi⟩ := open_rows Try.underlying42 Try.underlying52 (by kernel_rfl) (by kernel_rfl) (by decide) hv h hlt
  obtain ⟨xs, hl, hq⟩ := list_of (Q := fun i (x : LFl) => flIn x ∧ ∃ b off, A = some ⟨b, off, none⟩ ∧ b < w.heap.size ∧ ∀ j, j < 7 → w.cell? ⟨b, off + i * 7 + j, none⟩ = (v_fl x)[j]?) (n := n) (fun i hin => by
    obtain ⟨b, off, hA, hb, hf⟩ := hi i hin
    obtain ⟨u0, y0, q0, e0, t0⟩ := hf 0 _ rfl
    obtain ⟨z0, h0, -, w0⟩ := DataW.trod_int (k := .i64) Try.underlying3 t0
    obtain rfl : u0 = _ := by injection h0
    obtain ⟨u1, y1, q1, e1, t1⟩ := hf 1 _ rfl
    obtain ⟨z1, h1, -, w1⟩ := DataW.trod_int (k := .i64) Try.underlying3 t1
    obtain rfl : u1 = _ := by injection h1
    obtain ⟨u2, y2, q2, e2, t2⟩ := hf 2 _ rfl
    obtain ⟨z2, h2, -, w2⟩ := DataW.trod_int (k := .i64) Try.underlying3 t2
    obtain rfl : u2 = _ := by injection h2
    obtain ⟨u3, y3, q3, e3, t3⟩ := hf 3 _ rfl
    obtain ⟨z3, h3, -, w3⟩ := DataW.trod_int (k := .i64) Try.underlying3 t3
    obtain rfl : u3 = _ := by injection h3
    obtain ⟨u4, y4, q4, e4, t4⟩ := hf 4 _ rfl
    obtain ⟨z4, h4, -, w4⟩ := DataW.trod_int (k := .i64) Try.underlying3 t4
    obtain rfl : u4 = _ := by injection h4
    obtain ⟨u5, y5, q5, e5, t5⟩ := hf 5 _ rfl
    obtain ⟨z5, h5, -, w5⟩ := DataW.trod_int (k := .i64) Try.underlying3 t5
    obtain rfl : u5 = _ := by injection h5
    obtain ⟨u6, y6, q6, e6, t6⟩ := hf 6 _ rfl
    obtain ⟨z6, h6, -, w6⟩ := DataW.trod_int (k := .i64) Try.underlying3 t6
    obtain rfl : u6 = _ := by injection h6
    refine ⟨⟨z0, z1, z2, z3, z4, z5, z6⟩, ⟨i64_of_wf w0, i64_of_wf w1, i64_of_wf w2, i64_of_wf w3, i64_of_wf w4, i64_of_wf w5, i64_of_wf w6⟩, b, off, hA, hb, fun j hj => ?_⟩
    have : j = 0 ∨ j = 1 ∨ j = 2 ∨ j = 3 ∨ j = 4 ∨ j = 5 ∨ j = 6 := by omega
    rcases this with rfl | rfl | rfl | rfl | rfl | rfl | rfl <;> (first | exact e0 | exact e1 | exact e2 | exact e3 | exact e4 | exact e5 | exact e6))
  refine ⟨A, n, c, xs, rfl, hl.symm, hn, fun x hx => ?_, fun k hk => (hq k hk).2⟩
  obtain ⟨i, hi, rfl⟩ := List.getElem_of_mem hx
  exact (hq i hi).1

def v_at (x : LAt) : List Value := [.int .i64 x.kind, .int .i64 x.node, .int .i64 x.fr, .int .i64 x.to, .int .i64 x.x, .int .i64 x.y, .int .i64 x.w, .int .i64 x.h]
theorem pv_at (x : LAt) : cAt x = (v_at x).map .raw := rfl
theorem one_at (x : LAt) (u : Value) (h : u ∈ v_at x) : u.oneCell' = true := by simp [v_at] at h; rcases h with rfl | rfl | rfl | rfl | rfl | rfl | rfl | rfl <;> rfl
def atIn (x : LAt) : Prop := (-9223372036854775808 ≤ x.kind ∧ x.kind ≤ 9223372036854775807) ∧ (-9223372036854775808 ≤ x.node ∧ x.node ≤ 9223372036854775807) ∧ (-9223372036854775808 ≤ x.fr ∧ x.fr ≤ 9223372036854775807) ∧ (-9223372036854775808 ≤ x.to ∧ x.to ≤ 9223372036854775807) ∧ (-9223372036854775808 ≤ x.x ∧ x.x ≤ 9223372036854775807) ∧ (-9223372036854775808 ≤ x.y ∧ x.y ≤ 9223372036854775807) ∧ (-9223372036854775808 ≤ x.w ∧ x.w ≤ 9223372036854775807) ∧ (-9223372036854775808 ≤ x.h ∧ x.h ≤ 9223372036854775807)
theorem open_at {H : Type} {enc : TypeId × Value → H} {w : World} {v : Value} {d : DataW H} {p : List MemPlace} {r : Reach} {b0 : Nat} (hv : Value.okWide Try.prog w r b0 34 v) (h : DataW.Trod enc Try.prog w 0 (fun _ => true) true 34 v d p) :
    ∃ x : LAt, v = .agg (v_at x).toArray ∧ atIn x := by
  obtain ⟨cs, rfl, hsz, hf⟩ := open_fields Try.underlying34 (by kernel_rfl) (by kernel_rfl) hv h
  obtain ⟨u0, y0, q0, e0, t0⟩ := hf 0 _ rfl
  obtain ⟨z0, h0, -, w0⟩ := DataW.trod_int (k := .i64) Try.underlying3 t0
  obtain rfl : u0 = _ := by injection h0
  obtain ⟨u1, y1, q1, e1, t1⟩ := hf 1 _ rfl
  obtain ⟨z1, h1, -, w1⟩ := DataW.trod_int (k := .i64) Try.underlying3 t1
  obtain rfl : u1 = _ := by injection h1
  obtain ⟨u2, y2, q2, e2, t2⟩ := hf 2 _ rfl
  obtain ⟨z2, h2, -, w2⟩ := DataW.trod_int (k := .i64) Try.underlying3 t2
  obtain rfl : u2 = _ := by injection h2
  obtain ⟨u3, y3, q3, e3, t3⟩ := hf 3 _ rfl
  obtain ⟨z3, h3, -, w3⟩ := DataW.trod_int (k := .i64) Try.underlying3 t3
  obtain rfl : u3 = _ := by injection h3
  obtain ⟨u4, y4, q4, e4, t4⟩ := hf 4 _ rfl
  obtain ⟨z4, h4, -, w4⟩ := DataW.trod_int (k := .i64) Try.underlying3 t4
  obtain rfl : u4 = _ := by injection h4
  obtain ⟨u5, y5, q5, e5, t5⟩ := hf 5 _ rfl
  obtain ⟨z5, h5, -, w5⟩ := DataW.trod_int (k := .i64) Try.underlying3 t5
  obtain rfl : u5 = _ := by injection h5
  obtain ⟨u6, y6, q6, e6, t6⟩ := hf 6 _ rfl
  obtain ⟨z6, h6, -, w6⟩ := DataW.trod_int (k := .i64) Try.underlying3 t6
  obtain rfl : u6 = _ := by injection h6
  obtain ⟨u7, y7, q7, e7, t7⟩ := hf 7 _ rfl
  obtain ⟨z7, h7, -, w7⟩ := DataW.trod_int (k := .i64) Try.underlying3 t7
  obtain rfl : u7 = _ := by injection h7
  refine ⟨⟨z0, z1, z2, z3, z4, z5, z6, z7⟩, ?_, ⟨i64_of_wf w0, i64_of_wf w1, i64_of_wf w2, i64_of_wf w3, i64_of_wf w4, i64_of_wf w5, i64_of_wf w6, i64_of_wf w7⟩⟩
  refine congrArg Value.agg (arr_of (l := v_at ⟨z0, z1, z2, z3, z4, z5, z6, z7⟩) hsz (fun j hj => ?_))
  have : j = 0 ∨ j = 1 ∨ j = 2 ∨ j = 3 ∨ j = 4 ∨ j = 5 ∨ j = 6 ∨ j = 7 := by simp [v_at] at hj; omega
  rcases this with rfl | rfl | rfl | rfl | rfl | rfl | rfl | rfl <;> (first | exact e0 | exact e1 | exact e2 | exact e3 | exact e4 | exact e5 | exact e6 | exact e7)
theorem open_ats {H : Type} {enc : TypeId × Value → H} {w : World} {v : Value} {d : DataW H} {p : List MemPlace} {r : Reach} {b0 : Nat} (hv : Value.okWide Try.prog w r b0 22 v) (h : DataW.Trod enc Try.prog w 0 (fun _ => true) true 22 v d p) (hlt : ∀ x ∈ p, x.block < w.heap.size) :
    ∃ A n c, ∃ xs : List LAt, v = .slice A n c ∧ n = xs.length ∧ n ≤ 9223372036854775807 ∧ (∀ x ∈ xs, atIn x) ∧ RowAt w A 8 v_at xs := by
  obtain ⟨A, n, c, rfl, hn, hi⟩ := open_rows Try.underlying22 Try.underlying34 (by kernel_rfl) (by kernel_rfl) (by decide) hv h hlt
  obtain ⟨xs, hl, hq⟩ := list_of (Q := fun i (x : LAt) => atIn x ∧ ∃ b off, A = some ⟨b, off, none⟩ ∧ b < w.heap.size ∧ ∀ j, j < 8 → w.cell? ⟨b, off + i * 8 + j, none⟩ = (v_at x)[j]?) (n := n) (fun i hin => by
    obtain ⟨b, off, hA, hb, hf⟩ := hi i hin
    obtain ⟨u0, y0, q0, e0, t0⟩ := hf 0 _ rfl
    obtain ⟨z0, h0, -, w0⟩ := DataW.trod_int (k := .i64) Try.underlying3 t0
    obtain rfl : u0 = _ := by injection h0
    obtain ⟨u1, y1, q1, e1, t1⟩ := hf 1 _ rfl
    obtain ⟨z1, h1, -, w1⟩ := DataW.trod_int (k := .i64) Try.underlying3 t1
    obtain rfl : u1 = _ := by injection h1
    obtain ⟨u2, y2, q2, e2, t2⟩ := hf 2 _ rfl
    obtain ⟨z2, h2, -, w2⟩ := DataW.trod_int (k := .i64) Try.underlying3 t2
    obtain rfl : u2 = _ := by injection h2
    obtain ⟨u3, y3, q3, e3, t3⟩ := hf 3 _ rfl
    obtain ⟨z3, h3, -, w3⟩ := DataW.trod_int (k := .i64) Try.underlying3 t3
    obtain rfl : u3 = _ := by injection h3
    obtain ⟨u4, y4, q4, e4, t4⟩ := hf 4 _ rfl
    obtain ⟨z4, h4, -, w4⟩ := DataW.trod_int (k := .i64) Try.underlying3 t4
    obtain rfl : u4 = _ := by injection h4
    obtain ⟨u5, y5, q5, e5, t5⟩ := hf 5 _ rfl
    obtain ⟨z5, h5, -, w5⟩ := DataW.trod_int (k := .i64) Try.underlying3 t5
    obtain rfl : u5 = _ := by injection h5
    obtain ⟨u6, y6, q6, e6, t6⟩ := hf 6 _ rfl
    obtain ⟨z6, h6, -, w6⟩ := DataW.trod_int (k := .i64) Try.underlying3 t6
    obtain rfl : u6 = _ := by injection h6
    obtain ⟨u7, y7, q7, e7, t7⟩ := hf 7 _ rfl
    obtain ⟨z7, h7, -, w7⟩ := DataW.trod_int (k := .i64) Try.underlying3 t7
    obtain rfl : u7 = _ := by injection h7
    refine ⟨⟨z0, z1, z2, z3, z4, z5, z6, z7⟩, ⟨i64_of_wf w0, i64_of_wf w1, i64_of_wf w2, i64_of_wf w3, i64_of_wf w4, i64_of_wf w5, i64_of_wf w6, i64_of_wf w7⟩, b, off, hA, hb, fun j hj => ?_⟩
    have : j = 0 ∨ j = 1 ∨ j = 2 ∨ j = 3 ∨ j = 4 ∨ j = 5 ∨ j = 6 ∨ j = 7 := by omega
    rcases this with rfl | rfl | rfl | rfl | rfl | rfl | rfl | rfl <;> (first | exact e0 | exact e1 | exact e2 | exact e3 | exact e4 | exact e5 | exact e6 | exact e7))
  refine ⟨A, n, c, xs, rfl, hl.symm, hn, fun x hx => ?_, fun k hk => (hq k hk).2⟩
  obtain ⟨i, hi, rfl⟩ := List.getElem_of_mem hx
  exact (hq i hi).1

def v_st (x : LSt) : List Value := [.int .i64 x.atom, .int .i64 x.done, .bool x.free]
theorem pv_st (x : LSt) : cSt x = (v_st x).map .raw := rfl
theorem one_st (x : LSt) (u : Value) (h : u ∈ v_st x) : u.oneCell' = true := by simp [v_st] at h; rcases h with rfl | rfl | rfl <;> rfl
def stIn (x : LSt) : Prop := (-9223372036854775808 ≤ x.atom ∧ x.atom ≤ 9223372036854775807) ∧ (-9223372036854775808 ≤ x.done ∧ x.done ≤ 9223372036854775807)
theorem open_st {H : Type} {enc : TypeId × Value → H} {w : World} {v : Value} {d : DataW H} {p : List MemPlace} {r : Reach} {b0 : Nat} (hv : Value.okWide Try.prog w r b0 24 v) (h : DataW.Trod enc Try.prog w 0 (fun _ => true) true 24 v d p) :
    ∃ x : LSt, v = .agg (v_st x).toArray ∧ stIn x := by
  obtain ⟨cs, rfl, hsz, hf⟩ := open_fields Try.underlying24 (by kernel_rfl) (by kernel_rfl) hv h
  obtain ⟨u0, y0, q0, e0, t0⟩ := hf 0 _ rfl
  obtain ⟨z0, h0, -, w0⟩ := DataW.trod_int (k := .i64) Try.underlying3 t0
  obtain rfl : u0 = _ := by injection h0
  obtain ⟨u1, y1, q1, e1, t1⟩ := hf 1 _ rfl
  obtain ⟨z1, h1, -, w1⟩ := DataW.trod_int (k := .i64) Try.underlying3 t1
  obtain rfl : u1 = _ := by injection h1
  obtain ⟨u2, y2, q2, e2, t2⟩ := hf 2 _ rfl
  obtain ⟨z2, h2, -⟩ := DataW.trod_bool Try.underlying4 t2
  obtain rfl : u2 = _ := by injection h2
  refine ⟨⟨z0, z1, z2⟩, ?_, ⟨i64_of_wf w0, i64_of_wf w1⟩⟩
  refine congrArg Value.agg (arr_of (l := v_st ⟨z0, z1, z2⟩) hsz (fun j hj => ?_))
  have : j = 0 ∨ j = 1 ∨ j = 2 := by simp [v_st] at hj; omega
  rcases this with rfl | rfl | rfl <;> (first | exact e0 | exact e1 | exact e2)

end Go.Proofs.Ytmgckellncfjpaa
