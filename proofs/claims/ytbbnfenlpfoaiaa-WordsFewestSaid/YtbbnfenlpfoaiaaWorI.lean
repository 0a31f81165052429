/- WALKS: chapter 9: the iterator of words' ends. -/
import Derived.Test.YtbbnfenlpfoaiaaWorP
import Derived.Test.YtbbnfenlpfoaiaaMem2
import Derived.RangeFuncNested
import Derived.RangeFuncBound
import Derived.RangeFuncCalls
import Derived.RangeFuncLeaves
import Derived.RangeFuncFrom
import Derived.RangeFuncBox
import Derived.Shelf.Abstract
import Derived.Shelf.RegionOpen
import Derived.WalkKit
import Derived.OwnWalkIn
import Derived.TacticsInMore
import Derived.LoopNIn
import Derived.LoopIn
import Derived.BigQuiet
set_option linter.unusedSimpArgs false
set_option linter.unusedVariables false
namespace Go.Proofs.Ytbbnfenlpfoaiaa
open Go.RowKit Go.Shelf

attribute [local go_sem] Oper.semAt_some

/-- what has come when k rounds are over. -/
def upto {α : Type} (f : Nat → α) (k : Nat) : List α := (List.range k).map f
theorem upto_succ {α : Type} (f : Nat → α) (k : Nat) : upto f (k + 1) = upto f k ++ [f k] := by simp [upto, List.range_succ]
theorem upto_length {α : Type} (f : Nat → α) (k : Nat) : (upto f k).length = k := by simp [upto]

/-- blocks of a kind lie as they lay. -/
def KeepS (S : Nat → Prop) (A B : World) : Prop := ∀ g, S g → B.heap[g]? = A.heap[g]?
theorem KeepS.trans {S : Nat → Prop} {A B C : World} (h : KeepS S A B) (k : KeepS S B C) : KeepS S A C := fun g hg => (k g hg).trans (h g hg)
theorem KeepS.refl (S : Nat → Prop) (A : World) : KeepS S A A := fun _ _ => rfl
theorem KeepS.cell {S : Nat → Prop} {A B : World} (h : KeepS S A B) {p : Addr} (hp : S p.block) : B.cell? p = A.cell? p := World.cell?_of_block (h _ hp)

/-- what comes from the place f on: the place behind a word, how wide all is up to there. -/
def endAt (xs : List Int) (sp : Int) (f : Nat) (j : Nat) : Nat × Int := (f + j + 1, wideN sp (seg xs f (f + j + 1)))

set_option maxRecDepth 100000 in
set_option maxHeartbeats 2000000 in
theorem ends1_in (n : Nat) (hn : 1 ≤ n) (l Bt Bf n₀ b off c : Nat) (xs : List Int) (sp : Int) (f : Nat) (hl : xs.length ≤ 200) (hxs : xs.all nr9 = true) (hsp : 0 ≤ sp ∧ sp ≤ 35184372088832) (hf : f < xs.length) (hb : b < n₀)
    (J Jx : List (Nat × Int) → World → Prop) (hJd : ∀ pre (W : World) m, J pre W → J pre (W.drewN m))
    (hY : ∀ pre x W, J pre W → pre.length < xs.length - f → YieldAt Fence.wide (n - 1) Try.prog l #[.int .i64 (x.1 : Int), .int .i64 x.2] W fun e W' =>
      (e = .returned (.bool true) ∧ J (pre ++ [x]) W' ∧ KeepS (fun g => g < n₀ ∨ g = Bt ∨ g = Bf) W W') ∨ (e = .returned (.bool false) ∧ Jx (pre ++ [x]) W'))
    (W : World) (hBt : W.cell? ⟨Bt, 0, none⟩ = some (.slice (some ⟨b, off, none⟩) xs.length c)) (hBs : W.cell? ⟨Bt, 1, none⟩ = some (.int .i64 sp)) (hBf : W.cell? ⟨Bf, 0, none⟩ = some (.int .i64 f))
    (hc : ∀ j (h : j < xs.length), W.cell? ⟨b, off + j, none⟩ = some (.int .i64 xs[j])) (h0 : J [] W) :
    CallsIn Fence.wide n Try.prog 67 #[.func (.yield l) #[] #[], .pointer (some ⟨Bt, 0, none⟩), .pointer (some ⟨Bf, 0, none⟩)] W fun e W' => (∃ v, e = .returned v) ∧
      ((∃ ys, ys = upto (endAt xs sp f) (xs.length - f) ∧ J ys W') ∨ (∃ pre, (∃ k, k ≤ xs.length - f ∧ pre = upto (endAt xs sp f) k) ∧ Jx pre W')) := by
  refine callsIn_of_wp Try.func67 rfl trivial ?_ rfl
  simp only [Try.ntmps67, List.size_toArray, List.length_cons, List.length_nil, Nat.reduceAdd, Nat.reduceSub, Array.replicate_succ, Array.replicate_zero, List.push_toArray, List.append_toArray, List.nil_append, List.cons_append]
  gi_wp2
  gi_loopw [4, 5] (fun q i wr => ∃ k : Nat, f + k ≤ xs.length ∧ i = .int .i64 ((f + k : Nat) : Int) ∧ q = .int .i64 (wideN sp (seg xs f (f + k))) ∧ J (upto (endAt xs sp f) k) wr ∧ KeepS (fun g => g < n₀ ∨ g = Bt ∨ g = Bf) W wr)
    (fun _ i _ => xs.length - (intOf i).toNat)
  case atStart => exact ⟨0, by omega, rfl, by rw [Nat.add_zero, wide_none], h0, KeepS.refl _ _⟩
  case round =>
    obtain ⟨k, hk, rfl, rfl, hJs, hnx⟩ := hrel
    have c1 := (hnx.cell (p := ⟨Bt, 0, none⟩) (.inr (.inl rfl))).trans hBt
    have c2 := (hnx.cell (p := ⟨Bt, 1, none⟩) (.inr (.inl rfl))).trans hBs
    by_cases hlt : f + k < xs.length
    · have c3 := (hnx.cell (p := ⟨b, off + (f + k), none⟩) (.inl hb)).trans (hc (f + k) hlt)
      have hws := wide_seg sp xs f (f + k) (by omega) hlt
      have hwb := wide_bd hxs hsp f (f + k) (by omega) (by omega)
      have hwc := near9_at hxs (f + k) hlt
      have he : endAt xs sp f k = (f + k + 1, wideN sp (seg xs f (f + k)) + (sp + xs[f + k])) := by unfold endAt; rw [hws]
      generalize hq : wideN sp (seg xs f (f + k)) = q at *
      gi_wp2
      gi_quiet (fail)
      obtain ⟨fn, tmps, assign, body, hy, hR⟩ := hY _ (endAt xs sp f k) _ (hJd _ _ nq hJs) (by rw [upto_length]; omega)
      rw [he] at hy
      simp only [Int.natCast_add, Int.cast_ofNat_Int] at hy
      gi_wp2
      refine hR.mono ?_
      rintro e W3 (⟨rfl, hJ3, hk3⟩ | ⟨rfl, hJx3⟩)
      · gi_wp2
        go_roundw
        case rel => exact ⟨k + 1, by omega, by go_num, by rw [← hws]; rfl, by rw [upto_succ]; exact hJ3, hnx.trans hk3⟩
        case measure => simp [intOf]; omega
      · gi_wp2
        refine bodyPost_ret (results_none rfl _ _ _) rfl ?_
        exact ⟨⟨_, rfl⟩, .inr ⟨_, ⟨k + 1, by omega, (upto_succ _ _).symm⟩, hJx3⟩⟩
    · obtain rfl : k = xs.length - f := by omega
      gi_wp2
      go_end0
      exact ⟨⟨_, rfl⟩, .inl ⟨_, rfl, hJs⟩⟩

/-- **the iterator that 'ends' hands back**: all places behind a word, in order; or some of the first ones. -/
theorem ends_stops (n : Nat) (hn : 1 ≤ n) (Bt Bf n₀ b off c : Nat) (xs : List Int) (sp : Int) (f : Nat) (hl : xs.length ≤ 200) (hxs : xs.all nr9 = true) (hsp : 0 ≤ sp ∧ sp ≤ 35184372088832) (hf : f < xs.length) (hb : b < n₀) (w : World)
    (h1 : Bt < w.heap.size) (h2 : Bf < w.heap.size) (h3 : n₀ ≤ w.heap.size)
    (hBt : w.cell? ⟨Bt, 0, none⟩ = some (.slice (some ⟨b, off, none⟩) xs.length c)) (hBs : w.cell? ⟨Bt, 1, none⟩ = some (.int .i64 sp)) (hBf : w.cell? ⟨Bf, 0, none⟩ = some (.int .i64 f))
    (hc : ∀ j (h : j < xs.length), w.cell? ⟨b, off + j, none⟩ = some (.int .i64 xs[j])) :
    SeqStopsK Fence.wide n Try.prog 67 #[.pointer (some ⟨Bt, 0, none⟩), .pointer (some ⟨Bf, 0, none⟩)] (fun x : Nat × Int => #[.int .i64 (x.1 : Int), .int .i64 x.2]) (KeepS (fun g => g < n₀ ∨ g = Bt ∨ g = Bf))
      (fun ys => ys = upto (endAt xs sp f) (xs.length - f)) (fun pre => ∃ k, k ≤ xs.length - f ∧ pre = upto (endAt xs sp f) k) (xs.length - f) w := fun l J Jx W hW hJ _ hY h0 =>
  ends1_in n hn l Bt Bf n₀ b off c xs sp f hl hxs hsp hf hb J Jx (fun pre W m h => hJ pre W _ none h ⟨rfl, rfl, rfl, Nat.le_refl _, fun _ _ _ => rfl⟩ (fun r e => by cases e)) hY W
    ((hW.cell (p := ⟨Bt, 0, none⟩) h1).trans hBt) ((hW.cell (p := ⟨Bt, 1, none⟩) h1).trans hBs) ((hW.cell (p := ⟨Bf, 0, none⟩) h2).trans hBf)
    (fun j h => (hW.cell (p := ⟨b, off + j, none⟩) (show b < w.heap.size by omega)).trans (hc j h)) h0
theorem keepS_b {S : Nat → Prop} {w : World} (hS : ∀ g, S g → g < w.heap.size) (W : World) (l : Nat) (o o' : Obj) (hl : w.heap.size ≤ l) (ho : W.heap[l]? = some o) (_ : o.isCells = false) (_ : o.isWalk = false) : KeepS S W (W.putObj l o') := fun g hg =>
  (grownBy_putObj' W l o').block g (by have := hS g hg; have := (Array.getElem?_eq_some_iff.1 ho).1; omega) (fun e => by have := hS g hg; injection e with e; omega)

/-- **ends**: the text and the place are boxed. -/
theorem ends_any (A : Option Addr) (len c : Nat) (sp f : Int) (w : World) : Calls Try.prog 65 #[.agg #[.slice A len c, .int .i64 sp], .int .i64 f] w fun e w' =>
    e = .returned (.func (.func 67) #[] #[.pointer (some ⟨w.heap.size, 0, none⟩), .pointer (some ⟨w.heap.size + 1, 0, none⟩)]) ∧ w' = (w.alloc (.cells #[.slice A len c, .int .i64 sp] 72)).alloc (.cells #[.int .i64 f] 3) := by
  go_enter Try.func65, Try.ntmps65
  go_wp2
  go_ret
  exact ⟨rfl, rfl⟩

/-- **far**. -/
theorem far_any (A : Option Addr) (len c : Nat) (sp f : Int) (w : World) : Calls Try.prog 64 #[.agg #[.slice A len c, .int .i64 sp], .int .i64 f] w (RetB (.bool (decide (f < 0 ∨ (len : Int) ≤ f))) w) := by
  have hB := Blk.new w 72 #[.slice A len c, .int .i64 sp]
  have c1 := hB.f2
  by_cases h : f < 0
  · go_enter Try.func64, Try.ntmps64
    have t1 : decide (f < 0) = true := by simpa using h
    go_wp2
    go_ret
    exact RetB.bool (by simp [h]) (below_alloc _ _)
  · go_enter Try.func64, Try.ntmps64
    have t1 : decide (f < 0) = false := by simpa using h
    go_wp2
    go_ret
    exact RetB.bool (by simp) (below_alloc _ _)
end Go.Proofs.Ytbbnfenlpfoaiaa
