/- THE ENGINE, over any program, joined out of: Mem Mem2 Mem3 Frame Frame2 Loose G1 G2 G3 G4 G5 G5B G5C G5D. -/
import Derived.Test.YtblmebjhhanoaaaGreatChecked
import Derived.WalkKit
import Derived.WalkSpells
import Derived.WalkLawsBesides
import Derived.Lib.Hide
import Derived.Deep.Draws
import Derived.Deep.AppendLies
import Derived.Maps.AppendAt
import Derived.RegionTactic
import Derived.OwnWalk
import Derived.Laws.OwnMore
import Derived.Laws.Rows
import Derived.Deep.OwnRows
import Derived.Test.YtblmebjhhanoaaaGreatRows
import Derived.ProofKit
import Derived.OpenShut
import Derived.Deep.Slices
import Derived.Deep.Fields
import Derived.StillTail
import Derived.Below
import Derived.Great.BuildSlice
import Derived.OrdersIn
import Derived.TacticsIn
import Derived.Laws.StructEq
import Derived.Laws.CopyRow
import Derived.Laws.Cells
import Derived.Lib.SliceRun
import Derived.Laws.BytesString
/- MEMORY: what a slice holds, said of cells; append onto a row of the call's own. (The words 'Reads' and 'append_any' are the guide's extra-words, copied as it bids.) -/
set_option linter.unusedSimpArgs false
set_option linter.unusedVariables false
namespace Go.Proofs.YtblmebjhhanoaaaGreat
open Go.RowKit

/-- the call hands back v, and leaves the world as it was. -/
def Ret (v : Value) (w : World) (e : Ending) (w' : World) : Prop := e = .returned v ∧ w = w'
/-- the call hands back v; what was there lies as it lay. -/
def RetB (v : Value) (w : World) (e : Ending) (w' : World) : Prop := e = .returned v ∧ Below w.heap.size w w'
theorem Ret.of {v v' : Value} {w : World} (h : v' = v) : Ret v w (.returned v') w := ⟨by rw [h], rfl⟩
theorem Ret.int {a b : Int} {k : IntKind} {w : World} (h : a = b) : Ret (.int k b) w (.returned (.int k a)) w := ⟨by rw [h], rfl⟩
theorem Ret.bool {a b : Bool} {w : World} (h : a = b) : Ret (.bool b) w (.returned (.bool a)) w := ⟨by rw [h], rfl⟩
theorem Ret.intBool {a b : Int} {c d : Bool} {k : IntKind} {w : World} (h : a = b) (h2 : c = d) : Ret (.tuple #[.int k b, .bool d]) w (.returned (.tuple #[.int k a, .bool c])) w := ⟨by rw [h, h2], rfl⟩
theorem Ret.intInt {a b c d : Int} {k : IntKind} {w : World} (h : a = b) (h2 : c = d) : Ret (.tuple #[.int k b, .int k d]) w (.returned (.tuple #[.int k a, .int k c])) w := ⟨by rw [h, h2], rfl⟩
theorem RetB.bool {a b : Bool} {w w' : World} (h : a = b) (hb : Below w.heap.size w w') : RetB (.bool b) w (.returned (.bool a)) w' := ⟨by rw [h], hb⟩
theorem RetB.int {a b : Int} {k : IntKind} {w w' : World} (h : a = b) (hb : Below w.heap.size w w') : RetB (.int k b) w (.returned (.int k a)) w' := ⟨by rw [h], hb⟩
theorem RetB.of {v v' : Value} {w w' : World} (h : v' = v) (hb : Below w.heap.size w w') : RetB v w (.returned v') w' := ⟨by rw [h], hb⟩

theorem below_alloc (w : World) (o : Obj) : Below w.heap.size w (w.alloc o) := (Below.refl _ _).alloc (Nat.le_refl _) _
theorem below_step {w w' : World} (h : Below w.heap.size w w') (o : Obj) : Below w.heap.size w (w'.alloc o) := h.alloc h.size _
theorem below_drewN {B : Nat} {a w : World} (h : Below B a w) (n : Nat) : Below B a (w.drewN n) := ⟨h.os, h.tape, h.output, h.size, h.block⟩
theorem below_then {w a b : World} (h : Below w.heap.size w a) (k : Below a.heap.size a b) : Below w.heap.size w b := h.trans (k.mono h.size)
/-- all old cells and marks read as before (a pair of rules for the walk). -/
theorem bcell {W w1 : World} (hb : Below W.heap.size W w1) : (∀ b o, b < W.heap.size → w1.cell? ⟨b, o, none⟩ = W.cell? ⟨b, o, none⟩) ∧ (∀ b o, b < W.heap.size → w1.frozen? ⟨b, o, none⟩ = W.frozen? ⟨b, o, none⟩) :=
  ⟨fun b o h => hb.cell (p := ⟨b, o, none⟩) h, fun b o h => hb.frozen (p := ⟨b, o, none⟩) h⟩

/-! what a slice's cells hold -/
def CellsAt (w : World) (A : Option Addr) (cs : List Value) : Prop :=
  ∀ k (h : k < cs.length), ∃ b off, A = some ⟨b, off, none⟩ ∧ b < w.heap.size ∧ w.cell? ⟨b, off + k, none⟩ = some cs[k]
theorem CellsAt.nil {w : World} {A : Option Addr} : CellsAt w A [] := fun k h => by simp at h
theorem CellsAt.below {w w' : World} {A : Option Addr} {xs : List Value} (h : CellsAt w A xs) (hb : Below w.heap.size w w') : CellsAt w' A xs := fun k hk => by
  obtain ⟨b, off, e, hlt, hc⟩ := h k hk
  exact ⟨b, off, e, Nat.lt_of_lt_of_le hlt hb.size, (hb.cell (p := ⟨b, off + k, none⟩) hlt).trans hc⟩
/-- the cells behind a slice's head hold these numbers. -/
def IntsAt (w : World) (A : Option Addr) (xs : List Int) : Prop :=
  ∀ k (h : k < xs.length), ∃ b off, A = some ⟨b, off, none⟩ ∧ b < w.heap.size ∧ w.cell? ⟨b, off + k, none⟩ = some (.int .i64 xs[k])
theorem IntsAt.nil {w : World} {A : Option Addr} : IntsAt w A [] := fun k h => by simp at h
theorem IntsAt.cells {w : World} {A : Option Addr} {xs : List Int} (h : IntsAt w A xs) : CellsAt w A (xs.map (Value.int .i64)) := fun k hk => by
  rw [List.length_map] at hk
  obtain ⟨b, off, e, hlt, hc⟩ := h k hk
  exact ⟨b, off, e, hlt, by rw [hc]; simp⟩
theorem CellsAt.ints {w : World} {A : Option Addr} {xs : List Int} (h : CellsAt w A (xs.map (Value.int .i64))) : IntsAt w A xs := fun k hk => by
  obtain ⟨b, off, e, hlt, hc⟩ := h k (by simpa using hk)
  exact ⟨b, off, e, hlt, by rw [hc]; simp⟩
theorem IntsAt.below {w w' : World} {A : Option Addr} {xs : List Int} (h : IntsAt w A xs) (hb : Below w.heap.size w w') : IntsAt w' A xs := fun k hk => by
  obtain ⟨b, off, e, hlt, hc⟩ := h k hk
  exact ⟨b, off, e, Nat.lt_of_lt_of_le hlt hb.size, (hb.cell (p := ⟨b, off + k, none⟩) hlt).trans hc⟩
theorem IntsAt.drew {w : World} {A : Option Addr} {xs : List Int} (h : IntsAt w A xs) : IntsAt w.drew A xs := h
theorem IntsAt.drewN {w : World} {A : Option Addr} {xs : List Int} (h : IntsAt w A xs) (n : Nat) : IntsAt (w.drewN n) A xs := h
theorem CellsAt.drew {w : World} {A : Option Addr} {xs : List Value} (h : CellsAt w A xs) : CellsAt w.drew A xs := h
theorem CellsAt.drewN {w : World} {A : Option Addr} {xs : List Value} (h : CellsAt w A xs) (n : Nat) : CellsAt (w.drewN n) A xs := h
theorem cell_new (w : World) (cs : Array Value) (t : TypeId) (k : Nat) : (w.alloc (.cells cs t)).cell? ⟨w.heap.size, k, none⟩ = cs[k]? := by
  have h : (w.alloc (.cells cs t)).heap[w.heap.size]? = some (.cells cs t (0, 0)) := by
    show (w.heap.push _)[w.heap.size]? = _
    exact Array.getElem?_push_size
  unfold World.cell?
  simp only [h]
  rfl
theorem CellsAt.new (w : World) (cs : Array Value) (t : TypeId) : CellsAt (w.alloc (.cells cs t)) (some ⟨w.heap.size, 0, none⟩) cs.toList := fun k hk =>
  ⟨w.heap.size, 0, rfl, by simp, by rw [Nat.zero_add, cell_new]; simp⟩
theorem IntsAt.new (w : World) (xs : List Int) (t : TypeId) : IntsAt (w.alloc (.cells (xs.map (Value.int .i64)).toArray t)) (some ⟨w.heap.size, 0, none⟩) xs := fun k hk =>
  ⟨w.heap.size, 0, rfl, by simp, by rw [Nat.zero_add, cell_new]; simp [hk]⟩
theorem IntsAt.new1 (w : World) (B : Nat) (a : Int) (t : TypeId) (hB : B = w.heap.size) : IntsAt (w.alloc (.cells #[.int .i64 a] t)) (some ⟨B, 0, none⟩) [a] := by subst hB; exact IntsAt.new w [a] t
theorem IntsAt.new2 (w : World) (B : Nat) (a b : Int) (t : TypeId) (hB : B = w.heap.size) : IntsAt (w.alloc (.cells #[.int .i64 a, .int .i64 b] t)) (some ⟨B, 0, none⟩) [a, b] := by subst hB; exact IntsAt.new w [a, b] t
theorem IntsAt.new3 (w : World) (B : Nat) (a b c : Int) (t : TypeId) (hB : B = w.heap.size) : IntsAt (w.alloc (.cells #[.int .i64 a, .int .i64 b, .int .i64 c] t)) (some ⟨B, 0, none⟩) [a, b, c] := by subst hB; exact IntsAt.new w [a, b, c] t

theorem block_of_add (a : Addr) (n : Nat) : (a.add n).block = a.block := by unfold Addr.add; split <;> rfl
theorem add_of_add (a : Addr) (i j : Nat) : (a.add i).add j = a.add (i + j) := by
  unfold Addr.add
  by_cases hi : i = 0 <;> by_cases hj : j = 0 <;> simp [hi, hj, Nat.add_assoc]

def Reads (w : World) (B size : Nat) (A : Option Addr) (n : Nat) (xs : List Value) : Prop :=
  xs.length = n * size ∧ (0 < n → ∃ ad, A = some ad ∧ ad.block < B ∧ ∀ j u, xs[j]? = some u → w.cell? (ad.add j) = some u)

section
variable {w w' : World} {B B' size n : Nat} {A : Option Addr} {xs : List Value}
theorem Reads.none_ : Reads w B size A 0 [] := ⟨by simp, fun h => absurd h (by omega)⟩
theorem Reads.at_ {k : Nat} (h : Reads w B 1 A n xs) (hk : k < n) : ∃ ad u, A = some ad ∧ ad.block < B ∧ xs[k]? = some u ∧ w.cell? (ad.add k) = some u := by
  obtain ⟨ad, e, hb, hc⟩ := h.2 (by omega)
  have hl : k < xs.length := by have := h.1; omega
  exact ⟨ad, xs[k], e, hb, List.getElem?_eq_getElem hl, hc k _ (List.getElem?_eq_getElem hl)⟩
theorem Reads.keep (h : Reads w B size A n xs) (hk : ∀ p : Addr, p.block < B → w'.cell? p = w.cell? p) : Reads w' B size A n xs :=
  ⟨h.1, fun hn => by
    obtain ⟨ad, e, hb, hc⟩ := h.2 hn
    exact ⟨ad, e, hb, fun j u hu => (hk _ (by rw [block_of_add]; exact hb)).trans (hc j u hu)⟩⟩
theorem Reads.more (h : Reads w B size A n xs) (hB : B ≤ B') : Reads w B' size A n xs :=
  ⟨h.1, fun hn => by
    obtain ⟨ad, e, hb, hc⟩ := h.2 hn
    exact ⟨ad, e, by omega, hc⟩⟩
theorem Reads.below (h : Reads w B size A n xs) (hb : Below B w w') : Reads w' B size A n xs := h.keep fun _ hp => hb.cell hp
theorem Reads.drew (h : Reads w B size A n xs) : Reads w.drew B size A n xs := h
theorem Reads.drewN (h : Reads w B size A n xs) (k : Nat) : Reads (w.drewN k) B size A n xs := h
theorem Reads.alloc (h : Reads w B size A n xs) (hB : B ≤ w.heap.size) (o : Obj) : Reads (w.alloc o) B size A n xs := h.keep fun p hp => World.cell?_alloc_lt w o p (by omega)
theorem Reads.setCell (h : Reads w B size A n xs) {p : Addr} (hB : B ≤ p.block) (u : Value) : Reads (w.setCell p u) B size A n xs :=
  h.keep fun q hq => World.cell?_setCell_other w p q u (fun e => by subst e; omega)
theorem Reads.grown (h : Reads w B size A n xs) {row : Option Nat} (hg : w.grownBy w' row) (hB : B ≤ w.heap.size) (hr : ∀ g, row = some g → B ≤ g) : Reads w' B size A n xs :=
  h.keep fun p hp => World.cell?_of_block (hg.block p.block (by omega) (fun e => by have := hr _ e.symm; omega))
theorem Reads.cut (h : Reads w B size A n xs) {k cap : Nat} (hk : k ≤ n) (hc : n ≤ cap) :
    Reads w B size (if cap = k then A else A.map (·.add (k * size))) (n - k) (xs.drop (k * size)) := by
  refine ⟨by rw [List.length_drop, h.1, Nat.sub_mul], fun hn => ?_⟩
  obtain ⟨ad, rfl, hb, hcell⟩ := h.2 (by omega)
  rw [if_neg (by omega)]
  refine ⟨ad.add (k * size), rfl, by rw [block_of_add]; exact hb, fun j u hu => ?_⟩
  rw [add_of_add]
  exact hcell _ u (by rw [← hu, List.getElem?_drop])
theorem Reads.of_own {base : Nat} {e : TypeId} {c : Nat} (h : w.ownsRow base e size (.slice A n c) n xs) : Reads w w.heap.size size A n xs := by
  refine ⟨h.1, fun hn => ?_⟩
  obtain ⟨g, cap, hv, _, hlt⟩ := h.form hn
  have hA : A = some ⟨g, 0, none⟩ := by injection hv
  subst hA
  exact ⟨_, rfl, hlt, h.cells (g := g) rfl⟩
end

section
variable {P : Program} (w : World)

theorem run_append_of_nil (base : Nat) (t ty e : TypeId) (i : TypeInfo) (size : Nat) (ht : P.underlying t = some (.slice e)) (hi : P.info? e = some i)
    (v : Value) (n : Nat) (xs : List Value) (hown : w.ownsRow base e size v n xs) (c : Nat) : (Builtin.append_ #[t, t] ty #[v, .slice none 0 c]).run P w = .ok v w := by
  rcases hown.2 with ⟨rfl, rfl⟩ | ⟨g, cap, cur, rfl, _, _, hnc, _⟩
  · simp [Builtin.append_, run_underlying ht, sizeOf, typeInfo, hi, Builtin.lenOf, Builtin.firstCells]
  · simp [Builtin.append_, run_underlying ht, sizeOf, typeInfo, hi, Builtin.lenOf, Builtin.firstCells, hnc, storeCells]

theorem run_append_any (base : Nat) (t ty e : TypeId) (i : TypeInfo) (z : Value) (size bytes : Nat) (ht : P.underlying t = some (.slice e)) (hi : P.info? e = some i) (hz : i.zero = some z)
    (hsize : i.size = size) (hby : i.bytes = bytes) (hzs : z.cells.size = size) (hsz : 0 < size)
    (v : Value) (n : Nat) (xs : List Value) (hown : w.ownsRow base e size v n xs)
    (B : Nat) (A : Option Addr) (m c : Nat) (news : List Value) (hr : Reads w B size A m news) (h1 : ∀ u ∈ news, u.oneCell' = true)
    (h63 : n + m ≤ maxLen) (hbytes : (n + m) * bytes ≤ 140737488355328) (hbase : base ≤ w.heap.size) :
    ∃ v' w', (Builtin.append_ #[t, t] ty #[v, .slice A m c]).run P w = .ok v' w' ∧ w'.ownsRow base e size v' (n + m) (xs ++ news) ∧ w.grownBy w' v.ownBlock ∧
      (v'.ownBlock = v.ownBlock ∨ v'.ownBlock = some w.heap.size) := by
  rcases A with _ | ad
  · have hm : m = 0 := by
      rcases Nat.eq_zero_or_pos m with h0 | h0
      · exact h0
      · obtain ⟨ad, h, _⟩ := hr.2 h0
        cases h
    subst hm
    have hn : news = [] := List.eq_nil_of_length_eq_zero (by simpa using hr.1)
    subst hn
    exact ⟨v, w, run_append_of_nil w base t ty e i size ht hi v n xs hown c, by simpa using hown, World.grownBy.refl w _, .inl rfl⟩
  · have hcells : ∀ j u, news[j]? = some u → w.cell? (ad.add j) = some u := by
      intro j u hu
      rcases Nat.eq_zero_or_pos m with h0 | h0
      · subst h0
        have hn : news = [] := List.eq_nil_of_length_eq_zero (by simpa using hr.1)
        subst hn
        simp at hu
      · obtain ⟨ad', h, _, hc⟩ := hr.2 h0
        injection h with h
        subst h
        exact hc j u hu
    obtain ⟨v', w', hrun, h2, h3, _, h5⟩ := run_append_own_at (P := P) w base t ty e i z size bytes ht hi hz hsize hby hzs hsz v n xs hown ad m c news hr.1 hcells h1 h63 hbytes hbase
    exact ⟨v', w', hrun, h2, h3, h5⟩

theorem wp_append_any {o : Oper} {a : Act} {K : Act → World → Prop} {Q : Exit → Act → World → Prop} (s x : Operand) (t : TypeId)
    (ho : o.op = .call { callee := .builtin .append, args := #[s, x], argTypes := #[t, t] })
    (base : Nat) (e : TypeId) (i : TypeInfo) (z : Value) (size bytes : Nat) (ht : P.underlying t = some (.slice e)) (hi : P.info? e = some i) (hz : i.zero = some z)
    (hsize : i.size = size) (hby : i.bytes = bytes) (hzs : z.cells.size = size) (hsz : 0 < size)
    (v : Value) (n : Nat) (xs : List Value) (hs : a.eval s = v) (hown : w.ownsRow base e size v n xs)
    (B : Nat) (A : Option Addr) (m c : Nat) (news : List Value) (hx : a.eval x = .slice A m c) (hr : Reads w B size A m news) (h1 : ∀ u ∈ news, u.oneCell' = true)
    (h63 : n + m ≤ maxLen) (hbytes : (n + m) * bytes ≤ 140737488355328) (hbase : base ≤ w.heap.size)
    (h : ∀ v' w', w'.ownsRow base e size v' (n + m) (xs ++ news) → w.grownBy w' v.ownBlock → (v'.ownBlock = v.ownBlock ∨ v'.ownBlock = some w.heap.size) → K (a.put o.dst v') w') : o.wp P a w K Q := by
  obtain ⟨v', w', hrun, h2, h3, h4⟩ := run_append_any (P := P) w base t o.type e i z size bytes ht hi hz hsize hby hzs hsz v n xs hown B A m c news hr h1 h63 hbytes hbase
  unfold Oper.wp execOp
  simp only [ho, resolve, invoke, builtin, Sem.run_bind, Sem.run_pure, Result.andThen_ok, List.map_toArray, List.map_cons, List.map_nil, hs, hx, hrun]
  exact h v' w' h2 h3 h4

theorem wpList_append_any {ops : Array Oper} {rest : List Oper} {o : Oper} {a : Act} {Q : Exit → Act → World → Prop} (hgd : o.guard = none) (s x : Operand) (t : TypeId)
    (ho : o.op = .call { callee := .builtin .append, args := #[s, x], argTypes := #[t, t] })
    (base : Nat) (e : TypeId) (i : TypeInfo) (z : Value) (size bytes : Nat) (ht : P.underlying t = some (.slice e)) (hi : P.info? e = some i) (hz : i.zero = some z)
    (hsize : i.size = size) (hby : i.bytes = bytes) (hzs : z.cells.size = size) (hsz : 0 < size)
    (v : Value) (n : Nat) (xs : List Value) (hs : a.eval s = v) (hown : w.ownsRow base e size v n xs)
    (B : Nat) (A : Option Addr) (m c : Nat) (news : List Value) (hx : a.eval x = .slice A m c) (hr : Reads w B size A m news) (h1 : ∀ u ∈ news, u.oneCell' = true)
    (h63 : n + m ≤ maxLen) (hbytes : (n + m) * bytes ≤ 140737488355328) (hbase : base ≤ w.heap.size)
    (h : ∀ v' w', w'.ownsRow base e size v' (n + m) (xs ++ news) → w.grownBy w' v.ownBlock → (v'.ownBlock = v.ownBlock ∨ v'.ownBlock = some w.heap.size) → wpList P ops Q rest (a.put o.dst v') w') : wpList P ops Q (o :: rest) a w :=
  wpList_plain hgd fun _ hK => wp_append_any w s x t ho base e i z size bytes ht hi hz hsize hby hzs hsz v n xs hs hown B A m c news hx hr h1 h63 hbytes hbase fun v' w' h2 h3 h4 => hK _ _ (h v' w' h2 h3 h4)

theorem step_append_any {ops : Array Oper} {o : Oper} {a : Act} {K : Act → World → Prop} {Q : Exit → Act → World → Prop} {E : Prop} (hgd : o.guard = none) (s x : Operand) (t : TypeId)
    (ho : o.op = .call { callee := .builtin .append, args := #[s, x], argTypes := #[t, t] })
    (base : Nat) (e : TypeId) (i : TypeInfo) (z : Value) (size bytes : Nat) (ht : P.underlying t = some (.slice e)) (hi : P.info? e = some i) (hz : i.zero = some z)
    (hsize : i.size = size) (hby : i.bytes = bytes) (hzs : z.cells.size = size) (hsz : 0 < size)
    (v : Value) (n : Nat) (xs : List Value) (hs : a.eval s = v) (hown : w.ownsRow base e size v n xs)
    (B : Nat) (A : Option Addr) (m c : Nat) (news : List Value) (hx : a.eval x = .slice A m c) (hr : Reads w B size A m news) (h1 : ∀ u ∈ news, u.oneCell' = true)
    (h63 : n + m ≤ maxLen) (hbytes : (n + m) * bytes ≤ 140737488355328) (hbase : base ≤ w.heap.size)
    (h : ∀ v' w', w'.ownsRow base e size v' (n + m) (xs ++ news) → w.grownBy w' v.ownBlock → (v'.ownBlock = v.ownBlock ∨ v'.ownBlock = some w.heap.size) → K (a.put o.dst v') w') :
    if Region.wanted o (yielded ops a.tmps) = true then Oper.wp P o a w K Q else E := by
  have hw : Region.wanted o (yielded ops a.tmps) = true := by simp [Region.wanted, hgd]
  rw [if_pos hw]
  exact wp_append_any w s x t ho base e i z size bytes ht hi hz hsize hby hzs hsz v n xs hs hown B A m c news hx hr h1 h63 hbytes hbase h
end

/-- cells, as 'Reads' has them. -/
theorem CellsAt.reads {w : World} {A : Option Addr} {cs : List Value} {size n : Nat} (h : CellsAt w A cs) (hl : cs.length = n * size) (hs : 0 < size) : Reads w w.heap.size size A n cs := by
  refine ⟨hl, fun hn => ?_⟩
  have hpos : 0 < cs.length := by rw [hl]; exact Nat.mul_pos hn hs
  obtain ⟨b, off, rfl, hb, _⟩ := h 0 hpos
  refine ⟨⟨b, off, none⟩, rfl, hb, fun j u hu => ?_⟩
  obtain ⟨hj, rfl⟩ := List.getElem?_eq_some_iff.1 hu
  obtain ⟨b', off', e, _, hc⟩ := h j hj
  obtain ⟨rfl, rfl⟩ : b = b' ∧ off = off' := by injection e with e; injection e with e1 e2; exact ⟨e1, e2⟩
  rw [← hc]
  unfold Addr.add
  split <;> simp_all
/-- what the call owns, as cells. -/
theorem own_cells {w : World} {base : Nat} {e : TypeId} {size n : Nat} {v : Value} {xs : List Value} (h : w.ownsRow base e size v n xs) :
    ∃ A c, v = .slice A n c ∧ n ≤ c ∧ c ≤ maxLen ∧ CellsAt w A xs := by
  obtain ⟨hl, ⟨rfl, rfl⟩ | ⟨g, cap, cur, rfl, hg, hh, h1, h2, h3, h4⟩⟩ := h
  · have : xs = [] := List.eq_nil_of_length_eq_zero (by simpa using hl)
    subst this
    exact ⟨none, 0, rfl, Nat.le_refl _, Nat.zero_le _, CellsAt.nil⟩
  · refine ⟨_, _, rfl, h1, h2, fun k hk => ⟨g, 0, rfl, ?_, ?_⟩⟩
    · exact (Array.getElem?_eq_some_iff.1 hh).1
    · rw [Nat.zero_add]
      unfold World.cell?
      simp only [hh]
      subst h4
      have hk' : k < cur.size := by simp at hk; omega
      simp [hk']
theorem own_made0 (w : World) (base : Nat) (B : Nat) (e : TypeId) (size : Nat) (hb : base ≤ w.heap.size) (hB : B = w.heap.size) : (w.alloc (.cells #[] e)).ownsRow base e size (.slice (some ⟨B, 0, none⟩) 0 0) 0 [] := by
  subst hB; exact World.ownsRow_made w #[] 0 hb (by simp [maxLen]) (by simp)
end Go.Proofs.YtblmebjhhanoaaaGreat
/- MEMORY, MORE: a block that is known whole; only one block has turned. (The guide's extra-words 2 and extra-small 4, copied as they bid.) -/
set_option linter.unusedSimpArgs false
set_option linter.unusedVariables false
namespace Go.Proofs.YtblmebjhhanoaaaGreat
open Go.RowKit

def Blk (w : World) (g : Nat) (t : TypeId) (cs : Array Value) : Prop := w.heap[g]? = some (.cells cs t (0, 0))

section
variable {w w' : World} {g : Nat} {t : TypeId} {cs : Array Value}
theorem Blk.lt (h : Blk w g t cs) : g < w.heap.size := by
  rcases Nat.lt_or_ge g w.heap.size with hlt | hge
  · exact hlt
  · unfold Blk at h; rw [Array.getElem?_eq_none hge] at h; cases h
theorem Blk.cell (h : Blk w g t cs) (i : Nat) : w.cell? ⟨g, i, none⟩ = cs[i]? := cell_of_row w g i cs t (0, 0) h
theorem Blk.frozen (h : Blk w g t cs) (i : Nat) : w.frozen? ⟨g, i, none⟩ = false := by
  unfold Blk at h
  simp [World.frozen?, h]
theorem Blk.new (w : World) (t : TypeId) (cs : Array Value) : Blk (w.alloc (.cells cs t)) w.heap.size t cs := heap_alloc_new w _
theorem Blk.drew (h : Blk w g t cs) : Blk w.drew g t cs := h
theorem Blk.drewN (h : Blk w g t cs) (n : Nat) : Blk (w.drewN n) g t cs := h
theorem Blk.alloc (h : Blk w g t cs) (o : Obj) : Blk (w.alloc o) g t cs := (Below.heap_alloc w o g h.lt).trans h
theorem Blk.set_ (h : Blk w g t cs) (i : Nat) (u : Value) : Blk (w.setCell ⟨g, i, none⟩ u) g t (cs.setIfInBounds i u) := by
  unfold Blk at h ⊢
  simp [World.setCell, Array.getElem?_modify, h]
theorem Blk.far (h : Blk w g t cs) {p : Addr} (hp : g ≠ p.block) (u : Value) : Blk (w.setCell p u) g t cs := (Below.heap_setCell w p u g hp).trans h
theorem Blk.below {B : Nat} (h : Blk w g t cs) (hb : Below B w w') (hg : g < B) : Blk w' g t cs := (hb.block g hg).trans h
theorem Blk.grown {row : Option Nat} (h : Blk w g t cs) (hb : w.grownBy w' row) (hg : some g ≠ row) : Blk w' g t cs := (hb.block g h.lt hg).trans h
theorem Blk.ne_ {g' : Nat} {t' : TypeId} {cs' : Array Value} (h : Blk w g t cs) (h' : Blk w g' t' cs') (hne : t ≠ t') : g ≠ g' := by
  rintro rfl
  unfold Blk at h h'
  rw [h] at h'
  injection h' with h'
  injection h' with _ ht
  exact hne ht
theorem own_blk_ne {base : Nat} {e : TypeId} {size n : Nat} {v : Value} {xs : List Value} (h : w.ownsRow base e size v n xs) (hg : Blk w g t cs) (hne : e ≠ t) : v.ownBlock ≠ some g := by
  rcases h.2 with ⟨rfl, _⟩ | ⟨g', cap, cur, rfl, _, hh, _⟩
  · simp [Value.ownBlock]
  · intro he
    have : g' = g := by simpa [Value.ownBlock] using he
    subst this
    exact Blk.ne_ (t := e) hh hg hne rfl
end

theorem only_drewN {a w : World} {row : Option Nat} (h : a.grownBy w row) (n : Nat) : a.grownBy (w.drewN n) row := ⟨h.os, h.tape, h.output, h.size, h.block⟩
theorem only_drew {a w : World} {row : Option Nat} (h : a.grownBy w row) : a.grownBy w.drew row := ⟨h.os, h.tape, h.output, h.size, h.block⟩
theorem only_alloc {a w : World} {row : Option Nat} (h : a.grownBy w row) (o : Obj) : a.grownBy (w.alloc o) row :=
  ⟨h.os, h.tape, h.output, Nat.le_trans h.size (by simp), fun i hi hne => (Below.heap_alloc w o i (Nat.lt_of_lt_of_le hi h.size)).trans (h.block i hi hne)⟩
theorem only_setCell {a w : World} {g : Nat} (h : a.grownBy w (some g)) {p : Addr} (hp : p.block = g ∨ a.heap.size ≤ p.block) (u : Value) : a.grownBy (w.setCell p u) (some g) :=
  ⟨h.os, h.tape, h.output, by simpa [World.setCell] using h.size, fun i hi hne => (Below.heap_setCell w p u i (by
    rintro rfl
    rcases hp with hp | hp
    · exact hne (by rw [hp])
    · omega)).trans (h.block i hi hne)⟩
theorem only_of_below {a w : World} (h : Below a.heap.size a w) (row : Option Nat) : a.grownBy w row := ⟨h.os, h.tape, h.output, h.size, fun i hi _ => h.block i hi⟩

theorem ocell {W w1 : World} {g : Nat} (h : W.grownBy w1 (some g)) : (∀ b o, b < W.heap.size → b ≠ g → w1.cell? ⟨b, o, none⟩ = W.cell? ⟨b, o, none⟩) ∧ (∀ b o, b < W.heap.size → b ≠ g → w1.frozen? ⟨b, o, none⟩ = W.frozen? ⟨b, o, none⟩) :=
  ⟨fun b o hb hne => World.cell?_of_block (a := ⟨b, o, none⟩) (h.block b hb (fun e => hne (by injection e))), fun b o hb hne => World.frozen?_of_block (a := ⟨b, o, none⟩) (h.block b hb (fun e => hne (by injection e)))⟩
theorem below_set {w a : World} {b o : Nat} {v : Value} (h : Below w.heap.size w a) (hb : w.heap.size ≤ b) : Below w.heap.size w (a.setCell ⟨b, o, none⟩ v) := h.setCell hb _
theorem below_drew {w a : World} (h : Below w.heap.size w a) : Below w.heap.size w a.drew := h.drew
theorem below_drewN' {w a : World} {n : Nat} (h : Below w.heap.size w a) : Below w.heap.size w (a.drewN n) := below_drewN h n
theorem below_only' {w a b : World} {g : Nat} (h : Below w.heap.size w a) (hg : w.heap.size ≤ g) (k : a.grownBy b (some g)) : Below w.heap.size w b := h.grown k h.size (fun i hi => by injection hi with hi; omega)
theorem Blk.set0 {w : World} {g : Nat} {t : TypeId} {a b : Value} (h : Blk w g t #[a, b]) (u : Value) : Blk (w.setCell ⟨g, 0, none⟩ u) g t #[u, b] := h.set_ 0 u
theorem Blk.set1 {w : World} {g : Nat} {t : TypeId} {a b : Value} (h : Blk w g t #[a, b]) (u : Value) : Blk (w.setCell ⟨g, 1, none⟩ u) g t #[a, u] := h.set_ 1 u
theorem Blk.f1 {w : World} {g : Nat} {t : TypeId} {a : Value} (h : Blk w g t #[a]) : w.cell? ⟨g, 0, none⟩ = some a ∧ w.frozen? ⟨g, 0, none⟩ = false := ⟨h.cell 0, h.frozen 0⟩
theorem Blk.f2 {w : World} {g : Nat} {t : TypeId} {a b : Value} (h : Blk w g t #[a, b]) : w.cell? ⟨g, 0, none⟩ = some a ∧ w.cell? ⟨g, 1, none⟩ = some b ∧ w.frozen? ⟨g, 0, none⟩ = false ∧ w.frozen? ⟨g, 1, none⟩ = false :=
  ⟨h.cell 0, h.cell 1, h.frozen 0, h.frozen 1⟩
theorem Blk.f3 {w : World} {g : Nat} {t : TypeId} {a b c : Value} (h : Blk w g t #[a, b, c]) : w.cell? ⟨g, 0, none⟩ = some a ∧ w.cell? ⟨g, 1, none⟩ = some b ∧ w.cell? ⟨g, 2, none⟩ = some c ∧ w.frozen? ⟨g, 0, none⟩ = false ∧ w.frozen? ⟨g, 1, none⟩ = false ∧ w.frozen? ⟨g, 2, none⟩ = false :=
  ⟨h.cell 0, h.cell 1, h.cell 2, h.frozen 0, h.frozen 1, h.frozen 2⟩
theorem only_trans {a b c : World} {g : Nat} (h : a.grownBy b (some g)) (k : b.grownBy c (some g)) : a.grownBy c (some g) :=
  ⟨k.os.trans h.os, k.tape.trans h.tape, k.output.trans h.output, Nat.le_trans h.size k.size, fun i hi hne => (k.block i (Nat.lt_of_lt_of_le hi h.size) hne).trans (h.block i hi hne)⟩
theorem below_only {w a b : World} {g : Nat} (h : Below w.heap.size w a) (k : a.grownBy b (some g)) (hg : w.heap.size ≤ g) : Below w.heap.size w b :=
  h.grown k h.size (fun i hi => by injection hi with hi; omega)
theorem Blk.belowB {w w' : World} {g : Nat} {t : TypeId} {cs : Array Value} (h : Blk w g t cs) (hb : Below w.heap.size w w') : Blk w' g t cs := h.below hb h.lt
theorem Blk.newB (w : World) (B : Nat) (t : TypeId) (cs : Array Value) (hB : B = w.heap.size) : Blk (w.alloc (.cells cs t)) B t cs := by subst hB; exact Blk.new w t cs
theorem Blk.only {w w' : World} {g r : Nat} {t : TypeId} {cs : Array Value} (h : Blk w g t cs) (hg : w.grownBy w' (some r)) (hne : g ≠ r) : Blk w' g t cs := h.grown hg (fun e => hne (by injection e))
theorem CellsAt.only {w w' : World} {A : Option Addr} {cs : List Value} {r : Nat} (h : CellsAt w A cs) (hg : w.grownBy w' (some r)) (hne : ∀ b off, A = some ⟨b, off, none⟩ → b ≠ r) : CellsAt w' A cs := fun k hk => by
  obtain ⟨b, off, e, hb, hc⟩ := h k hk
  exact ⟨b, off, e, Nat.lt_of_lt_of_le hb hg.size, (World.cell?_of_block (a := ⟨b, off + k, none⟩) (hg.block b hb (fun e2 => hne b off e (by injection e2)))).trans hc⟩
end Go.Proofs.YtblmebjhhanoaaaGreat
/- MEMORY: slices of structs: rows of several cells each. No program in sight. -/
set_option linter.unusedSimpArgs false
set_option linter.unusedVariables false
namespace Go.Proofs.YtblmebjhhanoaaaGreat
open Go.RowKit

section
variable {α : Type} {f : α → List Value} {s : Nat}
theorem flat_len (hs : ∀ x, (f x).length = s) (xs : List α) : (xs.flatMap f).length = xs.length * s := by
  induction xs with
  | nil => simp
  | cons x xs ih => rw [List.flatMap_cons, List.length_append, hs, ih, List.length_cons, Nat.succ_mul]; omega
theorem flat_get (hs : ∀ x, (f x).length = s) (xs : List α) (k i : Nat) (hi : i < s) : (xs.flatMap f)[k * s + i]? = xs[k]?.bind (fun x => (f x)[i]?) := by
  induction xs generalizing k with
  | nil => simp
  | cons x xs ih =>
    rw [List.flatMap_cons]
    cases k with
    | zero =>
      rw [Nat.zero_mul, Nat.zero_add, List.getElem?_append_left (by rw [hs]; exact hi)]
      rfl
    | succ k =>
      rw [List.getElem?_append_right (by rw [hs, Nat.succ_mul]; omega), hs]
      have e : (k + 1) * s + i - s = k * s + i := by rw [Nat.succ_mul]; omega
      rw [e, ih]
      rfl
/-- the cells behind a slice's head hold these things, s cells each. -/
def RowAt (w : World) (A : Option Addr) (s : Nat) (f : α → List Value) (xs : List α) : Prop :=
  ∀ k (h : k < xs.length), ∃ b off, A = some ⟨b, off, none⟩ ∧ b < w.heap.size ∧ ∀ i, i < s → w.cell? ⟨b, off + k * s + i, none⟩ = (f xs[k])[i]?
theorem RowAt.nil {w : World} {A : Option Addr} : RowAt w A s f [] := fun k h => by simp at h
theorem RowAt.below {w w' : World} {A : Option Addr} {xs : List α} (h : RowAt w A s f xs) (hb : Below w.heap.size w w') : RowAt w' A s f xs := fun k hk => by
  obtain ⟨b, off, e, hlt, hc⟩ := h k hk
  exact ⟨b, off, e, Nat.lt_of_lt_of_le hlt hb.size, fun i hi => (hb.cell (p := ⟨b, _, none⟩) hlt).trans (hc i hi)⟩
theorem RowAt.cells (hs : ∀ x, (f x).length = s) (h0 : 0 < s) {w : World} {A : Option Addr} {xs : List α} (h : RowAt w A s f xs) : CellsAt w A (xs.flatMap f) := fun j hj => by
  have hl := flat_len hs xs
  have hk : j / s < xs.length := by rw [hl] at hj; exact Nat.div_lt_of_lt_mul (by rw [Nat.mul_comm]; exact hj)
  obtain ⟨b, off, e, hlt, hc⟩ := h (j / s) hk
  have hi : j % s < s := Nat.mod_lt _ h0
  have hj2 : j / s * s + j % s = j := by rw [Nat.mul_comm]; exact Nat.div_add_mod j s
  refine ⟨b, off, e, hlt, ?_⟩
  have h1 := hc (j % s) hi
  rw [Nat.add_assoc, hj2] at h1
  rw [h1]
  have h2 := flat_get hs xs (j / s) (j % s) hi
  rw [hj2, List.getElem?_eq_getElem hk, List.getElem?_eq_getElem hj] at h2
  exact h2.symm
theorem CellsAt.row (hs : ∀ x, (f x).length = s) {w : World} {A : Option Addr} {xs : List α} (h0 : 0 < s) (h : CellsAt w A (xs.flatMap f)) : RowAt w A s f xs := fun k hk => by
  have hl := flat_len hs xs
  have hb : ∀ i, i < s → k * s + i < (xs.flatMap f).length := fun i hi => by
    rw [hl]
    have := Nat.mul_le_mul_right s (Nat.succ_le_of_lt hk)
    rw [Nat.succ_mul] at this
    omega
  obtain ⟨b, off, e, hlt, -⟩ := h (k * s + 0) (hb 0 h0)
  refine ⟨b, off, e, hlt, fun i hi => ?_⟩
  obtain ⟨b', off', e', -, hc⟩ := h (k * s + i) (hb i hi)
  rw [e] at e'
  injection e' with e'
  injection e' with e1 e2
  subst e1; subst e2
  rw [Nat.add_assoc, hc]
  have h2 := flat_get hs xs k i hi
  rw [List.getElem?_eq_getElem hk, List.getElem?_eq_getElem (hb i hi)] at h2
  exact h2
theorem flat_one (h : ∀ x, ∀ u ∈ f x, u.oneCell' = true) (xs : List α) : ∀ u ∈ xs.flatMap f, u.oneCell' = true := fun u hu => by
  obtain ⟨x, -, hx⟩ := List.mem_flatMap.1 hu
  exact h x u hx
end
end Go.Proofs.YtblmebjhhanoaaaGreat
/- THE ROW's STEP: what every law's row shares. -/
set_option linter.unusedSimpArgs false
set_option linter.unusedVariables false
namespace Go.Proofs.YtblmebjhhanoaaaGreat
open Go.ChangeShapes Go.WideShapes Go.ChangeAt Go.RowKit

theorem own : ownKnob Tryz.prog.godebug = none := by kernel_rfl
theorem laidOut : laidOutB Tryz.prog = true := by kernel_rfl

section
variable {H : Type} {enc : TypeId × Value → H} {P : Program}
theorem post_of_below {f : Func} {s : ChangeSpec} {apart fresh handsOn again : Bool} {W W' : World} {args : Array Value} {v : Value} {ds gs : List (DataW H)} {before pa pv : List MemPlace}
    (hW : DataW.Whole enc P f.params.toList s.vars apart W args.toList ds gs before)
    (hres : ∀ (b : Nat) (sp : Nat → Bool) (hd : Bool), DataW.TrodAll enc P W' b sp hd f.resultTypes.toList (v.resultList f.resultTypes.size) (s.fn H (ds ++ gs)).results [])
    (hargs : ∀ sp : Nat → Bool, (∀ p ∈ before, sp p.block = true) → DataW.TrodAll enc P W' 0 sp true f.params.toList args.toList (s.fn H (ds ++ gs)).args pa)
    (hvars : ∀ sp : Nat → Bool, (∀ p ∈ before, sp p.block = true) → DataW.TrodVars enc P W' sp s.vars (s.fn H (ds ++ gs)).vars pv)
    (hps : before = pa ++ pv) (hb : Below W.heap.size W W')
    (hok : ∀ (j : Nat) (t : TypeId) (r : Value), f.resultTypes[j]? = some t → (v.resultList f.resultTypes.size)[j]? = some r → Value.okWide P W' .any 0 t r) :
    s.post enc P f apart fresh handsOn again W args v W' := by
  have hlt : ∀ p ∈ before, p.block < W.heap.size := fun p hp => hW.lt p hp
  have hold : ∀ p ∈ before, (fun b => decide (b < W.heap.size)) p.block = true := fun p hp => by simpa using hlt p hp
  refine ⟨ds, gs, before, [], pa, pv, hW, hres _ _ _, hargs _ hold, hvars _ hold, World.keptBut_mono (fun p hp => ⟨hp, ?_⟩) (hb.frame (· ∈ before)), fun _ => ?_⟩
  · rw [hps, List.mem_append] at hp
    exact Or.inr hp
  · obtain ⟨_, _, _, _, _, hz, hn⟩ := hW
    refine ⟨hok, _, _, ([] ++ pa) ++ pv, ⟨[] ++ pa, pv, trodAll_append (hargs _ (fun _ _ => rfl)) (hres _ _ _), hvars _ (fun _ _ => rfl), rfl, ?_, ?_⟩, ?_⟩
    · intro b off hp
      have hin : MemPlace.cell b off ∈ before := by rw [hps]; simpa using hp
      rw [hb.frozen (hlt _ hin)]
      exact hz b off hin
    · intro ha
      have := hn ha
      rw [hps] at this
      simpa using this
    · intro p hp _
      rw [hps]
      simpa using hp
/-- an argument reads behind the call as it read before. -/
theorem stays {t : TypeId} (hl : laidOutB P = true) (hr : P.readableRec t = true) (hrow : t < P.types.size) {W W' : World} {v : Value} {d : DataW H} {ps : List MemPlace} {sp : Nat → Bool}
    (h : DataW.Trod enc P W 0 (fun _ => true) true t v d ps) (hb : Below W.heap.size W W') (hlt : ∀ x ∈ ps, x.block < W.heap.size) (hsp : ∀ x ∈ ps, sp x.block = true) :
    DataW.Trod enc P W' 0 sp true t v d ps :=
  WideElems.Trod_stays hl hr hrow h (fun x hx => hb.same (hlt x hx)) (fun x hx => hsp x hx)
end
theorem i64_of_wf {n : Int} (h : (Lit.int .i64 n).wf = true) : -9223372036854775808 ≤ n ∧ n ≤ 9223372036854775807 := by
  simp only [Lit.wf, Bool.and_eq_true, decide_eq_true_eq] at h
  exact h
theorem open_intsAt {H : Type} {enc : TypeId × Value → H} {P : Program} {r : Reach} {b0 : Nat} {w : World} {t e : TypeId} {v : Value} {d : DataW H} {p : List MemPlace} (ht : P.underlying t = some (.slice e)) (he : P.underlying e = some (.int .i64)) (hc : P.cellsOf e = 1)
    (hv : Value.okWide P w r b0 t v) (h : DataW.Trod enc P w 0 (fun _ => true) true t v d p) (hlt : ∀ x ∈ p, x.block < w.heap.size) :
    ∃ A n c xs, v = .slice A n c ∧ n = xs.length ∧ n ≤ 9223372036854775807 ∧ (∀ x ∈ xs, -9223372036854775808 ≤ x ∧ x ≤ 9223372036854775807) ∧ IntsAt w A xs := by
  obtain ⟨a0, n0, c0, rfl⟩ := okWide_slice ht hv
  obtain ⟨fuel, hf⟩ := h
  rcases open_ints ht he hc hf with ⟨hcs, _⟩ | ⟨a, len, cap, zs, hcs, _, hl, hm, hz, hx, hcell, hwz⟩
  · simp [Value.cells] at hcs
    obtain ⟨rfl, rfl, rfl⟩ := hcs
    exact ⟨none, 0, 0, [], rfl, rfl, by omega, by simp, IntsAt.nil⟩
  · simp [Value.cells] at hcs
    obtain ⟨rfl, rfl, rfl⟩ := hcs
    simp only [if_true] at hz
    have hxp : p = MemPlace.row a zs.length := by simp only [Prod.mk.injEq] at hx; exact hx.2
    refine ⟨some a, n0, c0, zs.take n0, rfl, by simp; omega, by unfold maxLen at hm; omega, fun x hx' => i64_of_wf (hwz x (List.mem_of_mem_take hx')), fun k hk => ?_⟩
    have hk' : k < n0 ∧ k < zs.length := by simp at hk; omega
    obtain ⟨b, off, rfl, hc'⟩ := ints_at hcell (by omega)
    refine ⟨b, off, rfl, ?_, ?_⟩
    · have : MemPlace.cell b (off + k) ∈ p := by rw [hxp]; simp [MemPlace.row]; omega
      exact hlt _ this
    · rw [hc' k hk'.2]; simp [hk'.2]
end Go.Proofs.YtblmebjhhanoaaaGreat
/- THE ROW's STEP: arguments that are structs, or slices of structs. -/
set_option linter.unusedSimpArgs false
set_option linter.unusedVariables false
namespace Go.Proofs.YtblmebjhhanoaaaGreat
open Go.ChangeShapes Go.WideShapes Go.ChangeAt Go.RowKit Go.Deep

theorem list_of {α : Type} {Q : Nat → α → Prop} {n : Nat} (h : ∀ i, i < n → ∃ x, Q i x) : ∃ xs : List α, xs.length = n ∧ ∀ i (hi : i < xs.length), Q i xs[i] := by
  induction n with
  | zero => exact ⟨[], rfl, fun i hi => absurd hi (by simp)⟩
  | succ n ih =>
    obtain ⟨xs, hl, hq⟩ := ih (fun i hi => h i (by omega))
    obtain ⟨x, hx⟩ := h n (by omega)
    refine ⟨xs ++ [x], by simp [hl], fun i hi => ?_⟩
    rw [List.getElem_append]
    split
    · next h1 => exact hq i h1
    · next h1 =>
      have : i = n := by simp at hi; omega
      subst this
      simpa [hl] using hx
theorem arr_of {cs : Array Value} {l : List Value} (hs : cs.size = l.length) (h : ∀ j, j < l.length → cs[j]? = l[j]?) : cs = l.toArray := by
  apply Array.ext_getElem?
  intro i
  by_cases hi : i < l.length
  · rw [h i hi]; simp
  · rw [Array.getElem?_eq_none (by omega), Array.getElem?_eq_none (by simp; omega)]
section
variable {H : Type} {enc : TypeId × Value → H} {P : Program} {w : World} {t e : TypeId} {fs : Array Field} {v : Value} {d : DataW H} {p : List MemPlace} {r : Reach} {b0 : Nat}
/-- a struct by value: each field's own value reads as its type says. -/
theorem open_fields (hs : P.underlying t = some (.struct fs)) (hone : oneCellFields P fs = true) (hC : P.cellsOf t = fs.size) (hv : Value.okWide P w r b0 t v) (h : DataW.Trod enc P w 0 (fun _ => true) true t v d p) :
    ∃ cs : Array Value, v = .agg cs ∧ cs.size = fs.size ∧ ∀ (j : Nat) (f : Field), fs[j]? = some f → ∃ u y q, cs[j]? = some u ∧ DataW.trod enc P w 0 (fun _ => true) true q f.type [u] = some y := by
  obtain ⟨cs, rfl, hsz⟩ := okWide_struct hs hv
  refine ⟨cs, rfl, hsz.trans hC, fun j f hj => ?_⟩
  obtain ⟨fuel, hf⟩ := h
  obtain ⟨xs, n, _, _, _, hlen, hg⟩ := DataW.trod_struct hs hf
  obtain ⟨ho, hk⟩ := hone_of hone j f hj
  have hjl : j < fs.size := (Array.getElem?_eq_some_iff.1 hj).1
  have h1 := hg j f hj
  rw [ho, hk] at h1
  have hl : j < cs.toList.length := by rw [Array.length_toList, hsz, hC]; exact hjl
  have e1 : (cs.toList.drop j).take 1 = [cs.toList[j]] := by rw [List.drop_eq_getElem_cons hl]; rfl
  have h2 : DataW.trod enc P w 0 (fun _ => true) true n f.type ((cs.toList.drop j).take 1) = xs[j]? := h1
  rw [e1] at h2
  refine ⟨cs.toList[j], xs[j]'(by omega), n, ?_, h2.trans (List.getElem?_eq_getElem _)⟩
  rw [← Array.getElem?_toList]
  exact List.getElem?_eq_getElem hl
/-- a slice of structs: each element's cells are there, and each reads as its type says. -/
theorem open_rows (ht : P.underlying t = some (.slice e)) (he : P.underlying e = some (.struct fs)) (hone : oneCellFields P fs = true) (hC : P.cellsOf e = fs.size) (h0 : 0 < fs.size)
    (hv : Value.okWide P w r b0 t v) (h : DataW.Trod enc P w 0 (fun _ => true) true t v d p) (hlt : ∀ x ∈ p, x.block < w.heap.size) :
    ∃ A n c, v = .slice A n c ∧ n ≤ 9223372036854775807 ∧ ∀ i, i < n → ∃ b off, A = some ⟨b, off, none⟩ ∧ b < w.heap.size ∧
      ∀ (j : Nat) (f : Field), fs[j]? = some f → ∃ u y q, w.cell? ⟨b, off + i * fs.size + j, none⟩ = some u ∧ DataW.trod enc P w 0 (fun _ => true) true q f.type [u] = some y := by
  obtain ⟨a0, n0, c0, rfl⟩ := okWide_slice ht hv
  obtain ⟨fuel, hf⟩ := h
  rcases open_slice ht hf with ⟨hcs, -⟩ | ⟨a, len, cap, m, n, D, Pl, hcs, -, hl, hm, hmm, hx, hi⟩
  · simp [Value.cells] at hcs
    obtain ⟨rfl, rfl, rfl⟩ := hcs
    exact ⟨none, 0, 0, rfl, by omega, fun i hi => absurd hi (by omega)⟩
  · simp [Value.cells] at hcs
    obtain ⟨rfl, rfl, rfl⟩ := hcs
    simp only [if_true] at hmm
    subst hmm
    have hp : p = MemPlace.row a (m * fs.size) ++ (List.range m).flatMap Pl := by rw [← hC]; exact (Prod.mk.inj hx).2
    refine ⟨some a, n0, m, rfl, by unfold maxLen at hm; omega, fun i hin => ?_⟩
    have hcell : ∀ j (f : Field), fs[j]? = some f → ∃ u y q, w.cell? (a.add (i * fs.size + j)) = some u ∧ DataW.trod enc P w 0 (fun _ => true) true q f.type [u] = some y := by
      intro j f hj
      obtain ⟨cs', hc, ht'⟩ := hi i (by omega)
      rw [hC] at hc
      obtain ⟨ys, n', -, -, -, hyl, hg⟩ := DataW.trod_struct he ht'
      obtain ⟨_, hcl, hat⟩ := World.cells?_some hc
      obtain ⟨ho, hk⟩ := hone_of hone j f hj
      have hjl : j < fs.size := (Array.getElem?_eq_some_iff.1 hj).1
      have h1 := hg j f hj
      rw [ho, hk] at h1
      have e1 : (cs'.drop j).take 1 = [cs'[j]'(by omega)] := by rw [List.drop_eq_getElem_cons (by omega)]; rfl
      rw [e1] at h1
      refine ⟨cs'[j]'(by omega), ys[j]'(by omega), n', ?_, h1.trans (List.getElem?_eq_getElem _)⟩
      rw [← Go.Deep.add_add, hat j hjl]
      exact List.getElem?_eq_getElem _
    obtain ⟨b, off, spot⟩ := a
    obtain ⟨f0, hf0⟩ : ∃ f, fs[0]? = some f := ⟨_, Array.getElem?_eq_getElem h0⟩
    have hspot : spot = none := by
      by_cases hz : i * fs.size + 0 = 0
      · obtain ⟨u, -, -, hu, -⟩ := hcell 0 f0 hf0
        rw [hz] at hu
        simpa [Addr.add] using World.cell?_spot hu
      · obtain ⟨cs', hc, -⟩ := hi 0 (by omega)
        rw [hC] at hc
        obtain ⟨_, hcl, hat⟩ := World.cells?_some hc
        have := hat 0 h0
        rw [List.getElem?_eq_getElem (by omega)] at this
        simpa [Addr.add] using World.cell?_spot this
    subst hspot
    refine ⟨b, off, rfl, ?_, fun j f hj => ?_⟩
    · have h3 : 0 < m * fs.size := Nat.mul_pos (by omega) h0
      have : MemPlace.cell b off ∈ p := by rw [hp]; simp [MemPlace.row]; exact .inl h3
      exact hlt _ this
    · obtain ⟨u, y, q, hu, hy⟩ := hcell j f hj
      refine ⟨u, y, q, ?_, hy⟩
      rw [Nat.add_assoc, ← hu, ← Go.WideShapes.add_plain]
end
end Go.Proofs.YtblmebjhhanoaaaGreat
/- REGIONS: a statement whose order is open, its operations shown one by one, each in whatever world of a class; over any program. -/
set_option linter.unusedSimpArgs false
set_option linter.unusedVariables false
namespace Go.Proofs.YtblmebjhhanoaaaGreat
open Go

section
variable {P : Program} {ops : Array Oper} {md : Region.Mode}

/-- the edge 'i waits for d', one step. -/
def waits (md : Region.Mode) (ops : Array Oper) (i d : Nat) : Bool := Region.waitsFor md ops i d

/-- the slot that operation j writes. -/
def dstOf (ops : Array Oper) (j : Nat) : Option Tmp := (ops[j]?).bind (·.dst)

/-- the head: edges go back; no slot is written twice; who looks at a slot that another one writes waits for it, or is waited for. -/
def headB (md : Region.Mode) (ops : Array Oper) (n : Nat) : Bool :=
  (List.range n).all fun i => match ops[i]? with
    | none => false
    | some o =>
      (o.after.toList.all fun e => !Region.binds md e || decide (e.on < i)) &&
      (List.range n).all fun d => decide (d = i) || match dstOf ops d with
        | none => true
        | some t => decide (o.dst ≠ some t) && (!(o.looksAt ops).contains t || waits md ops i d || waits md ops d i)

/-- the values of those that have come up, laid into the frame. -/
def fill (dst : Nat → Option Tmp) (a0 : Act) (listed : Nat → Bool) (vs : Nat → Value) : Nat → Act
  | 0 => a0
  | k + 1 => if listed k then (fill dst a0 listed vs k).put (dst k) (vs k) else fill dst a0 listed vs k

def set1 {α : Type} (f : Nat → α) (i : Nat) (v : α) : Nat → α := fun j => if j = i then v else f j

theorem fill_congr {dst : Nat → Option Tmp} {a0 : Act} {l l' : Nat → Bool} {vs vs' : Nat → Value} : ∀ k, (∀ j, j < k → l j = l' j) → (∀ j, j < k → l j = true → vs j = vs' j) → fill dst a0 l vs k = fill dst a0 l' vs' k
  | 0, _, _ => rfl
  | k + 1, h1, h2 => by
    have ih := fill_congr (dst := dst) (a0 := a0) k (fun j hj => h1 j (by omega)) (fun j hj => h2 j (by omega))
    unfold fill
    rw [← h1 k (by omega), ih]
    by_cases h : l k = true
    · rw [if_pos h, if_pos h, h2 k (by omega) h]
    · rw [if_neg h, if_neg h]

theorem put_comm' (a : Act) {x y : Option Tmp} (v u : Value) (h : ∀ d, x = some d → y ≠ some d) : (a.put x v).put y u = (a.put y u).put x v := Act.put_comm a v u h

/-- one more has come up. -/
theorem fill_put {dst : Nat → Option Tmp} {a0 : Act} {l : Nat → Bool} {vs : Nat → Value} {i : Nat} {v : Value} (hl : l i = false) :
    ∀ k, i < k → (∀ j, j < k → j ≠ i → ∀ d, dst j = some d → dst i ≠ some d) → (fill dst a0 l vs k).put (dst i) v = fill dst a0 (set1 l i true) (set1 vs i v) k
  | 0, h, _ => absurd h (by omega)
  | k + 1, h, hd => by
    by_cases hk : k = i
    · subst hk
      have hc : fill dst a0 (set1 l k true) (set1 vs k v) k = fill dst a0 l vs k := by
        refine fill_congr k (fun j hj => ?_) (fun j hj _ => ?_)
        · unfold set1; rw [if_neg (by omega)]
        · unfold set1; rw [if_neg (by omega)]
      have e1 : set1 l k true k = true := by unfold set1; rw [if_pos rfl]
      have e2 : set1 vs k v k = v := by unfold set1; rw [if_pos rfl]
      show (if l k then _ else _ : Act).put _ _ = (if set1 l k true k then _ else _ : Act)
      rw [hl, e1, e2, hc]
      rfl
    · have ih := fill_put (a0 := a0) (vs := vs) (v := v) hl k (by omega) (fun j hj => hd j (by omega))
      have e1 : set1 l i true k = l k := by unfold set1; rw [if_neg hk]
      have e2 : set1 vs i v k = vs k := by unfold set1; rw [if_neg hk]
      show (if l k then _ else _ : Act).put _ _ = (if set1 l i true k then _ else _ : Act)
      rw [e1, e2, ← ih]
      by_cases hlk : l k = true
      · rw [if_pos hlk, if_pos hlk]
        exact put_comm' _ _ _ (fun d hdk => hd k (by omega) hk d hdk)
      · rw [if_neg hlk, if_neg hlk]

theorem eval_put_ne {a : Act} {x : Option Tmp} {v : Value} {t : Tmp} (h : x ≠ some t) : (a.put x v).eval (.tmp t) = a.eval (.tmp t) :=
  Act.eval_put (fun d hd e => by injection e with e; subst e; exact h hd)
theorem eval_put_eq {a : Act} {v : Value} {t : Tmp} (h : t < a.tmps.size) : (a.put (some t) v).eval (.tmp t) = v := by
  simp [Act.eval, Act.put, h]
theorem size_put (a : Act) (x : Option Tmp) (v : Value) : (a.put x v).tmps.size = a.tmps.size := by
  cases x <;> simp [Act.put]
theorem size_fill {dst : Nat → Option Tmp} {a0 : Act} {l : Nat → Bool} {vs : Nat → Value} : ∀ k, (fill dst a0 l vs k).tmps.size = a0.tmps.size
  | 0 => rfl
  | k + 1 => by
    unfold fill
    split
    · rw [size_put, size_fill k]
    · exact size_fill k
/-- nobody who has come up writes the slot. -/
theorem eval_fill_none {dst : Nat → Option Tmp} {a0 : Act} {l : Nat → Bool} {vs : Nat → Value} {t : Tmp} : ∀ k, (∀ j, j < k → l j = true → dst j ≠ some t) → (fill dst a0 l vs k).eval (.tmp t) = a0.eval (.tmp t)
  | 0, _ => rfl
  | k + 1, h => by
    have ih := eval_fill_none (dst := dst) (a0 := a0) (vs := vs) k (fun j hj => h j (by omega))
    unfold fill
    split
    · rename_i hk
      rw [eval_put_ne (h k (by omega) hk), ih]
    · exact ih
theorem eval_fill_some {dst : Nat → Option Tmp} {a0 : Act} {l : Nat → Bool} {vs : Nat → Value} {t : Tmp} {d : Nat} (ht : t < a0.tmps.size) (hd : dst d = some t) (hl : l d = true) :
    ∀ k, d < k → (∀ j, j < k → j ≠ d → dst j ≠ some t) → (fill dst a0 l vs k).eval (.tmp t) = vs d
  | 0, h, _ => absurd h (by omega)
  | k + 1, h, hu => by
    by_cases hk : k = d
    · subst hk
      show (if l k then _ else _ : Act).eval _ = _
      rw [if_pos hl, hd]
      exact eval_put_eq (by rw [size_fill]; exact ht)
    · have ih := eval_fill_some (a0 := a0) (vs := vs) ht hd hl k (by omega) (fun j hj => hu j (by omega))
      show (if l k then _ else _ : Act).eval _ = _
      split
      · rw [eval_put_ne (hu k (by omega) hk), ih]
      · exact ih


def cnt (p : Nat → Bool) : Nat → Nat
  | 0 => 0
  | k + 1 => cnt p k + if p k then 1 else 0
theorem cnt_congr {p q : Nat → Bool} : ∀ k, (∀ j, j < k → p j = q j) → cnt p k = cnt q k
  | 0, _ => rfl
  | k + 1, h => by
    have ih := cnt_congr (p := p) (q := q) k (fun j hj => h j (by omega))
    unfold cnt
    rw [ih, h k (by omega)]
theorem cnt_set {p : Nat → Bool} {i : Nat} (hp : p i = true) : ∀ k, i < k → cnt p k = cnt (set1 p i false) k + 1
  | 0, h => absurd h (by omega)
  | k + 1, h => by
    by_cases hk : k = i
    · subst hk
      have e : cnt (set1 p k false) k = cnt p k := cnt_congr k (fun j hj => by unfold set1; rw [if_neg (by omega)])
      have e1 : set1 p k false k = false := by unfold set1; rw [if_pos rfl]
      unfold cnt
      rw [e, e1, hp]
      rfl
    · have ih := cnt_set hp k (by omega)
      have e1 : set1 p i false k = p k := by unfold set1; rw [if_neg hk]
      unfold cnt
      rw [ih, e1]
      omega
theorem cnt_zero {p : Nat → Bool} : ∀ k, cnt p k = 0 → ∀ j, j < k → p j = false
  | 0, _, j, hj => absurd hj (by omega)
  | k + 1, h, j, hj => by
    unfold cnt at h
    have h1 : cnt p k = 0 := by omega
    by_cases hjk : j = k
    · subst hjk
      cases hp : p j with
      | false => rfl
      | true => rw [hp] at h; simp at h
    · exact cnt_zero k h1 j (by omega)
theorem cnt_pos {p : Nat → Bool} : ∀ k, cnt p k ≠ 0 → ∃ j, j < k ∧ p j = true ∧ ∀ i, i < j → p i = false
  | 0, h => absurd rfl h
  | k + 1, h => by
    by_cases h0 : cnt p k = 0
    · have hz := cnt_zero k h0
      refine ⟨k, by omega, ?_, hz⟩
      unfold cnt at h
      rw [h0] at h
      cases hp : p k with
      | true => rfl
      | false => rw [hp] at h; simp at h
    · obtain ⟨j, hj, h1, h2⟩ := cnt_pos k h0
      exact ⟨j, by omega, h1, h2⟩

/-- what an operation looks at, as data: slots that an operation of the head writes (and which), and others. -/
structure Look where
  own : List (Tmp × Nat)
  old : List Tmp

def OwnAll (V : Nat → Value → World → Prop) (a : Act) (w : World) : List (Tmp × Nat) → Prop
  | [] => True
  | p :: r => V p.2 (a.eval (.tmp p.1)) w ∧ OwnAll V a w r
def OldAll (a0 a : Act) : List Tmp → Prop
  | [] => True
  | t :: r => a.eval (.tmp t) = a0.eval (.tmp t) ∧ OldAll a0 a r

/-- what is asked of one operation of the head: in whatever world of the class, what it looks at being as it is described, it leaves a value that is as it is described, and a world of the class. -/
def StepOk (P : Program) (ops : Array Oper) (Q : Exit → Act → World → Prop) (a0 : Act) (C : World → Prop) (Ev : World → World → Prop) (V : Nat → Value → World → Prop) (i : Nat) (o : Oper) (lk : Look) : Prop :=
  ∀ (a : Act) (w : World) (K : Act → World → Prop), C w → OwnAll V a w lk.own → OldAll a0 a lk.old →
    (∀ v w', V i v w' → C w' → Ev w w' → K (a.put o.dst v) w') →
    if Region.wanted o (yielded ops a.tmps) then o.wp P a w K Q else K (a.put o.dst undef) w

/-- all of the head's, one behind the other. -/
def Steps (P : Program) (ops : Array Oper) (Q : Exit → Act → World → Prop) (a0 : Act) (C : World → Prop) (Ev : World → World → Prop) (V : Nat → Value → World → Prop) : Nat → List Oper → List Look → Prop
  | i, o :: os, lk :: lks => StepOk P ops Q a0 C Ev V i o lk ∧ Steps P ops Q a0 C Ev V (i + 1) os lks
  | _, [], [] => True
  | _, _, _ => False

theorem steps_at {Q : Exit → Act → World → Prop} {a0 : Act} {C : World → Prop} {Ev : World → World → Prop} {V : Nat → Value → World → Prop} :
    ∀ (os : List Oper) (lks : List Look) (k : Nat), Steps P ops Q a0 C Ev V k os lks → ∀ j o, os[j]? = some o → ∃ lk, lks[j]? = some lk ∧ StepOk P ops Q a0 C Ev V (k + j) o lk
  | [], _, _, _, j, o, h => by simp at h
  | _ :: _, [], _, h, _, _, _ => h.elim
  | o' :: os, lk :: lks, k, h, 0, o, ho => by
    obtain rfl : o' = o := by simpa using ho
    exact ⟨lk, rfl, h.1⟩
  | o' :: os, lk :: lks, k, h, j + 1, o, ho => by
    obtain ⟨lk', h1, h2⟩ := steps_at os lks (k + 1) h.2 j o (by simpa using ho)
    exact ⟨lk', by simpa using h1, by rw [show k + (j + 1) = k + 1 + j by omega]; exact h2⟩

/-- the data are right. -/
def lookB (md : Region.Mode) (ops : Array Oper) (n : Nat) (lks : List Look) : Bool :=
  (List.range n).all fun i => match ops[i]?, lks[i]? with
    | some o, some lk =>
      (lk.own.all fun p => decide (p.2 < n) && decide (dstOf ops p.2 = some p.1) && waits md ops i p.2) &&
      (lk.old.all fun t => (o.looksAt ops).contains t && (List.range n).all fun d => decide (d = i) || decide (dstOf ops d ≠ some t) || waits md ops d i)
    | _, _ => false

def mask (n m : Nat) : Array Bool := (Array.range m).map fun i => decide (i < n)

def looseB (md : Region.Mode) (ops : Array Oper) (n : Nat) : Bool :=
  decide (n ≤ ops.size) && headB md ops n && (decide (n = ops.size) || Region.sinkB md ops n) && Region.chainB md ops n && Region.seqB md ops (ops.size - n) n (mask n ops.size)

theorem mask_getD (n m i : Nat) (h : i < m) (b : Bool) : (mask n m).getD i b = decide (i < n) := by
  simp [mask, h]

theorem loose_all {Q : Exit → Act → World → Prop} {a0 : Act} {n : Nat} {C : World → Prop} {Ev : World → World → Prop} {V : Nat → Value → World → Prop}
    (hB : looseB md ops n = true) (hV : ∀ j v w w', V j v w → Ev w w' → V j v w')
    (hsz : ∀ j t, j < n → dstOf ops j = some t → t < a0.tmps.size)
    {lks : List Look} (hL : lookB md ops n lks = true) (hstep : ∀ i o, i < n → ops[i]? = some o → ∃ lk, lks[i]? = some lk ∧ StepOk P ops Q a0 C Ev V i o lk)
    (hend : ∀ vs w, C w → (∀ j, j < n → V j (vs j) w) → wpList P ops Q (ops.toList.drop n) (fill (dstOf ops) a0 (fun _ => true) vs n) w) :
    ∀ (f : Nat) (listed : Array Bool) (vs : Nat → Value) (w : World), HeadInv md ops n listed → cnt (fun j => !listed.getD j false) n = f → C w → (∀ j, j < n → listed.getD j false = true → V j (vs j) w) →
      wpAny P md ops Q (f + (ops.size - n)) listed (fill (dstOf ops) a0 (fun j => listed.getD j false) vs n) w := by
  simp only [looseB, Bool.and_eq_true, decide_eq_true_eq, Bool.or_eq_true] at hB
  obtain ⟨⟨⟨⟨hn, hh⟩, hs⟩, hc⟩, hq⟩ := hB
  have head : ∀ i, i < n → ∃ o, ops[i]? = some o ∧ (∀ e ∈ o.after, Region.binds md e = true → e.on < i) ∧
      ∀ d, d < n → d ≠ i → ∀ t, dstOf ops d = some t → o.dst ≠ some t ∧ (t ∈ o.looksAt ops → waits md ops i d = true ∨ waits md ops d i = true) := by
    intro i hi
    have h1 := List.all_eq_true.1 hh i (List.mem_range.2 hi)
    cases ho : ops[i]? with
    | none => rw [ho] at h1; simp at h1
    | some o =>
      rw [ho] at h1
      simp only [Bool.and_eq_true] at h1
      refine ⟨o, rfl, fun e he hb => ?_, fun d hd hdi t ht => ?_⟩
      · have h2 := List.all_eq_true.1 h1.1 e (by simpa using he)
        simpa [hb] using h2
      · have h2 := List.all_eq_true.1 h1.2 d (List.mem_range.2 hd)
        simp only [Bool.or_eq_true, decide_eq_true_eq] at h2
        rcases h2 with h2 | h2
        · exact absurd h2 hdi
        · rw [ht] at h2
          simp only [Bool.and_eq_true, decide_eq_true_eq, Bool.or_eq_true, Bool.not_eq_true'] at h2
          refine ⟨h2.1, fun hm => ?_⟩
          rcases h2.2 with (h3 | h3) | h3
          · exact absurd hm (by simpa using h3)
          · exact .inl h3
          · exact .inr h3
  intro f
  induction f with
  | zero =>
    intro listed vs w inv hcnt hCw hVs
    have hall := cnt_zero n hcnt
    have hl : ∀ j, j < n → listed.getD j false = true := fun j hj => by simpa using hall j hj
    have he : listed = mask n ops.size := by
      refine Array.ext (by rw [inv.size]; simp [mask]) fun i h1 h2 => ?_
      have hi : i < ops.size := by rw [← inv.size]; exact h1
      have e2 : (mask n ops.size)[i] = decide (i < n) := by simp [mask]
      rw [e2]
      by_cases hin : i < n
      · have := hl i hin
        simpa [h1, hin] using this
      · have := inv.tail i (by omega) hi
        simpa [h1, hin] using this
    have ha : fill (dstOf ops) a0 (fun j => listed.getD j false) vs n = fill (dstOf ops) a0 (fun _ => true) vs n := fill_congr n (fun j hj => hl j hj) (fun _ _ _ => rfl)
    rw [Nat.zero_add, ha]
    have hlen : (ops.toList.drop n).length = ops.size - n := by simp
    rw [← hlen]
    refine wpAny_of_seq (ops.toList.drop n) n listed _ w (fun j => by simp [List.getElem?_drop]) ?_ (hend vs w hCw fun j hj => hVs j hj (hl j hj))
    rw [hlen, he]
    exact hq
  | succ f ih =>
    intro listed vs w inv hcnt hCw hVs
    obtain ⟨m, hm, hm1, hm2⟩ := cnt_pos n (by rw [hcnt]; omega)
    have hmun : listed.getD m false = false := by simpa using hm1
    have hmun' : listed.getD m true = false := getD_in (by rw [inv.size]; omega) hmun
    have hmr : m ∈ Region.ready md ops listed := by
      obtain ⟨o, ho, hedge, _⟩ := head m hm
      refine mem_ready.2 ⟨hmun', o, ho, fun e he hb => ?_⟩
      have := hm2 e.on (hedge e he hb)
      simpa using this
    rw [show f + 1 + (ops.size - n) = (f + (ops.size - n)) + 1 by omega]
    refine ⟨fun h0 => (by rw [h0] at hmr; cases hmr), fun i hi => ?_⟩
    have hin : i < n := by
      rcases Nat.lt_or_ge i n with h | h
      · exact h
      · rcases hs with hs | hs
        · obtain ⟨_, o, ho, _⟩ := mem_ready.1 hi
          have := (Array.getElem?_eq_some_iff.1 ho).1
          omega
        · have hnlt : n < ops.size := by
            obtain ⟨_, o, ho, _⟩ := mem_ready.1 hi
            have := (Array.getElem?_eq_some_iff.1 ho).1
            omega
          exact absurd hi (tail_waits hs hc hnlt inv _ m rfl hm hmun' i h)
    obtain ⟨hiun, o, ho, hall⟩ := mem_ready.1 hi
    have hiun' : listed.getD i false = false := getD_both hiun
    have hisz : i < listed.size := by rw [inv.size]; exact (Array.getElem?_eq_some_iff.1 ho).1
    obtain ⟨o', ho', _, hpair⟩ := head i hin
    obtain rfl : o' = o := Option.some.inj (ho'.symm.trans ho)
    have hdst : dstOf ops i = o'.dst := by unfold dstOf; rw [ho]; rfl
    have hwl : ∀ d, waits md ops i d = true → listed.getD d false = true := by
      intro d hw
      obtain ⟨oj, hoj, e, he, hb, hon⟩ := Region.waitsFor_spec hw
      obtain rfl : oj = o' := Option.some.inj (hoj.symm.trans ho)
      rw [← hon]
      exact hall e he hb
    have hlw : ∀ d, listed.getD d false = true → waits md ops d i = true → False := by
      intro d hl hw
      obtain ⟨oj, hoj, e, he, hb, hon⟩ := Region.waitsFor_spec hw
      have := inv.closed d oj hoj hl e he hb
      rw [hon, hiun'] at this
      cases this
    obtain ⟨lk, hlk, hst⟩ := hstep i o' hin ho
    have hlook := List.all_eq_true.1 hL i (List.mem_range.2 hin)
    rw [ho, hlk] at hlook
    simp only [Bool.and_eq_true] at hlook
    have hown : OwnAll V (fill (dstOf ops) a0 (fun j => listed.getD j false) vs n) w lk.own := by
      have : ∀ l : List (Tmp × Nat), (∀ p, p ∈ l → p ∈ lk.own) → OwnAll V (fill (dstOf ops) a0 (fun j => listed.getD j false) vs n) w l := by
        intro l
        induction l with
        | nil => intro _; trivial
        | cons p r ihr =>
          intro hm'
          refine ⟨?_, ihr fun q hq => hm' q (List.mem_cons_of_mem _ hq)⟩
          have h1 := List.all_eq_true.1 hlook.1 p (hm' p List.mem_cons_self)
          simp only [Bool.and_eq_true, decide_eq_true_eq] at h1
          obtain ⟨⟨hd, hdt⟩, hw⟩ := h1
          have hld := hwl p.2 hw
          have he : (fill (dstOf ops) a0 (fun j => listed.getD j false) vs n).eval (.tmp p.1) = vs p.2 := by
            refine eval_fill_some (hsz p.2 p.1 hd hdt) hdt hld n hd fun j hj hjd => ?_
            obtain ⟨oj, hoj, _, hpj⟩ := head j hj
            have := (hpj p.2 hd (Ne.symm hjd) p.1 hdt).1
            unfold dstOf
            rw [hoj]
            exact this
          rw [he]
          exact hVs p.2 hd hld
      exact this lk.own fun _ h => h
    have hold : OldAll a0 (fill (dstOf ops) a0 (fun j => listed.getD j false) vs n) lk.old := by
      have : ∀ l : List Tmp, (∀ t, t ∈ l → t ∈ lk.old) → OldAll a0 (fill (dstOf ops) a0 (fun j => listed.getD j false) vs n) l := by
        intro l
        induction l with
        | nil => intro _; trivial
        | cons t r ihr =>
          intro hm'
          refine ⟨?_, ihr fun q hq => hm' q (List.mem_cons_of_mem _ hq)⟩
          have h1 := List.all_eq_true.1 hlook.2 t (hm' t List.mem_cons_self)
          simp only [Bool.and_eq_true] at h1
          refine eval_fill_none n fun j hj hl hjt => ?_
          have h2 := List.all_eq_true.1 h1.2 j (List.mem_range.2 hj)
          simp only [Bool.or_eq_true, decide_eq_true_eq] at h2
          rcases h2 with (h3 | h3) | h3
          · subst h3
            rw [hiun'] at hl
            cases hl
          · exact h3 hjt
          · exact hlw j hl h3
      exact this lk.old fun _ h => h
    have key := hst (fill (dstOf ops) a0 (fun j => listed.getD j false) vs n) w (wpAny P md ops Q (f + (ops.size - n)) (listed.setIfInBounds i true)) hCw hown hold
      (fun v w' hv hc' hev => by
        have e1 : (fill (dstOf ops) a0 (fun j => listed.getD j false) vs n).put o'.dst v = fill (dstOf ops) a0 (fun j => (listed.setIfInBounds i true).getD j false) (set1 vs i v) n := by
          rw [← hdst, fill_put hiun' n hin]
          · refine fill_congr n (fun j hj => ?_) (fun _ _ _ => rfl)
            unfold set1
            by_cases hji : j = i
            · subst hji
              rw [if_pos rfl]
              simp [hisz]
            · rw [if_neg hji, getD_set_ne false (Ne.symm hji)]
          · intro j hj hji d hdj hdi
            rw [hdst] at hdi
            exact (hpair j hj hji d hdj).1 hdi
        rw [e1]
        refine ih _ _ _ (inv.set hi hin) ?_ hc' ?_
        · have h1 := cnt_set (p := fun j => !listed.getD j false) (i := i) (by simp only [hiun']; rfl) n hin
          have h2 : cnt (fun j => !(listed.setIfInBounds i true).getD j false) n = cnt (set1 (fun j => !listed.getD j false) i false) n := by
            refine cnt_congr n fun j hj => ?_
            unfold set1
            by_cases hji : j = i
            · subst hji
              rw [if_pos rfl]
              simp [hisz]
            · rw [if_neg hji, getD_set_ne false (Ne.symm hji)]
          rw [h2]
          omega
        · intro j hj hl
          unfold set1
          by_cases hji : j = i
          · subst hji
            rw [if_pos rfl]
            exact hv
          · rw [if_neg hji]
            rw [getD_set_ne false (Ne.symm hji)] at hl
            exact hV j _ _ _ (hVs j hj hl) hev)
    unfold wpOp
    rw [ho]
    show if Region.wanted o' _ then _ else _
    split
    · rename_i hw
      rw [if_pos hw] at key
      exact .inl key
    · rename_i hw
      rw [if_neg hw] at key
      exact key

/-- **A REGION THAT DRAWS ITS ORDER, ITS HEAD'S OPERATIONS SHOWN ONE BY ONE, EACH IN WHATEVER WORLD OF THE CLASS; ITS TAIL (forced) WALKED IN THE ORDER OF THE TEXT.** -/
theorem wp_region_loose {id : Nat} {l : List Oper} {Q : Exit → Act → World → Prop} {a0 : Act} {w0 : World} (n : Nat) (C : World → Prop) (Ev : World → World → Prop) (V : Nat → Value → World → Prop)
    (hm : P.follows .mixedOrders = true) (hB : looseB .any l.toArray n = true) (hC0 : C w0.drew) (hV : ∀ j v w w', V j v w → Ev w w' → V j v w')
    (hsz : ∀ j t, j < n → dstOf l.toArray j = some t → t < a0.tmps.size)
    (lks : List Look) (hL : lookB .any l.toArray n lks = true) (hstep : Steps P l.toArray Q a0 C Ev V 0 (l.take n) lks)
    (hend : ∀ vs w, C w → (∀ j, j < n → V j (vs j) w) → wpList P l.toArray Q (l.drop n) (fill (dstOf l.toArray) a0 (fun _ => true) vs n) w) :
    (Code.region id l.toArray true).wp P Q a0 w0 := by
  refine wp_region_any hm ?_
  have hn : n ≤ l.toArray.size := by
    simp only [looseB, Bool.and_eq_true, decide_eq_true_eq] at hB
    exact hB.1.1.1.1
  have inv0 : HeadInv .any l.toArray n (Array.replicate l.toArray.size false) :=
    ⟨by simp, fun j oj _ hl => (by rw [getD_replicate_false] at hl; cases hl), fun t _ ht => getD_in (by simpa using ht) (getD_replicate_false _ _)⟩
  have hcn : ∀ k, cnt (fun j => !(Array.replicate l.toArray.size false).getD j false) k = k := by
    intro k
    induction k with
    | zero => rfl
    | succ k ih => unfold cnt; rw [ih, getD_replicate_false]; rfl
  have hst : ∀ i o, i < n → l.toArray[i]? = some o → ∃ lk, lks[i]? = some lk ∧ StepOk P l.toArray Q a0 C Ev V i o lk := fun i o hi ho => by
    obtain ⟨lk, h1, h2⟩ := steps_at (l.take n) lks 0 hstep i o (by rw [List.getElem?_take_of_lt hi]; simpa using ho)
    rw [Nat.zero_add] at h2
    exact ⟨lk, h1, h2⟩
  have H := loose_all (P := P) (md := .any) (Q := Q) (a0 := a0) hB hV hsz hL hst hend n (Array.replicate l.toArray.size false) (fun _ => undef) w0.drew inv0 (hcn n) hC0 (fun j _ hl => by rw [getD_replicate_false] at hl; cases hl)
  have e : fill (dstOf l.toArray) a0 (fun j => (Array.replicate l.toArray.size false).getD j false) (fun _ => undef) n = a0 := by
    have : ∀ k, fill (dstOf l.toArray) a0 (fun j => (Array.replicate l.toArray.size false).getD j false) (fun _ => undef) k = a0 := by
      intro k
      induction k with
      | zero => rfl
      | succ k ih => unfold fill; rw [getD_replicate_false]; exact ih
    exact this n
  rw [e, show n + (l.toArray.size - n) = l.toArray.size by omega] at H
  exact H


def sizeB (ops : Array Oper) (n m : Nat) : Bool := (List.range n).all fun j => match dstOf ops j with
  | none => true
  | some t => decide (t < m)
theorem sizeB_spec {n m : Nat} (h : sizeB ops n m = true) : ∀ j t, j < n → dstOf ops j = some t → t < m := by
  intro j t hj ht
  have h1 := List.all_eq_true.1 h j (List.mem_range.2 hj)
  rw [ht] at h1
  simpa using h1

open Go.RowKit in
/-- the class: what was there when the region began lies as it lay. -/
theorem wp_region_below {id : Nat} {l : List Oper} {Q : Exit → Act → World → Prop} {a0 : Act} {w0 : World} (n m : Nat) (V : Nat → Value → World → Prop) (lks : List Look)
    (hm : P.follows .mixedOrders = true) (hB : looseB .any l.toArray n = true) (hL : lookB .any l.toArray n lks = true) (hS : sizeB l.toArray n m = true) (ha : a0.tmps.size = m)
    (hV : ∀ j v w w', V j v w → Below w.heap.size w w' → V j v w')
    (hst : Steps P l.toArray Q a0 (fun w' => Below w0.heap.size w0 w') (fun w1 w2 => Below w1.heap.size w1 w2) V 0 (l.take n) lks)
    (hend : ∀ vs w, Below w0.heap.size w0 w → (∀ j, j < n → V j (vs j) w) → wpList P l.toArray Q (l.drop n) (fill (dstOf l.toArray) a0 (fun _ => true) vs n) w) :
    (Code.region id l.toArray true).wp P Q a0 w0 :=
  wp_region_loose n (fun w' => Below w0.heap.size w0 w') (fun w1 w2 => Below w1.heap.size w1 w2) V hm hB (Below.refl _ w0).drew hV (fun j t hj ht => by rw [ha]; exact sizeB_spec hS j t hj ht) lks hL hst hend

/-! ### one step -/
variable {Q : Exit → Act → World → Prop} {a0 : Act} {C : World → Prop} {Ev : World → World → Prop} {V : Nat → Value → World → Prop} {i : Nat} {o : Oper} {lk : Look}
theorem step_plain (hg : o.guard = none)
    (h : ∀ (a : Act) (w : World) (K : Act → World → Prop), C w → OwnAll V a w lk.own → OldAll a0 a lk.old → (∀ v w', V i v w' → C w' → Ev w w' → K (a.put o.dst v) w') → o.wp P a w K Q) : StepOk P ops Q a0 C Ev V i o lk := by
  intro a w K hC h1 h2 hK
  rw [if_pos (by simp [Region.wanted, hg])]
  exact h a w K hC h1 h2 hK
theorem eval_bool {a : Act} {t : Tmp} {b : Bool} (h : a.eval (.tmp t) = .bool b) : a.tmps[t]? = some (.bool b) := by
  simp only [Act.eval] at h
  cases h2 : a.tmps[t]? with
  | none => simp [h2, undef] at h
  | some v => simp [h2] at h; rw [h]
theorem evg {a : Act} {t : Tmp} {v : Value} (h : a.eval (.tmp t) = v) : a.tmps[t]?.getD undef = v := by simpa [Act.eval] using h
theorem own_mem {a : Act} {w : World} {p : Tmp × Nat} : ∀ {l : List (Tmp × Nat)}, OwnAll V a w l → p ∈ l → V p.2 (a.eval (.tmp p.1)) w
  | [], _, h => by cases h
  | q :: r, h1, h => by
    rcases List.mem_cons.1 h with rfl | h
    · exact h1.1
    · exact own_mem h1.2 h
theorem step_want {j : Nat} {t : Tmp} {b : Bool} (hg : o.guard = some (j, b)) (hd : dstOf ops j = some t) (hm : (t, j) ∈ lk.own) (hb : ∀ v w, V j v w → v = .bool b)
    (h : ∀ (a : Act) (w : World) (K : Act → World → Prop), C w → OwnAll V a w lk.own → OldAll a0 a lk.old → (∀ v w', V i v w' → C w' → Ev w w' → K (a.put o.dst v) w') → o.wp P a w K Q) : StepOk P ops Q a0 C Ev V i o lk := by
  intro a w K hC h1 h2 hK
  have e := eval_bool (hb _ _ (own_mem h1 hm))
  have hd' : ((ops[j]?).bind (·.dst)) = some t := hd
  rw [if_pos (by simp [Region.wanted, hg, yielded, hd', e])]
  exact h a w K hC h1 h2 hK
theorem step_skip {j : Nat} {t : Tmp} {b : Bool} (hg : o.guard = some (j, b)) (hd : dstOf ops j = some t) (hm : (t, j) ∈ lk.own) (hb : ∀ v w, V j v w → v = .bool (!b)) (hE : ∀ w, Ev w w) (hu : ∀ w, V i undef w) : StepOk P ops Q a0 C Ev V i o lk := by
  intro a w K hC h1 h2 hK
  have e := eval_bool (hb _ _ (own_mem h1 hm))
  have hd' : ((ops[j]?).bind (·.dst)) = some t := hd
  rw [if_neg (by simp [Region.wanted, hg, yielded, hd', e])]
  exact hK _ _ (hu w) hC (hE w)

end
end Go.Proofs.YtblmebjhhanoaaaGreat
/- ENGINE (second) 1: abstract values, what never turns, objects and states of a call; over any program. -/
set_option linter.unusedSimpArgs false
set_option linter.unusedVariables false
namespace Go.Proofs.YtblmebjhhanoaaaGreat
open Go.RowKit

/-- a value that never turns: one cell, or a slice whose elements never turn. -/
inductive PV where
  | raw (v : Value)
  | sl (s : Nat) (rows : List (List PV))

/-- blocks that nobody turns any more. -/
abbrev Frz := Nat → Option Obj
def rcell (R : Frz) (b o : Nat) : Option Value := match R b with
  | some (.cells c _ _) => c[o]?
  | _ => none
def SubR (R R' : Frz) : Prop := ∀ g o, R g = some o → R' g = some o
theorem SubR.refl (R : Frz) : SubR R R := fun _ _ h => h
theorem SubR.trans {a b c : Frz} (h : SubR a b) (k : SubR b c) : SubR a c := fun g o e => k g o (h g o e)
theorem rcell_sub {R R' : Frz} (h : SubR R R') {b o : Nat} {v : Value} (e : rcell R b o = some v) : rcell R' b o = some v := by
  unfold rcell at e ⊢
  cases hb : R b with
  | none => rw [hb] at e; cases e
  | some ob => rw [h b ob hb]; rw [hb] at e; exact e

mutual
def PRep (R : Frz) : PV → Value → Prop
  | .raw v, u => u = v
  | .sl s rows, u => ∃ A c, u = .slice A rows.length c ∧ rows.length ≤ c ∧ PRows R A s 0 rows
def PRows (R : Frz) (A : Option Addr) (s : Nat) : Nat → List (List PV) → Prop
  | _, [] => True
  | k, r :: rest => (r.length = s ∧ ∃ b off, A = some ⟨b, off, none⟩ ∧ PCells R b (off + k * s) r) ∧ PRows R A s (k + 1) rest
def PCells (R : Frz) (b : Nat) : Nat → List PV → Prop
  | _, [] => True
  | o, p :: ps => (∃ v, rcell R b o = some v ∧ v.oneCell' = true ∧ PRep R p v) ∧ PCells R b (o + 1) ps
end
mutual
theorem PRep.sub {R R' : Frz} (h : SubR R R') : ∀ (p : PV) (v : Value), PRep R p v → PRep R' p v
  | .raw _, _, e => by simpa [PRep] using e
  | .sl s rows, v, e => by
    simp only [PRep] at e ⊢
    obtain ⟨A, c, e1, e2, e3⟩ := e
    exact ⟨A, c, e1, e2, PRows.sub h rows 0 e3⟩
theorem PRows.sub {R R' : Frz} (h : SubR R R') {A : Option Addr} {s : Nat} : ∀ (rows : List (List PV)) (k : Nat), PRows R A s k rows → PRows R' A s k rows
  | [], _, _ => by simp [PRows]
  | r :: rest, k, e => by
    simp only [PRows] at e ⊢
    obtain ⟨⟨e1, b, off, e2, e3⟩, e4⟩ := e
    exact ⟨⟨e1, b, off, e2, PCells.sub h r _ e3⟩, PRows.sub h rest _ e4⟩
theorem PCells.sub {R R' : Frz} (h : SubR R R') {b : Nat} : ∀ (ps : List PV) (o : Nat), PCells R b o ps → PCells R' b o ps
  | [], _, _ => by simp [PCells]
  | p :: ps, o, e => by
    simp only [PCells] at e ⊢
    obtain ⟨⟨v, e1, e2, e3⟩, e4⟩ := e
    exact ⟨⟨v, rcell_sub h e1, e2, PRep.sub h p v e3⟩, PCells.sub h ps _ e4⟩
end
theorem PRows.get {R : Frz} {A : Option Addr} {s : Nat} : ∀ {rows : List (List PV)} {k0 k : Nat} {r : List PV}, PRows R A s k0 rows → rows[k]? = some r → r.length = s ∧ ∃ b off, A = some ⟨b, off, none⟩ ∧ PCells R b (off + (k0 + k) * s) r
  | [], _, _, _, _, h => by simp at h
  | r :: rest, k0, 0, r', e, h => by
    simp only [PRows] at e
    obtain rfl : r = r' := by simpa using h
    simpa using e.1
  | r :: rest, k0, k + 1, r', e, h => by
    simp only [PRows] at e
    have := PRows.get (k := k) e.2 (by simpa using h)
    rwa [show k0 + (k + 1) = k0 + 1 + k by omega]
theorem PRows.mk_ {R : Frz} {A : Option Addr} {s : Nat} : ∀ {rows : List (List PV)} {k0 : Nat}, (∀ k r, rows[k]? = some r → r.length = s ∧ ∃ b off, A = some ⟨b, off, none⟩ ∧ PCells R b (off + (k0 + k) * s) r) → PRows R A s k0 rows
  | [], _, _ => by simp [PRows]
  | r :: rest, k0, h => by
    simp only [PRows]
    refine ⟨by simpa using h 0 r rfl, PRows.mk_ fun k r' hk => ?_⟩
    have := h (k + 1) r' (by simpa using hk)
    rwa [show k0 + (k + 1) = k0 + 1 + k by omega] at this
theorem PCells.get {R : Frz} {b : Nat} : ∀ {ps : List PV} {o i : Nat} {p : PV}, PCells R b o ps → ps[i]? = some p → ∃ v, rcell R b (o + i) = some v ∧ v.oneCell' = true ∧ PRep R p v
  | [], _, _, _, _, h => by simp at h
  | p :: ps, o, 0, p', e, h => by
    simp only [PCells] at e
    obtain rfl : p = p' := by simpa using h
    simpa using e.1
  | p :: ps, o, i + 1, p', e, h => by
    simp only [PCells] at e
    have := PCells.get (i := i) e.2 (by simpa using h)
    rwa [show o + (i + 1) = o + 1 + i by omega]
theorem PCells.mk_ {R : Frz} {b : Nat} : ∀ {ps : List PV} {o : Nat}, (∀ i p, ps[i]? = some p → ∃ v, rcell R b (o + i) = some v ∧ v.oneCell' = true ∧ PRep R p v) → PCells R b o ps
  | [], _, _ => by simp [PCells]
  | p :: ps, o, h => by
    simp only [PCells]
    refine ⟨by simpa using h 0 p rfl, PCells.mk_ fun i p' hi => ?_⟩
    have := h (i + 1) p' (by simpa using hi)
    rwa [show o + (i + 1) = o + 1 + i by omega] at this

def PRepL (R : Frz) : List PV → List Value → Prop
  | [], [] => True
  | p :: ps, v :: vs => PRep R p v ∧ PRepL R ps vs
  | _, _ => False
theorem PRepL.sub {R R' : Frz} (h : SubR R R') : ∀ {ps : List PV} {vs : List Value}, PRepL R ps vs → PRepL R' ps vs
  | [], [], _ => trivial
  | [], _ :: _, e => e.elim
  | _ :: _, [], e => e.elim
  | _ :: _, _ :: _, e => ⟨e.1.sub h, e.2.sub h⟩
theorem PRepL.length {R : Frz} : ∀ {ps : List PV} {vs : List Value}, PRepL R ps vs → vs.length = ps.length
  | [], [], _ => rfl
  | [], _ :: _, e => e.elim
  | _ :: _, [], e => e.elim
  | _ :: _, _ :: _, e => by simp [e.2.length]
theorem PRepL.get {R : Frz} : ∀ {ps : List PV} {vs : List Value} {i : Nat} {p : PV}, PRepL R ps vs → ps[i]? = some p → ∃ v, vs[i]? = some v ∧ PRep R p v
  | [], _, _, _, _, h => by simp at h
  | _ :: _, [], _, _, e, _ => e.elim
  | p :: ps, v :: vs, 0, p', e, h => by
    obtain rfl : p = p' := by simpa using h
    exact ⟨v, rfl, e.1⟩
  | p :: ps, v :: vs, i + 1, p', e, h => by
    obtain ⟨u, h1, h2⟩ := PRepL.get (i := i) e.2 (by simpa using h)
    exact ⟨u, by simpa using h1, h2⟩
theorem PRepL.append {R : Frz} : ∀ {ps qs : List PV} {vs us : List Value}, PRepL R ps vs → PRepL R qs us → PRepL R (ps ++ qs) (vs ++ us)
  | [], _, [], _, _, h => h
  | [], _, _ :: _, _, e, _ => e.elim
  | _ :: _, _, [], _, e, _ => e.elim
  | _ :: _, _, _ :: _, _, e, h => ⟨e.1, e.2.append h⟩
theorem PRepL.drop {R : Frz} : ∀ {ps : List PV} {vs : List Value} (k : Nat), PRepL R ps vs → PRepL R (ps.drop k) (vs.drop k)
  | _, _, 0, e => e
  | [], [], _ + 1, _ => trivial
  | [], _ :: _, _ + 1, e => e.elim
  | _ :: _, [], _ + 1, e => e.elim
  | _ :: _, _ :: _, k + 1, e => by simpa using PRepL.drop k e.2
theorem PRepL.take {R : Frz} : ∀ {ps : List PV} {vs : List Value} (k : Nat), PRepL R ps vs → PRepL R (ps.take k) (vs.take k)
  | _, _, 0, _ => by simp [PRepL]
  | [], [], _ + 1, _ => trivial
  | [], _ :: _, _ + 1, e => e.elim
  | _ :: _, [], _ + 1, e => e.elim
  | _ :: _, _ :: _, k + 1, e => ⟨e.1, PRepL.take k e.2⟩
theorem PCells.vals {R : Frz} {b : Nat} : ∀ {ps : List PV} {o : Nat}, PCells R b o ps → ∃ vs, PRepL R ps vs ∧ (∀ u ∈ vs, u.oneCell' = true) ∧ ∀ i u, vs[i]? = some u → rcell R b (o + i) = some u
  | [], _, _ => ⟨[], trivial, by simp, by simp⟩
  | p :: ps, o, e => by
    simp only [PCells] at e
    obtain ⟨⟨v, h1, h2, h3⟩, e2⟩ := e
    obtain ⟨vs, k1, k2, k3⟩ := PCells.vals e2
    refine ⟨v :: vs, ⟨h3, k1⟩, fun u hu => ?_, fun i u hi => ?_⟩
    · rcases List.mem_cons.1 hu with rfl | hu
      · exact h2
      · exact k2 u hu
    · cases i with
      | zero => obtain rfl : v = u := by simpa using hi
                exact h1
      | succ i => rw [show o + (i + 1) = o + 1 + i by omega]; exact k3 i u (by simpa using hi)
def PRepLL (R : Frz) : List (List PV) → List (List Value) → Prop
  | [], [] => True
  | p :: ps, v :: vs => PRepL R p v ∧ PRepLL R ps vs
  | _, _ => False
theorem PRepLL.sub {R R' : Frz} (h : SubR R R') : ∀ {ps : List (List PV)} {vs : List (List Value)}, PRepLL R ps vs → PRepLL R' ps vs
  | [], [], _ => trivial
  | [], _ :: _, e => e.elim
  | _ :: _, [], e => e.elim
  | _ :: _, _ :: _, e => ⟨e.1.sub h, e.2.sub h⟩
theorem PRepLL.length {R : Frz} : ∀ {ps : List (List PV)} {vs : List (List Value)}, PRepLL R ps vs → vs.length = ps.length
  | [], [], _ => rfl
  | [], _ :: _, e => e.elim
  | _ :: _, [], e => e.elim
  | _ :: _, _ :: _, e => by simp [e.2.length]
theorem PRepLL.get {R : Frz} : ∀ {ps : List (List PV)} {vs : List (List Value)} {i : Nat} {p : List PV}, PRepLL R ps vs → ps[i]? = some p → ∃ v, vs[i]? = some v ∧ PRepL R p v
  | [], _, _, _, _, h => by simp at h
  | _ :: _, [], _, _, e, _ => e.elim
  | p :: ps, v :: vs, 0, p', e, h => by
    obtain rfl : p = p' := by simpa using h
    exact ⟨v, rfl, e.1⟩
  | p :: ps, v :: vs, i + 1, p', e, h => by
    obtain ⟨u, h1, h2⟩ := PRepLL.get (i := i) e.2 (by simpa using h)
    exact ⟨u, by simpa using h1, h2⟩
theorem PRepLL.append {R : Frz} : ∀ {ps qs : List (List PV)} {vs us : List (List Value)}, PRepLL R ps vs → PRepLL R qs us → PRepLL R (ps ++ qs) (vs ++ us)
  | [], _, [], _, _, h => h
  | [], _, _ :: _, _, e, _ => e.elim
  | _ :: _, _, [], _, e, _ => e.elim
  | _ :: _, _, _ :: _, _, e, h => ⟨e.1, e.2.append h⟩
theorem PRepLL.drop {R : Frz} : ∀ {ps : List (List PV)} {vs : List (List Value)} (k : Nat), PRepLL R ps vs → PRepLL R (ps.drop k) (vs.drop k)
  | _, _, 0, e => e
  | [], [], _ + 1, _ => trivial
  | [], _ :: _, _ + 1, e => e.elim
  | _ :: _, [], _ + 1, e => e.elim
  | _ :: _, _ :: _, k + 1, e => by simpa using PRepLL.drop k e.2
theorem PRepLL.take {R : Frz} : ∀ {ps : List (List PV)} {vs : List (List Value)} (k : Nat), PRepLL R ps vs → PRepLL R (ps.take k) (vs.take k)
  | _, _, 0, _ => by simp [PRepLL]
  | [], [], _ + 1, _ => trivial
  | [], _ :: _, _ + 1, e => e.elim
  | _ :: _, [], _ + 1, e => e.elim
  | _ :: _, _ :: _, k + 1, e => ⟨e.1, PRepLL.take k e.2⟩
theorem PRepLL.set {R : Frz} : ∀ {ps : List (List PV)} {vs : List (List Value)} (k : Nat) {q : List PV} {u : List Value}, PRepLL R ps vs → PRepL R q u → PRepLL R (ps.set k q) (vs.set k u)
  | [], [], _, _, _, _, _ => trivial
  | [], _ :: _, _, _, _, e, _ => e.elim
  | _ :: _, [], _, _, _, e, _ => e.elim
  | _ :: _, _ :: _, 0, _, _, e, h => ⟨h, e.2⟩
  | _ :: _, _ :: _, k + 1, _, _, e, h => ⟨e.1, PRepLL.set k e.2 h⟩
theorem PRepLL.each {R : Frz} {s : Nat} : ∀ {ps : List (List PV)} {vs : List (List Value)}, PRepLL R ps vs → (∀ r ∈ ps, r.length = s) → ∀ r ∈ vs, r.length = s
  | [], [], _, _, r, h => by cases h
  | [], _ :: _, e, _, _, _ => e.elim
  | _ :: _, [], e, _, _, _ => e.elim
  | p :: ps, v :: vs, e, h, r, hr => by
    rcases List.mem_cons.1 hr with rfl | hr
    · rw [e.1.length]; exact h p List.mem_cons_self
    · exact e.2.each (fun r hr => h r (List.mem_cons_of_mem _ hr)) r hr
theorem PRows.vals {R : Frz} {A : Option Addr} {s : Nat} : ∀ {rows : List (List PV)} {k0 : Nat}, PRows R A s k0 rows → ∃ vals, PRepLL R rows vals ∧ (∀ r ∈ vals, r.length = s) ∧ (∀ r ∈ vals, ∀ u ∈ r, u.oneCell' = true) ∧
    ∀ k r, vals[k]? = some r → ∃ b off, A = some ⟨b, off, none⟩ ∧ ∀ i u, r[i]? = some u → rcell R b (off + (k0 + k) * s + i) = some u
  | [], _, _ => ⟨[], trivial, by simp, by simp, by simp⟩
  | r :: rest, k0, e => by
    simp only [PRows] at e
    obtain ⟨⟨h1, b, off, h2, h3⟩, e2⟩ := e
    obtain ⟨vs, k1, k2, k3⟩ := PCells.vals h3
    obtain ⟨vals, m1, m2, m3, m4⟩ := PRows.vals e2
    refine ⟨vs :: vals, ⟨k1, m1⟩, fun q hq => ?_, fun q hq => ?_, fun k q hk => ?_⟩
    · rcases List.mem_cons.1 hq with rfl | hq
      · rw [k1.length, h1]
      · exact m2 q hq
    · rcases List.mem_cons.1 hq with rfl | hq
      · exact k2
      · exact m3 q hq
    · cases k with
      | zero => obtain rfl : vs = q := by simpa using hk
                exact ⟨b, off, h2, by simpa using k3⟩
      | succ k =>
        have := m4 k q (by simpa using hk)
        rwa [show k0 + 1 + k = k0 + (k + 1) by omega] at this

/-- an abstract value: unknown, a value told, a slice that never turns, an object's header or pointer, a part of an own row, a pointer into a slice that never turns, what is put together of such. -/
inductive AV where
  | dead
  | raw (v : Value)
  | sl (s : Nat) (rows : List (List PV))
  | hdr (id : Nat)
  | ptr (id s k j : Nat)
  | vw (id s l h : Nat)
  | spt (s : Nat) (rows : List (List PV)) (k j : Nat)
  | agg (l : List AV)
  | tup (l : List AV)
  | clo (f : Fn) (l : List AV)
  | bnd (f : Fn) (l : List AV)
def PV.av : PV → AV
  | .raw v => .raw v
  | .sl s rows => .sl s rows

/-- where in its life a loop over a function is. -/
inductive LM where
  | ready
  | busy
  | done (c : Code)
/-- the text of such a loop. -/
structure LoopCode where
  blk : Nat
  fn : FuncId
  params : Array Tmp
  assign : Code
  body : Code
/-- an object: a block known whole; a row of the call's own; a header whose slice never turns; the record of a loop over a function; a frame that rests. -/
inductive AO where
  | cells (t : TypeId) (l : List AV)
  | row (e : TypeId) (s : Nat) (rows : List (List PV))
  | fro (s : Nat) (rows : List (List PV))
  | loop (tm : Array Value) (lc : LoopCode) (m : LM)
  | frm (tm : Array Value) (t : List (Nat × AV))

structure Env where
  f : Nat → Option Value
  R : Frz
def HasBase (v : Value) (b o : Nat) : Prop := v = .pointer (some ⟨b, o, none⟩) ∨ ∃ n c, v = .slice (some ⟨b, o, none⟩) n c
def blkOf : Value → Option Nat
  | .pointer (some a) => some a.block
  | .slice (some a) _ _ => some a.block
  | _ => none

mutual
def Rep (ρ : Env) : AV → Value → Prop
  | .dead, _ => True
  | .raw v, u => u = v
  | .sl s rows, u => PRep ρ.R (.sl s rows) u
  | .hdr id, u => ρ.f id = some u
  | .ptr id s k j, u => ∃ x b o, ρ.f id = some x ∧ HasBase x b o ∧ u = .pointer (some ⟨b, o + (k * s + j), none⟩)
  | .vw id s l h, u => ∃ A n c, ρ.f id = some (.slice A n c) ∧ l ≤ h ∧ h ≤ n ∧ n ≤ c ∧ u = .slice (if c = l then A else A.map (·.add (l * s))) (h - l) (c - l)
  | .spt s rows k j, u => ∃ b o, u = .pointer (some ⟨b, o + (k * s + j), none⟩) ∧ PRows ρ.R (some ⟨b, o, none⟩) s 0 rows
  | .agg l, u => ∃ cs : List Value, u = .agg cs.toArray ∧ RepL ρ l cs
  | .tup l, u => ∃ cs : List Value, u = .tuple cs.toArray ∧ RepL ρ l cs
  | .clo f l, u => ∃ cs : List Value, u = .func f #[] cs.toArray ∧ RepL ρ l cs
  | .bnd f l, u => ∃ cs : List Value, u = .func f cs.toArray #[] ∧ RepL ρ l cs
def RepL (ρ : Env) : List AV → List Value → Prop
  | [], [] => True
  | a :: l, v :: vs => Rep ρ a v ∧ RepL ρ l vs
  | _, _ => False
end
structure ExtE (ρ ρ' : Env) : Prop where
  f : ∀ i x, ρ.f i = some x → ρ'.f i = some x
  R : SubR ρ.R ρ'.R
theorem ExtE.refl (ρ : Env) : ExtE ρ ρ := ⟨fun _ _ h => h, SubR.refl _⟩
theorem ExtE.trans {a b c : Env} (h : ExtE a b) (k : ExtE b c) : ExtE a c := ⟨fun i x e => k.f i x (h.f i x e), h.R.trans k.R⟩

mutual
theorem Rep.ext {ρ ρ' : Env} (h : ExtE ρ ρ') : ∀ (a : AV) (v : Value), Rep ρ a v → Rep ρ' a v
  | .dead, _, _ => by simp [Rep]
  | .raw _, _, e => by simpa [Rep] using e
  | .sl s rows, v, e => by simp only [Rep] at e ⊢; exact e.sub h.R
  | .hdr id, v, e => by simp only [Rep] at e ⊢; exact h.f _ _ e
  | .ptr id s k j, v, e => by
    simp only [Rep] at e ⊢
    obtain ⟨x, b, o, h1, h2, h3⟩ := e
    exact ⟨x, b, o, h.f _ _ h1, h2, h3⟩
  | .vw id s l hh, v, e => by
    simp only [Rep] at e ⊢
    obtain ⟨A, n, c, h1, h2⟩ := e
    exact ⟨A, n, c, h.f _ _ h1, h2⟩
  | .spt s rows k j, v, e => by
    simp only [Rep] at e ⊢
    obtain ⟨b, o, h1, h2⟩ := e
    exact ⟨b, o, h1, h2.sub h.R⟩
  | .agg l, v, e => by
    simp only [Rep] at e ⊢
    obtain ⟨cs, h1, h2⟩ := e
    exact ⟨cs, h1, RepL.ext h l cs h2⟩
  | .tup l, v, e => by
    simp only [Rep] at e ⊢
    obtain ⟨cs, h1, h2⟩ := e
    exact ⟨cs, h1, RepL.ext h l cs h2⟩
  | .clo f l, v, e => by
    simp only [Rep] at e ⊢
    obtain ⟨cs, h1, h2⟩ := e
    exact ⟨cs, h1, RepL.ext h l cs h2⟩
  | .bnd f l, v, e => by
    simp only [Rep] at e ⊢
    obtain ⟨cs, h1, h2⟩ := e
    exact ⟨cs, h1, RepL.ext h l cs h2⟩
theorem RepL.ext {ρ ρ' : Env} (h : ExtE ρ ρ') : ∀ (l : List AV) (vs : List Value), RepL ρ l vs → RepL ρ' l vs
  | [], [], _ => by simp [RepL]
  | [], _ :: _, e => by simp [RepL] at e
  | _ :: _, [], e => by simp [RepL] at e
  | a :: l, v :: vs, e => by
    simp only [RepL] at e ⊢
    exact ⟨Rep.ext h a v e.1, RepL.ext h l vs e.2⟩
end
theorem RepL.length {ρ : Env} : ∀ {l : List AV} {vs : List Value}, RepL ρ l vs → vs.length = l.length
  | [], [], _ => rfl
  | [], _ :: _, e => by simp [RepL] at e
  | _ :: _, [], e => by simp [RepL] at e
  | a :: l, v :: vs, e => by simp only [RepL] at e; simp [RepL.length e.2]
theorem RepL.get {ρ : Env} : ∀ {l : List AV} {vs : List Value} (k : Nat) {a : AV}, RepL ρ l vs → l[k]? = some a → ∃ v, vs[k]? = some v ∧ Rep ρ a v
  | [], _, _, _, _, h => by simp at h
  | _ :: _, [], _, _, e, _ => by simp [RepL] at e
  | a :: l, v :: vs, 0, a', e, h => by
    simp only [RepL] at e
    obtain rfl : a = a' := by simpa using h
    exact ⟨v, rfl, e.1⟩
  | a :: l, v :: vs, k + 1, a', e, h => by
    simp only [RepL] at e
    obtain ⟨u, h1, h2⟩ := RepL.get k e.2 (by simpa using h)
    exact ⟨u, by simpa using h1, h2⟩
theorem RepL.set {ρ : Env} : ∀ {l : List AV} {vs : List Value} (k : Nat) {a : AV} {v : Value}, RepL ρ l vs → Rep ρ a v → RepL ρ (l.set k a) (vs.set k v)
  | [], [], _, _, _, _, _ => by simp [RepL]
  | [], _ :: _, _, _, _, e, _ => by simp [RepL] at e
  | _ :: _, [], _, _, _, e, _ => by simp [RepL] at e
  | b :: l, u :: vs, 0, a, v, e, h => by
    simp only [RepL] at e
    simp only [List.set_cons_zero, RepL]
    exact ⟨h, e.2⟩
  | b :: l, u :: vs, k + 1, a, v, e, h => by
    simp only [RepL] at e
    simp only [List.set_cons_succ, RepL]
    exact ⟨e.1, RepL.set k e.2 h⟩
theorem RepL.drop {ρ : Env} : ∀ {l : List AV} {vs : List Value} (k : Nat), RepL ρ l vs → RepL ρ (l.drop k) (vs.drop k)
  | _, _, 0, e => e
  | [], [], _ + 1, _ => by simp [RepL]
  | [], _ :: _, _ + 1, e => by simp [RepL] at e
  | _ :: _, [], _ + 1, e => by simp [RepL] at e
  | a :: l, v :: vs, k + 1, e => by simp only [RepL] at e; simpa using RepL.drop k e.2
theorem RepL.take {ρ : Env} : ∀ {l : List AV} {vs : List Value} (k : Nat), RepL ρ l vs → RepL ρ (l.take k) (vs.take k)
  | _, _, 0, _ => by simp [RepL]
  | [], [], _ + 1, _ => by simp [RepL]
  | [], _ :: _, _ + 1, e => by simp [RepL] at e
  | _ :: _, [], _ + 1, e => by simp [RepL] at e
  | a :: l, v :: vs, k + 1, e => by
    simp only [RepL] at e
    simp only [List.take_succ_cons, RepL]
    exact ⟨e.1, RepL.take k e.2⟩
theorem RepL.raws {ρ : Env} (vs : List Value) : RepL ρ (vs.map .raw) vs := by
  induction vs with
  | nil => simp [RepL]
  | cons v vs ih => simp only [List.map_cons, RepL, Rep]; exact ⟨trivial, ih⟩
theorem RepL.append {ρ : Env} : ∀ {l m : List AV} {vs us : List Value}, RepL ρ l vs → RepL ρ m us → RepL ρ (l ++ m) (vs ++ us)
  | [], _, [], _, _, h => h
  | [], _, _ :: _, _, e, _ => by simp [RepL] at e
  | _ :: _, _, [], _, e, _ => by simp [RepL] at e
  | a :: l, m, v :: vs, us, e, h => by
    simp only [RepL] at e
    simp only [List.cons_append, RepL]
    exact ⟨e.1, RepL.append e.2 h⟩
theorem rep_av {ρ : Env} {p : PV} {v : Value} : Rep ρ p.av v ↔ PRep ρ.R p v := by
  cases p <;> simp [PV.av, Rep, PRep]
theorem repL_av {ρ : Env} : ∀ {ps : List PV} {vs : List Value}, RepL ρ (ps.map PV.av) vs ↔ PRepL ρ.R ps vs
  | [], [] => by simp [RepL, PRepL]
  | [], _ :: _ => by simp [RepL, PRepL]
  | _ :: _, [] => by simp [RepL, PRepL]
  | p :: ps, v :: vs => by simp only [List.map_cons, RepL, PRepL, rep_av, repL_av]

/-- an own row's header, the values at hand. -/
def OwnAt (w : World) (e : TypeId) (s : Nat) (x : Value) (vals : List (List Value)) : Prop :=
  (vals = [] ∧ ∃ A, x = .slice A 0 0) ∨ ((∃ g cap, x = .slice (some ⟨g, 0, none⟩) vals.length cap ∧ 0 < cap) ∧ w.ownsRow 0 e s x vals.length vals.flatten)
theorem ownAt_of {w : World} {e : TypeId} {s : Nat} {x : Value} {vals : List (List Value)} (h : w.ownsRow 0 e s x vals.length vals.flatten) : OwnAt w e s x vals := by
  have h0 := h
  rcases h.2 with ⟨rfl, h1⟩ | ⟨g, cap, cur, rfl, -, -, h2, -⟩
  · exact .inl ⟨List.eq_nil_of_length_eq_zero h1, none, rfl⟩
  · rcases Nat.eq_zero_or_pos cap with hz | hp
    · subst hz
      obtain rfl : vals = [] := List.eq_nil_of_length_eq_zero (by omega)
      exact .inl ⟨rfl, _, rfl⟩
    · exact .inr ⟨⟨g, cap, rfl, hp⟩, h0⟩

/-- the block of an object. -/
def oblk (x : Value) : AO → Option Nat
  | .cells .. => blkOf x
  | .row .. => match x with
    | .slice (some a) _ (_ + 1) => some a.block
    | _ => none
  | .loop .. => match x with
    | .func (.yield l) _ _ => some l
    | _ => none
  | _ => none

/-- the object of a header, in a world. -/
def ObjAt (ρ : Env) (w : World) (x : Value) : AO → Prop
  | .cells t l => ∃ (g : Nat) (cs : List Value), x = .pointer (some ⟨g, 0, none⟩) ∧ Blk w g t cs.toArray ∧ RepL ρ l cs ∧ ∀ u ∈ cs, u.oneCell' = true
  | .row e s rows => ∃ vals, PRepLL ρ.R rows vals ∧ (∀ r ∈ vals, r.length = s) ∧ (∀ r ∈ vals, ∀ u ∈ r, u.oneCell' = true) ∧ OwnAt w e s x vals
  | .fro s rows => PRep ρ.R (.sl s rows) x
  | .loop tm lc m => ∃ l D st pe, x = .func (.yield l) #[] #[] ∧ w.heap[l]? = some (.loop { state := st, pending := pe, fn := lc.fn, tmps := tm, params := lc.params, assign := lc.assign, body := lc.body, defers := D }) ∧ l = lc.blk ∧
      (match m with | .ready => st = .ready ∧ pe = none | .busy => True | .done c => st = .done ∧ pe = some c)
  | .frm tm t => ∀ d v, find' t d = some v → Rep ρ v (tm.getD d undef)
where find' : List (Nat × AV) → Nat → Option AV
  | [], _ => none
  | (k, v) :: l, i => if k = i then some v else find' l i
def find {α : Type} : List (Nat × α) → Nat → Option α
  | [], _ => none
  | (k, v) :: l, i => if k = i then some v else find l i
theorem find'_eq (l : List (Nat × AV)) (i : Nat) : ObjAt.find' l i = find l i := by
  induction l with
  | nil => rfl
  | cons p l ih => obtain ⟨k, v⟩ := p; simp only [ObjAt.find', find, ih]

def isDefd : Obj → Bool
  | .deferred _ => true
  | _ => false
theorem ownAt_blk {w : World} {e : TypeId} {s : Nat} {x : Value} {vals : List (List Value)} (h : OwnAt w e s x vals) {rows : List (List PV)} {g : Nat} (hg : oblk x (.row e s rows) = some g) :
    ∃ cap cur, x = .slice (some ⟨g, 0, none⟩) vals.length cap ∧ 0 < cap ∧ w.heap[g]? = some (.cells cur e (0, 0)) ∧ cur.size = cap * s ∧ cur.toList.take (vals.length * s) = vals.flatten ∧ vals.length ≤ cap ∧ cap ≤ maxLen := by
  rcases h with ⟨-, A, rfl⟩ | ⟨⟨g', cap, rfl, hp⟩, h⟩
  · cases A <;> simp [oblk] at hg
  · obtain ⟨q, rfl⟩ : ∃ q, cap = q + 1 := ⟨cap - 1, by omega⟩
    simp [oblk] at hg
    subst hg
    rcases h.2 with ⟨h1, -⟩ | ⟨g2, cap2, cur, h1, h2, h3, h4, h5, h6, h7⟩
    · cases h1
    · injection h1 with e1 e2 e3
      injection e1 with e1
      injection e1 with e1
      subst e1; subst e3
      exact ⟨_, cur, rfl, hp, h3, h6, h7, h4, h5⟩
theorem ObjAt.kind {ρ : Env} {w : World} {x : Value} {o : AO} (h : ObjAt ρ w x o) {g : Nat} (hg : oblk x o = some g) : ∃ ob, w.heap[g]? = some ob ∧ isDefd ob = false := by
  cases o with
  | cells t l =>
    obtain ⟨g', cs, rfl, hb, -⟩ := h
    simp [oblk, blkOf] at hg; subst hg
    exact ⟨_, hb, rfl⟩
  | row e s rows =>
    obtain ⟨vals, -, -, -, h⟩ := h
    obtain ⟨cap, cur, -, -, hh, -⟩ := ownAt_blk h hg
    exact ⟨_, hh, rfl⟩
  | fro s rows => cases hg
  | loop tm lc m =>
    obtain ⟨l, D, st, pe, rfl, h1, -⟩ := h
    simp [oblk] at hg; subst hg
    exact ⟨_, h1, rfl⟩
  | frm tm t => cases hg
theorem ObjAt.lt {ρ : Env} {w : World} {x : Value} {o : AO} (h : ObjAt ρ w x o) {g : Nat} (hg : oblk x o = some g) : g < w.heap.size := by
  obtain ⟨ob, h1, -⟩ := h.kind hg
  exact (Array.getElem?_eq_some_iff.1 h1).1
theorem ObjAt.keep {ρ ρ' : Env} {w w' : World} {x : Value} {o : AO} (h : ObjAt ρ w x o) (he : ExtE ρ ρ') (hk : ∀ g, oblk x o = some g → g < w.heap.size → w'.heap[g]? = w.heap[g]?) : ObjAt ρ' w' x o := by
  have hk' : ∀ g, oblk x o = some g → w'.heap[g]? = w.heap[g]? := fun g hg => hk g hg (h.lt hg)
  cases o with
  | cells t l =>
    obtain ⟨g, cs, rfl, hb, hr, h1⟩ := h
    exact ⟨g, cs, rfl, (hk' g rfl).trans hb, hr.ext he l cs, h1⟩
  | row e s rows =>
    obtain ⟨vals, h1, h2, h3, h4⟩ := h
    refine ⟨vals, h1.sub he.R, h2, h3, ?_⟩
    rcases h4 with h4 | ⟨⟨g, cap, rfl, hp⟩, h5, h6⟩
    · exact .inl h4
    · refine .inr ⟨⟨g, cap, rfl, hp⟩, h5, ?_⟩
      rcases h6 with ⟨h6, -⟩ | ⟨g2, cap2, cur, h6, h7, h8, h9⟩
      · cases h6
      · injection h6 with e1 e2 e3
        injection e1 with e1
        injection e1 with e1
        subst e1; subst e3
        obtain ⟨q, rfl⟩ : ∃ q, cap = q + 1 := ⟨cap - 1, by omega⟩
        exact .inr ⟨g, _, cur, rfl, h7, (hk' g rfl).trans h8, h9⟩
  | fro s rows => exact PRep.sub he.R _ _ h
  | loop tm lc m =>
    obtain ⟨l, D, st, pe, rfl, h1, h2⟩ := h
    exact ⟨l, D, st, pe, rfl, (hk' l rfl).trans h1, h2⟩
  | frm tm t => exact fun d v hv => Rep.ext he _ _ (h d v hv)
theorem ObjAt.ext {ρ ρ' : Env} {w : World} {x : Value} {o : AO} (h : ObjAt ρ w x o) (he : ExtE ρ ρ') : ObjAt ρ' w x o := h.keep he (fun _ _ _ => rfl)

structure AS where
  t : List (Nat × AV)
  s : List (Nat × Option AO)
  lg : Option (List (List Nat × List Nat))
def AS.get (S : AS) (d : Nat) : AV := (find S.t d).getD .dead
def AS.obj (S : AS) (i : Nat) : Option AO := (find S.s i).getD none
def AS.put (S : AS) (d : Nat) (v : AV) : AS := ⟨(d, v) :: S.t, S.s, S.lg⟩
def AS.putO (S : AS) : Option Nat → AV → AS
  | some d, v => S.put d v
  | none, _ => S
def AS.upd (S : AS) (u : List (Nat × Option AO)) : AS := ⟨S.t, u ++ S.s, S.lg⟩

structure FrameM (M : Nat → Prop) (w0 w : World) : Prop where
  os : w.os = w0.os
  tape : w.tape = w0.tape
  output : w.output = w0.output
  size : w0.heap.size ≤ w.heap.size
  block : ∀ g, g < w0.heap.size → ¬ M g → w.heap[g]? = w0.heap[g]?
theorem FrameM.refl (M : Nat → Prop) (w : World) : FrameM M w w := ⟨rfl, rfl, rfl, Nat.le_refl _, fun _ _ _ => rfl⟩

/-- where a call began: how many slots it has, which old blocks it may turn, its world, its objects; which blocks hold nothing that is to be done at an end. -/
structure Ctx where
  N : Nat
  M : Nat → Prop
  w0 : World
  ρ0 : Env
  D : Nat → Prop
structure Mod (c : Ctx) (p : Nat → Prop) (ρ : Env) (S : AS) (tm : Array Value) (w : World) : Prop where
  size : tm.size = c.N
  base : ∀ i, i < 8 → ρ.f i = c.ρ0.f i
  baseR : SubR c.ρ0.R ρ.R
  lo : ∀ i, i < 8 → p i
  dom : ∀ i x, ρ.f i = some x → p i ∧ x.oneCell' = true
  tmps : ∀ d, Rep ρ (S.get d) (tm.getD d undef)
  objs : ∀ i o, S.obj i = some o → ∃ x, ρ.f i = some x ∧ ObjAt ρ w x o
  apart : ∀ i j oi oj x y, i ≠ j → S.obj i = some oi → S.obj j = some oj → ρ.f i = some x → ρ.f j = some y → ∀ g, oblk x oi = some g → oblk y oj ≠ some g
  old : ∀ i o x g, S.obj i = some o → ρ.f i = some x → oblk x o = some g → c.M g ∨ c.w0.heap.size ≤ g
  ro : ∀ g o, ρ.R g = some o → w.heap[g]? = some o
  rsep : ∀ i o x g, S.obj i = some o → ρ.f i = some x → oblk x o = some g → ρ.R g = none
  rnew : ∀ g o, ρ.R g = some o → c.ρ0.R g = some o ∨ c.M g ∨ c.w0.heap.size ≤ g
  rdf : ∀ g o, ρ.R g = some o → isDefd o = false
  dfr : ∀ g, c.D g → c.w0.heap.size ≤ g ∧ w.heap[g]? = some (.deferred (some []))
  frame : FrameM c.M c.w0 w

theorem find_append {α : Type} (l m : List (Nat × α)) (i : Nat) : find (l ++ m) i = match find l i with | some v => some v | none => find m i := by
  induction l with
  | nil => rfl
  | cons p l ih =>
    obtain ⟨k, v⟩ := p
    simp only [List.cons_append, find]
    split
    · rfl
    · exact ih

/-- the blocks that updates touch. -/
def Touch (ρ : Env) (S : AS) (u : List (Nat × Option AO)) (g : Nat) : Prop := ∃ i o x q, find u i = some q ∧ S.obj i = some o ∧ ρ.f i = some x ∧ oblk x o = some g
theorem Mod.touch_lt {c : Ctx} {p : Nat → Prop} {ρ : Env} {S : AS} {tm : Array Value} {w : World} (h : Mod c p ρ S tm w) {u : List (Nat × Option AO)} {g : Nat} (hT : Touch ρ S u g) : (∃ ob, w.heap[g]? = some ob ∧ isDefd ob = false) ∧ ρ.R g = none ∧ (c.M g ∨ c.w0.heap.size ≤ g) := by
  obtain ⟨i, o, x, q, -, e2, e3, e4⟩ := hT
  obtain ⟨y, f1, f2⟩ := h.objs i o e2
  rw [e3] at f1; cases f1
  exact ⟨f2.kind e4, h.rsep i o x g e2 e3 e4, h.old i o x g e2 e3 e4⟩
theorem Mod.new_R {c : Ctx} {p : Nat → Prop} {ρ : Env} {S : AS} {tm : Array Value} {w : World} (h : Mod c p ρ S tm w) {g : Nat} (hg : w.heap.size ≤ g) : ρ.R g = none := by
  cases e : ρ.R g with
  | none => rfl
  | some o => have := h.ro g o e; rw [Array.getElem?_eq_none hg] at this; cases this

/-- a step that leaves a world in which the objects are as they are told, all others as they were. -/
theorem Mod.step {c : Ctx} {p p' : Nat → Prop} {ρ ρ' : Env} {S : AS} {tm : Array Value} {w w' : World} (h : Mod c p ρ S tm w) (u : List (Nat × Option AO)) (he : ExtE ρ ρ') (hlo : ∀ i, i < 8 → ρ'.f i = ρ.f i) (hlp : ∀ i, p i → p' i)
    (hdom : ∀ i x, ρ'.f i = some x → p' i ∧ x.oneCell' = true)
    (hos : w'.os = w.os) (htp : w'.tape = w.tape) (hout : w'.output = w.output) (hsz : w.heap.size ≤ w'.heap.size) (hkeep : ∀ g, g < w.heap.size → ¬ Touch ρ S u g → w'.heap[g]? = w.heap[g]?)
    (hR : ∀ g o, ρ'.R g = some o → ρ.R g = some o ∨ ((w.heap.size ≤ g ∨ Touch ρ S u g) ∧ w'.heap[g]? = some o ∧ isDefd o = false))
    (hnew : ∀ i o, find u i = some (some o) → ∃ x, ρ'.f i = some x ∧ ObjAt ρ' w' x o ∧ ∀ g, oblk x o = some g → (w.heap.size ≤ g ∨ Touch ρ S u g) ∧ ρ'.R g = none)
    (hap : ∀ i j oi oj x y, i ≠ j → find u i = some (some oi) → find u j = some (some oj) → ρ'.f i = some x → ρ'.f j = some y → ∀ g, oblk x oi = some g → oblk y oj ≠ some g) :
    Mod c p' ρ' (S.upd u) tm w' := by
  have hobj : ∀ i, (S.upd u).obj i = match find u i with | some q => q | none => S.obj i := fun i => by
    unfold AS.obj AS.upd
    simp only [find_append]
    cases find u i <;> rfl
  have hnotT : ∀ i o x g, find u i = none → S.obj i = some o → ρ.f i = some x → oblk x o = some g → ¬ Touch ρ S u g := fun i o x g hu ho hx hg ⟨j, oj, y, q, e1, e2, e4, e5⟩ => by
    have hne : j ≠ i := fun e => by subst e; rw [hu] at e1; cases e1
    exact h.apart j i oj o y x hne e2 ho e4 hx g e5 hg
  have hold : ∀ i o, find u i = none → S.obj i = some o → ∃ x, ρ.f i = some x ∧ ρ'.f i = some x ∧ ObjAt ρ w x o ∧ ObjAt ρ' w' x o := fun i o hu ho => by
    obtain ⟨x, h1, h2⟩ := h.objs i o ho
    exact ⟨x, h1, he.f i x h1, h2, h2.keep he fun g hg hlt => hkeep g hlt (hnotT i o x g hu ho h1 hg)⟩
  -- an object of either kind: its block
  have hblk : ∀ i o x g, (S.upd u).obj i = some o → ρ'.f i = some x → oblk x o = some g → (find u i = none ∧ S.obj i = some o ∧ ρ.f i = some x ∧ g < w.heap.size ∧ ¬ Touch ρ S u g) ∨ (find u i = some (some o) ∧ (w.heap.size ≤ g ∨ Touch ρ S u g) ∧ ρ'.R g = none) := fun i o x g hi hx hg => by
    rw [hobj] at hi
    cases hui : find u i with
    | none =>
      rw [hui] at hi
      dsimp only at hi
      obtain ⟨x', hx1, hx2, hx3, -⟩ := hold i o hui hi
      obtain rfl : x' = x := by rw [hx2] at hx; exact Option.some.inj hx
      exact .inl ⟨rfl, hi, hx1, hx3.lt hg, hnotT i o x' g hui hi hx1 hg⟩
    | some q =>
      rw [hui] at hi
      dsimp only at hi
      subst hi
      obtain ⟨x', hx1, -, hx3⟩ := hnew i o hui
      obtain rfl : x' = x := by rw [hx1] at hx; exact Option.some.inj hx
      exact .inr ⟨rfl, hx3 g hg⟩
  refine ⟨h.size, fun i hi => (hlo i hi).trans (h.base i hi), h.baseR.trans he.R, fun i hi => hlp i (h.lo i hi), hdom, fun d => (h.tmps d).ext he, fun i o ho => ?_, ?_, ?_, ?_, ?_, ?_, ?_, ?_, ?_⟩
  · rw [hobj] at ho
    cases hu : find u i with
    | none =>
      rw [hu] at ho
      obtain ⟨x, -, h2, -, h3⟩ := hold i o hu ho
      exact ⟨x, h2, h3⟩
    | some q =>
      rw [hu] at ho
      dsimp only at ho
      subst ho
      obtain ⟨x, h1, h2, -⟩ := hnew i o hu
      exact ⟨x, h1, h2⟩
  · intro i j oi oj x y hne hi hj hx hy g hg hg'
    rcases hblk i oi x g hi hx hg with ⟨a1, a2, a3, a4, a5⟩ | ⟨a1, a2, a3⟩ <;> rcases hblk j oj y g hj hy hg' with ⟨b1, b2, b3, b4, b5⟩ | ⟨b1, b2, b3⟩
    · exact h.apart i j oi oj x y hne a2 b2 a3 b3 g hg hg'
    · rcases b2 with b2 | b2
      · omega
      · exact a5 b2
    · rcases a2 with a2 | a2
      · omega
      · exact b5 a2
    · exact hap i j oi oj x y hne a1 b1 hx hy g hg hg'
  · intro i o x g hi hx hg
    rcases hblk i o x g hi hx hg with ⟨a1, a2, a3, a4, a5⟩ | ⟨a1, a2, a3⟩
    · exact h.old i o x g a2 a3 hg
    · rcases a2 with a2 | a2
      · exact .inr (Nat.le_trans h.frame.size a2)
      · exact (h.touch_lt a2).2.2
  · intro g o hg
    rcases hR g o hg with e | ⟨-, e, -⟩
    · have h1 := h.ro g o e
      rw [hkeep g (Array.getElem?_eq_some_iff.1 h1).1 (fun hT => by rw [(h.touch_lt hT).2.1] at e; cases e)]
      exact h1
    · exact e
  · intro i o x g hi hx hg
    rcases hblk i o x g hi hx hg with ⟨a1, a2, a3, a4, a5⟩ | ⟨a1, a2, a3⟩
    · cases e : ρ'.R g with
      | none => rfl
      | some ob =>
        rcases hR g ob e with e | ⟨e | e, -⟩
        · rw [h.rsep i o x g a2 a3 hg] at e; cases e
        · omega
        · exact absurd e a5
    · exact a3
  · intro g o hg
    rcases hR g o hg with e | ⟨e | e, -⟩
    · exact h.rnew g o e
    · exact .inr (.inr (Nat.le_trans h.frame.size e))
    · exact .inr (h.touch_lt e).2.2
  · intro g o hg
    rcases hR g o hg with e | ⟨-, -, e⟩
    · exact h.rdf g o e
    · exact e
  · intro g hg
    obtain ⟨h0, h1⟩ := h.dfr g hg
    refine ⟨h0, (hkeep g (Array.getElem?_eq_some_iff.1 h1).1 fun hT => ?_).trans h1⟩
    obtain ⟨⟨ob, e1, e2⟩, -⟩ := h.touch_lt hT
    rw [h1] at e1; cases e1; cases e2
  · refine ⟨hos.trans h.frame.os, htp.trans h.frame.tape, hout.trans h.frame.output, Nat.le_trans h.frame.size hsz, fun g hg hM => ?_⟩
    refine (hkeep g (Nat.lt_of_lt_of_le hg h.frame.size) fun hT => ?_).trans (h.frame.block g hg hM)
    rcases (h.touch_lt hT).2.2 with e | e
    · exact hM e
    · omega
/-- the same, nothing more never turns. -/
theorem Mod.step0 {c : Ctx} {p p' : Nat → Prop} {ρ ρ' : Env} {S : AS} {tm : Array Value} {w w' : World} (h : Mod c p ρ S tm w) (u : List (Nat × Option AO)) (he : ∀ i x, ρ.f i = some x → ρ'.f i = some x) (hRR : ρ'.R = ρ.R) (hlo : ∀ i, i < 8 → ρ'.f i = ρ.f i) (hlp : ∀ i, p i → p' i)
    (hdom : ∀ i x, ρ'.f i = some x → p' i ∧ x.oneCell' = true)
    (hos : w'.os = w.os) (htp : w'.tape = w.tape) (hout : w'.output = w.output) (hsz : w.heap.size ≤ w'.heap.size) (hkeep : ∀ g, g < w.heap.size → ¬ Touch ρ S u g → w'.heap[g]? = w.heap[g]?)
    (hnew : ∀ i o, find u i = some (some o) → ∃ x, ρ'.f i = some x ∧ ObjAt ρ' w' x o ∧ ∀ g, oblk x o = some g → w.heap.size ≤ g ∨ Touch ρ S u g)
    (hap : ∀ i j oi oj x y, i ≠ j → find u i = some (some oi) → find u j = some (some oj) → ρ'.f i = some x → ρ'.f j = some y → ∀ g, oblk x oi = some g → oblk y oj ≠ some g) :
    Mod c p' ρ' (S.upd u) tm w' := by
  refine h.step u ⟨he, by rw [hRR]; exact SubR.refl _⟩ hlo hlp hdom hos htp hout hsz hkeep (fun g o e => .inl (by rw [← hRR]; exact e)) (fun i o hu => ?_) hap
  obtain ⟨x, h1, h2, h3⟩ := hnew i o hu
  refine ⟨x, h1, h2, fun g hg => ⟨h3 g hg, ?_⟩⟩
  rw [hRR]
  rcases h3 g hg with e | e
  · exact h.new_R e
  · exact (h.touch_lt e).2.1
end Go.Proofs.YtblmebjhhanoaaaGreat
/- ENGINE (second) 2: operations, one by one; over any program. -/
set_option linter.unusedSimpArgs false
set_option linter.unusedVariables false
namespace Go.Proofs.YtblmebjhhanoaaaGreat
open Go.RowKit

structure Eff where
  val : AV
  objs : List (Nat × Option AO)
  reads : List Nat

/-- the wide fence, in a round of a range over a function, or in none. -/
def FW (rd : Option Nat) : Fence := { Fence.wide with round := rd }
theorem not_defer {P : Program} {o : Oper} {a : Act} {w w' : World} {nx : Next} (hr : (execOp a.eval o).run P w = .ok nx w') (h : ∀ d, nx ≠ .defer d) : ∀ c, o.op ≠ .defer c := by
  intro c ho
  unfold execOp at hr
  rw [ho] at hr
  simp only [Sem.run_bind] at hr
  cases hq : (resolve a.eval c o.type).run P w with
  | ok d w1 =>
    rw [hq] at hr
    simp only [Result.andThen_ok, Sem.run_pure, Result.ok.injEq] at hr
    exact h _ hr.1.symm
  | halt x w1 => rw [hq] at hr; simp [Result.andThen] at hr
theorem wpIn_value {rd : Option Nat} {m : Nat} {P : Program} {o : Oper} {a : Act} {w w' : World} {K : Act → World → Prop} {Q : Exit → Act → World → Prop} {v : Value} (hr : (execOp a.eval o).run P w = .ok (.value v) w') (hK : K (a.put o.dst v) w') : o.wpIn (FW rd) m P a w K Q := by
  refine ⟨fun _ _ => trivial, ?_⟩
  rw [Oper.semAt_eq _ _ _ (not_defer hr (fun d e => by cases e)), hr]
  exact hK
theorem wpIn_skips {rd : Option Nat} {m : Nat} {P : Program} {o : Oper} {a : Act} {w w' : World} {K : Act → World → Prop} {Q : Exit → Act → World → Prop} (hr : (execOp a.eval o).run P w = .ok .skip w') (hK : K (a.put o.dst undef) w') : o.wpIn (FW rd) m P a w K Q := by
  refine ⟨fun _ _ => trivial, ?_⟩
  rw [Oper.semAt_eq _ _ _ (not_defer hr (fun d e => by cases e)), hr]
  exact hK
theorem calls_fw {rd : Option Nat} {m : Nat} {P : Program} {f : FuncId} {args : Array Value} {w : World} {R : Ending → World → Prop} (h : Calls P f args w R) : CallsIn (FW rd) m P f args w R := callsIn_wide.2 h
theorem wpIn_enters {rd : Option Nat} {m : Nat} {P : Program} {o : Oper} {a : Act} {w w' : World} {K : Act → World → Prop} {Q : Exit → Act → World → Prop} {f : FuncId} {args : Array Value} (hr : (execOp a.eval o).run P w = .ok (.enter f args) w') (h : Calls P f args w' fun e w'' => ∃ v, e = .returned v ∧ K (a.put o.dst v) w'') : o.wpIn (FW rd) m P a w K Q := by
  refine ⟨fun _ _ => trivial, ?_⟩
  rw [Oper.semAt_eq _ _ _ (not_defer hr (fun d e => by cases e)), hr]
  refine ⟨fun q => absurd q (by simp [FW, Fence.wide]), calls_fw (h.mono ?_)⟩
  rintro e w'' ⟨v, rfl, h2⟩
  exact h2
/-- an operation does what is told: in whatever world the state describes. -/
def DoesAt (P : Program) (o : Oper) (S : AS) (n : Nat) (E : Eff) : Prop :=
  ∀ (rd : Option Nat) (m0 : Nat) (c : Ctx) (p : Nat → Prop) (ρ : Env) (a : Act) (w : World), Mod c p ρ S a.tmps w → (∀ i, p i → i / 8 ≠ n) →
  ∀ (K : Act → World → Prop) (Q : Exit → Act → World → Prop), (∀ v ρ' w', Mod c (fun i => p i ∨ i / 8 = n) ρ' (S.upd E.objs) a.tmps w' → Rep ρ' E.val v → K (a.put o.dst v) w') → o.wpIn (FW rd) m0 P a w K Q

theorem Mod.mono {c : Ctx} {p p' : Nat → Prop} {ρ : Env} {S : AS} {tm : Array Value} {w : World} (h : Mod c p ρ S tm w) (hp : ∀ i, p i → p' i) : Mod c p' ρ S tm w :=
  ⟨h.size, h.base, h.baseR, fun i hi => hp i (h.lo i hi), fun i x e => ⟨hp i (h.dom i x e).1, (h.dom i x e).2⟩, h.tmps, h.objs, h.apart, h.old, h.ro, h.rsep, h.rnew, h.rdf, h.dfr, h.frame⟩
theorem Mod.put {c : Ctx} {p : Nat → Prop} {ρ : Env} {S : AS} {a : Act} {w : World} (h : Mod c p ρ S a.tmps w) (d : Option Nat) {v : AV} {u : Value} (hv : Rep ρ v u) (hd : ∀ t, d = some t → t < c.N) : Mod c p ρ (S.putO d v) (a.put d u).tmps w := by
  cases d with
  | none => exact h
  | some t =>
    refine ⟨by simpa [Act.put] using h.size, h.base, h.baseR, h.lo, h.dom, fun k => ?_, h.objs, h.apart, h.old, h.ro, h.rsep, h.rnew, h.rdf, h.dfr, h.frame⟩
    have ht : t < a.tmps.size := by rw [h.size]; exact hd t rfl
    unfold AS.putO AS.put AS.get
    simp only [find, Act.put]
    by_cases e : t = k
    · subst e
      simpa [ht] using hv
    · rw [if_neg e]
      have := h.tmps k
      unfold AS.get at this
      simpa [Array.getElem?_setIfInBounds_ne e] using this

def ofV : Value → AV
  | .agg cs => .agg (cs.toList.map .raw)
  | v => .raw v
theorem rep_ofV (ρ : Env) (v : Value) : Rep ρ (ofV v) v := by
  cases v <;> simp only [ofV, Rep]
  next cs => exact ⟨cs.toList, by simp, RepL.raws _⟩
def AS.val (S : AS) : Operand → AV
  | .tmp t => S.get t
  | .const v => ofV v
  | .func f => .clo (.func f) []
  | .global _ => .dead
theorem Mod.val {c : Ctx} {p : Nat → Prop} {ρ : Env} {S : AS} {a : Act} {w : World} (h : Mod c p ρ S a.tmps w) (x : Operand) : Rep ρ (S.val x) (a.eval x) := by
  cases x with
  | tmp t => exact h.tmps t
  | const v => exact rep_ofV ρ v
  | global g => simp [AS.val, Rep]
  | func f => simp only [AS.val, Rep, Act.eval]; exact ⟨[], rfl, by simp [RepL]⟩
theorem Mod.raw {c : Ctx} {p : Nat → Prop} {ρ : Env} {S : AS} {a : Act} {w : World} (h : Mod c p ρ S a.tmps w) {x : Operand} {v : Value} (e : S.val x = .raw v) : a.eval x = v := by
  have := h.val x
  rw [e] at this
  simpa [Rep] using this

def AV.one : AV → Bool
  | .raw v => v.oneCell'
  | .hdr _ | .ptr .. | .clo .. | .bnd .. | .sl .. | .vw .. | .spt .. => true
  | _ => false
theorem one_of {c : Ctx} {p : Nat → Prop} {ρ : Env} {S : AS} {tm : Array Value} {w : World} (h : Mod c p ρ S tm w) {a : AV} {v : Value} (hr : Rep ρ a v) (ho : a.one = true) : v.oneCell' = true := by
  cases a with
  | raw u => simp only [Rep] at hr; subst hr; exact ho
  | hdr id => simp only [Rep] at hr; exact (h.dom id v hr).2
  | ptr id s k j => simp only [Rep] at hr; obtain ⟨x, b, o, -, -, rfl⟩ := hr; rfl
  | sl s rows => simp only [Rep, PRep] at hr; obtain ⟨A, c, rfl, -⟩ := hr; rfl
  | vw id s l hh => simp only [Rep] at hr; obtain ⟨A, n, c, -, -, -, -, rfl⟩ := hr; rfl
  | spt s rows k j => simp only [Rep] at hr; obtain ⟨b, o, rfl, -⟩ := hr; rfl
  | clo f l => simp only [Rep] at hr; obtain ⟨cs, rfl, -⟩ := hr; rfl
  | bnd f l => simp only [Rep] at hr; obtain ⟨cs, rfl, -⟩ := hr; rfl
  | _ => cases ho
/-- a value's cells. -/
def cellsOf : AV → Option (List AV)
  | .agg l => if l.all AV.one then some l else none
  | a => if a.one then some [a] else none
theorem cells_of {c : Ctx} {p : Nat → Prop} {ρ : Env} {S : AS} {tm : Array Value} {w : World} (h : Mod c p ρ S tm w) {a : AV} {l : List AV} (hc : cellsOf a = some l) {v : Value} (hr : Rep ρ a v) :
    ∃ cs : List Value, v.cells = cs.toArray ∧ RepL ρ l cs ∧ ∀ u ∈ cs, u.oneCell' = true := by
  have key : ∀ (a : AV) (v : Value), a.one = true → Rep ρ a v → ∃ cs : List Value, v.cells = cs.toArray ∧ RepL ρ [a] cs ∧ ∀ u ∈ cs, u.oneCell' = true := fun a v ho hr => by
    have h1 := one_of h hr ho
    refine ⟨[v], ?_, by simp only [RepL]; exact ⟨hr, trivial⟩, fun u hu => by simp at hu; subst hu; exact h1⟩
    cases v <;> first | rfl | (simp [Value.oneCell'] at h1)
  cases a with
  | agg m =>
    have hc : (if m.all AV.one then some m else none) = some l := hc
    split at hc
    · next hall =>
      obtain rfl := Option.some.inj hc
      simp only [Rep] at hr
      obtain ⟨cs, rfl, hl⟩ := hr
      refine ⟨cs, rfl, hl, fun u hu => ?_⟩
      obtain ⟨k, hk, rfl⟩ := List.mem_iff_getElem.1 hu
      have hlen := hl.length
      obtain ⟨v', h1, h2⟩ := RepL.get k hl (List.getElem?_eq_getElem (by omega))
      rw [List.getElem?_eq_getElem hk] at h1
      cases h1
      exact one_of h h2 (List.all_eq_true.1 hall _ (List.getElem_mem _))
    · simp at hc
  | raw u => simp only [cellsOf] at hc; split at hc
             · next ho => obtain rfl := Option.some.inj hc; exact key _ _ ho hr
             · simp at hc
  | hdr u => simp only [cellsOf] at hc; split at hc
             · next ho => obtain rfl := Option.some.inj hc; exact key _ _ ho hr
             · simp at hc
  | ptr _ _ _ _ => simp only [cellsOf] at hc; split at hc
                   · next ho => obtain rfl := Option.some.inj hc; exact key _ _ ho hr
                   · simp at hc
  | sl _ _ => simp only [cellsOf] at hc; split at hc
              · next ho => obtain rfl := Option.some.inj hc; exact key _ _ ho hr
              · simp at hc
  | vw _ _ _ _ => simp only [cellsOf] at hc; split at hc
                  · next ho => obtain rfl := Option.some.inj hc; exact key _ _ ho hr
                  · simp at hc
  | spt _ _ _ _ => simp only [cellsOf] at hc; split at hc
                   · next ho => obtain rfl := Option.some.inj hc; exact key _ _ ho hr
                   · simp at hc
  | clo _ _ => simp only [cellsOf] at hc; split at hc
               · next ho => obtain rfl := Option.some.inj hc; exact key _ _ ho hr
               · simp at hc
  | bnd _ _ => simp only [cellsOf] at hc; split at hc
               · next ho => obtain rfl := Option.some.inj hc; exact key _ _ ho hr
               · simp at hc
  | dead => simp [cellsOf, AV.one] at hc
  | tup l => simp [cellsOf, AV.one] at hc

theorem does_pure {P : Program} {o : Oper} {S : AS} {n : Nat} {E : Eff} (hE : E.objs = [])
    (h : ∀ (c : Ctx) (p : Nat → Prop) (ρ : Env) (a : Act) (w : World), Mod c p ρ S a.tmps w → ∃ v, (execOp a.eval o).run P w = .ok (.value v) w ∧ Rep ρ E.val v) : DoesAt P o S n E := by
  intro rd m0 c p ρ a w hm hn K Q hK
  obtain ⟨v, hr, hv⟩ := h c p ρ a w hm
  refine wpIn_value hr ?_
  exact hK v ρ w (by rw [hE]; exact hm.mono fun i h => .inl h) hv

theorem does_move {P : Program} {o : Oper} {S : AS} {n : Nat} (x : Operand) (ho : o.op = .move x ∨ o.op = .assign x) : DoesAt P o S n ⟨S.val x, [], []⟩ :=
  does_pure rfl fun c p ρ a w hm => ⟨a.eval x, by rcases ho with ho | ho <;> simp [execOp, ho], hm.val x⟩
theorem does_pick {P : Program} {o : Oper} {S : AS} {n : Nat} {c x y : Operand} {t : Bool} (ho : o.op = .pick c x y) (hc : S.val c = .raw (.bool t)) : DoesAt P o S n ⟨if t then S.val x else S.val y, [], []⟩ :=
  does_pure rfl fun c' p ρ a w hm => by
    have h := hm.raw hc
    cases t
    · exact ⟨a.eval y, by simp [execOp, ho, h, asBool], hm.val y⟩
    · exact ⟨a.eval x, by simp [execOp, ho, h, asBool], hm.val x⟩

/-- a name that is not given yet. -/
theorem Mod.fresh {c : Ctx} {p : Nat → Prop} {ρ : Env} {S : AS} {tm : Array Value} {w : World} (h : Mod c p ρ S tm w) {n : Nat} (hn : ∀ i, p i → i / 8 ≠ n) {k : Nat} (hk : k / 8 = n) : ρ.f k = none := by
  cases e : ρ.f k with
  | none => rfl
  | some y => exact absurd hk (hn _ (h.dom _ _ e).1)
theorem Mod.n0 {c : Ctx} {p : Nat → Prop} {ρ : Env} {S : AS} {tm : Array Value} {w : World} (h : Mod c p ρ S tm w) {n : Nat} (hn : ∀ i, p i → i / 8 ≠ n) : n ≠ 0 := fun e => hn 0 (h.lo 0 (by omega)) (by omega)
def Env.with (ρ : Env) (k : Nat) (x : Value) : Env := ⟨fun i => if i = k then some x else ρ.f i, ρ.R⟩
theorem ext_with {ρ : Env} {k : Nat} {x : Value} (h : ρ.f k = none) : ExtE ρ (ρ.with k x) := ⟨fun i y e => by
  have : i ≠ k := fun e2 => by subst e2; rw [h] at e; cases e
  show (if i = k then _ else _) = _
  rw [if_neg this]; exact e, SubR.refl _⟩
theorem with_self (ρ : Env) (k : Nat) (x : Value) : (ρ.with k x).f k = some x := by show (if k = k then _ else _) = _; rw [if_pos rfl]
theorem with_dom {c : Ctx} {p : Nat → Prop} {ρ : Env} {S : AS} {tm : Array Value} {w : World} (h : Mod c p ρ S tm w) {n k : Nat} {x : Value} (hk : k / 8 = n) (hx : x.oneCell' = true) : ∀ i y, (ρ.with k x).f i = some y → (p i ∨ i / 8 = n) ∧ y.oneCell' = true := fun i y e => by
  have e : (if i = k then some x else ρ.f i) = some y := e
  split at e
  · next e2 => obtain rfl := Option.some.inj e; exact ⟨.inr (by omega), hx⟩
  · exact ⟨.inl (h.dom i y e).1, (h.dom i y e).2⟩
theorem with_low {ρ : Env} {k i : Nat} {x : Value} (hi : i < 8) (hk : 8 ≤ k) : (ρ.with k x).f i = ρ.f i := by show (if i = k then _ else _) = _; rw [if_neg (by omega)]
/-- what is made anew: one block. -/
theorem Mod.made {c : Ctx} {p : Nat → Prop} {ρ : Env} {S : AS} {tm : Array Value} {w : World} (h : Mod c p ρ S tm w) {n : Nat} (hn : ∀ i, p i → i / 8 ≠ n) {x : Value} {o : AO} {ob : Obj} (hx : x.oneCell' = true)
    (ho : ∀ ρ', ExtE ρ ρ' → ObjAt ρ' (w.alloc ob) x o) (hb : ∀ g, oblk x o = some g → w.heap.size ≤ g) :
    ∃ ρ', ExtE ρ ρ' ∧ ρ'.f (8 * n) = some x ∧ Mod c (fun i => p i ∨ i / 8 = n) ρ' (S.upd [(8 * n, some o)]) tm (w.alloc ob) := by
  have hfr := h.fresh hn (k := 8 * n) (by omega)
  have hn0 := h.n0 hn
  have he := ext_with (x := x) hfr
  refine ⟨_, he, with_self .., h.step0 [(8 * n, some o)] he.f rfl (fun i hi => with_low hi (by omega)) (fun i h => .inl h) (with_dom h (by omega) hx) rfl rfl rfl (by simp) ?_ ?_ ?_⟩
  · intro g hg _
    exact Below.heap_alloc w ob g hg
  · intro i o' hf
    simp only [find] at hf
    split at hf
    · next e =>
      subst e
      cases hf
      exact ⟨x, with_self .., ho _ he, fun g hg => .inl (hb g hg)⟩
    · cases hf
  · intro i j oi oj x' y' hne h1 h2
    simp only [find] at h1 h2
    split at h1
    · next e1 =>
      split at h2
      · next e2 => omega
      · cases h2
    · cases h1

theorem Mod.add {c : Ctx} {p p' : Nat → Prop} {ρ : Env} {S : AS} {tm : Array Value} {w w' : World} (h : Mod c p ρ S tm w) {k : Nat} (hk : ρ.f k = none) (hk8 : 8 ≤ k) (hpp : ∀ i, p i → p' i) (hpk : p' k) {x : Value} {o : AO} (hx : x.oneCell' = true) (hw : w' = w ∨ ∃ ob, w' = w.alloc ob) (ho : ∀ ρ', ExtE ρ ρ' → ObjAt ρ' w' x o) (hb : ∀ g, oblk x o = some g → w.heap.size ≤ g) :
    Mod c p' (ρ.with k x) (S.upd [(k, some o)]) tm w' := by
  have he := ext_with (x := x) hk
  refine h.step0 [(k, some o)] he.f rfl (fun i hi => with_low hi hk8) hpp (fun i y e => ?_) ?_ ?_ ?_ ?_ ?_ ?_ ?_
  · have e : (if i = k then some x else ρ.f i) = some y := e
    by_cases hik : i = k
    · rw [if_pos hik] at e
      obtain rfl := Option.some.inj e
      exact ⟨hik ▸ hpk, hx⟩
    · rw [if_neg hik] at e
      exact ⟨hpp i (h.dom i y e).1, (h.dom i y e).2⟩
  · rcases hw with rfl | ⟨ob, rfl⟩ <;> rfl
  · rcases hw with rfl | ⟨ob, rfl⟩ <;> rfl
  · rcases hw with rfl | ⟨ob, rfl⟩ <;> rfl
  · rcases hw with rfl | ⟨ob, rfl⟩ <;> simp
  · intro g hg _
    rcases hw with rfl | ⟨ob, rfl⟩
    · rfl
    · exact Below.heap_alloc w ob g hg
  · intro i o' hf
    simp only [find] at hf
    split at hf
    · next e =>
      subst e
      cases hf
      exact ⟨x, with_self .., ho _ he, fun g hg => .inl (hb g hg)⟩
    · cases hf
  · intro i j oi oj x' y' hne h1 h2
    simp only [find] at h1 h2
    split at h1
    · next e1 =>
      split at h2
      · next e2 => omega
      · cases h2
    · cases h1

theorem obj_cells {ρ : Env} {w : World} {t : TypeId} {l : List AV} {cs : List Value} (hl : RepL ρ l cs) (h1 : ∀ u ∈ cs, u.oneCell' = true) : ∀ ρ', ExtE ρ ρ' → ObjAt ρ' (w.alloc (.cells cs.toArray t)) (.pointer (some ⟨w.heap.size, 0, none⟩)) (.cells t l) :=
  fun _ he => ⟨_, cs, rfl, Blk.new _ _ _, hl.ext he l cs, h1⟩

theorem does_box {P : Program} {o : Oper} {S : AS} {n : Nat} {t : TypeId} {x : Operand} {l : List AV} (ho : o.op = .box t x) (hc : cellsOf (S.val x) = some l) : DoesAt P o S n ⟨.hdr (8 * n), [(8 * n, some (.cells t l))], []⟩ := by
  intro rd m0 c p ρ a w hm hn K Q hK
  obtain ⟨cs, e1, hl, h1⟩ := cells_of hm hc (hm.val x)
  obtain ⟨ρ', he, hx, hm'⟩ := hm.made hn (x := .pointer (some ⟨w.heap.size, 0, none⟩)) (o := .cells t l) (ob := .cells cs.toArray t) rfl (obj_cells hl h1) (fun g hg => by simp [oblk, blkOf] at hg; omega)
  have hr : (execOp a.eval o).run P w = .ok (.value (.pointer (some ⟨w.heap.size, 0, none⟩))) (w.alloc (.cells cs.toArray t)) := by
    simp [execOp, ho, Instr.box, newVar, newRow, e1]
  refine wpIn_value hr ?_
  exact hK _ ρ' _ hm' (by simp only [Rep]; exact hx)

/-- a type's row, as far as it matters. -/
structure TI where
  size : Nat
  bytes : Nat
  agg : Bool
  zero : List Value
  kind : Nat
  elem : Nat
  places : List (Nat × Nat)
def isAggD : TypeDesc → Bool
  | .struct _ | .array _ _ => true
  | _ => false
def tyI (P : Program) (t : TypeId) : Option TI :=
  match P.info? t, P.underlying t with
  | some i, some d => match i.zero with
    | some z => some ⟨i.size, i.bytes, isAggD d, z.cells.toList, (match d with | .slice _ => 1 | .array _ _ => 2 | .struct _ => 3 | _ => 0), (match d with | .slice e => e | .array _ e => e | .pointer e => e | _ => 0),
      (match d with
        | .struct fs => fs.toList.map fun f => (f.offset, ((P.info? f.type).map (·.size)).getD 0)
        | .array _ e => [(0, ((P.info? e).map (·.size)).getD 0)]
        | _ => [])⟩
    | none => none
  | _, _ => none
theorem tyI_spec {P : Program} {t : TypeId} {i : TI} (h : tyI P t = some i) : ∃ x d z, P.info? t = some x ∧ P.underlying t = some d ∧ x.zero = some z ∧ x.size = i.size ∧ x.bytes = i.bytes ∧ isAggD d = i.agg ∧ z.cells.toList = i.zero := by
  unfold tyI at h
  split at h
  · next x d h1 h2 =>
    split at h
    · next z hz => cases h; exact ⟨x, d, z, h1, h2, hz, rfl, rfl, rfl, rfl⟩
    · cases h
  · cases h

theorem does_alloc {P : Program} {o : Oper} {S : AS} {n : Nat} {t : TypeId} {i : TI} (ho : o.op = .alloc t) (hi : tyI P t = some i) (h1 : ∀ u ∈ i.zero, u.oneCell' = true) : DoesAt P o S n ⟨.hdr (8 * n), [(8 * n, some (.cells t (i.zero.map .raw)))], []⟩ := by
  intro rd m0 c p ρ a w hm hn K Q hK
  obtain ⟨x, d, z, e1, e2, e3, e4, e5, e6, e7⟩ := tyI_spec hi
  have hz : z.cells = i.zero.toArray := by rw [← e7]
  obtain ⟨ρ', he, hx, hm'⟩ := hm.made hn (x := .pointer (some ⟨w.heap.size, 0, none⟩)) (o := .cells t (i.zero.map .raw)) (ob := .cells i.zero.toArray t) rfl (obj_cells (RepL.raws _) h1) (fun g hg => by simp [oblk, blkOf] at hg; omega)
  have hr : (execOp a.eval o).run P w = .ok (.value (.pointer (some ⟨w.heap.size, 0, none⟩))) (w.alloc (.cells i.zero.toArray t)) := by
    simp [execOp, ho, Instr.alloc, newVar, newRow, zeroValue, typeInfo, e1, e3, hz]
  refine wpIn_value hr ?_
  exact hK _ ρ' _ hm' (by simp only [Rep]; exact hx)
/-- a variable of a slice type: nothing lies in it yet. -/
theorem does_allocrow {P : Program} {o : Oper} {S : AS} {n : Nat} {t : TypeId} {i ie : TI} (ho : o.op = .alloc t) (hi : tyI P t = some i) (hz : i.zero = [.slice none 0 0]) : DoesAt P o S n ⟨.hdr (8 * n), [(8 * n, some (.cells t [.hdr (8 * n + 1)])), (8 * n + 1, some (.row i.elem ie.size []))], []⟩ := by
  intro rd m0 c p ρ a w hm hn K Q hK
  obtain ⟨x, d, z, e1, e2, e3, e4, e5, e6, e7⟩ := tyI_spec hi
  have hz' : z.cells = #[.slice none 0 0] := by rw [hz] at e7; exact Array.toList_inj.1 e7
  have hn0 := hm.n0 hn
  have hfr1 : ρ.f (8 * n + 1) = none := hm.fresh hn (by omega)
  have hfr0 : ρ.f (8 * n) = none := hm.fresh hn (by omega)
  have h1 := hm.add (p' := fun i => p i ∨ i / 8 = n) (w' := w) hfr1 (by omega) (fun i h => .inl h) (.inr (by omega)) (x := .slice none 0 0) (o := .row i.elem ie.size []) rfl (.inl rfl) (fun ρ' he => ⟨[], by simp [PRepLL], by simp, by simp, .inl ⟨rfl, none, rfl⟩⟩) (fun g hg => by cases hg)
  have hfr2 : (ρ.with (8 * n + 1) (.slice none 0 0)).f (8 * n) = none := by
    show (if _ then _ else _) = none
    rw [if_neg (by omega)]; exact hfr0
  have hx1 : (ρ.with (8 * n + 1) (.slice none 0 0)).f (8 * n + 1) = some (.slice none 0 0) := with_self ..
  have h2 := h1.add (p' := fun i => p i ∨ i / 8 = n) hfr2 (by omega) (fun i h => h) (.inr (by omega)) (x := .pointer (some ⟨w.heap.size, 0, none⟩)) (o := .cells t [.hdr (8 * n + 1)]) rfl (.inr ⟨.cells #[.slice none 0 0] t, rfl⟩)
    (obj_cells (cs := [.slice none 0 0]) (by simp only [RepL, Rep]; exact ⟨hx1, trivial⟩) (by simp [Value.oneCell'])) (fun g hg => by simp [oblk, blkOf] at hg; omega)
  have hr : (execOp a.eval o).run P w = .ok (.value (.pointer (some ⟨w.heap.size, 0, none⟩))) (w.alloc (.cells #[.slice none 0 0] t)) := by
    simp [execOp, ho, Instr.alloc, newVar, newRow, zeroValue, typeInfo, e1, e3, hz']
  refine wpIn_value hr ?_
  exact hK _ _ _ h2 (by simp only [Rep]; exact with_self ..)
/-- a variable of a slice type that holds nothing. -/
theorem does_boxrow {P : Program} {o : Oper} {S : AS} {n : Nat} {t : TypeId} {x : Operand} {i ie : TI} (ho : o.op = .box t x) (hx : S.val x = .raw (.slice none 0 0)) : DoesAt P o S n ⟨.hdr (8 * n), [(8 * n, some (.cells t [.hdr (8 * n + 1)])), (8 * n + 1, some (.row i.elem ie.size []))], []⟩ := by
  intro rd m0 c p ρ a w hm hn K Q hK
  have hn0 := hm.n0 hn
  have hfr1 : ρ.f (8 * n + 1) = none := hm.fresh hn (by omega)
  have hfr0 : ρ.f (8 * n) = none := hm.fresh hn (by omega)
  have h1 := hm.add (p' := fun i => p i ∨ i / 8 = n) (w' := w) hfr1 (by omega) (fun i h => .inl h) (.inr (by omega)) (x := .slice none 0 0) (o := .row i.elem ie.size []) rfl (.inl rfl) (fun ρ' he => ⟨[], by simp [PRepLL], by simp, by simp, .inl ⟨rfl, none, rfl⟩⟩) (fun g hg => by cases hg)
  have hfr2 : (ρ.with (8 * n + 1) (.slice none 0 0)).f (8 * n) = none := by
    show (if _ then _ else _) = none
    rw [if_neg (by omega)]; exact hfr0
  have hx1 : (ρ.with (8 * n + 1) (.slice none 0 0)).f (8 * n + 1) = some (.slice none 0 0) := with_self ..
  have h2 := h1.add (p' := fun i => p i ∨ i / 8 = n) hfr2 (by omega) (fun i h => h) (.inr (by omega)) (x := .pointer (some ⟨w.heap.size, 0, none⟩)) (o := .cells t [.hdr (8 * n + 1)]) rfl (.inr ⟨.cells #[.slice none 0 0] t, rfl⟩)
    (obj_cells (cs := [.slice none 0 0]) (by simp only [RepL, Rep]; exact ⟨hx1, trivial⟩) (by simp [Value.oneCell'])) (fun g hg => by simp [oblk, blkOf] at hg; omega)
  have hr : (execOp a.eval o).run P w = .ok (.value (.pointer (some ⟨w.heap.size, 0, none⟩))) (w.alloc (.cells #[.slice none 0 0] t)) := by
    have e1 : (Value.slice none 0 0).cells = #[.slice none 0 0] := rfl
    simp [execOp, ho, Instr.box, newVar, newRow, hm.raw hx, e1]
  refine wpIn_value hr ?_
  exact hK _ _ _ h2 (by simp only [Rep]; exact with_self ..)
end Go.Proofs.YtblmebjhhanoaaaGreat
/- ENGINE (second) 3: operations on memory; over any program. -/
set_option linter.unusedSimpArgs false
set_option linter.unusedVariables false
namespace Go.Proofs.YtblmebjhhanoaaaGreat
open Go.RowKit

theorem flatten_get {s : Nat} {rows : List (List Value)} (hs : ∀ r ∈ rows, r.length = s) (k i : Nat) (hi : i < s) : rows.flatten[k * s + i]? = rows[k]?.bind (fun r => r[i]?) := by
  induction rows generalizing k with
  | nil => simp
  | cons r rows ih =>
    have h0 : r.length = s := hs r (by simp)
    rw [List.flatten_cons]
    cases k with
    | zero =>
      rw [Nat.zero_mul, Nat.zero_add, List.getElem?_append_left (by omega)]
      rfl
    | succ k =>
      rw [List.getElem?_append_right (by rw [Nat.succ_mul]; omega), h0]
      have e : (k + 1) * s + i - s = k * s + i := by rw [Nat.succ_mul]; omega
      rw [e, ih (fun r hr => hs r (by simp [hr]))]
      rfl
theorem flatten_len {s : Nat} {rows : List (List Value)} (hs : ∀ r ∈ rows, r.length = s) : rows.flatten.length = rows.length * s := by
  induction rows with
  | nil => simp
  | cons r rows ih => rw [List.flatten_cons, List.length_append, hs r (by simp), ih (fun r hr => hs r (by simp [hr])), List.length_cons, Nat.succ_mul]; omega

/-- the size of a row's elements, and what they hold. -/
def AO.rows : AO → Option (Nat × List (List PV))
  | .row _ s rows | .fro s rows => some (s, rows)
  | _ => none
theorem rcell_cell {R : Frz} {w : World} (hro : ∀ g o, R g = some o → w.heap[g]? = some o) {b o : Nat} {v : Value} (h : rcell R b o = some v) : w.cell? ⟨b, o, none⟩ = some v ∧ b < w.heap.size := by
  unfold rcell at h
  cases hb : R b with
  | none => rw [hb] at h; cases h
  | some ob =>
    rw [hb] at h
    have h1 := hro b ob hb
    refine ⟨?_, (Array.getElem?_eq_some_iff.1 h1).1⟩
    unfold World.cell?
    rw [h1]
    cases ob <;> first | exact h | cases h
/-- an element's cells, at hand. -/
structure Elem (R : Frz) (w : World) (b o s : Nat) (r : List PV) (vs : List Value) : Prop where
  rep : PRepL R r vs
  len : vs.length = s
  one : ∀ u ∈ vs, u.oneCell' = true
  cell : ∀ i, i < s → w.cell? ⟨b, o + i, none⟩ = vs[i]?
theorem PRows.elem {R : Frz} {w : World} (hro : ∀ g o, R g = some o → w.heap[g]? = some o) {A : Option Addr} {s : Nat} {rows : List (List PV)} (h : PRows R A s 0 rows) {k : Nat} {r : List PV} (hk : rows[k]? = some r) :
    ∃ b off vs, A = some ⟨b, off, none⟩ ∧ Elem R w b (off + k * s) s r vs := by
  obtain ⟨h1, b, off, h2, h3⟩ := h.get hk
  obtain ⟨vs, k1, k2, k3⟩ := h3.vals
  refine ⟨b, off, vs, h2, k1, by rw [k1.length, h1], k2, fun i hi => ?_⟩
  have hl : i < vs.length := by rw [k1.length, h1]; exact hi
  have := (rcell_cell hro (k3 i vs[i] (by simp [hl]))).1
  rw [Nat.zero_add] at this
  rw [this]
  simp [hl]
theorem OwnAt.elem {w : World} {e : TypeId} {s : Nat} {x : Value} {vals : List (List Value)} (h : OwnAt w e s x vals) (hs : ∀ r ∈ vals, r.length = s) {k : Nat} {vs : List Value} (hk : vals[k]? = some vs) :
    ∃ g cap, x = .slice (some ⟨g, 0, none⟩) vals.length cap ∧ ∀ i, i < s → w.cell? ⟨g, 0 + k * s + i, none⟩ = vs[i]? := by
  rcases h with ⟨rfl, -⟩ | ⟨⟨g, cap, rfl, hp⟩, h0, h1⟩
  · simp at hk
  · refine ⟨g, cap, rfl, fun i hi => ?_⟩
    rcases h1 with ⟨h1, -⟩ | ⟨g2, cap2, cur, h1, -, hh, h4, h5, h6, h7⟩
    · cases h1
    · injection h1 with e1 e2 e3
      injection e1 with e1
      injection e1 with e1
      subst e1; subst e3
      obtain ⟨hkl, rfl⟩ := List.getElem?_eq_some_iff.1 hk
      have e1 : w.cell? ⟨g, 0 + k * s + i, none⟩ = cur[k * s + i]? := by rw [Nat.zero_add]; simp [World.cell?, hh]
      have e2 : vals.flatten[k * s + i]? = cur[k * s + i]? := by
        rw [← h7, List.getElem?_take_of_lt]
        · simp
        · have := Nat.mul_le_mul_right s (Nat.succ_le_of_lt hkl); rw [Nat.succ_mul] at this; omega
      rw [e1, ← e2, flatten_get hs k i hi, List.getElem?_eq_getElem hkl]
      rfl
/-- an element of a row. -/
theorem ObjAt.cell {ρ : Env} {w : World} (hro : ∀ g o, ρ.R g = some o → w.heap[g]? = some o) {x : Value} {o : AO} {s : Nat} {rows : List (List PV)} (h : ObjAt ρ w x o) (hr : o.rows = some (s, rows)) {k : Nat} {r : List PV} (hk : rows[k]? = some r) :
    ∃ b off vs, HasBase x b off ∧ Elem ρ.R w b (off + k * s) s r vs := by
  cases o with
  | fro s' rows' =>
    simp only [AO.rows, Option.some.injEq, Prod.mk.injEq] at hr
    obtain ⟨rfl, rfl⟩ := hr
    have h : PRep ρ.R (.sl s' rows') x := h
    simp only [PRep] at h
    obtain ⟨A, c, rfl, -, h1⟩ := h
    obtain ⟨b, off, vs, rfl, h2⟩ := h1.elem hro hk
    exact ⟨b, off, vs, .inr ⟨_, _, rfl⟩, h2⟩
  | row e s' rows' =>
    simp only [AO.rows, Option.some.injEq, Prod.mk.injEq] at hr
    obtain ⟨hs', hr'⟩ := hr
    subst hs'; subst hr'
    obtain ⟨vals, h1, h2, h3, h4⟩ := h
    obtain ⟨vs, k1, k2⟩ := h1.get hk
    obtain ⟨g, cap, rfl, k3⟩ := h4.elem h2 k1
    exact ⟨g, 0, vs, .inr ⟨_, _, rfl⟩, k2, h2 vs (List.mem_of_getElem? k1), h3 vs (List.mem_of_getElem? k1), k3⟩
  | _ => simp [AO.rows] at hr

theorem HasBase.inj {v : Value} {b o b' o' : Nat} (h : HasBase v b o) (k : HasBase v b' o') : b' = b ∧ o' = o := by
  rcases h with rfl | ⟨_, _, rfl⟩ <;> rcases k with h | ⟨_, _, h⟩ <;> cases h <;> exact ⟨rfl, rfl⟩

/-- where a pointer points. -/
def AV.loc : AV → Option (Nat × Nat × Nat × Nat)
  | .hdr id => some (id, 0, 0, 0)
  | .ptr id s k j => some (id, s, k, j)
  | _ => none

theorem add_none (b o i : Nat) : (⟨b, o, none⟩ : Addr).add i = ⟨b, o + i, none⟩ := by unfold Addr.add; split <;> simp_all

/-- a variable is loaded whose cells are there. -/
theorem run_loadAt_cells {P : Program} {w : World} {t : TypeId} {i : TI} (hi : tyI P t = some i) {b o : Nat} {cs : List Value} (hl : cs.length = i.size) (hc : ∀ j v, cs[j]? = some v → w.cell? ⟨b, o + j, none⟩ = some v) (h1 : i.agg = true ∨ i.size = 1) :
    (Instr.loadAt t (.pointer (some ⟨b, o, none⟩))).run P w = .ok (if i.agg then .agg cs.toArray else cs.getD 0 undef) w := by
  obtain ⟨x, d, z, e1, e2, e3, e4, e5, e6, e7⟩ := tyI_spec hi
  have hagg : (isAgg t).run P w = .ok i.agg w := by
    unfold isAgg
    rw [Sem.run_bind, run_underlying e2 w, ← e6]
    cases d <;> rfl
  have hlc : (loadCells ⟨b, o, none⟩ cs.length).run P w = .ok cs.toArray w := run_loadCells_list (P := P) w ⟨b, o, none⟩ cs (fun j v hv => by rw [add_none]; exact hc j v hv)
  have hls : (sizeOf t).run P w = .ok cs.length w := by
    have : (sizeOf t).run P w = .ok x.size w := by simp [sizeOf, typeInfo, e1]
    rw [this, hl, e4]
  by_cases ha : i.agg = true
  · rw [if_pos ha]
    simp [Instr.loadAt, Instr.sureAddr, loadVar, Sem.run_bind, hagg, ha, hls, hlc]
  · have hs : i.size = 1 := by simpa [ha] using h1
    rw [if_neg ha]
    have h0 : cs[0]? = some (cs.getD 0 undef) := by
      rw [List.getElem?_eq_getElem (by omega)]
      simp [List.getD, List.getElem?_eq_getElem (show 0 < cs.length by omega)]
    have := hc 0 _ h0
    simp only [Nat.add_zero] at this
    simp [Instr.loadAt, Instr.sureAddr, loadVar, Sem.run_bind, hagg, ha, this, load, Sem.run]

def ofCells (agg : Bool) (l : List AV) : AV := if agg then .agg l else l.headD .dead
theorem rep_ofCells {ρ : Env} {l : List AV} {cs : List Value} (h : RepL ρ l cs) (agg : Bool) : Rep ρ (ofCells agg l) (if agg then .agg cs.toArray else cs.getD 0 undef) := by
  cases agg with
  | true => simp only [ofCells, if_true, Rep]; exact ⟨cs, rfl, h⟩
  | false =>
    cases l with
    | nil => simp [ofCells, Rep]
    | cons a l =>
      cases cs with
      | nil => simp [RepL] at h
      | cons c cs => simp only [RepL] at h; simpa [ofCells] using h.1

theorem does_load_cells {P : Program} {o : Oper} {S : AS} {n : Nat} {t t' : TypeId} {x : Operand} {i : TI} {id s k j : Nat} {l : List AV} (ho : o.op = .load t x) (hi : tyI P t = some i) (hx : (S.val x).loc = some (id, s, k, j)) (hob : S.obj id = some (.cells t' l))
    (hl : k * s + j + i.size ≤ l.length) (h1 : i.agg = true ∨ i.size = 1) : DoesAt P o S n ⟨ofCells i.agg ((l.drop (k * s + j)).take i.size), [], [id]⟩ :=
  does_pure rfl fun c p ρ a w hm => by
    obtain ⟨y, hy, g, cs, rfl, hb, hr, -⟩ := hm.objs id _ hob
    have hlen := hr.length
    have hp : a.eval x = .pointer (some ⟨g, k * s + j, none⟩) := by
      rw [← Nat.zero_add (k * s + j)]
      have hv := hm.val x
      cases e : S.val x <;> rw [e] at hx hv <;> simp only [AV.loc, Option.some.injEq, Prod.mk.injEq, reduceCtorEq] at hx
      · obtain ⟨rfl, rfl, rfl, rfl⟩ := hx
        simp only [Rep] at hv
        rw [hy] at hv
        injection hv with hv
        rw [← hv]
      · obtain ⟨rfl, rfl, rfl, rfl⟩ := hx
        simp only [Rep] at hv
        obtain ⟨x', b, o', e1, e2, e3⟩ := hv
        rw [hy] at e1
        injection e1 with e1
        subst e1
        rcases e2 with e2 | ⟨_, _, e2⟩
        · injection e2 with e2; injection e2 with e2; injection e2 with e2 e4; subst e2; subst e4; exact e3
        · cases e2
    refine ⟨_, ?_, rep_ofCells ((hr.drop (k * s + j)).take i.size) i.agg⟩
    have hload := run_loadAt_cells (P := P) (w := w) hi (b := g) (o := k * s + j) (cs := (cs.drop (k * s + j)).take i.size) (by simp; omega) (fun m v hv => by
      have hm' : m < i.size := by
        rcases Nat.lt_or_ge m i.size with h | h
        · exact h
        · rw [List.getElem?_eq_none (by simp; omega)] at hv; cases hv
      rw [List.getElem?_take_of_lt hm', List.getElem?_drop] at hv
      rw [hb.cell, ← hv]
      simp) h1
    unfold execOp
    simp only [ho, hp, Sem.run_bind, hload, Result.andThen_ok, Sem.run_pure]
theorem load_elem {P : Program} {w : World} {R : Frz} {t : TypeId} {i : TI} (hi : tyI P t = some i) {b o s j : Nat} {r : List PV} {vs : List Value} (he : Elem R w b o s r vs) (hl : j + i.size ≤ s) (h1 : i.agg = true ∨ i.size = 1) :
    (Instr.loadAt t (.pointer (some ⟨b, o + j, none⟩))).run P w = .ok (if i.agg then .agg ((vs.drop j).take i.size).toArray else ((vs.drop j).take i.size).getD 0 undef) w := by
  have hlen := he.len
  refine run_loadAt_cells (P := P) (w := w) hi (b := b) (o := o + j) (cs := (vs.drop j).take i.size) (by simp; omega) (fun m v hv => ?_) h1
  have hm' : m < i.size := by
    rcases Nat.lt_or_ge m i.size with h | h
    · exact h
    · rw [List.getElem?_eq_none (by simp; omega)] at hv; cases hv
  rw [List.getElem?_take_of_lt hm', List.getElem?_drop] at hv
  rw [Nat.add_assoc, he.cell (j + m) (by omega), hv]
theorem does_load_row {P : Program} {o : Oper} {S : AS} {n : Nat} {t : TypeId} {x : Operand} {i : TI} {id s k j : Nat} {ob : AO} {rows : List (List PV)} {r : List PV} (ho : o.op = .load t x) (hi : tyI P t = some i) (hx : S.val x = .ptr id s k j) (hob : S.obj id = some ob) (hor : ob.rows = some (s, rows))
    (hk : rows[k]? = some r) (hl : j + i.size ≤ s) (h1 : i.agg = true ∨ i.size = 1) : DoesAt P o S n ⟨ofCells i.agg (((r.drop j).take i.size).map PV.av), [], [id]⟩ :=
  does_pure rfl fun c p ρ a w hm => by
    obtain ⟨y, hy, hoy⟩ := hm.objs id _ hob
    obtain ⟨b, off, vs, hbase, hel⟩ := hoy.cell hm.ro hor hk
    have hp : a.eval x = .pointer (some ⟨b, off + k * s + j, none⟩) := by
      have hv := hm.val x
      rw [hx] at hv
      simp only [Rep] at hv
      obtain ⟨x', b', o', e1, e2, e3⟩ := hv
      rw [hy] at e1
      injection e1 with e1
      subst e1
      have := hbase.inj e2
      rw [e3, this.1, this.2, Nat.add_assoc]
    refine ⟨_, ?_, rep_ofCells (repL_av.2 ((hel.rep.drop j).take i.size)) i.agg⟩
    unfold execOp
    simp only [ho, hp, Sem.run_bind, load_elem hi hel hl h1, Result.andThen_ok, Sem.run_pure]
theorem does_load_spt {P : Program} {o : Oper} {S : AS} {n : Nat} {t : TypeId} {x : Operand} {i : TI} {s k j : Nat} {rows : List (List PV)} {r : List PV} (ho : o.op = .load t x) (hi : tyI P t = some i) (hx : S.val x = .spt s rows k j)
    (hk : rows[k]? = some r) (hl : j + i.size ≤ s) (h1 : i.agg = true ∨ i.size = 1) : DoesAt P o S n ⟨ofCells i.agg (((r.drop j).take i.size).map PV.av), [], []⟩ :=
  does_pure rfl fun c p ρ a w hm => by
    have hv := hm.val x
    rw [hx] at hv
    simp only [Rep] at hv
    obtain ⟨b, o', e1, e2⟩ := hv
    obtain ⟨b2, off, vs, e3, hel⟩ := e2.elem hm.ro hk
    injection e3 with e3
    injection e3 with e3 e4
    subst e3; subst e4
    refine ⟨_, ?_, rep_ofCells (repL_av.2 ((hel.rep.drop j).take i.size)) i.agg⟩
    unfold execOp
    rw [← Nat.add_assoc] at e1
    simp only [ho, e1, Sem.run_bind, load_elem hi hel hl h1, Result.andThen_ok, Sem.run_pure]

/-- a pointer into a block that is known whole. -/
theorem Mod.at_cells {c : Ctx} {p : Nat → Prop} {ρ : Env} {S : AS} {a : Act} {w : World} (hm : Mod c p ρ S a.tmps w) {x : Operand} {id s k j : Nat} (hx : (S.val x).loc = some (id, s, k, j)) {t : TypeId} {l : List AV} (hob : S.obj id = some (.cells t l)) :
    ∃ g cs, ρ.f id = some (.pointer (some ⟨g, 0, none⟩)) ∧ a.eval x = .pointer (some ⟨g, k * s + j, none⟩) ∧ Blk w g t cs.toArray ∧ RepL ρ l cs ∧ ∀ u ∈ cs, u.oneCell' = true := by
  obtain ⟨y, hy, g, cs, rfl, hb, hr, h1⟩ := hm.objs id _ hob
  refine ⟨g, cs, hy, ?_, hb, hr, h1⟩
  rw [← Nat.zero_add (k * s + j)]
  have hv := hm.val x
  cases e : S.val x <;> rw [e] at hx hv <;> simp only [AV.loc, Option.some.injEq, Prod.mk.injEq, reduceCtorEq] at hx
  · obtain ⟨rfl, rfl, rfl, rfl⟩ := hx
    simp only [Rep] at hv
    rw [hy] at hv
    injection hv with hv
    rw [← hv]
  · obtain ⟨rfl, rfl, rfl, rfl⟩ := hx
    simp only [Rep] at hv
    obtain ⟨x', b, o', e1, e2, e3⟩ := hv
    rw [hy] at e1
    injection e1 with e1
    subst e1
    obtain ⟨rfl, rfl⟩ := HasBase.inj (.inl rfl) e2
    exact e3
/-- a pointer into a row. -/
theorem Mod.at_row {c : Ctx} {p : Nat → Prop} {ρ : Env} {S : AS} {a : Act} {w : World} (hm : Mod c p ρ S a.tmps w) {x : Operand} {id s k j : Nat} (hx : S.val x = .ptr id s k j) {y : Value} (hy : ρ.f id = some y) {b off : Nat} (hb : HasBase y b off) :
    a.eval x = .pointer (some ⟨b, off + (k * s + j), none⟩) := by
  have hv := hm.val x
  rw [hx] at hv
  simp only [Rep] at hv
  obtain ⟨x', b', o', e1, e2, e3⟩ := hv
  rw [hy] at e1
  injection e1 with e1
  subst e1
  have := hb.inj e2
  rw [e3, this.1, this.2]

/-- a list with some of its members replaced. -/
def splice {α : Type} (l : List α) (k : Nat) (m : List α) : List α := l.take k ++ m ++ l.drop (k + m.length)
theorem RepL.splice {ρ : Env} {l m : List AV} {vs us : List Value} (h : RepL ρ l vs) (hm : RepL ρ m us) (k : Nat) : RepL ρ (splice l k m) (splice vs k us) := by
  unfold Go.Proofs.YtblmebjhhanoaaaGreat.splice
  rw [hm.length]
  exact ((h.take k).append hm).append (h.drop _)

/-- one object turns, at its place. -/
theorem Mod.turn {c : Ctx} {p : Nat → Prop} {ρ : Env} {S : AS} {tm : Array Value} {w w' : World} (h : Mod c p ρ S tm w) {id g : Nat} {x : Value} {o o' : AO} (hob : S.obj id = some o) (hx : ρ.f id = some x) (hg : oblk x o = some g) (hg' : oblk x o' = some g)
    (ho' : ObjAt ρ w' x o') (hos : w'.os = w.os) (htp : w'.tape = w.tape) (hout : w'.output = w.output) (hsz : w'.heap.size = w.heap.size) (hk : ∀ b, b ≠ g → w'.heap[b]? = w.heap[b]?) :
    Mod c p ρ (S.upd [(id, some o')]) tm w' := by
  have hT : Touch ρ S [(id, some o')] g := ⟨id, o, x, some o', by simp [find], hob, hx, hg⟩
  refine h.step0 [(id, some o')] (fun _ _ h => h) rfl (fun _ _ => rfl) (fun _ h => h) h.dom hos htp hout (by omega) (fun b _ hT' => hk b (fun e => hT' (by rw [e]; exact hT))) ?_ ?_
  · intro i oi hf
    simp only [find] at hf
    split at hf
    · next e =>
      subst e
      injection hf with hf
      injection hf with hf
      subst hf
      refine ⟨x, hx, ho', fun b hb => .inr ?_⟩
      rw [hg'] at hb
      injection hb with hb
      subst hb
      exact hT
    · cases hf
  · intro i j oi oj x' y' hne h1 h2
    simp only [find] at h1 h2
    split at h1
    · next e1 =>
      split at h2
      · next e2 => omega
      · cases h2
    · cases h1

theorem does_store_cells {P : Program} {o : Oper} {S : AS} {n : Nat} {t t' : TypeId} {x y : Operand} {i : TI} {id s k j : Nat} {l m : List AV} (ho : o.op = .store t x y) (hi : tyI P t = some i) (hx : (S.val x).loc = some (id, s, k, j)) (hob : S.obj id = some (.cells t' l))
    (hy : cellsOf (S.val y) = some m) (hml : m.length = i.size) (hl : k * s + j + i.size ≤ l.length) : DoesAt P o S n ⟨.dead, [(id, some (.cells t' (splice l (k * s + j) m)))], [id]⟩ := by
  intro rd m0 c p ρ a w hm hn K Q hK
  obtain ⟨g, cs, hg, hp, hb, hr, h1⟩ := hm.at_cells hx hob
  obtain ⟨us, e1, hru, hu1⟩ := cells_of hm hy (hm.val y)
  obtain ⟨xi, d, z, i1, i2, i3, i4, i5, i6, i7⟩ := tyI_spec hi
  have hlen := hr.length
  have hlu := hru.length
  have hst := run_storeCells_at (P := P) g (k * s + j) t' us 0 cs.toArray w hb (by simp; omega) hu1
  simp only [Nat.add_zero] at hst
  have hr' : (execOp a.eval o).run P w = .ok .skip (w.setRow g (splice cs (k * s + j) us).toArray) := by
    unfold execOp
    simp only [ho, hp, Instr.storeAt, Instr.sureAddr, storeVar, sizeOf, typeInfo, Sem.run_bind, Sem.run_pure, Result.andThen_ok, run_program, i1, e1]
    simp only [i4, ← hml, ← hlu, List.size_toArray, ne_eq, not_true, if_false, Result.andThen_ok, hst]
    rfl
  refine wpIn_skips hr' ?_
  have hm' := hm.turn (o' := .cells t' (splice l (k * s + j) m)) (w' := w.setRow g (splice cs (k * s + j) us).toArray) hob hg rfl rfl
    ⟨g, _, rfl, setRow_heap w g _ _ t' _ hb, hr.splice hru _, fun u hu => by
      unfold splice at hu
      rcases List.mem_append.1 hu with h | h
      · rcases List.mem_append.1 h with h | h
        · exact h1 u (List.mem_of_mem_take h)
        · exact hu1 u h
      · exact h1 u (List.mem_of_mem_drop h)⟩ rfl rfl rfl (by simp [World.setRow]) (fun b hb' => setRow_other _ _ _ _ hb')
  exact hK undef ρ _ (hm'.mono fun i h => .inl h) (by simp [Rep])
end Go.Proofs.YtblmebjhhanoaaaGreat
/- ENGINE (second) 4: more operations; over any program. -/
set_option linter.unusedSimpArgs false
set_option linter.unusedVariables false
namespace Go.Proofs.YtblmebjhhanoaaaGreat
open Go.RowKit

theorem run_v {P : Program} {w w' : World} {s : Sem Value} {v : Value} (h : s.run P w = .ok v w') : (do pure (Next.value (← s)) : Sem Next).run P w = .ok (.value v) w' := by
  simp only [Sem.run_bind, h, Result.andThen_ok, Sem.run_pure]

theorem does_extract {P : Program} {o : Oper} {S : AS} {n : Nat} {x : Operand} {k : Nat} {l : List AV} {v : AV} (ho : o.op = .extract x k) (hx : S.val x = .tup l) (hk : l[k]? = some v) : DoesAt P o S n ⟨v, [], []⟩ :=
  does_pure rfl fun c p ρ a w hm => by
    have h := hm.val x
    rw [hx] at h
    simp only [Rep] at h
    obtain ⟨cs, e, hr⟩ := h
    obtain ⟨u, h1, h2⟩ := RepL.get k hr hk
    refine ⟨u, ?_, h2⟩
    unfold execOp
    rw [ho]
    refine run_v ?_
    simp [Instr.extract, e, h1]
theorem does_makeFunc {P : Program} {o : Oper} {S : AS} {n : Nat} {f : Fn} {xs : List Operand} (ho : o.op = .makeFunc f #[] xs.toArray) : DoesAt P o S n ⟨.clo f (xs.map S.val), [], []⟩ :=
  does_pure rfl fun c p ρ a w hm => by
    refine ⟨.func f #[] (xs.map a.eval).toArray, ?_, ?_⟩
    · unfold execOp
      rw [ho]
      refine run_v ?_
      simp [Instr.makeFunc]
    · simp only [Rep]
      refine ⟨xs.map a.eval, rfl, ?_⟩
      clear ho
      induction xs with
      | nil => simp [RepL]
      | cons x xs ih => simp only [List.map_cons, RepL]; exact ⟨hm.val x, ih⟩
theorem does_makeBnd {P : Program} {o : Oper} {S : AS} {n : Nat} {f : Fn} {xs : List Operand} (ho : o.op = .makeFunc f xs.toArray #[]) : DoesAt P o S n ⟨.bnd f (xs.map S.val), [], []⟩ :=
  does_pure rfl fun c p ρ a w hm => by
    refine ⟨.func f (xs.map a.eval).toArray #[], ?_, ?_⟩
    · unfold execOp
      rw [ho]
      refine run_v ?_
      simp [Instr.makeFunc]
    · simp only [Rep]
      refine ⟨xs.map a.eval, rfl, ?_⟩
      clear ho
      induction xs with
      | nil => simp [RepL]
      | cons x xs ih => simp only [List.map_cons, RepL]; exact ⟨hm.val x, ih⟩
theorem does_not {P : Program} {o : Oper} {S : AS} {n : Nat} {x : Operand} {t : TypeId} {b : Bool} (ho : o.op = .unOp .not t x) (hx : S.val x = .raw (.bool b)) : DoesAt P o S n ⟨.raw (.bool (!b)), [], []⟩ :=
  does_pure rfl fun c p ρ a w hm => ⟨_, by unfold execOp; rw [ho]; exact run_v (by simp [Op.unary, hm.raw hx]; rfl), by simp [Rep]⟩
theorem does_neg {P : Program} {o : Oper} {S : AS} {n : Nat} {x : Operand} {t : TypeId} {k : Int} (ho : o.op = .unOp .neg t x) (hx : S.val x = .raw (.int .i64 k)) (hr : -9223372036854775808 ≤ -k ∧ -k ≤ 9223372036854775807) : DoesAt P o S n ⟨.raw (.int .i64 (-k)), [], []⟩ :=
  does_pure rfl fun c p ρ a w hm => ⟨_, by
    unfold execOp; rw [ho]
    refine run_v (v := .int .i64 (-k)) ?_
    have : IntKind.i64.wrap (-k) = -k := IntWalk.i64_in _ hr
    simp [Op.unary, hm.raw hx, Op.intArith, this], by simp [Rep]⟩

/-- the bits that two numbers share; that either has. -/
def andI (a b : Int) : Int := IntKind.wrap .i64 ((BitVec.ofInt 64 a &&& BitVec.ofInt 64 b).toNat : Int)
def orI (a b : Int) : Int := IntKind.wrap .i64 ((BitVec.ofInt 64 a ||| BitVec.ofInt 64 b).toNat : Int)
/-- operations on integers. -/
def intOp : BinOp → Int → Int → Option (Value × Prop)
  | .add, a, b => some (.int .i64 (a + b), -9223372036854775808 ≤ a + b ∧ a + b ≤ 9223372036854775807)
  | .sub, a, b => some (.int .i64 (a - b), -9223372036854775808 ≤ a - b ∧ a - b ≤ 9223372036854775807)
  | .mul, a, b => some (.int .i64 (a * b), -9223372036854775808 ≤ a * b ∧ a * b ≤ 9223372036854775807)
  | .quo, a, b => some (.int .i64 (a.tdiv b), b ≠ 0 ∧ -9223372036854775808 ≤ a.tdiv b ∧ a.tdiv b ≤ 9223372036854775807)
  | .rem, a, b => some (.int .i64 (a.tmod b), b ≠ 0)
  | .and, a, b => some (.int .i64 (andI a b), True)
  | .or, a, b => some (.int .i64 (orI a b), True)
  | .eql, a, b => some (.bool (decide (a = b)), True)
  | .neq, a, b => some (.bool (!decide (a = b)), True)
  | .lss, a, b => some (.bool (decide (a < b)), True)
  | .leq, a, b => some (.bool (decide (a ≤ b)), True)
  | .gtr, a, b => some (.bool (decide (b < a)), True)
  | .geq, a, b => some (.bool (decide (b ≤ a)), True)
  | _, _, _ => none
theorem does_int {P : Program} {o : Oper} {S : AS} {n : Nat} {op : BinOp} {x y : Operand} {t u : TypeId} {k : Int} {l : Int} {v : Value} {sd : Prop} (ho : o.op = .binOp op t x y u) (hx : S.val x = .raw (.int .i64 k)) (hy : S.val y = .raw (.int .i64 l))
    (hv : intOp op k l = some (v, sd)) (hs : sd) : DoesAt P o S n ⟨.raw v, [], []⟩ :=
  does_pure rfl fun c p ρ a w hm => ⟨v, by
    unfold execOp; rw [ho]
    refine run_v ?_
    have e1 := hm.raw hx
    have e2 := hm.raw hy
    cases op <;> simp only [intOp, Option.some.injEq, Prod.mk.injEq, reduceCtorEq] at hv <;> obtain ⟨rfl, rfl⟩ := hv
    · simp only [e1, e2, eqGuard, binOp, Op.intArith, IntWalk.i64_in _ hs]; simp
    · simp only [e1, e2, eqGuard, binOp, Op.intArith, IntWalk.i64_in _ hs]; simp
    · simp only [e1, e2, eqGuard, binOp, Op.intArith, IntWalk.i64_in _ hs]; simp
    · simp only [e1, e2, eqGuard, binOp, Op.intDiv, if_neg hs.1, IntWalk.i64_in _ hs.2]; simp
    · simp [e1, e2, eqGuard, binOp, Op.intDiv, hs]
    · simp only [e1, e2, eqGuard, binOp, Op.intBits, andI]; simp; rfl
    · simp only [e1, e2, eqGuard, binOp, Op.intBits, orI]; simp; rfl
    · simp [e1, e2, eqGuard, binOp, Op.intCmp]; rfl
    · simp [e1, e2, eqGuard, binOp, Op.intCmp]; rfl
    · simp [e1, e2, eqGuard, binOp, Op.intCmp]
    · simp [e1, e2, eqGuard, binOp, Op.intCmp]
    · simp [e1, e2, eqGuard, binOp, Op.intCmp]
    · simp [e1, e2, eqGuard, binOp, Op.intCmp], by simp [Rep]⟩
/-- the element's size and the elements, of a slice's header. -/
def AS.rowsOf (S : AS) : AV → Option (Nat × List (List PV))
  | .hdr id => (S.obj id).bind AO.rows
  | .sl s rows => some (s, rows)
  | .vw id s l h => match (S.obj id).bind AO.rows with
    | some (s', rows) => if s' = s then some (s, (rows.drop l).take (h - l)) else none
    | none => none
  | _ => none
def AV.ids : AV → List Nat
  | .hdr id => [id]
  | .vw id _ _ _ => [id]
  | _ => []
theorem head_of_own {w : World} {e : TypeId} {s : Nat} {x : Value} {vals : List (List Value)} (h : OwnAt w e s x vals) : ∃ A c, x = .slice A vals.length c ∧ vals.length ≤ c := by
  rcases h with ⟨rfl, A, rfl⟩ | ⟨⟨g, cap, rfl, hp⟩, h0, h1⟩
  · exact ⟨A, 0, rfl, Nat.le_refl _⟩
  · refine ⟨_, cap, rfl, ?_⟩
    rcases h1 with ⟨h1, -⟩ | ⟨g2, cap2, cur, h1, -, hh, h4, -⟩
    · cases h1
    · injection h1 with e1 e2 e3; subst e3; exact h4
/-- a row's header, with something in it. -/
theorem ObjAt.head {ρ : Env} {w : World} (hro : ∀ g o, ρ.R g = some o → w.heap[g]? = some o) {x : Value} {o : AO} {s : Nat} {rows : List (List PV)} (h : ObjAt ρ w x o) (hr : o.rows = some (s, rows)) : ∃ A c, x = .slice A rows.length c ∧ rows.length ≤ c ∧ ∀ k r, rows[k]? = some r → ∃ b off vs, A = some ⟨b, off, none⟩ ∧ Elem ρ.R w b (off + k * s) s r vs := by
  have hc := fun k r hk => h.cell hro hr (k := k) (r := r) hk
  have h1 : ∃ A c, x = .slice A rows.length c ∧ rows.length ≤ c := by
    cases o with
    | fro s' r' =>
      simp only [AO.rows, Option.some.injEq, Prod.mk.injEq] at hr
      obtain ⟨rfl, rfl⟩ := hr
      have h : PRep ρ.R (.sl s' r') x := h
      simp only [PRep] at h
      obtain ⟨A, c, rfl, h2, -⟩ := h
      exact ⟨A, c, rfl, h2⟩
    | row e s' r' =>
      simp only [AO.rows, Option.some.injEq, Prod.mk.injEq] at hr
      obtain ⟨rfl, rfl⟩ := hr
      obtain ⟨vals, h1, -, -, h4⟩ := h
      obtain ⟨A, c, h5, h6⟩ := head_of_own h4
      rw [h1.length] at h5 h6
      exact ⟨A, c, h5, h6⟩
    | _ => simp [AO.rows] at hr
  obtain ⟨A, c, rfl, h2⟩ := h1
  refine ⟨A, c, rfl, h2, fun k r hk => ?_⟩
  obtain ⟨b, off, vs, hb, he⟩ := hc k r hk
  rcases hb with hb | ⟨_, _, hb⟩
  · cases hb
  · injection hb with hb; exact ⟨b, off, vs, hb, he⟩
theorem Mod.slice {c : Ctx} {p : Nat → Prop} {ρ : Env} {S : AS} {tm : Array Value} {w : World} (hm : Mod c p ρ S tm w) {a : AV} {s : Nat} {rows : List (List PV)} {u : Value} (hr : S.rowsOf a = some (s, rows)) (hu : Rep ρ a u) :
    ∃ A cp, u = .slice A rows.length cp ∧ rows.length ≤ cp ∧ ∀ k r, rows[k]? = some r → ∃ b off vs, A = some ⟨b, off, none⟩ ∧ Elem ρ.R w b (off + k * s) s r vs := by
  cases a with
  | hdr id =>
    simp only [AS.rowsOf] at hr
    obtain ⟨ob, hob, hor⟩ := Option.bind_eq_some_iff.1 hr
    obtain ⟨y, hy, hoy⟩ := hm.objs id _ hob
    simp only [Rep] at hu
    rw [hy] at hu
    obtain rfl := Option.some.inj hu
    exact hoy.head hm.ro hor
  | sl s' rows' =>
    simp only [AS.rowsOf, Option.some.injEq, Prod.mk.injEq] at hr
    obtain ⟨rfl, rfl⟩ := hr
    simp only [Rep, PRep] at hu
    obtain ⟨A, cp, rfl, h1, h2⟩ := hu
    exact ⟨A, cp, rfl, h1, fun k r hk => h2.elem hm.ro hk⟩
  | vw id s' l hh =>
    simp only [AS.rowsOf] at hr
    split at hr
    · next s2 rows2 hb =>
      split at hr
      · next hs =>
        subst hs
        simp only [Option.some.injEq, Prod.mk.injEq] at hr
        obtain ⟨rfl, rfl⟩ := hr
        obtain ⟨ob, hob, hor⟩ := Option.bind_eq_some_iff.1 hb
        obtain ⟨y, hy, hoy⟩ := hm.objs id _ hob
        obtain ⟨A, cp, rfl, h1, h2⟩ := hoy.head hm.ro hor
        simp only [Rep] at hu
        obtain ⟨A', n', c', e1, e2, e3, e4, rfl⟩ := hu
        rw [hy] at e1
        injection e1 with e1
        injection e1 with e1 e5 e6
        subst e1; subst e5; subst e6
        have hlen : ((rows2.drop l).take (hh - l)).length = hh - l := by simp; omega
        refine ⟨_, cp - l, by rw [hlen], by rw [hlen]; omega, fun k r hk => ?_⟩
        have hkl : k < hh - l := by rw [← hlen]; exact (List.getElem?_eq_some_iff.1 hk).1
        have hk2 : rows2[l + k]? = some r := by
          rw [List.getElem?_take_of_lt hkl, List.getElem?_drop] at hk
          exact hk
        obtain ⟨b, off, vs, rfl, he⟩ := h2 _ r hk2
        refine ⟨b, off + l * s2, vs, by rw [if_neg (by omega)]; simp [add_none], ?_⟩
        rw [Nat.add_assoc, ← Nat.add_mul]
        exact he
      · cases hr
    · cases hr
  | _ => simp [AS.rowsOf] at hr
theorem does_len {P : Program} {o : Oper} {S : AS} {n : Nat} {x : Operand} {t e : TypeId} {a : AV} {s : Nat} {rows : List (List PV)} (ho : o.op = .call { callee := .builtin .len, args := #[x], argTypes := #[t] }) (ht : P.underlying t = some (.slice e))
    (hx : S.val x = a) (hor : S.rowsOf a = some (s, rows)) : DoesAt P o S n ⟨.raw (.int .i64 rows.length), [], a.ids⟩ :=
  does_pure rfl fun c p ρ ac w hm => ⟨.int .i64 rows.length, by
    obtain ⟨A, c', hu, -, -⟩ := hm.slice hor (by rw [← hx]; exact hm.val x)
    have hte : P.underlying t = some (.slice (P.elem t)) := by simp [Program.elem, ht]
    unfold execOp
    rw [ho]
    simp only [resolve, Sem.run_bind, Sem.run_pure, Result.andThen_ok, invoke, builtin]
    have := run_len_slice (P := P) w t o.type A rows.length c' hte
    simp [hu, this, goInt], by simp [Rep]⟩
theorem does_len_raw {P : Program} {o : Oper} {S : AS} {n : Nat} {x : Operand} {t e : TypeId} {A : Option Addr} {m q : Nat} (ho : o.op = .call { callee := .builtin .len, args := #[x], argTypes := #[t] }) (ht : P.underlying t = some (.slice e))
    (hx : S.val x = .raw (.slice A m q)) : DoesAt P o S n ⟨.raw (.int .i64 m), [], []⟩ :=
  does_pure rfl fun c p ρ a w hm => ⟨.int .i64 m, by
    have hte : P.underlying t = some (.slice (P.elem t)) := by simp [Program.elem, ht]
    unfold execOp
    rw [ho]
    simp only [resolve, Sem.run_bind, Sem.run_pure, Result.andThen_ok, invoke, builtin]
    have := run_len_slice (P := P) w t o.type A m q hte
    simp [hm.raw hx, this, goInt], by simp [Rep]⟩

theorem tyI_slice {P : Program} {t : TypeId} {i : TI} (h : tyI P t = some i) (hk : i.kind = 1) : P.underlying t = some (.slice i.elem) := by
  unfold tyI at h
  split at h
  · next x d h1 h2 =>
    split at h
    · next z hz =>
      obtain rfl := Option.some.inj h
      cases d <;> simp at hk
      exact h2
    · simp at h
  · simp at h
theorem tyI_field {P : Program} {t : TypeId} {i : TI} (h : tyI P t = some i) (hk : i.kind = 3) {f off s : Nat} (hp : i.places[f]? = some (off, s)) (hs : 0 < s) :
    ∃ fs fl, P.underlying t = some (.struct fs) ∧ fs[f]? = some fl ∧ fl.offset = off ∧ ∃ x, P.info? fl.type = some x ∧ x.size = s := by
  unfold tyI at h
  split at h
  · next x d h1 h2 =>
    split at h
    · next z hz =>
      obtain rfl := Option.some.inj h
      cases d <;> simp at hk
      next fs =>
        simp only [List.getElem?_map, Array.getElem?_toList] at hp
        cases hf : fs[f]? with
        | none => rw [hf] at hp; simp at hp
        | some fl =>
          rw [hf] at hp
          simp only [Option.map_some, Option.some.injEq, Prod.mk.injEq] at hp
          refine ⟨fs, fl, h2, hf, hp.1, ?_⟩
          cases hi : P.info? fl.type with
          | none => rw [hi] at hp; simp at hp; omega
          | some y => rw [hi] at hp; simp at hp; exact ⟨y, rfl, hp.2⟩
    · simp at h
  · simp at h

theorem does_fieldAddr {P : Program} {o : Oper} {S : AS} {n : Nat} {t : TypeId} {x : Operand} {f off s' : Nat} {i : TI} {id s k j : Nat} {t' : TypeId} {l : List AV} (ho : o.op = .fieldAddr t x f) (hi : tyI P t = some i) (hk : i.kind = 3) (hp : i.places[f]? = some (off, s')) (hs : 0 < s')
    (hx : (S.val x).loc = some (id, s, k, j)) (hob : S.obj id = some (.cells t' l)) : DoesAt P o S n ⟨.ptr id s k (j + off), [], [id]⟩ :=
  does_pure rfl fun c p ρ a w hm => by
    obtain ⟨g, cs, hg, hpt, -, -, -⟩ := hm.at_cells hx hob
    obtain ⟨fs, fl, h1, h2, rfl, y, h3, h4⟩ := tyI_field hi hk hp hs
    refine ⟨.pointer (some ⟨g, k * s + j + fl.offset, none⟩), ?_, ?_⟩
    · unfold execOp
      rw [ho]
      refine run_v ?_
      have h5 : ¬ y.size = 0 := by omega
      simp only [Instr.fieldAt, Sem.run_bind, run_underlying h1 w, Result.andThen_ok, h2, hpt, Instr.sureAddr, Sem.run_pure, fieldPlace, sizeOf, typeInfo, run_program, h3, if_neg h5, add_none]
    · simp only [Rep]
      exact ⟨_, g, 0, hg, .inl rfl, by rw [Nat.zero_add, Nat.add_assoc]⟩
theorem does_fieldAddr_row {P : Program} {o : Oper} {S : AS} {n : Nat} {t : TypeId} {x : Operand} {f off s' : Nat} {i : TI} {id s k j : Nat} (ho : o.op = .fieldAddr t x f) (hi : tyI P t = some i) (hk : i.kind = 3) (hp : i.places[f]? = some (off, s')) (hs : 0 < s')
    (hx : S.val x = .ptr id s k j) : DoesAt P o S n ⟨.ptr id s k (j + off), [], []⟩ :=
  does_pure rfl fun c p ρ a w hm => by
    have hv := hm.val x
    rw [hx] at hv
    simp only [Rep] at hv
    obtain ⟨y', b, o', e1, e2, e3⟩ := hv
    obtain ⟨fs, fl, h1, h2, rfl, y, h3, h4⟩ := tyI_field hi hk hp hs
    refine ⟨.pointer (some ⟨b, o' + (k * s + j) + fl.offset, none⟩), ?_, ?_⟩
    · unfold execOp
      rw [ho]
      refine run_v ?_
      have h5 : ¬ y.size = 0 := by omega
      simp only [Instr.fieldAt, Sem.run_bind, run_underlying h1 w, Result.andThen_ok, h2, e3, Instr.sureAddr, Sem.run_pure, fieldPlace, sizeOf, typeInfo, run_program, h3, if_neg h5, add_none]
    · simp only [Rep]
      exact ⟨_, b, o', e1, e2, by simp only [Nat.add_assoc]⟩
theorem does_fieldAddr_spt {P : Program} {o : Oper} {S : AS} {n : Nat} {t : TypeId} {x : Operand} {f off s' : Nat} {i : TI} {s k j : Nat} {rows : List (List PV)} (ho : o.op = .fieldAddr t x f) (hi : tyI P t = some i) (hk : i.kind = 3) (hp : i.places[f]? = some (off, s')) (hs : 0 < s')
    (hx : S.val x = .spt s rows k j) : DoesAt P o S n ⟨.spt s rows k (j + off), [], []⟩ :=
  does_pure rfl fun c p ρ a w hm => by
    have hv := hm.val x
    rw [hx] at hv
    simp only [Rep] at hv
    obtain ⟨b, o', e3, e2⟩ := hv
    obtain ⟨fs, fl, h1, h2, rfl, y, h3, h4⟩ := tyI_field hi hk hp hs
    refine ⟨.pointer (some ⟨b, o' + (k * s + j) + fl.offset, none⟩), ?_, ?_⟩
    · unfold execOp
      rw [ho]
      refine run_v ?_
      have h5 : ¬ y.size = 0 := by omega
      simp only [Instr.fieldAt, Sem.run_bind, run_underlying h1 w, Result.andThen_ok, h2, e3, Instr.sureAddr, Sem.run_pure, fieldPlace, sizeOf, typeInfo, run_program, h3, if_neg h5, add_none]
    · simp only [Rep]
      exact ⟨b, o', by simp only [Nat.add_assoc], e2⟩
/-- the type of a field. -/
def fieldT (P : Program) (t : TypeId) (f : Nat) : Option TypeId := match P.underlying t with | some (.struct fs) => (fs[f]?).map (·.type) | _ => none
theorem does_shr {P : Program} {o : Oper} {S : AS} {n : Nat} {x y : Operand} {t u : TypeId} {a b : Int} {kb : IntKind} (ho : o.op = .binOp .shr t x y u) (hx : S.val x = .raw (.int .u64 a)) (hy : S.val y = .raw (.int kb b)) (hb : 0 ≤ b) : DoesAt P o S n ⟨.raw (.int .u64 (a.fdiv (2 ^ min b.toNat 64))), [], []⟩ :=
  does_pure rfl fun c p ρ aa w hm => ⟨_, by
    unfold execOp; rw [ho]
    refine run_v (v := .int .u64 (a.fdiv (2 ^ min b.toNat 64))) ?_
    have h1 : ¬ b < 0 := by omega
    simp [hm.raw hx, hm.raw hy, eqGuard, binOp, Op.shift, if_neg h1, IntKind.bits], by simp [Rep]⟩
theorem does_convert {P : Program} {o : Oper} {S : AS} {n : Nat} {x : Operand} {t u : TypeId} {i : TI} {k k' : IntKind} {a : Int} (ho : o.op = .convert t u x) (hi : tyI P t = some i) (hu : P.underlying u = some (.int k)) (hx : S.val x = .raw (.int k' a)) : DoesAt P o S n ⟨.raw (.int k (k.wrap a)), [], []⟩ :=
  does_pure rfl fun c p ρ aa w hm => ⟨_, by
    obtain ⟨xx, d, z, i1, i2, -⟩ := tyI_spec hi
    unfold execOp; rw [ho]
    refine run_v (v := .int k (k.wrap a)) ?_
    simp only [convert, Sem.run_bind, run_underlying i2 w, run_underlying hu w, Result.andThen_ok, hm.raw hx]
    cases d <;> simp [Conv.intToInt], by simp [Rep]⟩
theorem does_field {P : Program} {o : Oper} {S : AS} {n : Nat} {x : Operand} {t : TypeId} {f off s' : Nat} {i fi : TI} {l : List AV} {tf : TypeId} (ho : o.op = .field t x f) (hi : tyI P t = some i) (hk : i.kind = 3) (hp : i.places[f]? = some (off, s')) (hs : 0 < s')
    (hft : fieldT P t f = some tf) (hfi : tyI P tf = some fi) (h1 : fi.agg = true ∨ fi.size = 1) (hl : off + fi.size ≤ l.length) (hx : S.val x = .agg l) : DoesAt P o S n ⟨ofCells fi.agg ((l.drop off).take fi.size), [], []⟩ :=
  does_pure rfl fun c p ρ a w hm => by
    have h := hm.val x
    rw [hx] at h
    simp only [Rep] at h
    obtain ⟨cs, e, hr⟩ := h
    obtain ⟨fs, fl, e1, e2, rfl, y, e3, e4⟩ := tyI_field hi hk hp hs
    obtain rfl : tf = fl.type := by simpa [fieldT, e1, e2] using hft.symm
    obtain ⟨xi, d, z, i1, i2, i3, i4, i5, i6, i7⟩ := tyI_spec hfi
    have hlen := hr.length
    refine ⟨if fi.agg then .agg ((cs.drop fl.offset).take fi.size).toArray else ((cs.drop fl.offset).take fi.size).getD 0 undef, ?_, rep_ofCells ((hr.drop fl.offset).take fi.size) fi.agg⟩
    unfold execOp
    rw [ho]
    refine run_v ?_
    simp only [Instr.field, Sem.run_bind, run_underlying e1 w, Result.andThen_ok, e2, e, asAgg, Sem.run_pure, part, isAgg, run_underlying i2 w]
    have hil : isAggD d = fi.agg := i6
    cases hag : fi.agg with
    | true =>
      rw [hag] at hil
      cases d <;> simp only [isAggD, reduceCtorEq] at hil <;> simp [sizeOf, typeInfo, i1, i4, List.extract_eq_take_drop]
    | false =>
      have hz : fi.size = 1 := by rcases h1 with h1 | h1 <;> simp_all
      have hc : (cs.toArray)[fl.offset]? = some (((cs.drop fl.offset).take fi.size).getD 0 undef) := by
        rw [hz] at hl ⊢
        have h3 : fl.offset < cs.length := by omega
        simp [List.getElem?_eq_getElem h3]
      rw [hag] at hil
      cases d <;> simp only [isAggD, reduceCtorEq] at hil <;> simp [hc]
/-- a pointer to an element. -/
def elAddr : AV → Nat → Nat → Option AV
  | .hdr id, s, k => some (.ptr id s k 0)
  | .sl s rows, _, k => some (.spt s rows k 0)
  | .vw id s l _, _, k => some (.ptr id s (l + k) 0)
  | _, _, _ => none
theorem does_indexAddr {P : Program} {o : Oper} {S : AS} {n : Nat} {t : TypeId} {x y : Operand} {i ie : TI} {a v : AV} {s : Nat} {rows : List (List PV)} {kd : IntKind} {q : Int} (ho : o.op = .indexAddr t x y) (hi : tyI P t = some i) (hk : i.kind = 1) (hie : tyI P i.elem = some ie) (hes : ie.size = s)
    (hx : S.val x = a) (hor : S.rowsOf a = some (s, rows)) (hy : S.val y = .raw (.int kd q)) (h0 : 0 ≤ q) (h1 : q < rows.length) (he : elAddr a s q.toNat = some v) : DoesAt P o S n ⟨v, [], a.ids⟩ :=
  does_pure rfl fun c p ρ ac w hm => by
    have hu : Rep ρ a (ac.eval x) := by rw [← hx]; exact hm.val x
    obtain ⟨A, cp, hv, -, hA⟩ := hm.slice hor hu
    have hql : q.toNat < rows.length := by omega
    obtain ⟨b, off, vs, rfl, -⟩ := hA q.toNat rows[q.toNat] (by simp [hql])
    obtain ⟨xi, d, z, i1, i2, i3, i4, i5, i6, i7⟩ := tyI_spec hie
    have hte := tyI_slice hi hk
    refine ⟨.pointer (some ⟨b, off + q.toNat * s, none⟩), ?_, ?_⟩
    · unfold execOp
      rw [ho]
      refine run_v ?_
      have hq : 0 ≤ q ∧ q < ((rows.length : Nat) : Int) := ⟨h0, h1⟩
      simp only [hv, hm.raw hy, Instr.indexAt, asIntOf, Sem.run_bind, Sem.run_pure, Result.andThen_ok, run_underlying hte, sizeOf, typeInfo, run_program, i1, i4, hes, if_pos hq, add_none]
    · cases a with
      | hdr id =>
        simp only [elAddr, Option.some.injEq] at he
        subst he
        simp only [Rep] at hu ⊢
        exact ⟨_, b, off, hu, .inr ⟨_, _, hv⟩, rfl⟩
      | sl s' rows' =>
        simp only [elAddr, Option.some.injEq] at he
        subst he
        simp only [AS.rowsOf, Option.some.injEq, Prod.mk.injEq] at hor
        obtain ⟨rfl, rfl⟩ := hor
        simp only [Rep, PRep] at hu ⊢
        obtain ⟨A, c2, e1, -, e2⟩ := hu
        rw [hv] at e1
        injection e1 with e1
        subst e1
        exact ⟨b, off, rfl, e2⟩
      | vw id s' l hh =>
        simp only [elAddr, Option.some.injEq] at he
        subst he
        simp only [AS.rowsOf] at hor
        split at hor
        · next s2 rows2 hb =>
          split at hor
          · next hs =>
            subst hs
            simp only [Option.some.injEq, Prod.mk.injEq] at hor
            obtain ⟨rfl, rfl⟩ := hor
            obtain ⟨ob, hob, hor2⟩ := Option.bind_eq_some_iff.1 hb
            obtain ⟨yy, hyy, hoy⟩ := hm.objs id _ hob
            obtain ⟨A2, cp2, rfl, h3, h4⟩ := hoy.head hm.ro hor2
            simp only [Rep] at hu ⊢
            obtain ⟨A', n', c', e1, e2, e3, e4, e5⟩ := hu
            rw [hyy] at e1
            injection e1 with e1
            injection e1 with e1 e6 e7
            subst e1; subst e6; subst e7
            have hlen : ((rows2.drop l).take (hh - l)).length = hh - l := by simp; omega
            obtain ⟨b', o', vs', rfl, -⟩ := h4 l rows2[l] (by simp)
            rw [hv] at e5
            injection e5 with e5
            rw [if_neg (by omega)] at e5
            simp only [Option.map_some, Option.some.injEq, add_none] at e5
            injection e5 with e8 e9
            subst e8; subst e9
            exact ⟨_, b, o', hyy, .inr ⟨_, _, rfl⟩, by rw [Nat.add_zero, Nat.add_mul, Nat.add_assoc]⟩
          · cases hor
        · cases hor
      | _ => simp [elAddr] at he
theorem does_eqb {P : Program} {o : Oper} {S : AS} {n : Nat} {x y : Operand} {t u : TypeId} {k l : Bool} (ho : o.op = .binOp .eql t x y u) (ht : P.underlying t = some .bool) (hx : S.val x = .raw (.bool k)) (hy : S.val y = .raw (.bool l)) : DoesAt P o S n ⟨.raw (.bool (k == l)), [], []⟩ :=
  does_pure rfl fun c p ρ a w hm => ⟨.bool (k == l), by
    unfold execOp; rw [ho]
    refine run_v ?_
    simp [hm.raw hx, hm.raw hy, eqGuard, binOp, Op.equal, Op.maxDepth, run_equalIn_bool' w 9999 t k l ht], by simp [Rep]⟩
theorem does_neb {P : Program} {o : Oper} {S : AS} {n : Nat} {x y : Operand} {t u : TypeId} {k l : Bool} (ho : o.op = .binOp .neq t x y u) (ht : P.underlying t = some .bool) (hx : S.val x = .raw (.bool k)) (hy : S.val y = .raw (.bool l)) : DoesAt P o S n ⟨.raw (.bool (k != l)), [], []⟩ :=
  does_pure rfl fun c p ρ a w hm => ⟨.bool (k != l), by
    unfold execOp; rw [ho]
    refine run_v ?_
    simp [hm.raw hx, hm.raw hy, eqGuard, binOp, Op.equal, Op.maxDepth, run_equalIn_bool' w 9999 t k l ht, bne], by simp [Rep]⟩
theorem does_nilCheck {P : Program} {o : Oper} {S : AS} {n : Nat} {x : Operand} {id s k j : Nat} {t : TypeId} {l : List AV} (ho : o.op = .nilCheck x) (hx : (S.val x).loc = some (id, s, k, j)) (hob : S.obj id = some (.cells t l)) : DoesAt P o S n ⟨S.val x, [], [id]⟩ :=
  does_pure rfl fun c p ρ a w hm => by
    obtain ⟨g, cs, hg, hpt, -, -, -⟩ := hm.at_cells hx hob
    have hv := hm.val x
    refine ⟨a.eval x, ?_, hv⟩
    unfold execOp
    rw [ho]
    simp [hpt]
theorem does_nilCheck_ptr {P : Program} {o : Oper} {S : AS} {n : Nat} {x : Operand} {id s k j : Nat} (ho : o.op = .nilCheck x) (hx : S.val x = .ptr id s k j) : DoesAt P o S n ⟨S.val x, [], []⟩ :=
  does_pure rfl fun c p ρ a w hm => by
    have hv := hm.val x
    refine ⟨a.eval x, ?_, hv⟩
    rw [hx] at hv
    simp only [Rep] at hv
    obtain ⟨y, b, q, -, -, e⟩ := hv
    unfold execOp
    rw [ho]
    simp [e]
theorem does_nilCheck_spt {P : Program} {o : Oper} {S : AS} {n : Nat} {x : Operand} {s k j : Nat} {rows : List (List PV)} (ho : o.op = .nilCheck x) (hx : S.val x = .spt s rows k j) : DoesAt P o S n ⟨S.val x, [], []⟩ :=
  does_pure rfl fun c p ρ a w hm => by
    have hv := hm.val x
    refine ⟨a.eval x, ?_, hv⟩
    rw [hx] at hv
    simp only [Rep] at hv
    obtain ⟨b, q, e, -⟩ := hv
    unfold execOp
    rw [ho]
    simp [e]
theorem does_nilCheck_fn {P : Program} {o : Oper} {S : AS} {n : Nat} {x : Operand} {f : FuncId} {l : List AV} (ho : o.op = .nilCheck x) (hx : S.val x = .clo (.func f) l) : DoesAt P o S n ⟨S.val x, [], []⟩ :=
  does_pure rfl fun c p ρ a w hm => by
    have hv := hm.val x
    refine ⟨a.eval x, ?_, hv⟩
    rw [hx] at hv
    simp only [Rep] at hv
    obtain ⟨cs, e, -⟩ := hv
    unfold execOp
    rw [ho]
    simp [e]
end Go.Proofs.YtblmebjhhanoaaaGreat
/- ENGINE (second) 5: what is put together; rows; over any program. -/
set_option linter.unusedSimpArgs false
set_option linter.unusedVariables false
namespace Go.Proofs.YtblmebjhhanoaaaGreat
open Go.RowKit

theorem splice_len {α : Type} {l m : List α} {k : Nat} (h : k + m.length ≤ l.length) : (splice l k m).length = l.length := by
  unfold splice; simp; omega
theorem splice_cons {α : Type} (l : List α) (k : Nat) (u : α) (m : List α) (h : k + 1 + m.length ≤ l.length) : splice (l.set k u) (k + 1) m = splice l k (u :: m) := by
  unfold splice
  have e1 : (l.set k u).take (k + 1) = l.take k ++ [u] := by
    rw [List.take_succ_eq_append_getElem (by simp; omega), List.take_set_of_le (Nat.le_refl _)]
    simp
  have e2 : (l.set k u).drop (k + 1 + m.length) = l.drop (k + (u :: m).length) := by
    rw [List.drop_set_of_lt (by omega)]
    simp [Nat.add_assoc, Nat.add_comm 1]
  rw [e1, e2]
  simp
theorem splice_nil {α : Type} (l : List α) (k : Nat) : splice l k [] = l := by simp [splice]
theorem fold_set (off : Nat) : ∀ (us : List Value) (k : Nat) (arr : Array Value), off + k + us.length ≤ arr.size →
    (us.zipIdx k).foldl (fun cs (p : Value × Nat) => cs.setIfInBounds (off + p.2) p.1) arr = (splice arr.toList (off + k) us).toArray
  | [], k, arr, _ => by simp [splice_nil]
  | u :: us, k, arr, h => by
    simp only [List.length_cons] at h
    rw [List.zipIdx_cons, List.foldl_cons, fold_set off us (k + 1) _ (by simp; omega)]
    have : (arr.setIfInBounds (off + k) u).toList = arr.toList.set (off + k) u := by simp
    rw [this, ← Nat.add_assoc, splice_cons _ _ _ _ (by simp; omega)]

/-- parts laid into cells. -/
def fillA (places : Nat → Option (Nat × Nat)) : List AV → List (Nat × AV) → Option (List AV)
  | l, [] => some l
  | l, (i, v) :: rest => match places i, cellsOf v with
    | some (off, s), some m => if m.length = s ∧ off + s ≤ l.length then fillA places (splice l off m) rest else none
    | _, _ => none
theorem fill_sound {c : Ctx} {p : Nat → Prop} {ρ : Env} {S : AS} {a : Act} {w : World} (hm : Mod c p ρ S a.tmps w) (places : Nat → Option (Nat × Nat)) : ∀ (parts : List (Nat × Operand)) (l l' : List AV) (cs : List Value), RepL ρ l cs → (∀ u ∈ cs, u.oneCell' = true) →
    fillA places l (parts.map fun q => (q.1, S.val q.2)) = some l' → ∃ cs' : List Value, Instr.fill places cs.toArray (parts.map fun q => (q.1, a.eval q.2)) = some cs'.toArray ∧ RepL ρ l' cs' ∧ ∀ u ∈ cs', u.oneCell' = true
  | [], l, l', cs, hr, h1, hf => by
    simp only [List.map_nil, fillA, Option.some.injEq] at hf
    subst hf
    exact ⟨cs, rfl, hr, h1⟩
  | (i, x) :: parts, l, l', cs, hr, h1, hf => by
    simp only [List.map_cons, fillA] at hf
    cases hp : places i with
    | none => rw [hp] at hf; simp at hf
    | some q =>
      obtain ⟨off, s⟩ := q
      cases hc : cellsOf (S.val x) with
      | none => rw [hp, hc] at hf; simp at hf
      | some m =>
        rw [hp, hc] at hf
        dsimp only at hf
        split at hf
        · next hl =>
          obtain ⟨us, e1, hru, hu1⟩ := cells_of hm hc (hm.val x)
          have hlu := hru.length
          have hlc := hr.length
          obtain ⟨cs', h2, h3, h4⟩ := fill_sound hm places parts _ l' (splice cs off us) (hr.splice hru off) (fun u hu => by
            unfold splice at hu
            rcases List.mem_append.1 hu with h | h
            · rcases List.mem_append.1 h with h | h
              · exact h1 u (List.mem_of_mem_take h)
              · exact hu1 u h
            · exact h1 u (List.mem_of_mem_drop h)) hf
          refine ⟨cs', ?_, h3, h4⟩
          simp only [List.map_cons, Instr.fill, hp, e1]
          have h5 : us.toArray.size = s := by simp; omega
          have h6 : ¬ (off + us.toArray.size > cs.toArray.size) := by simp; omega
          have h7 := fold_set off us 0 cs.toArray (by simp; omega)
          simp only [Nat.add_zero] at h7
          have h8 : us.toArray.zipIdx.foldl (fun cs (x : Value × Nat) => cs.setIfInBounds (off + x.2) x.1) cs.toArray = (splice cs off us).toArray := by
            rw [← h7]
            simp
          rw [← h2]
          simp only [h5, ne_eq, not_true, decide_false, Bool.false_or, decide_eq_true_eq]
          rw [if_neg (by rw [h5] at h6; exact h6)]
          exact congrArg (fun q => Instr.fill places q _) h8
        · simp at hf

/-- where a type's parts lie. -/
def TI.place (i : TI) (q : Nat) : Option (Nat × Nat) := if i.kind = 2 then match i.places with
  | (_, s) :: _ => if 0 < s then some (q * s, s) else none
  | [] => none
  else i.places[q]?
theorem tyI_built {P : Program} {t : TypeId} {i : TI} (h : tyI P t = some i) (hk : i.kind = 2 ∨ i.kind = 3) (hpos : ∀ q ∈ i.places, 0 < q.2) (parts : List (Nat × Value)) (cells : Array Value) (hf : Instr.fill i.place i.zero.toArray parts = some cells) :
    P.built t parts = some cells := by
  unfold tyI at h
  split at h
  · next x d h1 h2 =>
    split at h
    · next z hz =>
      obtain rfl := Option.some.inj h
      have hzz : z.cells.toList.toArray = z.cells := by simp
      unfold Program.built
      cases d <;> simp at hk
      next n e =>
        simp only [h1, h2, hz]
        have h3 := hpos (0, ((P.info? e).map (·.size)).getD 0) (by simp)
        cases hi : P.info? e with
        | none => rw [hi] at h3; simp at h3
        | some y =>
          rw [hi] at h3
          simp only [Option.map_some, Option.getD_some] at h3
          simp only
          rw [← hf, hzz]
          congr 1
          funext q
          simp [TI.place, hi, h3]
      next fs =>
        simp only [h1, h2, hz]
        have key : ∀ (l : List Field), (∀ f ∈ l, 0 < ((P.info? f.type).map (·.size)).getD 0) → (l.mapM (fun f => (P.info? f.type).map fun i => (f.offset, i.size))) = some (l.map fun f => (f.offset, ((P.info? f.type).map (·.size)).getD 0)) := by
          intro l
          induction l with
          | nil => intro _; simp
          | cons f l ih =>
            intro hl
            have h3 := hl f (by simp)
            cases hi : P.info? f.type with
            | none => rw [hi] at h3; simp at h3
            | some y =>
              have := ih (fun g hg => hl g (by simp [hg]))
              simp [List.mapM_cons, hi, this]
        rw [key fs.toList (fun f hf => hpos (f.offset, _) (by simp only [List.mem_map]; exact ⟨f, hf, rfl⟩))]
        simp only
        rw [← hf, hzz]
        congr 1
        funext q
        simp [TI.place]
    · simp at h
  · simp at h
theorem does_build {P : Program} {o : Oper} {S : AS} {n : Nat} {t : TypeId} {i : TI} {parts : List (Nat × Operand)} {l : List AV} (ho : o.op = .build t parts.toArray) (hi : tyI P t = some i) (hk : i.kind = 2 ∨ i.kind = 3) (hpos : ∀ q ∈ i.places, 0 < q.2) (h1 : ∀ u ∈ i.zero, u.oneCell' = true)
    (hf : fillA i.place (i.zero.map .raw) (parts.map fun q => (q.1, S.val q.2)) = some l) : DoesAt P o S n ⟨.agg l, [], []⟩ :=
  does_pure rfl fun c p ρ a w hm => by
    obtain ⟨cs', h2, h3, h4⟩ := fill_sound hm i.place parts _ l i.zero (RepL.raws _) h1 hf
    refine ⟨.agg cs'.toArray, ?_, by simp only [Rep]; exact ⟨cs', rfl, h3⟩⟩
    unfold execOp
    rw [ho]
    refine run_v ?_
    have := tyI_built hi hk hpos _ _ h2
    have h5 := run_build (P := P) w t (parts.toArray.map fun (q : Nat × Operand) => (q.1, a.eval q.2)) cs'.toArray (by simpa using this)
    exact h5
/-- values told. -/
def rawsOf : List AV → Option (List Value)
  | [] => some []
  | .raw v :: l => match rawsOf l with
    | some vs => some (v :: vs)
    | none => none
  | _ => none
theorem raws_of {ρ : Env} : ∀ {l : List AV} {vs cs : List Value}, rawsOf l = some vs → RepL ρ l cs → cs = vs
  | [], vs, cs, h, hr => by
    simp only [rawsOf, Option.some.injEq] at h
    cases cs with
    | nil => exact h
    | cons => simp [RepL] at hr
  | a :: l, vs, cs, h, hr => by
    cases a with
    | raw v =>
      simp only [rawsOf] at h
      cases hl : rawsOf l with
      | none => rw [hl] at h; simp at h
      | some us =>
        rw [hl] at h
        simp only [Option.some.injEq] at h
        cases cs with
        | nil => simp [RepL] at hr
        | cons c cs =>
          simp only [RepL, Rep] at hr
          rw [hr.1, raws_of hl hr.2, h]
    | _ => simp [rawsOf] at h
/-! what a state knows of a value: headers of slices that never turn are such slices -/
mutual
def AS.see (S : AS) : AV → AV
  | .dead => .dead
  | .raw v => .raw v
  | .sl s rows => .sl s rows
  | .hdr id => match S.obj id with
    | some (.fro s rows) => .sl s rows
    | _ => .hdr id
  | .ptr id s k j => .ptr id s k j
  | .vw id s l h => .vw id s l h
  | .spt s rows k j => .spt s rows k j
  | .agg l => .agg (AS.seeL S l)
  | .tup l => .tup (AS.seeL S l)
  | .clo f l => .clo f (AS.seeL S l)
  | .bnd f l => .bnd f (AS.seeL S l)
def AS.seeL (S : AS) : List AV → List AV
  | [] => []
  | a :: l => AS.see S a :: AS.seeL S l
end
mutual
theorem Mod.see {c : Ctx} {p : Nat → Prop} {ρ : Env} {S : AS} {tm : Array Value} {w : World} (hm : Mod c p ρ S tm w) : ∀ (a : AV) (v : Value), Rep ρ a v → Rep ρ (S.see a) v
  | .dead, _, e => by simpa [AS.see] using e
  | .raw _, _, e => by simpa [AS.see] using e
  | .sl _ _, _, e => by simpa [AS.see] using e
  | .hdr id, v, e => by
    simp only [AS.see]
    split
    · next s rows ho =>
      obtain ⟨x, h1, h2⟩ := hm.objs id _ ho
      simp only [Rep] at e ⊢
      rw [h1] at e
      obtain rfl := Option.some.inj e
      exact h2
    · exact e
  | .ptr .., _, e => by simpa [AS.see] using e
  | .vw .., _, e => by simpa [AS.see] using e
  | .spt .., _, e => by simpa [AS.see] using e
  | .agg l, v, e => by
    simp only [AS.see, Rep] at e ⊢
    obtain ⟨cs, h1, h2⟩ := e
    exact ⟨cs, h1, Mod.seeL hm l cs h2⟩
  | .tup l, v, e => by
    simp only [AS.see, Rep] at e ⊢
    obtain ⟨cs, h1, h2⟩ := e
    exact ⟨cs, h1, Mod.seeL hm l cs h2⟩
  | .clo f l, v, e => by
    simp only [AS.see, Rep] at e ⊢
    obtain ⟨cs, h1, h2⟩ := e
    exact ⟨cs, h1, Mod.seeL hm l cs h2⟩
  | .bnd f l, v, e => by
    simp only [AS.see, Rep] at e ⊢
    obtain ⟨cs, h1, h2⟩ := e
    exact ⟨cs, h1, Mod.seeL hm l cs h2⟩
theorem Mod.seeL {c : Ctx} {p : Nat → Prop} {ρ : Env} {S : AS} {tm : Array Value} {w : World} (hm : Mod c p ρ S tm w) : ∀ (l : List AV) (vs : List Value), RepL ρ l vs → RepL ρ (S.seeL l) vs
  | [], [], _ => by simp [AS.seeL, RepL]
  | [], _ :: _, e => by simp [RepL] at e
  | _ :: _, [], e => by simp [RepL] at e
  | a :: l, v :: vs, e => by
    simp only [AS.seeL, RepL] at e ⊢
    exact ⟨Mod.see hm a v e.1, Mod.seeL hm l vs e.2⟩
end
def pvsOf : List AV → Option (List PV)
  | [] => some []
  | .raw v :: l => (pvsOf l).map (PV.raw v :: ·)
  | .sl s rows :: l => (pvsOf l).map (PV.sl s rows :: ·)
  | _ => none
theorem pvs_of {ρ : Env} : ∀ {l : List AV} {ps : List PV} {cs : List Value}, pvsOf l = some ps → RepL ρ l cs → PRepL ρ.R ps cs ∧ ps.length = l.length
  | [], ps, cs, h, hr => by
    simp only [pvsOf, Option.some.injEq] at h
    subst h
    cases cs with
    | nil => exact ⟨trivial, rfl⟩
    | cons => simp [RepL] at hr
  | a :: l, ps, cs, h, hr => by
    cases cs with
    | nil => simp [RepL] at hr
    | cons c cs =>
      simp only [RepL] at hr
      cases a with
      | raw v =>
        simp only [pvsOf, Option.map_eq_some_iff] at h
        obtain ⟨qs, h1, rfl⟩ := h
        obtain ⟨k1, k2⟩ := pvs_of h1 hr.2
        exact ⟨⟨by simpa [Rep, PRep] using hr.1, k1⟩, by simp [k2]⟩
      | sl s rows =>
        simp only [pvsOf, Option.map_eq_some_iff] at h
        obtain ⟨qs, h1, rfl⟩ := h
        obtain ⟨k1, k2⟩ := pvs_of h1 hr.2
        exact ⟨⟨by simpa only [Rep] using hr.1, k1⟩, by simp [k2]⟩
      | _ => simp [pvsOf] at h
mutual
/-- the headers that occur. -/
def AV.deep : AV → List Nat
  | .hdr id => [id]
  | .agg l => deepL l
  | .tup l => deepL l
  | .clo _ l => deepL l
  | .bnd _ l => deepL l
  | .dead => []
  | .raw _ => []
  | .sl _ _ => []
  | .ptr _ _ _ _ => []
  | .vw _ _ _ _ => []
  | .spt _ _ _ _ => []
def deepL : List AV → List Nat
  | [] => []
  | a :: l => a.deep ++ deepL l
end
mutual
theorem see_congr {S S' : AS} : ∀ (a : AV), (∀ i ∈ a.deep, S'.obj i = S.obj i) → S'.see a = S.see a
  | .hdr id, h => by simp only [AS.see]; rw [h id (by simp [AV.deep])]
  | .agg l, h => by simp only [AS.see]; rw [seeL_congr l (by simpa [AV.deep] using h)]
  | .tup l, h => by simp only [AS.see]; rw [seeL_congr l (by simpa [AV.deep] using h)]
  | .clo f l, h => by simp only [AS.see]; rw [seeL_congr l (by simpa [AV.deep] using h)]
  | .bnd f l, h => by simp only [AS.see]; rw [seeL_congr l (by simpa [AV.deep] using h)]
  | .dead, _ => rfl
  | .raw _, _ => rfl
  | .sl _ _, _ => rfl
  | .ptr _ _ _ _, _ => rfl
  | .vw _ _ _ _, _ => rfl
  | .spt _ _ _ _, _ => rfl
theorem seeL_congr {S S' : AS} : ∀ (l : List AV), (∀ i ∈ deepL l, S'.obj i = S.obj i) → S'.seeL l = S.seeL l
  | [], _ => rfl
  | a :: l, h => by
    simp only [AS.seeL]
    simp only [deepL, List.mem_append] at h
    rw [see_congr a (fun i hi => h i (.inl hi)), seeL_congr l (fun i hi => h i (.inr hi))]
end
/-- a value as an element. -/
def AS.elem (S : AS) (a : AV) : Option (List PV) := (cellsOf (S.see a)).bind pvsOf
theorem elem_of {c : Ctx} {p : Nat → Prop} {ρ : Env} {S : AS} {a : Act} {w : World} (hm : Mod c p ρ S a.tmps w) {x : AV} {r : List PV} {u : Value} (h : S.elem x = some r) (hu : Rep ρ x u) : ∃ cs : List Value, u.cells = cs.toArray ∧ PRepL ρ.R r cs ∧ cs.length = r.length ∧ ∀ v ∈ cs, v.oneCell' = true := by
  obtain ⟨l, h1, h2⟩ := Option.bind_eq_some_iff.1 h
  obtain ⟨cs, e, hr, h3⟩ := cells_of hm h1 (hm.see _ _ hu)
  obtain ⟨k1, k2⟩ := pvs_of h2 hr
  exact ⟨cs, e, k1, k1.length, h3⟩
theorem elem_congr {S S' : AS} {a : AV} (h : ∀ i ∈ a.deep, S'.obj i = S.obj i) : S'.elem a = S.elem a := by unfold AS.elem; rw [see_congr a h]
def deepP : List (Nat × AV) → List Nat
  | [] => []
  | (_, a) :: l => a.deep ++ deepP l
/-- a row's rows out of a literal's parts. -/
def elemsOf (S : AS) (s : Nat) : Nat → List (Nat × AV) → Option (List (List PV))
  | _, [] => some []
  | k, (i, x) :: parts => match S.elem x, elemsOf S s (k + 1) parts with
    | some r, some rows => if i = k ∧ r.length = s then some (r :: rows) else none
    | _, _ => none
theorem elems_congr {S S' : AS} {s : Nat} : ∀ (l : List (Nat × AV)) (k : Nat), (∀ i ∈ deepP l, S'.obj i = S.obj i) → elemsOf S' s k l = elemsOf S s k l
  | [], _, _ => rfl
  | (i, x) :: l, k, h => by
    simp only [deepP, List.mem_append] at h
    simp only [elemsOf]
    rw [elem_congr (fun i hi => h i (.inl hi)), elems_congr l (k + 1) (fun i hi => h i (.inr hi))]
theorem elems_sound {c : Ctx} {p : Nat → Prop} {ρ : Env} {S : AS} {a : Act} {w : World} (hm : Mod c p ρ S a.tmps w) {s : Nat} : ∀ (parts : List (Nat × Operand)) (k : Nat) (rows : List (List PV)) (done rest : List Value), elemsOf S s k (parts.map fun q => (q.1, S.val q.2)) = some rows → done.length = k * s → rest.length = parts.length * s →
    ∃ vals, Instr.fill (fun i => some (i * s, s)) (done ++ rest).toArray (parts.map fun q => (q.1, a.eval q.2)) = some (done ++ vals.flatten).toArray ∧ PRepLL ρ.R rows vals ∧ rows.length = parts.length ∧ (∀ r ∈ vals, r.length = s) ∧ ∀ r ∈ vals, ∀ u ∈ r, u.oneCell' = true
  | [], k, rows, done, rest, h, hd, hr => by
    simp only [List.map_nil, elemsOf, Option.some.injEq] at h
    subst h
    have : rest = [] := List.eq_nil_of_length_eq_zero (by simpa using hr)
    subst this
    exact ⟨[], rfl, trivial, rfl, by simp, by simp⟩
  | (i, x) :: parts, k, rows, done, rest, h, hd, hr => by
    simp only [List.map_cons, elemsOf] at h
    cases h1 : S.elem (S.val x) with
    | none => rw [h1] at h; simp at h
    | some r =>
      cases h2 : elemsOf S s (k + 1) (parts.map fun q => (q.1, S.val q.2)) with
      | none => rw [h1, h2] at h; simp at h
      | some rows' =>
        rw [h1, h2] at h
        dsimp only at h
        split at h
        · next hc =>
          obtain ⟨rfl, hrl⟩ := hc
          obtain rfl := Option.some.inj h
          obtain ⟨vr, e1, e0, e3, e2⟩ := elem_of hm h1 (hm.val x)
          rw [hrl] at e3
          simp only [List.length_cons, Nat.succ_mul] at hr
          obtain ⟨vals, h3, h8, h4, h5, h6⟩ := elems_sound hm parts (i + 1) rows' (done ++ vr) (rest.drop s) h2 (by simp [hd, e3, Nat.succ_mul]) (by simp; omega)
          refine ⟨vr :: vals, ?_, ⟨e0, h8⟩, by simp [h4], fun q hq => ?_, fun q hq => ?_⟩
          · simp only [List.map_cons, Instr.fill, e1]
            have h7 := fold_set (i * s) vr 0 (done ++ rest).toArray (by simp [hd, e3]; omega)
            simp only [Nat.add_zero] at h7
            have h8 : vr.toArray.zipIdx.foldl (fun cs (x : Value × Nat) => cs.setIfInBounds (i * s + x.2) x.1) (done ++ rest).toArray = ((done ++ vr) ++ rest.drop s).toArray := by
              have : splice (done ++ rest) (i * s) vr = (done ++ vr) ++ rest.drop s := by
                unfold splice
                rw [← hd, List.take_left, e3, List.drop_append, List.drop_eq_nil_of_le (by omega)]
                simp
              rw [← this, ← h7]
              simp
            have h9 : vr.toArray.size = s := by simp [e3]
            have h10 : ¬ (i * s + vr.toArray.size > (done ++ rest).toArray.size) := by simp [hd, e3]; omega
            simp only [h9, ne_eq, not_true, decide_false, Bool.false_or, decide_eq_true_eq]
            rw [if_neg (by rw [h9] at h10; exact h10)]
            refine (congrArg (fun q => Instr.fill _ q _) h8).trans (h3.trans ?_)
            simp
          · rcases List.mem_cons.1 hq with rfl | hq
            · exact e3
            · exact h5 q hq
          · rcases List.mem_cons.1 hq with rfl | hq
            · exact e2
            · exact h6 q hq
        · simp at h
theorem ownAt_new {w : World} {e : TypeId} {s : Nat} {vals : List (List Value)} (hs : ∀ r ∈ vals, r.length = s) (hm : vals.length ≤ maxLen) : OwnAt (w.alloc (.cells vals.flatten.toArray e)) e s (.slice (some ⟨w.heap.size, 0, none⟩) vals.length vals.length) vals :=
  ownAt_of ⟨flatten_len hs, .inr ⟨w.heap.size, vals.length, vals.flatten.toArray, rfl, Nat.zero_le _, heap_alloc_new w _, Nat.le_refl _, hm, by simp only [List.size_toArray]; exact flatten_len hs, by show vals.flatten.take (vals.length * s) = vals.flatten; rw [← flatten_len hs, List.take_length]⟩⟩
theorem oblk_row_lt {w : World} {x : Value} {g : Nat} {e s : Nat} {rows : List (List PV)} (h : oblk x (.row e s rows) = some g) : blkOf x = some g := by
  cases x <;> simp [oblk] at h
  next A n c => cases A <;> cases c <;> simp [oblk] at h <;> simpa [blkOf] using h
theorem does_buildSlice {P : Program} {o : Oper} {S : AS} {n : Nat} {t : TypeId} {m : Nat} {i ie : TI} {parts : List (Nat × Operand)} {rows : List (List PV)} (ho : o.op = .buildSlice t m parts.toArray) (hi : tyI P t = some i) (hk : i.kind = 1) (hie : tyI P i.elem = some ie) (h0 : 0 < ie.size) (hm0 : m = parts.length) (hb : m * ie.size ≤ 16777216)
    {rd0 : List Nat} (hf : elemsOf S ie.size 0 (parts.map fun q => (q.1, S.val q.2)) = some rows) : DoesAt P o S n ⟨.hdr (8 * n), [(8 * n, some (.row i.elem ie.size rows))], rd0⟩ := by
  intro rd m0 c p ρ a w hm hn K Q hK
  obtain ⟨xi, d, z, i1, i2, i3, i4, i5, i6, i7⟩ := tyI_spec hie
  have hte := tyI_slice hi hk
  have hsz : m * ie.size = parts.length * ie.size := by rw [hm0]
  obtain ⟨vals, h3, h8, h4, h5, h6⟩ := elems_sound hm parts 0 rows [] (((Array.range (m * ie.size)).map (fun q => (z.cells[q % z.cells.size]!))).toList) hf (by simp) (by rw [Array.length_toList, Array.size_map, Array.size_range, hsz])
  rw [List.nil_append, List.nil_append, Array.toArray_toList] at h3
  have hvl : vals.length = m := by rw [h8.length, h4, hm0]
  obtain ⟨ρ', he, hx, hm'⟩ := hm.made hn (x := .slice (some ⟨w.heap.size, 0, none⟩) m m) (o := .row i.elem ie.size rows) (ob := .cells vals.flatten.toArray i.elem) rfl
    (fun ρ' he => ⟨vals, h8.sub he.R, h5, h6, by
      rw [← hvl]
      refine ownAt_new h5 ?_
      unfold maxLen
      have := Nat.le_mul_of_pos_right m h0
      omega⟩) (fun g hg => by have := oblk_row_lt (w := w) hg; simp [blkOf] at this; omega)
  have hr : (execOp a.eval o).run P w = .ok (.value (.slice (some ⟨w.heap.size, 0, none⟩) m m)) (w.alloc (.cells vals.flatten.toArray i.elem)) := by
    unfold execOp
    rw [ho]
    refine run_v ?_
    rcases Nat.eq_zero_or_pos m with hz | hp
    · have hp0 : parts = [] := List.eq_nil_of_length_eq_zero (by omega)
      have hr0 : vals = [] := List.eq_nil_of_length_eq_zero (by omega)
      subst hz; subst hp0; subst hr0
      simp [Instr.buildSlice, run_underlying hte, sizeOf, typeInfo, i1, Instr.fill, newRow]
      have hz0 : Array.map (fun _ : Nat => (default : Value)) (Array.range 0) = #[] := Array.eq_empty_of_size_eq_zero (by simp)
      rw [hz0]
    · have hpos : ¬ m * xi.size = 0 := by rw [i4]; have := Nat.mul_pos hp h0; omega
      have hsmall : ¬ m * xi.size > 2 ^ 24 := by rw [i4]; omega
      refine run_buildSlice w t i.elem m _ _ xi z hte i1 i3 hsmall hpos ?_
      rw [i4]
      simpa only [List.map_toArray] using h3
  refine wpIn_value hr ?_
  exact hK _ ρ' _ hm' (by simp only [Rep]; exact hx)

/-- a header that owns nothing yet. -/
theorem Mod.nilrow {c : Ctx} {p : Nat → Prop} {ρ : Env} {S : AS} {tm : Array Value} {w : World} (h : Mod c p ρ S tm w) {n : Nat} (hn : ∀ i, p i → i / 8 ≠ n) (e : TypeId) (s : Nat) (A : Option Addr) :
    ∃ ρ', ExtE ρ ρ' ∧ ρ'.f (8 * n) = some (.slice A 0 0) ∧ Mod c (fun i => p i ∨ i / 8 = n) ρ' (S.upd [(8 * n, some (.row e s []))]) tm w := by
  have hfr := h.fresh hn (k := 8 * n) (by omega)
  have hn0 := h.n0 hn
  have he := ext_with (x := .slice A 0 0) hfr
  refine ⟨_, he, with_self .., h.step0 [(8 * n, some (.row e s []))] he.f rfl (fun i hi => with_low hi (by omega)) (fun i h => .inl h) (with_dom h (by omega) rfl) rfl rfl rfl (Nat.le_refl _) (fun _ _ _ => rfl) ?_ ?_⟩
  · intro i o' hf
    simp only [find] at hf
    split at hf
    · next e =>
      subst e
      injection hf with hf
      injection hf with hf
      subst hf
      exact ⟨.slice A 0 0, with_self .., ⟨[], trivial, by simp, by simp, .inl ⟨rfl, A, rfl⟩⟩, fun g hg => by cases A <;> simp [oblk] at hg⟩
    · cases hf
  · intro i j oi oj x' y' hne h1 h2
    simp only [find] at h1 h2
    split at h1
    · next e1 =>
      split at h2
      · next e2 => omega
      · cases h2
    · cases h1
theorem does_nil {P : Program} {o : Oper} {S : AS} {n : Nat} {x : Operand} {i ie : TI} (ho : o.op = .move x ∨ o.op = .assign x) (_ : tyI P o.type = some i) (_ : tyI P i.elem = some ie) (hx : S.val x = .raw (.slice none 0 0)) : DoesAt P o S n ⟨.hdr (8 * n), [(8 * n, some (.row i.elem ie.size []))], []⟩ := by
  intro rd m0 c p ρ a w hm hn K Q hK
  obtain ⟨ρ', he, hx', hm'⟩ := hm.nilrow hn i.elem ie.size none
  have hr : (execOp a.eval o).run P w = .ok (.value (.slice none 0 0)) w := by rcases ho with ho | ho <;> simp [execOp, ho, hm.raw hx]
  refine wpIn_value hr ?_
  exact hK _ ρ' _ hm' (by simp only [Rep]; exact hx')

theorem run_append_some0 {P : Program} (w : World) (t ty e : TypeId) (i : TypeInfo) (ht : P.underlying t = some (.slice e)) (hi : P.info? e = some i) (ad : Addr) (A : Option Addr) (m c : Nat) (h0 : 0 < m) (hb : m * i.bytes ≤ 140737488355328) (h63 : m ≤ maxLen) :
    (Builtin.append_ #[t, t] ty #[.slice (some ad) 0 0, .slice A m c]).run P w = (Builtin.append_ #[t, t] ty #[.slice none 0 0, .slice A m c]).run P w := by
  have h1 : ¬ (0 + m ≤ 0) := by omega
  have h2 : ¬ (m * i.bytes > 2 ^ 48) := by omega
  simp [Builtin.append_, run_underlying ht, sizeOf, typeInfo, hi, Builtin.lenOf, Builtin.firstCells, h1, loadCells, loadCellsFrom, Builtin.nextslicecap, h0, h2, h1]
  have h3 : ¬ m = 0 := by omega
  have h4 : ¬ (281474976710656 < m * i.bytes) := by omega
  simp [h3, h4]
theorem OwnAt.block {w : World} {e : TypeId} {s : Nat} {x : Value} {vals : List (List Value)} {rows : List (List PV)} (h : OwnAt w e s x vals) : oblk x (.row e s rows) = none ∨ oblk x (.row e s rows) = x.ownBlock := by
  rcases h with ⟨-, A, rfl⟩ | ⟨⟨g, cap, rfl, hp⟩, -⟩
  · cases A <;> exact .inl rfl
  · obtain ⟨q, rfl⟩ : ∃ q, cap = q + 1 := ⟨cap - 1, by omega⟩
    exact .inr rfl
/-- append onto an own row. -/
theorem run_append_own {P : Program} {w : World} {t ty e : TypeId} {i : TypeInfo} {z : Value} {s bytes : Nat} (ht : P.underlying t = some (.slice e)) (hi : P.info? e = some i) (hz : i.zero = some z) (hsize : i.size = s) (hby : i.bytes = bytes) (hzs : z.cells.size = s) (hsz : 0 < s)
    {v : Value} {vals : List (List Value)} (hs : ∀ r ∈ vals, r.length = s) (hown : OwnAt w e s v vals) {A : Option Addr} {m c : Nat} {news : List (List Value)} (hr : Reads w w.heap.size s A m news.flatten) (hnl : news.length = m) (hn : ∀ r ∈ news, r.length = s) (h1 : ∀ r ∈ news, ∀ u ∈ r, u.oneCell' = true)
    (h63 : vals.length + m ≤ maxLen) (hbytes : (vals.length + m) * bytes ≤ 140737488355328) (rows rows' : List (List PV)) :
    ∃ v' w', (Builtin.append_ #[t, t] ty #[v, .slice A m c]).run P w = .ok v' w' ∧ OwnAt w' e s v' (vals ++ news) ∧ v'.oneCell' = true ∧ w.grownBy w' (oblk v (.row e s rows)) ∧ ∀ g, oblk v' (.row e s rows') = some g → oblk v (.row e s rows) = some g ∨ w.heap.size ≤ g := by
  have h1' : ∀ u ∈ news.flatten, u.oneCell' = true := fun u hu => by obtain ⟨r, hr, hu'⟩ := List.mem_flatten.1 hu; exact h1 r hr u hu'
  have main : ∀ v0, w.ownsRow 0 e s v0 vals.length vals.flatten → (oblk v0 (.row e s rows) = none → v0 = .slice none 0 0 ∨ m = 0) → ∃ v' w', (Builtin.append_ #[t, t] ty #[v0, .slice A m c]).run P w = .ok v' w' ∧ OwnAt w' e s v' (vals ++ news) ∧ v'.oneCell' = true ∧ w.grownBy w' (oblk v0 (.row e s rows)) ∧ ∀ g, oblk v' (.row e s rows') = some g → oblk v0 (.row e s rows) = some g ∨ w.heap.size ≤ g := by
    intro v0 hv0 hcap
    obtain ⟨v', w', hrun, hown', hgrow, hblk⟩ := run_append_any (P := P) w 0 t ty e i z s bytes ht hi hz hsize hby hzs hsz v0 vals.length vals.flatten hv0 w.heap.size A m c news.flatten hr h1' h63 hbytes (Nat.zero_le _)
    have ho' : w'.ownsRow 0 e s v' (vals ++ news).length (vals ++ news).flatten := by rw [List.length_append, List.flatten_append, hnl]; exact hown'
    have hone : v'.oneCell' = true := by rcases hown'.2 with ⟨rfl, -⟩ | ⟨g, cap, cur, rfl, -⟩ <;> rfl
    have hb' : ∀ g, oblk v' (.row e s rows') = some g → v'.ownBlock = some g := fun g hg => by
      rcases (ownAt_of ho').block (rows := rows') with h | h
      · rw [h] at hg; cases hg
      · rw [← h]; exact hg
    rcases (ownAt_of hv0).block (rows := rows) with hb | hb
    · rw [hb]
      rcases hcap hb with rfl | rfl
      · refine ⟨v', w', hrun, ownAt_of ho', hone, hgrow, fun g hg => ?_⟩
        rcases hblk with h | h
        · rw [hb' g hg] at h; cases h
        · rw [hb' g hg] at h; injection h with h; exact .inr (by omega)
      · have hn0 : news = [] := List.eq_nil_of_length_eq_zero hnl
        subst hn0
        have hrun0 : (Builtin.append_ #[t, t] ty #[v0, .slice A 0 c]).run P w = .ok v0 w := by
          rcases hv0.2 with ⟨rfl, h2⟩ | ⟨g, cap, cur, rfl, _, _, hnc, _⟩
          · cases A with
            | none => simp [Builtin.append_, run_underlying ht, sizeOf, typeInfo, hi, Builtin.lenOf, Builtin.firstCells]
            | some ad => simp [Builtin.append_, run_underlying ht, sizeOf, typeInfo, hi, Builtin.lenOf, Builtin.firstCells, loadCells, loadCellsFrom, storeCells]
          · cases A with
            | none => simp [Builtin.append_, run_underlying ht, sizeOf, typeInfo, hi, Builtin.lenOf, Builtin.firstCells, hnc, storeCells]
            | some ad => simp [Builtin.append_, run_underlying ht, sizeOf, typeInfo, hi, Builtin.lenOf, Builtin.firstCells, hnc, storeCells, loadCells, loadCellsFrom]
        refine ⟨v0, w, hrun0, by simpa using ownAt_of hv0, (by rcases hv0.2 with ⟨rfl, -⟩ | ⟨g, cap, cur, rfl, -⟩ <;> rfl), World.grownBy.refl w _, fun g hg => ?_⟩
        rw [show oblk v0 (.row e s rows') = oblk v0 (.row e s rows) from rfl, hb] at hg
        cases hg
    · rw [hb]
      refine ⟨v', w', hrun, ownAt_of ho', hone, hgrow, fun g hg => ?_⟩
      rcases hblk with h | h
      · exact .inl (by rw [← h]; exact hb' g hg)
      · rw [hb' g hg] at h; injection h with h; exact .inr (by omega)
  rcases hown with ⟨rfl, B, rfl⟩ | ⟨⟨g, cap, rfl, hp⟩, hown⟩
  · cases B with
    | none => exact main _ ⟨by simp, .inl ⟨rfl, rfl⟩⟩ fun _ => .inl rfl
    | some ad =>
      rcases Nat.eq_zero_or_pos m with hm0 | hm0
      · subst hm0
        have hn0 : news = [] := List.eq_nil_of_length_eq_zero hnl
        subst hn0
        refine ⟨.slice (some ad) 0 0, w, ?_, .inl ⟨rfl, _, rfl⟩, rfl, World.grownBy.refl w _, fun g hg => by cases hg⟩
        cases A with
        | none => simp [Builtin.append_, run_underlying ht, sizeOf, typeInfo, hi, Builtin.lenOf, Builtin.firstCells, storeCells]
        | some a2 => simp [Builtin.append_, run_underlying ht, sizeOf, typeInfo, hi, Builtin.lenOf, Builtin.firstCells, storeCells, loadCells, loadCellsFrom]
      · obtain ⟨v', w', h2, h3⟩ := main (.slice none 0 0) ⟨by simp, .inl ⟨rfl, rfl⟩⟩ fun _ => .inl rfl
        refine ⟨v', w', ?_, h3⟩
        rw [run_append_some0 w t ty e i ht hi ad A m c hm0 (by rw [hby]; simpa using hbytes) (by simpa using h63)]
        exact h2
  · exact main _ hown fun hb => by
      obtain ⟨q, rfl⟩ : ∃ q, cap = q + 1 := ⟨cap - 1, by omega⟩
      cases hb
theorem Reads.of_slice {R : Frz} {w : World} {A : Option Addr} {s : Nat} {rows : List (List PV)} (h0 : 0 < s) (h : ∀ k r, rows[k]? = some r → ∃ b off vs, A = some ⟨b, off, none⟩ ∧ Elem R w b (off + k * s) s r vs) :
    ∃ vals, PRepLL R rows vals ∧ (∀ r ∈ vals, r.length = s) ∧ (∀ r ∈ vals, ∀ u ∈ r, u.oneCell' = true) ∧ vals.length = rows.length ∧ Reads w w.heap.size s A rows.length vals.flatten := by
  have key : ∀ (rows : List (List PV)) (k0 : Nat), (∀ k r, rows[k]? = some r → ∃ b off vs, A = some ⟨b, off, none⟩ ∧ Elem R w b (off + (k0 + k) * s) s r vs) →
      ∃ vals, PRepLL R rows vals ∧ (∀ r ∈ vals, r.length = s) ∧ (∀ r ∈ vals, ∀ u ∈ r, u.oneCell' = true) ∧ vals.length = rows.length ∧ ∀ k vs, vals[k]? = some vs → ∃ b off, A = some ⟨b, off, none⟩ ∧ ∀ i, i < s → w.cell? ⟨b, off + (k0 + k) * s + i, none⟩ = vs[i]? := by
    intro rows
    induction rows with
    | nil => intro k0 _; exact ⟨[], trivial, by simp, by simp, rfl, by simp⟩
    | cons r rows ih =>
      intro k0 h
      obtain ⟨b, off, vs, e1, e2⟩ := h 0 r rfl
      obtain ⟨vals, k1, k2, k3, k4, k5⟩ := ih (k0 + 1) fun k r' hk => by
        have := h (k + 1) r' (by simpa using hk)
        rwa [show k0 + (k + 1) = k0 + 1 + k by omega] at this
      refine ⟨vs :: vals, ⟨e2.rep, k1⟩, fun q hq => ?_, fun q hq => ?_, by simp [k4], fun k q hk => ?_⟩
      · rcases List.mem_cons.1 hq with rfl | hq
        · exact e2.len
        · exact k2 q hq
      · rcases List.mem_cons.1 hq with rfl | hq
        · exact e2.one
        · exact k3 q hq
      · cases k with
        | zero => obtain rfl : vs = q := by simpa using hk
                  exact ⟨b, off, e1, e2.cell⟩
        | succ k =>
          have := k5 k q (by simpa using hk)
          rwa [show k0 + 1 + k = k0 + (k + 1) by omega] at this
  obtain ⟨vals, k1, k2, k3, k4, k5⟩ := key rows 0 (by simpa using h)
  refine ⟨vals, k1, k2, k3, k4, ?_⟩
  rw [← k4]
  have hfl := flatten_len k2
  refine CellsAt.reads (w := w) (A := A) (cs := vals.flatten) (size := s) (n := vals.length) ?_ hfl h0
  intro j hj
  have hk' : j / s < vals.length := by rw [hfl] at hj; exact Nat.div_lt_of_lt_mul (by rw [Nat.mul_comm]; exact hj)
  obtain ⟨b, off, e, hcell⟩ := k5 (j / s) vals[j / s] (by simp [hk'])
  have hi' : j % s < s := Nat.mod_lt _ h0
  have hj2 : j / s * s + j % s = j := by rw [Nat.mul_comm]; exact Nat.div_add_mod j s
  have h4 := hcell (j % s) hi'
  rw [Nat.zero_add, Nat.add_assoc, hj2] at h4
  have h5 := flatten_get k2 (j / s) (j % s) hi'
  rw [hj2, List.getElem?_eq_getElem hk', List.getElem?_eq_getElem hj] at h5
  have h6 : w.cell? ⟨b, off + j, none⟩ = some vals.flatten[j] := by rw [h4]; exact h5.symm
  refine ⟨b, off, e, ?_, h6⟩
  unfold World.cell? at h6
  split at h6
  · next c e f hq => exact (Array.getElem?_eq_some_iff.1 hq).1
  · cases h6

theorem does_append {P : Program} {o : Oper} {S : AS} {n : Nat} {x y : Operand} {t e : TypeId} {s : Nat} {i ie : TI} {id1 : Nat} {a2 : AV} {rows rows2 : List (List PV)} (ho : o.op = .call { callee := .builtin .append, args := #[x, y], argTypes := #[t, t] }) (hi : tyI P t = some i) (hk : i.kind = 1) (he : i.elem = e) (hie : tyI P e = some ie) (hs : ie.size = s) (h0 : 0 < s)
    (hz : ie.zero.length = s) (hx : S.val x = .hdr id1) (ho1 : S.obj id1 = some (.row e s rows)) (hy : S.val y = a2) (hor : S.rowsOf a2 = some (s, rows2)) (hb : (rows.length + rows2.length) * ie.bytes ≤ 140737488355328) (hb2 : rows.length + rows2.length ≤ 9223372036854775807) :
    DoesAt P o S n ⟨.hdr (8 * n), [(id1, none), (8 * n, some (.row e s (rows ++ rows2)))], id1 :: a2.ids⟩ := by
  intro rd m0 c p ρ a w hm hn K Q hK
  obtain ⟨xi, d, z, i1, i2, i3, i4, i5, i6, i7⟩ := tyI_spec hie
  have hte := tyI_slice hi hk
  rw [he] at hte
  obtain ⟨v1, hv1, vals, hp1, hr1, hone1, hown⟩ := hm.objs id1 _ ho1
  have e1 : a.eval x = v1 := by
    have := hm.val x
    rw [hx] at this
    simp only [Rep] at this
    rw [hv1] at this
    exact (Option.some.inj this).symm
  obtain ⟨A, cp, e2, -, hel⟩ := hm.slice hor (u := a.eval y) (by rw [← hy]; exact hm.val y)
  obtain ⟨news, k1, k2, k3, k4, k5⟩ := Reads.of_slice h0 hel
  have hl1 := hp1.length
  obtain ⟨v', w', hrun, hown', hone', hgrow, hblk⟩ := run_append_own (P := P) (ty := o.type) (c := cp) hte i1 i3 (by rw [i4, hs]) i5 (by rw [← hz, ← i7]; simp) h0 hr1 hown k5 k4 k2 k3 (by unfold maxLen; omega) (by rw [hl1]; exact hb) rows (rows ++ rows2)
  have hfr := hm.fresh hn (k := 8 * n) (by omega)
  have hn0 := hm.n0 hn
  have hid1 : id1 ≠ 8 * n := fun e => by rw [e, hfr] at hv1; cases hv1
  have hext := ext_with (x := v') hfr
  have hT : ∀ g, oblk v1 (.row e s rows) = some g → Touch ρ S [(id1, none), (8 * n, some (.row e s (rows ++ rows2)))] g := fun g hg =>
    ⟨id1, _, v1, none, by simp [find], ho1, hv1, hg⟩
  have hm' := hm.step0 [(id1, none), (8 * n, some (.row e s (rows ++ rows2)))] hext.f rfl (fun i hi => with_low hi (by omega)) (p' := fun i => p i ∨ i / 8 = n) (fun i h => .inl h) (w' := w') (with_dom hm (by omega) hone') hgrow.os hgrow.tape hgrow.output hgrow.size (fun g hg hT' => hgrow.block g hg (fun e => hT' (hT g e.symm)))
      (fun i oi hf => by
        simp only [find] at hf
        split at hf
        · next e1 => cases hf
        · split at hf
          · next e2 =>
            subst e2
            injection hf with hf
            injection hf with hf
            subst hf
            refine ⟨v', with_self .., ⟨vals ++ news, (hp1.append k1), fun r hr => ?_, fun r hr => ?_, hown'⟩, fun g hg => ?_⟩
            · rcases List.mem_append.1 hr with h | h
              · exact hr1 r h
              · exact k2 r h
            · rcases List.mem_append.1 hr with h | h
              · exact hone1 r h
              · exact k3 r h
            · rcases hblk g hg with h | h
              · exact .inr (hT g h)
              · exact .inl h
          · cases hf)
      (fun i j oi oj x' y' hne' h1 h2 => by
        simp only [find] at h1 h2
        split at h1
        · cases h1
        · split at h1
          · split at h2
            · cases h2
            · split at h2
              · omega
              · cases h2
          · cases h1)
  have hr : (execOp a.eval o).run P w = .ok (.value v') w' := by
    unfold execOp
    rw [ho]
    simp only [resolve, Sem.run_bind, Sem.run_pure, Result.andThen_ok, invoke, builtin, List.map_toArray, List.map_cons, List.map_nil, e1, e2, hrun]
  refine wpIn_value hr ?_
  exact hK _ _ _ hm' (by simp only [Rep]; exact with_self ..)

/-! structs of numbers are compared -/
def kindOfT (P : Program) (t : TypeId) : Option Bool :=
  match P.underlying t with
  | some (.int _) => some true
  | some .bool => some false
  | _ => none
def flatG (P : Program) : List Field → Nat → Option (List Bool)
  | [], _ => some []
  | f :: fs, k => if f.name != "_" && f.offset == k then match kindOfT P f.type, flatG P fs (k + 1) with
    | some b, some l => some (b :: l)
    | _, _ => none
    else none
def flatK (P : Program) (t : TypeId) : Option (List Bool) :=
  match P.underlying t with
  | some (.struct fs) => if !P.stoodInHeld t && !P.eqGuardType P.depth t then flatG P fs.toList 0 else none
  | _ => none
def eqV : List Bool → List Value → List Value → Option Bool
  | [], [], [] => some true
  | true :: ks, .int k a :: l, .int k' b :: m => if k = k' then (match eqV ks l m with | some r => some (decide (a = b) && r) | none => none) else none
  | false :: ks, .bool a :: l, .bool b :: m => match eqV ks l m with | some r => some ((a == b) && r) | none => none
  | _, _, _ => none
theorem run_part1 {P : Program} {w : World} {t : TypeId} {cs : Array Value} {k : Nat} {v : Value} {b : Bool} (ht : kindOfT P t = some b) (hv : cs[k]? = some v) : (part t cs k).run P w = .ok v w := by
  have hagg : (isAgg t).run P w = .ok false w := by
    unfold kindOfT at ht
    cases h : P.underlying t with
    | none => rw [h] at ht; simp at ht
    | some d =>
      unfold isAgg
      rw [Sem.run_bind, run_underlying h w]
      rw [h] at ht
      cases d <;> first | rfl | simp at ht
  simp [part, hagg, hv]
theorem run_eqFields {P : Program} {w : World} {X Y : Array Value} : ∀ (fs : List Field) (k : Nat) (ks : List Bool) (xs ys : List Value) (r : Bool), flatG P fs k = some ks → (∀ i v, xs[i]? = some v → X[k + i]? = some v) → (∀ i v, ys[i]? = some v → Y[k + i]? = some v) →
    eqV ks xs ys = some r → (Op.eqFields 9999 X Y fs).run P w = .ok r w
  | [], k, ks, xs, ys, r, hf, _, _, h => by
    simp only [flatG, Option.some.injEq] at hf
    subst hf
    cases xs <;> cases ys <;> simp [eqV] at h
    subst h
    simp [Op.eqFields]
  | f :: fs, k, ks, xs, ys, r, hf, hx, hy, h => by
    simp only [flatG] at hf
    split at hf
    · next hn =>
      simp only [Bool.and_eq_true, bne_iff_ne, ne_eq, beq_iff_eq] at hn
      obtain ⟨h1, h2⟩ := hn
      cases hk : kindOfT P f.type with
      | none => rw [hk] at hf; simp at hf
      | some b =>
        cases hl : flatG P fs (k + 1) with
        | none => rw [hk, hl] at hf; simp at hf
        | some ks' =>
          rw [hk, hl] at hf
          simp only [Option.some.injEq] at hf
          subst hf
          cases xs with
          | nil => cases b <;> simp [eqV] at h
          | cons x xs =>
            cases ys with
            | nil => cases b <;> cases x <;> simp [eqV] at h
            | cons y ys =>
              have p1 : (part f.type X f.offset).run P w = .ok x w := run_part1 hk (by rw [h2]; simpa using hx 0 x rfl)
              have p2 : (part f.type Y f.offset).run P w = .ok y w := run_part1 hk (by rw [h2]; simpa using hy 0 y rfl)
              have ih := fun q hq => run_eqFields (P := P) (w := w) (X := X) (Y := Y) fs (k + 1) ks' xs ys q hl (fun i v hv => by rw [show k + 1 + i = k + (i + 1) by omega]; exact hx (i + 1) v (by simpa using hv)) (fun i v hv => by rw [show k + 1 + i = k + (i + 1) by omega]; exact hy (i + 1) v (by simpa using hv)) hq
              have key : ∀ (c : Bool), (Op.equalIn 9999 f.type x y).run P w = .ok c w → ∀ q, eqV ks' xs ys = some q → r = (c && q) → (Op.eqFields 9999 X Y (f :: fs)).run P w = .ok r w := by
                intro c hc q hq hr
                unfold Op.eqFields
                rw [if_pos h1]
                simp only [Sem.run_bind, p1, p2, Result.andThen_ok, hc]
                cases c with
                | false => simp [hr]
                | true => simp [hr, ih q hq]
              unfold kindOfT at hk
              cases b with
              | true =>
                cases x <;> cases y <;> simp only [eqV, reduceCtorEq] at h
                next k1 a k2 c =>
                  split at h
                  · next hkk =>
                    subst hkk
                    cases hq : eqV ks' xs ys with
                    | none => rw [hq] at h; simp at h
                    | some q =>
                      rw [hq] at h
                      simp only [Option.some.injEq] at h
                      cases hd : P.underlying f.type with
                      | none => rw [hd] at hk; simp at hk
                      | some d =>
                        rw [hd] at hk
                        cases d <;> simp at hk
                        next kk => exact key (a == c) (run_equalIn_int w 9998 f.type k1 kk a c hd) q hq h.symm
                  · simp at h
              | false =>
                cases x <;> cases y <;> simp only [eqV, reduceCtorEq] at h
                next a c =>
                  cases hq : eqV ks' xs ys with
                  | none => rw [hq] at h; simp at h
                  | some q =>
                    rw [hq] at h
                    simp only [Option.some.injEq] at h
                    cases hd : P.underlying f.type with
                    | none => rw [hd] at hk; simp at hk
                    | some d =>
                      rw [hd] at hk
                      cases d <;> simp at hk
                      exact key (a == c) (run_equalIn_bool' w 9998 f.type a c hd) q hq h.symm
    · simp at hf
theorem does_eqs {P : Program} {o : Oper} {S : AS} {n : Nat} {x y : Operand} {t u : TypeId} {op : BinOp} {la lb : List AV} {xs ys : List Value} {ks : List Bool} {r : Bool} (ho : o.op = .binOp op t x y u) (hop : op = .eql ∨ op = .neq) (hk : flatK P t = some ks) (hx : S.val x = .agg la) (hy : S.val y = .agg lb)
    (hxs : rawsOf la = some xs) (hys : rawsOf lb = some ys) (hr : eqV ks xs ys = some r) : DoesAt P o S n ⟨.raw (.bool (if op = .eql then r else !r)), [], []⟩ :=
  does_pure rfl fun c p ρ a w hm => by
    have e1 : a.eval x = .agg xs.toArray := by
      have := hm.val x
      rw [hx] at this
      simp only [Rep] at this
      obtain ⟨cs, h1, h2⟩ := this
      rw [h1, raws_of hxs h2]
    have e2 : a.eval y = .agg ys.toArray := by
      have := hm.val y
      rw [hy] at this
      simp only [Rep] at this
      obtain ⟨cs, h1, h2⟩ := this
      rw [h1, raws_of hys h2]
    unfold flatK at hk
    cases hu : P.underlying t with
    | none => rw [hu] at hk; simp at hk
    | some d =>
      rw [hu] at hk
      cases d <;> simp at hk
      next fs =>
        obtain ⟨⟨hs, hg⟩, hfl⟩ := hk
        have hfs : P.fieldsOf t = fs := by simp [Program.fieldsOf, hu]
        have hrun : (Op.equalIn 10000 t (.agg xs.toArray) (.agg ys.toArray)).run P w = .ok r w := by
          rw [run_equalIn_struct w 9999 t xs.toArray ys.toArray (by rw [hfs]; exact hu) hs, hfs]
          exact run_eqFields fs.toList 0 ks xs ys r hfl (fun i v h => by simpa using h) (fun i v h => by simpa using h) hr
        refine ⟨.bool (if op = .eql then r else !r), ?_, by simp only [Rep]⟩
        unfold execOp
        rw [ho]
        refine run_v ?_
        simp only [e1, e2, Sem.run_bind, run_eqGuard_agg w op t x y _ _ hg, Result.andThen_ok]
        rcases hop with rfl | rfl
        · simp [run_eql_struct, hrun]
        · simp [run_neq_struct, hrun]

end Go.Proofs.YtblmebjhhanoaaaGreat
/- ENGINE (second) 5B: parts of rows; stores into rows; rows made, copied, cleared; arrays; over any program. -/
set_option linter.unusedSimpArgs false
set_option linter.unusedVariables false
namespace Go.Proofs.YtblmebjhhanoaaaGreat
open Go.RowKit

theorem run_bound {P : Program} {w : World} {k : IntKind} {q : Int} {y : Nat} {c : BoundsCode} (h0 : 0 ≤ q) (h1 : q ≤ y) : (Instr.sliceBound (.int k q) y c).run P w = .ok q.toNat w := by
  simp [Instr.sliceBound, asIntOf, h0, h1]
def optInt (S : AS) : Option Operand → Option (Option Int)
  | none => some none
  | some x => match S.val x with
    | .raw (.int _ q) => some (some q)
    | _ => none
/-- a part of a slice is taken. -/
theorem run_slice_op {P : Program} {o : Oper} {a : Act} {w : World} {c : Ctx} {p : Nat → Prop} {ρ : Env} {S : AS} (hm : Mod c p ρ S a.tmps w) {t : TypeId} {x : Operand} {lo hi mx : Option Operand} {i ie : TI} {s : Nat} {A : Option Addr} {N cap : Nat} {ql qh qm : Option Int} {l h m : Nat}
    (ho : o.op = .slice t x lo hi mx) (hi' : tyI P t = some i) (hk : i.kind = 1) (hie : tyI P i.elem = some ie) (hes : ie.size = s) (ex : a.eval x = .slice A N cap) (hcl : N ≤ cap)
    (h1 : optInt S lo = some ql) (h2 : optInt S hi = some qh) (h3 : optInt S mx = some qm) (hmx : qm.isSome = true → qh.isSome = true)
    (hl : (ql.getD 0) = l) (hh : (qh.getD N) = h) (hlh : l ≤ h) (hhn : h ≤ N) (hm3 : (qm.getD cap) = m) (hm4 : h ≤ m) (hm5 : m ≤ cap) :
    (execOp a.eval o).run P w = .ok (.value (.slice (if m = l then A else A.map (·.add (l * s))) (h - l) (m - l))) w := by
  have eo : ∀ (y : Option Operand) (q : Option Int), optInt S y = some q → (q = none ∧ y = none) ∨ ∃ z k r, q = some r ∧ y = some z ∧ a.eval z = .int k r := fun y q hy => by
    cases y with
    | none => simp only [optInt, Option.some.injEq] at hy; exact .inl ⟨hy.symm, rfl⟩
    | some z =>
      simp only [optInt] at hy
      split at hy
      · next k r hz => injection hy with hy; exact .inr ⟨z, k, r, hy.symm, rfl, hm.raw hz⟩
      · cases hy
  obtain ⟨xi, d, z, i1, i2, i3, i4, i5, i6, i7⟩ := tyI_spec hie
  have hte := tyI_slice hi' hk
  have hrun : (Instr.sliceBounds true N cap (lo.map a.eval) (hi.map a.eval) (mx.map a.eval)).run P w = .ok (l, h, m) w := by
    rcases eo mx qm h3 with ⟨rfl, rfl⟩ | ⟨zm, km, rm, rfl, rfl, em⟩
    · simp only [Option.getD_none] at hm3
      obtain rfl : cap = m := by omega
      rcases eo hi qh h2 with ⟨rfl, rfl⟩ | ⟨zh, kh, rh, rfl, rfl, eh⟩ <;> rcases eo lo ql h1 with ⟨rfl, rfl⟩ | ⟨zl, kl, rl, rfl, rfl, el⟩ <;> simp only [Option.getD_none, Option.getD_some] at hl hh
      · obtain rfl : h = N := by omega
        obtain rfl : l = 0 := by omega
        simp [Instr.sliceBounds]
      · obtain rfl : h = N := by omega
        simp only [Instr.sliceBounds, Option.map_none, Option.map_some, el, Sem.run_bind, Sem.run_pure, Result.andThen_ok, run_bound (show 0 ≤ rl by omega) (show rl ≤ (h : Int) by omega)]
        rw [show rl.toNat = l by omega]
      · obtain rfl : l = 0 := by omega
        simp only [Instr.sliceBounds, Option.map_none, Option.map_some, eh, Sem.run_bind, Sem.run_pure, Result.andThen_ok, run_bound (show 0 ≤ rh by omega) (show rh ≤ (cap : Int) by omega)]
        rw [show rh.toNat = h by omega]
      · simp only [Instr.sliceBounds, Option.map_none, Option.map_some, el, eh, Sem.run_bind, Sem.run_pure, Result.andThen_ok, run_bound (show 0 ≤ rh by omega) (show rh ≤ (cap : Int) by omega)]
        rw [show rh.toNat = h by omega, run_bound (show 0 ≤ rl by omega) (show rl ≤ (h : Int) by omega)]
        simp only [Result.andThen_ok, Sem.run_pure]
        rw [show rl.toNat = l by omega]
    · simp only [Option.getD_some] at hm3
      rcases eo hi qh h2 with ⟨rfl, rfl⟩ | ⟨zh, kh, rh, rfl, rfl, eh⟩
      · simp at hmx
      · obtain rfl : rm.toNat = m := by omega
        rcases eo lo ql h1 with ⟨rfl, rfl⟩ | ⟨zl, kl, rl, rfl, rfl, el⟩ <;> simp only [Option.getD_none, Option.getD_some] at hl hh
        · obtain rfl : l = 0 := by omega
          simp only [Instr.sliceBounds, Option.map_none, Option.map_some, eh, em, Sem.run_bind, Sem.run_pure, Result.andThen_ok, run_bound (show 0 ≤ rm by omega) (show rm ≤ (cap : Int) by omega), run_bound (show 0 ≤ rh by omega) (show rh ≤ ((rm.toNat : Nat) : Int) by omega)]
          rw [show rh.toNat = h by omega]
        · simp only [Instr.sliceBounds, Option.map_none, Option.map_some, el, eh, em, Sem.run_bind, Sem.run_pure, Result.andThen_ok, run_bound (show 0 ≤ rm by omega) (show rm ≤ (cap : Int) by omega), run_bound (show 0 ≤ rh by omega) (show rh ≤ ((rm.toNat : Nat) : Int) by omega)]
          rw [show rh.toNat = h by omega, run_bound (show 0 ≤ rl by omega) (show rl ≤ (h : Int) by omega)]
          simp only [Result.andThen_ok, Sem.run_pure]
          rw [show rl.toNat = l by omega]
  unfold execOp
  rw [ho]
  refine run_v ?_
  simp only [Instr.sliceAt, Instr.slice, Sem.run_bind, run_underlying hte w, Result.andThen_ok, ex, hrun, sizeOf, typeInfo, run_program, i1, i4, hes, Sem.run_pure]

/-- a part of a slice that never turns. -/
theorem does_sub_sl {P : Program} {o : Oper} {S : AS} {n : Nat} {t : TypeId} {x : Operand} {lo hi mx : Option Operand} {i ie : TI} {s : Nat} {rows : List (List PV)} {ql qh qm : Option Int} {l h : Nat}
    (ho : o.op = .slice t x lo hi mx) (hi' : tyI P t = some i) (hk : i.kind = 1) (hie : tyI P i.elem = some ie) (hes : ie.size = s) {rd0 : List Nat} (hx : S.see (S.val x) = .sl s rows)
    (h1 : optInt S lo = some ql) (h2 : optInt S hi = some qh) (h3 : optInt S mx = some qm) (hmx : qm.isSome = true → qh.isSome = true)
    (hl : (ql.getD 0) = l) (hh : (qh.getD rows.length) = h) (hlh : l ≤ h) (hhn : h ≤ rows.length) (hm3 : ∀ q, qm = some q → (h : Int) ≤ q ∧ q ≤ rows.length) :
    DoesAt P o S n ⟨.sl s ((rows.drop l).take (h - l)), [], rd0⟩ :=
  does_pure rfl fun c p ρ a w hm => by
    have hu := hm.see _ _ (hm.val x)
    rw [hx] at hu
    simp only [Rep, PRep] at hu
    obtain ⟨A, cap, ex, hcl, hrows⟩ := hu
    obtain ⟨m, e1, e2, e3⟩ : ∃ m : Nat, (qm.getD cap) = m ∧ h ≤ m ∧ m ≤ cap := by
      cases qm with
      | none => exact ⟨cap, rfl, by omega, Nat.le_refl _⟩
      | some q => have := hm3 q rfl; exact ⟨q.toNat, by simp; omega, by omega, by omega⟩
    refine ⟨_, run_slice_op hm ho hi' hk hie hes ex hcl h1 h2 h3 hmx hl hh hlh hhn e1 e2 e3, ?_⟩
    have hlen : ((rows.drop l).take (h - l)).length = h - l := by simp; omega
    simp only [Rep, PRep]
    refine ⟨_, m - l, by rw [hlen], by rw [hlen]; omega, PRows.mk_ fun k r hk => ?_⟩
    have hkl : k < h - l := by rw [← hlen]; exact (List.getElem?_eq_some_iff.1 hk).1
    have hk2 : rows[l + k]? = some r := by
      rw [List.getElem?_take_of_lt hkl, List.getElem?_drop] at hk
      exact hk
    obtain ⟨k1, b, off, rfl, k2⟩ := hrows.get hk2
    refine ⟨k1, b, off + l * s, by rw [if_neg (by omega)]; simp [add_none], ?_⟩
    rw [Nat.zero_add, Nat.add_assoc, ← Nat.add_mul]
    simpa using k2
/-- the empty part that no room is behind. -/
theorem does_sub_none {P : Program} {o : Oper} {S : AS} {n : Nat} {t : TypeId} {x : Operand} {lo hi mx : Option Operand} {i ie : TI} {s : Nat} {a : AV} {rows : List (List PV)} {ql : Option Int}
    (ho : o.op = .slice t x lo hi mx) (hi' : tyI P t = some i) (hk : i.kind = 1) (hie : tyI P i.elem = some ie) (hes : ie.size = s) (hx : S.val x = a) (hor : S.rowsOf a = some (s, rows))
    (h1 : optInt S lo = some ql) (h2 : optInt S hi = some (some 0)) (h3 : optInt S mx = some (some 0)) (hl : (ql.getD 0) = 0) :
    DoesAt P o S n ⟨.hdr (8 * n), [(8 * n, some (.row i.elem s []))], a.ids⟩ := by
  intro rd m0 c p ρ ac w hm hn K Q hK
  obtain ⟨A, cap, ex, hcl, -⟩ := hm.slice hor (u := ac.eval x) (by rw [← hx]; exact hm.val x)
  have hr := run_slice_op hm ho hi' hk hie hes ex hcl h1 h2 h3 (fun _ => rfl) (l := 0) (h := 0) (m := 0) (by simpa using hl) rfl (Nat.le_refl _) (Nat.zero_le _) rfl (Nat.le_refl _) (Nat.zero_le _)
  simp only [if_true, Nat.sub_self] at hr
  obtain ⟨ρ', he, hx', hm'⟩ := hm.nilrow hn i.elem s A
  refine wpIn_value hr ?_
  exact hK _ ρ' _ hm' (by simp only [Rep]; exact hx')
/-- the first ones of an own row: that row, cut. -/
theorem does_trunc {P : Program} {o : Oper} {S : AS} {n : Nat} {t e : TypeId} {x : Operand} {hi : Option Operand} {i ie : TI} {s id : Nat} {rows : List (List PV)} {qh : Option Int} {h : Nat}
    (ho : o.op = .slice t x none hi none) (hi' : tyI P t = some i) (hk : i.kind = 1) (hie : tyI P i.elem = some ie) (hes : ie.size = s) (hx : S.val x = .hdr id) (hob : S.obj id = some (.row e s rows))
    (h2 : optInt S hi = some qh) (hh : (qh.getD rows.length) = h) (hhn : h ≤ rows.length) :
    DoesAt P o S n ⟨.hdr (8 * n), [(id, none), (8 * n, some (.row e s (rows.take h)))], [id]⟩ := by
  intro rd m0 c p ρ a w hm hn K Q hK
  obtain ⟨v1, hv1, vals, hp, hr1, hone, hown⟩ := hm.objs id _ hob
  have hlp := hp.length
  obtain ⟨A, cap, rfl, hcl⟩ := head_of_own hown
  have ex : a.eval x = .slice A rows.length cap := by
    have := hm.val x
    rw [hx] at this
    simp only [Rep] at this
    rw [hv1, hlp] at this
    exact (Option.some.inj this).symm
  have hr := run_slice_op hm ho hi' hk hie hes ex (by omega) (ql := none) rfl h2 (qm := none) rfl (fun h => by cases h) (l := 0) (h := h) (m := cap) rfl hh (Nat.zero_le _) hhn rfl (by omega) (Nat.le_refl _)
  have hval : (Value.slice (if cap = 0 then A else A.map (·.add (0 * s))) (h - 0) (cap - 0)) = .slice A h cap := by
    simp only [Nat.zero_mul, Nat.sub_zero]
    congr 1
    split
    · rfl
    · cases A with
      | none => rfl
      | some ad => simp [Addr.add]
  rw [hval] at hr
  have hfr := hm.fresh hn (k := 8 * n) (by omega)
  have hn0 := hm.n0 hn
  have hid1 : id ≠ 8 * n := fun e => by rw [e, hfr] at hv1; cases hv1
  have hext := ext_with (x := Value.slice A h cap) hfr
  have hown' : OwnAt w e s (.slice A h cap) (vals.take h) := by
    have hlt : (vals.take h).length = h := by simp; omega
    rcases hown with ⟨rfl, B, e1⟩ | ⟨⟨g, cap2, e1, hp2⟩, h0, e2⟩
    · injection e1 with e1 e3 e4
      subst e1; subst e4
      simp at hlp
      obtain rfl : h = 0 := by omega
      exact .inl ⟨by simp, A, rfl⟩
    · injection e1 with e1 e3 e4
      subst e1; subst e4
      refine .inr ⟨⟨g, cap, by rw [hlt], hp2⟩, by rw [flatten_len (fun r hr => hr1 r (List.mem_of_mem_take hr))], ?_⟩
      rcases e2 with ⟨e2, -⟩ | ⟨g2, cap3, cur, e2, e5, e6, e7, e8, e9, e10⟩
      · cases e2
      · refine .inr ⟨g2, cap3, cur, ?_, e5, e6, by rw [hlt]; omega, e8, e9, ?_⟩
        · injection e2 with f1 f2 f3
          rw [f1, f3, hlt]
        · have hfl : (vals.take h).flatten = vals.flatten.take (h * s) := by
            have h3 := List.take_append_drop h vals
            have h4 : vals.flatten = (vals.take h).flatten ++ (vals.drop h).flatten := by rw [← List.flatten_append, h3]
            rw [h4, List.take_left']
            rw [flatten_len (fun r hr => hr1 r (List.mem_of_mem_take hr)), hlt]
          rw [hfl, ← e10, hlt, List.take_take, Nat.min_eq_left]
          exact Nat.mul_le_mul_right _ (by omega)
  have hm' := hm.step0 [(id, none), (8 * n, some (.row e s (rows.take h)))] hext.f rfl (fun i hi => with_low hi (by omega)) (p' := fun i => p i ∨ i / 8 = n) (fun i h => .inl h) (w' := w) (with_dom hm (by omega) rfl) rfl rfl rfl (Nat.le_refl _) (fun _ _ _ => rfl)
      (fun i oi hf => by
        simp only [find] at hf
        split at hf
        · next e1 => cases hf
        · split at hf
          · next e2 =>
            subst e2
            injection hf with hf
            injection hf with hf
            subst hf
            refine ⟨_, with_self .., ⟨vals.take h, hp.take h, fun r hr => hr1 r (List.mem_of_mem_take hr), fun r hr => hone r (List.mem_of_mem_take hr), hown'⟩, fun g hg => .inr ⟨id, _, _, none, by simp [find], hob, hv1, ?_⟩⟩
            cases A with
            | none => cases hg
            | some ad => cases cap with
              | zero => cases hg
              | succ q => exact hg
          · cases hf)
      (fun i j oi oj x' y' hne' h1 h2 => by
        simp only [find] at h1 h2
        split at h1
        · cases h1
        · split at h1
          · split at h2
            · cases h2
            · split at h2
              · omega
              · cases h2
          · cases h1)
  refine wpIn_value hr ?_
  exact hK _ _ _ hm' (by simp only [Rep]; exact with_self ..)
/-- a part of an own row, on the way. -/
theorem does_view {P : Program} {o : Oper} {S : AS} {n : Nat} {t : TypeId} {x : Operand} {lo hi : Option Operand} {i ie : TI} {s id : Nat} {ob : AO} {rows : List (List PV)} {ql qh : Option Int} {l h : Nat}
    (ho : o.op = .slice t x lo hi none) (hi' : tyI P t = some i) (hk : i.kind = 1) (hie : tyI P i.elem = some ie) (hes : ie.size = s) (hx : S.val x = .hdr id) (hob : S.obj id = some ob) (hor : ob.rows = some (s, rows))
    (h1 : optInt S lo = some ql) (h2 : optInt S hi = some qh) (hl : (ql.getD 0) = l) (hh : (qh.getD rows.length) = h) (hlh : l ≤ h) (hhn : h ≤ rows.length) :
    DoesAt P o S n ⟨.vw id s l h, [], [id]⟩ :=
  does_pure rfl fun c p ρ a w hm => by
    obtain ⟨v1, hv1, hov⟩ := hm.objs id _ hob
    obtain ⟨A, cap, rfl, hcl, -⟩ := hov.head hm.ro hor
    have ex : a.eval x = .slice A rows.length cap := by
      have := hm.val x
      rw [hx] at this
      simp only [Rep] at this
      rw [hv1] at this
      exact (Option.some.inj this).symm
    refine ⟨_, run_slice_op hm ho hi' hk hie hes ex hcl h1 h2 (qm := none) rfl (fun h => by cases h) hl hh hlh hhn (m := cap) rfl (by omega) (Nat.le_refl _), ?_⟩
    simp only [Rep]
    exact ⟨A, rows.length, cap, hv1, hlh, hhn, hcl, rfl⟩

/-- the objects are told again. -/
theorem Mod.same0 {c : Ctx} {p : Nat → Prop} {ρ : Env} {S : AS} {u : List (Nat × Option AO)} {tm : Array Value} {w : World} (h : Mod c p ρ S tm w) (ho : ∀ i, (S.upd u).obj i = S.obj i) : Mod c p ρ (S.upd u) tm w :=
  ⟨h.size, h.base, h.baseR, h.lo, h.dom, h.tmps, fun i o e => h.objs i o ((ho i).symm.trans e), fun i j oi oj x y hne hi hj => h.apart i j oi oj x y hne ((ho i).symm.trans hi) ((ho j).symm.trans hj),
    fun i o x g e => h.old i o x g ((ho i).symm.trans e), h.ro, fun i o x g e => h.rsep i o x g ((ho i).symm.trans e), h.rnew, h.rdf, h.dfr, h.frame⟩
/-! cells of an own row turn -/
theorem splice_flat {α : Type} {s : Nat} {vals : List (List α)} (hs : ∀ r ∈ vals, r.length = s) {l : Nat} {news : List (List α)} (hn : ∀ r ∈ news, r.length = s) (hl : l + news.length ≤ vals.length) : (splice vals l news).flatten = splice vals.flatten (l * s) news.flatten := by
  have fl : ∀ (m : List (List α)), (∀ r ∈ m, r.length = s) → m.flatten.length = m.length * s := by
    intro m
    induction m with
    | nil => intro _; simp
    | cons r m ih => intro h; rw [List.flatten_cons, List.length_append, h r (by simp), ih (fun r hr => h r (by simp [hr])), List.length_cons, Nat.succ_mul]; omega
  have ft : ∀ k, (vals.take k).flatten = vals.flatten.take (k * s) := by
    intro k
    rcases Nat.le_total k vals.length with hk | hk
    · have h3 := List.take_append_drop k vals
      have h4 : vals.flatten = (vals.take k).flatten ++ (vals.drop k).flatten := by rw [← List.flatten_append, h3]
      rw [h4, List.take_left']
      rw [fl _ (fun r hr => hs r (List.mem_of_mem_take hr))]; simp; rw [Nat.min_eq_left hk]
    · rw [List.take_of_length_le hk, List.take_of_length_le]; rw [fl _ hs]; exact Nat.mul_le_mul_right _ hk
  have fd : ∀ k, (vals.drop k).flatten = vals.flatten.drop (k * s) := by
    intro k
    rcases Nat.le_total k vals.length with hk | hk
    · have h3 := List.take_append_drop k vals
      have h4 : vals.flatten = (vals.take k).flatten ++ (vals.drop k).flatten := by rw [← List.flatten_append, h3]
      rw [h4, List.drop_left']
      rw [fl _ (fun r hr => hs r (List.mem_of_mem_take hr))]; simp; rw [Nat.min_eq_left hk]
    · rw [List.drop_eq_nil_of_le hk, List.drop_eq_nil_of_le]; rfl; rw [fl _ hs]; exact Nat.mul_le_mul_right _ hk
  unfold splice
  rw [List.flatten_append, List.flatten_append, ft, fd, fl _ hn, Nat.add_mul]
theorem splice_get {α : Type} {l m : List α} {k : Nat} (h : k + m.length ≤ l.length) (j : Nat) : (splice l k m)[j]? = if j < k then l[j]? else if j < k + m.length then m[j - k]? else l[j]? := by
  unfold splice
  by_cases h1 : j < k
  · rw [if_pos h1, List.append_assoc, List.getElem?_append_left (by simp; omega), List.getElem?_take_of_lt h1]
  · rw [if_neg h1]
    by_cases h2 : j < k + m.length
    · rw [if_pos h2, List.append_assoc, List.getElem?_append_right (by simp; omega)]
      have e1 : (l.take k).length = k := by simp; omega
      rw [e1, List.getElem?_append_left (by omega)]
    · rw [if_neg h2, List.getElem?_append_right (by simp; omega)]
      have e1 : (l.take k ++ m).length = k + m.length := by simp; omega
      rw [e1, List.getElem?_drop]
      congr 1
      omega
theorem OwnAt.splice {w : World} {e : TypeId} {s g cap : Nat} {vals : List (List Value)} (h : OwnAt w e s (.slice (some ⟨g, 0, none⟩) vals.length cap) vals) (hp : 0 < cap) (hs : ∀ r ∈ vals, r.length = s) {us : List Value} {q : Nat} {vals' : List (List Value)} (hl : vals'.length = vals.length) (hs' : ∀ r ∈ vals', r.length = s) (hq : q + us.length ≤ vals.length * s) (hf : vals'.flatten = Go.Proofs.YtblmebjhhanoaaaGreat.splice vals.flatten q us) :
    ∃ cur : Array Value, w.heap[g]? = some (.cells cur e (0, 0)) ∧ q + us.length ≤ cur.size ∧ OwnAt (w.setRow g (Go.Proofs.YtblmebjhhanoaaaGreat.splice cur.toList q us).toArray) e s (.slice (some ⟨g, 0, none⟩) vals.length cap) vals' := by
  have hb := ownAt_blk (rows := []) h (g := g) (by obtain ⟨k, rfl⟩ : ∃ k, cap = k + 1 := ⟨cap - 1, by omega⟩; rfl)
  obtain ⟨cap2, cur, e1, -, hh, h6, h7, h4, h5⟩ := hb
  injection e1 with _ _ e1
  subst e1
  have hcs : vals.length * s ≤ cur.size := by rw [h6]; exact Nat.mul_le_mul_right _ h4
  refine ⟨cur, hh, by omega, .inr ⟨⟨g, cap, by rw [hl], hp⟩, flatten_len hs', .inr ⟨g, cap, (Go.Proofs.YtblmebjhhanoaaaGreat.splice cur.toList q us).toArray, by rw [hl], Nat.zero_le _, setRow_heap w g _ _ e _ hh, by omega, h5, ?_, ?_⟩⟩⟩
  · rw [List.size_toArray, splice_len (by simpa using (by omega : q + us.length ≤ cur.size))]
    simpa using h6
  · rw [hf, ← h7, hl]
    show (Go.Proofs.YtblmebjhhanoaaaGreat.splice cur.toList q us).take _ = _
    have hlen : cur.toList.length = cur.size := by simp
    apply List.ext_getElem?
    intro j
    rw [List.getElem?_take, splice_get (l := cur.toList) (by rw [hlen]; omega), splice_get (l := cur.toList.take (vals.length * s)) (by rw [List.length_take, hlen]; omega)]
    by_cases hj : j < vals.length * s
    · rw [if_pos hj, List.getElem?_take_of_lt hj]
    · rw [if_neg hj, if_neg (by omega), if_neg (by omega), List.getElem?_eq_none]
      rw [List.length_take, hlen]
      omega
/-- an own row's cells turn: the step. -/
theorem Mod.turnRow {c : Ctx} {p : Nat → Prop} {ρ : Env} {S : AS} {tm : Array Value} {w : World} (hm : Mod c p ρ S tm w) {id e s : Nat} {rows rows' : List (List PV)} (hob : S.obj id = some (.row e s rows)) {us : List Value} {q : Nat} (hu1 : ∀ u ∈ us, u.oneCell' = true) (hne : 0 < rows.length)
    (hv : ∀ vals : List (List Value), PRepLL ρ.R rows vals → (∀ r ∈ vals, r.length = s) → (∀ r ∈ vals, ∀ u ∈ r, u.oneCell' = true) → q + us.length ≤ vals.length * s ∧ ∃ vals', PRepLL ρ.R rows' vals' ∧ vals'.length = vals.length ∧ (∀ r ∈ vals', r.length = s) ∧ (∀ r ∈ vals', ∀ u ∈ r, u.oneCell' = true) ∧ vals'.flatten = splice vals.flatten q us) :
    ∃ g cap cur, ρ.f id = some (.slice (some ⟨g, 0, none⟩) rows.length cap) ∧ rows.length ≤ cap ∧ w.heap[g]? = some (.cells cur e (0, 0)) ∧ q + us.length ≤ cur.size ∧ Mod c p ρ (S.upd [(id, some (.row e s rows'))]) tm (w.setRow g (splice cur.toList q us).toArray) := by
  obtain ⟨v1, hv1, vals, hp, hr1, hone, hown⟩ := hm.objs id _ hob
  obtain ⟨hq, vals', k1, k2, k3, k4, k5⟩ := hv vals hp hr1 hone
  have hlp := hp.length
  rcases hown with ⟨rfl, -⟩ | ⟨⟨g, cap, rfl, hpc⟩, hown⟩
  · simp at hlp; omega
  · have hown' : OwnAt w e s (.slice (some ⟨g, 0, none⟩) vals.length cap) vals := .inr ⟨⟨g, cap, rfl, hpc⟩, hown⟩
    obtain ⟨cur, h1, h2, h3⟩ := hown'.splice hpc hr1 k2 k3 hq k5
    obtain ⟨A0, c0, e0, hcl⟩ := head_of_own hown'
    injection e0 with _ _ e0
    subst e0
    have hg : ∀ r, oblk (.slice (some ⟨g, 0, none⟩) vals.length cap) (.row e s r) = some g := fun r => by
      obtain ⟨k, rfl⟩ : ∃ k, cap = k + 1 := ⟨cap - 1, by omega⟩
      rfl
    refine ⟨g, cap, cur, by rw [← hlp]; exact hv1, by omega, h1, h2, hm.turn hob hv1 (hg rows) (hg rows') ⟨vals', k1, k3, k4, h3⟩ rfl rfl rfl (by simp [World.setRow]) (fun b hb' => setRow_other _ _ _ _ hb')⟩
theorem set_splice {α : Type} {l : List α} {k : Nat} {a : α} (h : k < l.length) : l.set k a = splice l k [a] := by
  unfold splice
  simp [List.set_eq_take_append_cons_drop, h]
theorem PRepL.splice {R : Frz} {ps qs : List PV} {vs us : List Value} (h : PRepL R ps vs) (k : PRepL R qs us) (j : Nat) : PRepL R (splice ps j qs) (Go.Proofs.YtblmebjhhanoaaaGreat.splice vs j us) := by
  unfold Go.Proofs.YtblmebjhhanoaaaGreat.splice
  rw [k.length]
  exact ((h.take j).append k).append (h.drop _)
theorem PRepLL.splice {R : Frz} {ps qs : List (List PV)} {vs us : List (List Value)} (h : PRepLL R ps vs) (k : PRepLL R qs us) (j : Nat) : PRepLL R (splice ps j qs) (Go.Proofs.YtblmebjhhanoaaaGreat.splice vs j us) := by
  unfold Go.Proofs.YtblmebjhhanoaaaGreat.splice
  rw [k.length]
  exact ((h.take j).append k).append (h.drop _)
theorem mem_splice {α : Type} {l m : List α} {k : Nat} {a : α} (h : a ∈ splice l k m) : a ∈ l ∨ a ∈ m := by
  unfold splice at h
  rcases List.mem_append.1 h with h | h
  · rcases List.mem_append.1 h with h | h
    · exact .inl (List.mem_of_mem_take h)
    · exact .inr h
  · exact .inl (List.mem_of_mem_drop h)
/-- a store into an element of an own row. -/
theorem does_store_row {P : Program} {o : Oper} {S : AS} {n : Nat} {t e : TypeId} {x y : Operand} {i : TI} {id s k j : Nat} {rows : List (List PV)} {r m : List PV} (ho : o.op = .store t x y) (hi : tyI P t = some i) (hx : S.val x = .ptr id s k j) (hob : S.obj id = some (.row e s rows))
    (hy : S.elem (S.val y) = some m) (hml : m.length = i.size) (hk : rows[k]? = some r) (hl : j + i.size ≤ s) {rd0 : List Nat} : DoesAt P o S n ⟨.dead, [(id, some (.row e s (rows.set k (splice r j m))))], rd0⟩ := by
  intro rd m0 c p ρ a w hm hn K Q hK
  obtain ⟨us, e1, hru, hlu, hu1⟩ := elem_of hm hy (hm.val y)
  obtain ⟨xi, d, z, i1, i2, i3, i4, i5, i6, i7⟩ := tyI_spec hi
  obtain ⟨hkl, rfl⟩ := List.getElem?_eq_some_iff.1 hk
  obtain ⟨g, cap, cur, hg, hcl, hh, hfit, hm'⟩ := hm.turnRow (rows' := rows.set k (splice rows[k] j m)) hob (us := us) (q := k * s + j) hu1 (by omega) fun vals hp hs h1 => by
    have hlp := hp.length
    obtain ⟨vr, k1, k2⟩ := hp.get hk
    obtain ⟨hkv, rfl⟩ := List.getElem?_eq_some_iff.1 k1
    have hrl := hs _ (List.getElem_mem hkv)
    have hks := Nat.mul_le_mul_right s (Nat.succ_le_of_lt hkv)
    rw [Nat.succ_mul] at hks
    have hfit : k * s + j + us.length ≤ vals.length * s := by omega
    have hone : ∀ v ∈ splice vals[k] j us, v.oneCell' = true := fun v hv => by
      rcases mem_splice hv with hv | hv
      · exact h1 _ (List.getElem_mem hkv) v hv
      · exact hu1 v hv
    have hlen : (splice vals[k] j us).length = s := by rw [splice_len (by omega)]; exact hrl
    refine ⟨hfit, vals.set k (splice vals[k] j us), hp.set k (k2.splice hru j), by simp, fun q hq => ?_, fun q hq => ?_, ?_⟩
    · rcases List.mem_or_eq_of_mem_set hq with hq | rfl
      · exact hs q hq
      · exact hlen
    · rcases List.mem_or_eq_of_mem_set hq with hq | rfl
      · exact h1 q hq
      · exact hone
    · rw [set_splice hkv, splice_flat hs (by simpa using hlen) (by simp; omega)]
      simp only [List.flatten_cons, List.flatten_nil, List.append_nil]
      have hfv := flatten_len hs
      apply List.ext_getElem?
      intro q
      have g1 := splice_get (l := vals.flatten) (m := splice vals[k] j us) (k := k * s) (by rw [hlen, hfv]; omega) q
      have g2 := splice_get (l := vals.flatten) (m := us) (k := k * s + j) (by rw [hfv]; exact hfit) q
      have g3 := splice_get (l := vals[k]) (m := us) (k := j) (by omega) (q - k * s)
      rw [hlen] at g1
      rw [g1, g2]
      by_cases c1 : q < k * s
      · rw [if_pos c1, if_pos (by omega)]
      · rw [if_neg c1]
        by_cases c2 : q < k * s + s
        · have hgv := flatten_get hs k (q - k * s) (by omega)
          rw [show k * s + (q - k * s) = q by omega, List.getElem?_eq_getElem hkv] at hgv
          simp only [Option.bind_some] at hgv
          rw [if_pos c2, g3]
          by_cases c3 : q < k * s + j
          · rw [if_pos c3, if_pos (by omega), hgv]
          · rw [if_neg c3, if_neg (by omega)]
            by_cases c4 : q < k * s + j + us.length
            · rw [if_pos c4, if_pos (by omega)]
              congr 1
              omega
            · rw [if_neg c4, if_neg (by omega), hgv]
        · rw [if_neg c2, if_neg (by omega), if_neg (by omega)]
  have hp : a.eval x = .pointer (some ⟨g, k * s + j, none⟩) := by
    have := hm.at_row hx hg (b := g) (off := 0) (.inr ⟨_, _, rfl⟩)
    simpa using this
  have hst := run_storeCells_at (P := P) g (k * s + j) e us 0 cur w hh (by simpa using hfit) hu1
  simp only [Nat.add_zero] at hst
  have hr' : (execOp a.eval o).run P w = .ok .skip (w.setRow g (splice cur.toList (k * s + j) us).toArray) := by
    unfold execOp
    simp only [ho, hp, Instr.storeAt, Instr.sureAddr, storeVar, sizeOf, typeInfo, Sem.run_bind, Sem.run_pure, Result.andThen_ok, run_program, i1, e1]
    simp only [i4, ← hml, ← hlu, List.size_toArray, ne_eq, not_true, if_false, Result.andThen_ok, hst]
    rfl
  refine wpIn_skips hr' ?_
  exact hK undef ρ _ (hm'.mono fun i h => .inl h) (by simp [Rep])
/-- zeros. -/
def zrow (z : List Value) : List PV := z.map .raw
theorem prep_raws {R : Frz} : ∀ (z : List Value), PRepL R (z.map .raw) z
  | [] => trivial
  | v :: z => ⟨by simp [PRep], prep_raws z⟩
theorem preps_raws {R : Frz} (z : List Value) : ∀ n, PRepLL R (List.replicate n (z.map .raw)) (List.replicate n z)
  | 0 => trivial
  | n + 1 => ⟨prep_raws z, preps_raws z n⟩
theorem zeroCells_flat (z : List Value) (n : Nat) (h : 0 < z.length) : (Builtin.zeroCells z.toArray n).toList = (List.replicate n z).flatten := by
  have hs : ∀ r ∈ List.replicate n z, r.length = z.length := fun r hr => by rw [List.eq_of_mem_replicate hr]
  have hfl : (List.replicate n z).flatten.length = n * z.length := by rw [flatten_len hs]; simp
  apply List.ext_getElem?
  intro j
  unfold Builtin.zeroCells
  by_cases hj : j < n * z.length
  · have e1 := flatten_get hs (j / z.length) (j % z.length) (Nat.mod_lt _ h)
    rw [show j / z.length * z.length + j % z.length = j by rw [Nat.mul_comm]; exact Nat.div_add_mod j _] at e1
    rw [e1]
    have hd : j / z.length < n := Nat.div_lt_of_lt_mul (by rw [Nat.mul_comm]; exact hj)
    have hmod : j % z.length < z.length := Nat.mod_lt _ h
    simp [hj, hd, hmod]
  · rw [List.getElem?_eq_none (by simp; omega), List.getElem?_eq_none (by rw [hfl]; omega)]
/-- `clear` of an own row, or of a part of it. -/
theorem does_clear {P : Program} {o : Oper} {S : AS} {n : Nat} {x : Operand} {t e : TypeId} {i ie : TI} {id s l h : Nat} {rows : List (List PV)} (ho : o.op = .call { callee := .builtin .clear, args := #[x], argTypes := #[t] }) (hi : tyI P t = some i) (hk : i.kind = 1) (hie : tyI P i.elem = some ie) (hs : ie.zero.length = s) (h0 : 0 < s) (hz1 : ∀ u ∈ ie.zero, u.oneCell' = true)
    (hx : (S.val x = .hdr id ∧ l = 0 ∧ h = rows.length) ∨ (S.val x = .vw id s l h ∧ h ≤ rows.length)) (hob : S.obj id = some (.row e s rows)) (hlh : l ≤ h) :
    DoesAt P o S n ⟨.tup [], [(id, some (.row e s (splice rows l (List.replicate (h - l) (ie.zero.map .raw)))))], [id]⟩ := by
  intro rd m0 c p ρ a w hm hn K Q hK
  obtain ⟨xi, d, z, i1, i2, i3, i4, i5, i6, i7⟩ := tyI_spec hie
  have hte := tyI_slice hi hk
  have hzc : z.cells = ie.zero.toArray := by rw [← i7]
  have hlr : h ≤ rows.length := by rcases hx with ⟨-, -, rfl⟩ | ⟨-, h⟩ <;> omega
  have fin : ∀ w', (execOp a.eval o).run P w = .ok (.value (.tuple #[])) w' → Mod c p ρ (S.upd [(id, some (.row e s (splice rows l (List.replicate (h - l) (ie.zero.map .raw)))))]) a.tmps w' → o.wpIn (FW rd) m0 P a w K Q := fun w' hr hm' => by
    refine wpIn_value hr ?_
    exact hK _ ρ _ (hm'.mono fun i h => .inl h) (by simp only [Rep]; exact ⟨[], rfl, by simp [RepL]⟩)
  have hrunc : ∀ v w', (Builtin.clear_ #[t] o.type #[v]).run P w = .ok (.tuple #[]) w' → a.eval x = v → (execOp a.eval o).run P w = .ok (.value (.tuple #[])) w' := fun v w' hr e => by
    unfold execOp
    rw [ho]
    simp only [resolve, Sem.run_bind, Sem.run_pure, Result.andThen_ok, invoke, builtin, List.map_toArray, List.map_cons, List.map_nil, e, hr]
  rcases Nat.eq_zero_or_pos (h - l) with hz | hpos
  · -- nothing is cleared
    have hsame : splice rows l (List.replicate (h - l) (ie.zero.map .raw)) = rows := by rw [hz]; exact splice_nil _ _
    have hv : ∃ A cp, a.eval x = .slice A 0 cp := by
      obtain ⟨v1, hv1, vals, hp, hr1, hone, hown⟩ := hm.objs id _ hob
      obtain ⟨A, cap, rfl, hcl⟩ := head_of_own hown
      have hlp := hp.length
      have := hm.val x
      rcases hx with ⟨hx, rfl, rfl⟩ | ⟨hx, -⟩
      · rw [hx] at this
        simp only [Rep] at this
        rw [hv1] at this
        injection this with this
        exact ⟨A, cap, by rw [← this, hlp]; congr 1⟩
      · rw [hx] at this
        simp only [Rep] at this
        obtain ⟨A', n', c', -, -, -, -, e5⟩ := this
        exact ⟨_, _, by rw [e5, hz]⟩
    obtain ⟨A, cp, hv⟩ := hv
    refine fin w (hrunc _ w ?_ hv) ?_
    · cases A <;> simp [Builtin.clear_, run_underlying hte]
    · rw [hsame]
      refine hm.same0 fun i => ?_
      by_cases hi : i = id
      · subst hi
        rw [hob]
        simp [AS.obj, AS.upd, find]
      · simp [AS.obj, AS.upd, find, Ne.symm hi]
  · obtain ⟨g, cap, cur, hg, hcl, hh, hfit, hm'⟩ := hm.turnRow (rows' := splice rows l (List.replicate (h - l) (ie.zero.map .raw))) hob (us := (List.replicate (h - l) ie.zero).flatten) (q := l * s) (fun u hu => by
        obtain ⟨r, hr, hu'⟩ := List.mem_flatten.1 hu
        rw [List.eq_of_mem_replicate hr] at hu'
        exact hz1 u hu') (by omega) fun vals hp hs' h1 => by
      have hlp := hp.length
      have hrs : ∀ r ∈ List.replicate (h - l) ie.zero, r.length = s := fun r hr => by rw [List.eq_of_mem_replicate hr, hs]
      have hfl := flatten_len hrs
      rw [List.length_replicate] at hfl
      have hbb : l * s + (h - l) * s ≤ vals.length * s := by rw [← Nat.add_mul]; exact Nat.mul_le_mul_right _ (by omega)
      refine ⟨by rw [hfl]; exact hbb, splice vals l (List.replicate (h - l) ie.zero), hp.splice (preps_raws _ _) l, splice_len (by simp; omega), fun q hq => ?_, fun q hq => ?_, splice_flat hs' hrs (by simp; omega)⟩
      · rcases mem_splice hq with hq | hq
        · exact hs' q hq
        · exact hrs q hq
      · rcases mem_splice hq with hq | hq
        · exact h1 q hq
        · rw [List.eq_of_mem_replicate hq]; exact hz1
    have hv : ∃ cp, a.eval x = .slice (some ⟨g, l * s, none⟩) (h - l) cp := by
      have := hm.val x
      rcases hx with ⟨hx, rfl, rfl⟩ | ⟨hx, -⟩
      · rw [hx] at this
        simp only [Rep] at this
        rw [hg] at this
        injection this with this
        exact ⟨cap, by rw [← this]; simp⟩
      · rw [hx] at this
        simp only [Rep] at this
        obtain ⟨A', n', c', e1, e2, e3, e4, e5⟩ := this
        rw [hg] at e1
        injection e1 with e1
        injection e1 with e1 e6 e7
        subst e1; subst e6; subst e7
        rw [if_neg (by omega)] at e5
        exact ⟨cap - l, by rw [e5]; simp [add_none]⟩
    obtain ⟨cp, hv⟩ := hv
    have hst := run_storeCells_at (P := P) g (l * s) e (List.replicate (h - l) ie.zero).flatten 0 cur w hh (by simpa using hfit) (fun u hu => by
        obtain ⟨r, hr, hu'⟩ := List.mem_flatten.1 hu
        rw [List.eq_of_mem_replicate hr] at hu'
        exact hz1 u hu')
    simp only [Nat.add_zero] at hst
    refine fin _ (hrunc _ _ ?_ hv) hm'
    obtain ⟨q, hq⟩ : ∃ q, h - l = q + 1 := ⟨h - l - 1, by omega⟩
    have hzv : (zeroValue i.elem).run P w = .ok z w := by simp [zeroValue, typeInfo, i1, i3]
    have hzf := zeroCells_flat ie.zero (h - l) (by omega)
    rw [hq] at hzf hst ⊢
    unfold Builtin.clear_
    simp only [Sem.run_bind, run_underlying hte, Result.andThen_ok, Sem.run_pure, List.getElem?_toArray, List.getElem?_cons_zero, hzv, hzc, hzf, hst]
    rfl
end Go.Proofs.YtblmebjhhanoaaaGreat
/- ENGINE (second) 5C: slices beside nil; rows made, copied; arrays; over any program. -/
set_option linter.unusedSimpArgs false
set_option linter.unusedVariables false
namespace Go.Proofs.YtblmebjhhanoaaaGreat
open Go.RowKit

theorem run_nileq {P : Program} (w : World) (t : TypeId) (y : Operand) (x : Operand) (u : TypeId) (A : Option Addr) (n c : Nat) {e : TypeId} (ht : P.underlying t = some (.slice e)) (op : BinOp) (hop : op = .eql ∨ op = .neq) :
    (do eqGuard op t x y (.slice A n c) (.slice none 0 0); binOp op t (.slice A n c) (.slice none 0 0) : Sem Value).run P w = .ok (.bool (if op = .eql then A.isNone else !A.isNone)) w := by
  have h : (Op.equalIn 10000 t (.slice A n c) (.slice none 0 0)).run P w = .ok A.isNone w := Lib.run_equalIn_slice_nil w 9999 t e A n c 0 0 ht
  have hg : (eqGuard op t x y (.slice A n c) (.slice none 0 0)).run P w = .ok () w := by
    rcases hop with rfl | rfl <;> simp [eqGuard, Op.eqGuardIn, Op.maxDepth, run_underlying ht]
  rw [Sem.run_bind, hg]
  simp only [Result.andThen_ok]
  rcases hop with rfl | rfl
  · simp [binOp, Op.equal, Op.maxDepth, h]
  · simp [binOp, Op.equal, Op.maxDepth, h]
/-- a slice is compared with nil. -/
theorem does_nileq {P : Program} {o : Oper} {S : AS} {x y : Operand} {t u e : TypeId} {op : BinOp} {a : AV} {s : Nat} {rows : List (List PV)} (ho : o.op = .binOp op t x y u) (hop : op = .eql ∨ op = .neq) (ht : P.underlying t = some (.slice e)) (hx : S.val x = a) (hor : S.rowsOf a = some (s, rows)) (hy : S.val y = .raw (.slice none 0 0))
    (rd : Option Nat) (m0 : Nat) (c : Ctx) (p : Nat → Prop) (ρ : Env) (ac : Act) (w : World) (hm : Mod c p ρ S ac.tmps w) (K : Act → World → Prop) (Q : Exit → Act → World → Prop)
    (hK : ∀ b : Bool, (b = true → rows.length = 0) → K (ac.put o.dst (.bool (if op = .eql then b else !b))) w) : o.wpIn (FW rd) m0 P ac w K Q := by
  obtain ⟨A, cp, hv, -, hA⟩ := hm.slice hor (u := ac.eval x) (by rw [← hx]; exact hm.val x)
  have hr : (execOp ac.eval o).run P w = .ok (.value (.bool (if op = .eql then A.isNone else !A.isNone))) w := by
    unfold execOp
    rw [ho]
    refine run_v ?_
    have := run_nileq (P := P) w t y x u A rows.length cp ht op hop
    simp only [hv, hm.raw hy]
    exact this
  refine wpIn_value hr (hK _ fun hb => ?_)
  rcases Nat.eq_zero_or_pos rows.length with h | h
  · exact h
  · obtain ⟨b, off, vs, rfl, -⟩ := hA 0 rows[0] (by simp)
    cases hb

/-- a row of zeros is made. -/
theorem does_makeSlice {P : Program} {o : Oper} {S : AS} {n : Nat} {t : TypeId} {x y : Operand} {i ie : TI} {q : Int} (ho : o.op = .makeSlice t x y) (hi : tyI P t = some i) (hk : i.kind = 1) (hie : tyI P i.elem = some ie) (h0 : 0 < ie.size) (hz : ie.zero.length = ie.size) (hz1 : ∀ u ∈ ie.zero, u.oneCell' = true)
    (hx : S.val x = .raw (.int .i64 q)) (hy : S.val y = .raw (.int .i64 q)) (hq0 : 0 ≤ q) (hb1 : q * ie.size ≤ 16777216) (hb2 : ie.bytes * q ≤ 281474976710656) :
    DoesAt P o S n ⟨.hdr (8 * n), [(8 * n, some (.row i.elem ie.size (List.replicate q.toNat (ie.zero.map .raw))))], []⟩ := by
  intro rd m0 c p ρ a w hm hn K Q hK
  obtain ⟨xi, d, z, i1, i2, i3, i4, i5, i6, i7⟩ := tyI_spec hie
  have hte := tyI_slice hi hk
  obtain ⟨k, rfl⟩ := Int.eq_ofNat_of_zero_le hq0
  have hkz : k * ie.size ≤ 16777216 := by rw [← Int.natCast_mul] at hb1; omega
  have hkb : xi.bytes * k ≤ 281474976710656 := by rw [i5]; rw [← Int.natCast_mul] at hb2; omega
  have hk0 : k ≤ k * ie.size := Nat.le_mul_of_pos_right k h0
  obtain ⟨w', hrun, hown, hgrow⟩ := run_makeSlice_full (P := P) (w := w) 0 t i.elem xi z ie.size hte i1 i3 i4 .i64 .i64 k hkz hkb (by unfold maxLen; omega) (Nat.zero_le _)
  have hzc : z.cells = ie.zero.toArray := by rw [← i7]
  have hfl : (madeCells z.cells (k * ie.size)).toList = (List.replicate k ie.zero).flatten := by
    rw [← zeroCells_flat ie.zero k (by omega), hzc, ← hz]
    simp [madeCells, Builtin.zeroCells]
  rw [hfl] at hown
  have hrs : ∀ r ∈ List.replicate k ie.zero, r.length = ie.size := fun r hr => by rw [List.eq_of_mem_replicate hr, hz]
  have hOwn : OwnAt w' i.elem ie.size (.slice (some ⟨w.heap.size, 0, none⟩) k k) (List.replicate k ie.zero) := ownAt_of (by rw [List.length_replicate]; exact hown)
  have hfr := hm.fresh hn (k := 8 * n) (by omega)
  have hn0 := hm.n0 hn
  have hext := ext_with (x := Value.slice (some ⟨w.heap.size, 0, none⟩) k k) hfr
  have hm' := hm.step0 [(8 * n, some (.row i.elem ie.size (List.replicate k (ie.zero.map .raw))))] hext.f rfl (fun i hi => with_low hi (by omega)) (p' := fun i => p i ∨ i / 8 = n) (fun i h => .inl h) (w' := w') (with_dom hm (by omega) rfl) hgrow.os hgrow.tape hgrow.output hgrow.size (fun g hg hT' => hgrow.block g hg (by simp))
      (fun i' oi hf => by
        simp only [find] at hf
        split at hf
        · next e2 =>
          subst e2
          injection hf with hf
          injection hf with hf
          subst hf
          refine ⟨_, with_self .., ⟨List.replicate k ie.zero, preps_raws _ _, hrs, fun r hr => ?_, hOwn⟩, fun g hg => .inl ?_⟩
          · rw [List.eq_of_mem_replicate hr]; exact hz1
          · have := oblk_row_lt (w := w) hg
            simp [blkOf] at this
            omega
        · cases hf)
      (fun i' j oi oj x' y' hne' h1 h2 => by
        simp only [find] at h1 h2
        split at h1
        · split at h2
          · omega
          · cases h2
        · cases h1)
  have hr : (execOp a.eval o).run P w = .ok (.value (.slice (some ⟨w.heap.size, 0, none⟩) k k)) w' := by
    unfold execOp
    rw [ho]
    refine run_v ?_
    simp only [hm.raw hx, hm.raw hy]
    exact hrun
  refine wpIn_value hr ?_
  exact hK _ _ _ hm' (by simp only [Rep]; exact with_self ..)
/-- elements are copied into an own row. -/
theorem does_copy {P : Program} {o : Oper} {S : AS} {n : Nat} {x y : Operand} {t u e : TypeId} {i ie : TI} {id s : Nat} {a2 : AV} {rows rows2 : List (List PV)} (ho : o.op = .call { callee := .builtin .copy, args := #[x, y], argTypes := #[t, u] }) (hi : tyI P t = some i) (hk : i.kind = 1) (hie : tyI P i.elem = some ie) (hs : ie.size = s) (h0 : 0 < s)
    (hx : S.val x = .hdr id) (hob : S.obj id = some (.row e s rows)) (hy : S.val y = a2) (hor : S.rowsOf a2 = some (s, rows2)) (hle : rows2.length = rows.length) :
    DoesAt P o S n ⟨.raw (.int .i64 rows.length), [(id, some (.row e s rows2))], id :: a2.ids⟩ := by
  intro rd m0 c p ρ a w hm hn K Q hK
  obtain ⟨xi, d, z, i1, i2, i3, i4, i5, i6, i7⟩ := tyI_spec hie
  have hte := tyI_slice hi hk
  obtain ⟨A, cp, e2, -, hel⟩ := hm.slice hor (u := a.eval y) (by rw [← hy]; exact hm.val y)
  obtain ⟨news, k1, k2, k3, k4, k5⟩ := Reads.of_slice h0 hel
  have hrunc : ∀ v w', (Builtin.copy_ #[t, u] o.type #[v, .slice A rows2.length cp]).run P w = .ok (goInt rows.length) w' → a.eval x = v → (execOp a.eval o).run P w = .ok (.value (.int .i64 rows.length)) w' := fun v w' hr ev => by
    unfold execOp
    rw [ho]
    simp only [resolve, Sem.run_bind, Sem.run_pure, Result.andThen_ok, invoke, builtin, List.map_toArray, List.map_cons, List.map_nil, ev, e2, hr]
    rfl
  rcases Nat.eq_zero_or_pos rows.length with hz | hpos
  · obtain rfl : rows = [] := List.eq_nil_of_length_eq_zero hz
    obtain rfl : rows2 = [] := List.eq_nil_of_length_eq_zero hle
    obtain ⟨v1, hv1, vals, hp, hr1, hone, hown⟩ := hm.objs id _ hob
    obtain ⟨B, cap, rfl, hcl⟩ := head_of_own hown
    have hlp := hp.length
    have ev : a.eval x = .slice B 0 cap := by
      have := hm.val x
      rw [hx] at this
      simp only [Rep] at this
      rw [hv1, hlp] at this
      exact (Option.some.inj this).symm
    refine wpIn_value (hrunc _ w ?_ ev) (hK _ ρ _ ((hm.same0 fun j => ?_).mono fun i h => .inl h) (by simp [Rep]))
    · have hmin : Nat.min 0 0 = 0 := rfl
      cases A <;> cases B <;> simp [Builtin.copy_, run_underlying hte, Builtin.lenOf, Builtin.firstCells, sizeOf, typeInfo, i1, loadCells, loadCellsFrom, storeCells, hmin]
    · by_cases hj : j = id
      · subst hj; rw [hob]; simp [AS.obj, AS.upd, find]
      · simp [AS.obj, AS.upd, find, Ne.symm hj]
  · have hnf : news.flatten.length = rows2.length * s := by rw [flatten_len k2, k4]
    obtain ⟨g, cap, cur, hg, hcl, hh, hfit, hm'⟩ := hm.turnRow (rows' := rows2) hob (us := news.flatten) (q := 0) (fun u hu => by
        obtain ⟨r, hr, hu'⟩ := List.mem_flatten.1 hu
        exact k3 r hr u hu') hpos fun vals hp hs' h1 => by
      have hlp := hp.length
      refine ⟨by rw [hnf, hlp, hle]; omega, news, k1, by omega, k2, k3, ?_⟩
      unfold splice
      rw [List.take_zero, List.nil_append, List.drop_eq_nil_of_le, List.append_nil]
      rw [flatten_len hs', Nat.zero_add, hnf]
      rw [hlp, hle]
      exact Nat.le_refl _
    have ev : a.eval x = .slice (some ⟨g, 0, none⟩) rows.length cap := by
      have := hm.val x
      rw [hx] at this
      simp only [Rep] at this
      rw [hg] at this
      exact (Option.some.inj this).symm
    have hst := run_storeCells_at (P := P) g 0 e news.flatten 0 cur w hh (by simpa using hfit) (fun u hu => by
        obtain ⟨r, hr, hu'⟩ := List.mem_flatten.1 hu
        exact k3 r hr u hu')
    simp only [Nat.add_zero] at hst
    obtain ⟨ad, rfl, -, hcell⟩ := k5.2 (by omega)
    have hl := run_loadCells_list (P := P) w ad news.flatten hcell
    have hmin : Nat.min rows2.length rows.length = rows.length := by rw [hle]; exact Nat.min_self _
    refine wpIn_value (hrunc _ _ ?_ ev) (hK _ ρ _ (hm'.mono fun i h => .inl h) (by simp [Rep]))
    have hsz : xi.size = s := by rw [i4, hs]
    rw [hnf, hle] at hl
    have hmain : (Builtin.copy_ #[t, u] o.type #[.slice (some ⟨g, 0, none⟩) rows.length cap, .slice (some ad) rows2.length cp]).run P w = .ok (goInt rows.length) (w.setRow g (cur.toList.take 0 ++ news.flatten ++ cur.toList.drop (0 + news.flatten.length)).toArray) := by
      simp [Builtin.copy_, run_underlying hte, Builtin.lenOf, Builtin.firstCells, sizeOf, typeInfo, i1, hmin, hsz, hl, hst, -List.length_flatten]
    exact hmain

/-- an array: how many elements, of which size. -/
def arrOf (P : Program) (t : TypeId) : Option (Nat × Nat) := match P.underlying t with
  | some (.array n e) => (P.info? e).map fun i => (n, i.size)
  | _ => none
theorem arrOf_spec {P : Program} {t : TypeId} {n s : Nat} (h : arrOf P t = some (n, s)) : ∃ e xi, P.underlying t = some (.array n e) ∧ P.info? e = some xi ∧ xi.size = s := by
  unfold arrOf at h
  split at h
  · next n' e hu =>
    cases hi : P.info? e with
    | none => rw [hi] at h; simp at h
    | some xi => rw [hi] at h; simp at h; exact ⟨e, xi, by rw [hu, h.1], hi, h.2⟩
  · cases h
/-- an array's element. -/
theorem does_indexArr {P : Program} {o : Oper} {S : AS} {n : Nat} {t : TypeId} {x y : Operand} {m es : Nat} {id s k j : Nat} {t' : TypeId} {l : List AV} {kd : IntKind} {q : Int} (ho : o.op = .indexAddr t x y) (ha : arrOf P t = some (m, es)) (hx : (S.val x).loc = some (id, s, k, j)) (hob : S.obj id = some (.cells t' l))
    (hy : S.val y = .raw (.int kd q)) (h0 : 0 ≤ q) (h1 : q < m) : DoesAt P o S n ⟨.ptr id s k (j + q.toNat * es), [], [id]⟩ :=
  does_pure rfl fun c p ρ a w hm => by
    obtain ⟨g, cs, hg, hpt, -, -, -⟩ := hm.at_cells hx hob
    obtain ⟨e, xi, h2, h3, h4⟩ := arrOf_spec ha
    refine ⟨.pointer (some ⟨g, k * s + j + q.toNat * es, none⟩), ?_, ?_⟩
    · unfold execOp
      rw [ho]
      refine run_v ?_
      have hq : 0 ≤ q ∧ q < ((m : Nat) : Int) := ⟨h0, h1⟩
      simp only [hpt, hm.raw hy, Instr.indexAt, asIntOf, Sem.run_bind, Sem.run_pure, Result.andThen_ok, run_underlying h2, Instr.sureAddr, sizeOf, typeInfo, run_program, h3, h4, if_pos hq, add_none]
    · simp only [Rep]
      exact ⟨_, g, 0, hg, .inl rfl, by rw [Nat.zero_add, Nat.add_assoc]⟩
end Go.Proofs.YtblmebjhhanoaaaGreat
/- ENGINE (second) 5D: rows that never turn again; structs whose slices hold nothing; strings; over any program. -/
set_option linter.unusedSimpArgs false
set_option linter.unusedVariables false
namespace Go.Proofs.YtblmebjhhanoaaaGreat
open Go.RowKit

theorem upd_obj (S : AS) (u : List (Nat × Option AO)) (i : Nat) : (S.upd u).obj i = match find u i with | some q => q | none => S.obj i := by
  unfold AS.obj AS.upd
  simp only [find_append]
  cases find u i <;> rfl
/-- two states that tell the same. -/
theorem Mod.same {c : Ctx} {p : Nat → Prop} {ρ : Env} {S S' : AS} {tm : Array Value} {w : World} (h : Mod c p ρ S tm w) (hg : ∀ t, S'.get t = S.get t) (ho : ∀ i, S'.obj i = S.obj i) : Mod c p ρ S' tm w :=
  ⟨h.size, h.base, h.baseR, h.lo, h.dom, fun d => by rw [hg]; exact h.tmps d, fun i o e => h.objs i o ((ho i).symm.trans e), fun i j oi oj x y hne hi hj => h.apart i j oi oj x y hne ((ho i).symm.trans hi) ((ho j).symm.trans hj),
    fun i o x g e => h.old i o x g ((ho i).symm.trans e), h.ro, fun i o x g e => h.rsep i o x g ((ho i).symm.trans e), h.rnew, h.rdf, h.dfr, h.frame⟩
/-! an own row that never turns again -/
def frz (S : AS) : List Nat → List (Nat × Option AO)
  | [] => []
  | i :: l => match S.obj i with
    | some (.row _ s rows) => (i, some (.fro s rows)) :: frz S l
    | _ => frz S l
theorem frz_find {S : AS} {i : Nat} : ∀ {l : List Nat} {q : Option AO}, find (frz S l) i = some q → i ∈ l ∧ ∃ e s rows, S.obj i = some (.row e s rows) ∧ q = some (.fro s rows)
  | [], _, h => by cases h
  | j :: l, q, h => by
    unfold frz at h
    split at h
    · next e s rows ho =>
      simp only [find] at h
      split at h
      · next e1 => subst e1; injection h with h; exact ⟨List.mem_cons_self, e, s, rows, ho, h.symm⟩
      · obtain ⟨h1, h2⟩ := frz_find h; exact ⟨List.mem_cons_of_mem _ h1, h2⟩
    · obtain ⟨h1, h2⟩ := frz_find h; exact ⟨List.mem_cons_of_mem _ h1, h2⟩
theorem OwnAt.frozen {w : World} {R : Frz} {e : TypeId} {s : Nat} {x : Value} {vals : List (List Value)} {rows : List (List PV)} (h : OwnAt w e s x vals) (hp : PRepLL R rows vals) (hs : ∀ r ∈ vals, r.length = s) (h1 : ∀ r ∈ vals, ∀ u ∈ r, u.oneCell' = true) (hR : ∀ g, oblk x (.row e s rows) = some g → ∀ o, w.heap[g]? = some o → R g = some o) : PRep R (.sl s rows) x := by
  obtain ⟨A, c, rfl, hc⟩ := head_of_own h
  have hl := hp.length
  simp only [PRep]
  refine ⟨A, c, by rw [hl], by omega, PRows.mk_ fun k r hk => ?_⟩
  obtain ⟨vs, k1, k2⟩ := hp.get hk
  obtain ⟨g, cap, e1, k3⟩ := h.elem hs k1
  injection e1 with e1 _ e3
  subst e1; subst e3
  have hvs := hs vs (List.mem_of_getElem? k1)
  refine ⟨by rw [← k2.length, hvs], g, 0, rfl, PCells.mk_ fun i p hi => ?_⟩
  obtain ⟨u, hu1, hu2⟩ := k2.get hi
  have hil : i < s := by rw [← hvs]; exact (List.getElem?_eq_some_iff.1 hu1).1
  refine ⟨u, ?_, h1 vs (List.mem_of_getElem? k1) u (List.mem_of_getElem? hu1), hu2⟩
  have h4 := k3 i hil
  rw [hu1] at h4
  have hpos : 0 < vals.length := Nat.lt_of_le_of_lt (Nat.zero_le _) (List.getElem?_eq_some_iff.1 k1).1
  have hg : oblk (.slice (some ⟨g, 0, none⟩) vals.length c) (.row e s rows) = some g := by
    obtain ⟨q, rfl⟩ : ∃ q, c = q + 1 := ⟨c - 1, by omega⟩
    rfl
  unfold World.cell? at h4
  unfold rcell
  simp only [Nat.zero_add] at h4 ⊢
  cases ho : w.heap[g]? with
  | none => rw [ho] at h4; cases h4
  | some o =>
    rw [hR g hg o ho]
    rw [ho] at h4
    cases o <;> first | exact h4 | cases h4
theorem Mod.frz1 {c : Ctx} {p : Nat → Prop} {ρ : Env} {S : AS} {tm : Array Value} {w : World} (h : Mod c p ρ S tm w) {id : Nat} {e : TypeId} {s : Nat} {rows : List (List PV)} (ho : S.obj id = some (.row e s rows)) :
    ∃ R', SubR ρ.R R' ∧ Mod c p ⟨ρ.f, R'⟩ (S.upd [(id, some (.fro s rows))]) tm w := by
  obtain ⟨x, hx, vals, h1, h2, h3, h4⟩ := h.objs id _ ho
  have hsub : SubR ρ.R (fun g => if oblk x (.row e s rows) = some g then w.heap[g]? else ρ.R g) := fun g o hg => by
    show (if _ then _ else _) = _
    split
    · next e1 => rw [h.rsep id _ x g ho hx e1] at hg; cases hg
    · exact hg
  have hT : ∀ g, oblk x (.row e s rows) = some g → Touch ρ S [(id, some (.fro s rows))] g := fun g hg => ⟨id, _, x, some (.fro s rows), by simp [find], ho, hx, hg⟩
  refine ⟨_, hsub, h.step [(id, some (.fro s rows))] ⟨fun _ _ h => h, hsub⟩ (fun _ _ => rfl) (fun _ h => h) h.dom rfl rfl rfl (Nat.le_refl _) (fun _ _ _ => rfl) (fun g o hg => ?_) (fun i o hf => ?_) (fun i j oi oj x' y' hne f1 f2 => ?_)⟩
  · have hg : (if oblk x (.row e s rows) = some g then w.heap[g]? else ρ.R g) = some o := hg
    split at hg
    · next e1 =>
      obtain ⟨ob, k1, k2⟩ := (h.touch_lt (hT g e1)).1
      rw [k1] at hg; cases hg
      exact .inr ⟨.inr (hT g e1), k1, k2⟩
    · exact .inl hg
  · simp only [find] at hf
    split at hf
    · next e1 =>
      subst e1
      injection hf with hf
      injection hf with hf
      subst hf
      exact ⟨x, hx, h4.frozen (h1.sub hsub) h2 h3 (fun g hg o hgo => by show (if _ then _ else _) = _; rw [if_pos hg]; exact hgo), fun g hg => by cases hg⟩
    · cases hf
  · simp only [find] at f1 f2
    split at f1
    · split at f2
      · omega
      · cases f2
    · cases f1
theorem frz_obj {S : AS} {l : List Nat} {i : Nat} {e : TypeId} {s : Nat} {rows : List (List PV)} (h : S.obj i = some (.row e s rows)) : (S.upd (frz S l)).obj i = some (.row e s rows) ∨ (S.upd (frz S l)).obj i = some (.fro s rows) := by
  rw [upd_obj]
  cases hf : find (frz S l) i with
  | none => exact .inl h
  | some q =>
    obtain ⟨-, e', s', rows', h1, h2⟩ := frz_find hf
    rw [h] at h1
    injection h1 with h1
    injection h1 with _ h3 h4
    subst h3; subst h4
    exact .inr h2
theorem Mod.frz {c : Ctx} {p : Nat → Prop} {ρ : Env} {S : AS} {tm : Array Value} {w : World} (h : Mod c p ρ S tm w) : ∀ (l : List Nat), ∃ R', SubR ρ.R R' ∧ Mod c p ⟨ρ.f, R'⟩ (S.upd (Go.Proofs.YtblmebjhhanoaaaGreat.frz S l)) tm w
  | [] => ⟨ρ.R, SubR.refl _, h⟩
  | i :: l => by
    obtain ⟨R1, h1, h2⟩ := Mod.frz h l
    unfold Go.Proofs.YtblmebjhhanoaaaGreat.frz
    split
    · next e s rows ho =>
      rcases frz_obj (l := l) ho with h3 | h3
      · obtain ⟨R2, h4, h5⟩ := h2.frz1 h3
        exact ⟨R2, h1.trans h4, h5⟩
      · refine ⟨R1, h1, h2.same (fun _ => rfl) fun j => ?_⟩
        by_cases hj : j = i
        · subst hj
          rw [h3, upd_obj]
          simp [find]
        · rw [upd_obj, upd_obj]
          simp only [find]
          rw [if_neg (Ne.symm hj)]
    · exact ⟨R1, h1, h2⟩
theorem frz_congr {S S' : AS} : ∀ {l : List Nat}, (∀ i ∈ l, S'.obj i = S.obj i) → frz S' l = frz S l
  | [], _ => rfl
  | i :: l, h => by
    unfold frz
    rw [h i List.mem_cons_self, frz_congr (fun j hj => h j (List.mem_cons_of_mem _ hj))]
def frzEff (S : AS) (l : List Nat) (E : Eff) : Eff := ⟨E.val, E.objs ++ frz S l, E.reads ++ l⟩
theorem does_frz {P : Program} {o : Oper} {S : AS} {n : Nat} {E : Eff} (l : List Nat) (h : DoesAt P o (S.upd (frz S l)) n E) : DoesAt P o S n (frzEff S l E) := by
  intro rd m0 c p ρ a w hm hn K Q hK
  obtain ⟨R', h1, h2⟩ := hm.frz l
  refine h rd m0 c p ⟨ρ.f, R'⟩ a w h2 hn K Q fun v ρ' w' h3 h4 => hK v ρ' w' ?_ h4
  have e1 : (S.upd (frz S l)).upd E.objs = S.upd (frzEff S l E).objs := by simp [AS.upd, frzEff]
  rw [← e1]
  exact h3

/-! slices within structs that hold nothing yet -/
def rowsT (P : Program) : Nat → TypeId → List (Option (Nat × Nat))
  | 0, _ => []
  | k + 1, t => match tyI P t with
    | some i => if i.kind = 1 then [some (i.elem, match tyI P i.elem with | some ie => ie.size | none => 0)]
      else if i.kind = 3 then (List.range i.places.length).flatMap fun f => match fieldT P t f with | some u => rowsT P k u | none => []
      else List.replicate i.size none
    | none => []
def rowsTy (P : Program) (t : TypeId) : List (Option (Nat × Nat)) := if (rowsT P 8 t).any Option.isSome = true then rowsT P 8 t else []
def isNilA : AV → Bool
  | .raw (.slice none 0 0) => true
  | _ => false
theorem isNilA_eq {a : AV} (h : isNilA a = true) : a = .raw (.slice none 0 0) := by
  unfold isNilA at h
  split at h
  · rfl
  · cases h
def nilL (n : Nat) : Nat → List AV → List (Option (Nat × Nat)) → List AV
  | _, [], _ => []
  | _, a :: l, [] => a :: l
  | j, a :: l, some _ :: ts => if isNilA a = true then .hdr (8 * n + j) :: nilL n (j + 1) l ts else a :: nilL n j l ts
  | j, a :: l, none :: ts => a :: nilL n j l ts
def nilT : List AV → List (Option (Nat × Nat)) → List (Nat × Nat)
  | [], _ => []
  | _ :: _, [] => []
  | a :: l, some q :: ts => if isNilA a = true then q :: nilT l ts else nilT l ts
  | _ :: l, none :: ts => nilT l ts
def nilO (n : Nat) : Nat → List (Nat × Nat) → List (Nat × Option AO)
  | _, [] => []
  | j, (e, s) :: l => nilO n (j + 1) l ++ [(8 * n + j, some (.row e s []))]
theorem Mod.nils {c : Ctx} {p : Nat → Prop} {tm : Array Value} {w : World} (n : Nat) (hn0 : n ≠ 0) (hp : ∀ i, i / 8 = n → p i) : ∀ (l : List (Nat × Nat)) (j : Nat) (ρ : Env) (S : AS), Mod c p ρ S tm w → (∀ q, j ≤ q → q < 8 → ρ.f (8 * n + q) = none) → j + l.length ≤ 8 →
    ∃ ρ', ExtE ρ ρ' ∧ (∀ q, j ≤ q → q < j + l.length → ρ'.f (8 * n + q) = some (.slice none 0 0)) ∧ (∀ k, k < 8 * n + j → ρ'.f k = ρ.f k) ∧ Mod c p ρ' (S.upd (nilO n j l)) tm w
  | [], j, ρ, S, hm, _, _ => ⟨ρ, ExtE.refl _, fun q h1 h2 => by simp at h2; omega, fun _ _ => rfl, hm⟩
  | (e, s) :: l, j, ρ, S, hm, hf, hl => by
    simp only [List.length_cons] at hl
    have hk : ρ.f (8 * n + j) = none := hf j (Nat.le_refl _) (by omega)
    have h1 := hm.add (p' := p) (w' := w) hk (by omega) (fun i h => h) (hp _ (by omega)) (x := .slice none 0 0) (o := .row e s []) rfl (.inl rfl) (fun ρ' he => ⟨[], by simp [PRepLL], by simp, by simp, .inl ⟨rfl, none, rfl⟩⟩) (fun g hg => by cases hg)
    have hw : ∀ k, k ≠ 8 * n + j → (ρ.with (8 * n + j) (.slice none 0 0)).f k = ρ.f k := fun k h => by
      show (if _ then _ else _) = _
      rw [if_neg h]
    obtain ⟨ρ', k1, k2, k3, k4⟩ := Mod.nils n hn0 hp l (j + 1) _ _ h1 (fun q a b => by rw [hw _ (by omega)]; exact hf q (by omega) b) (by omega)
    refine ⟨ρ', (ext_with hk).trans k1, fun q a b => ?_, fun k h => ?_, ?_⟩
    · simp only [List.length_cons] at b
      by_cases hq : q = j
      · subst hq
        rw [k3 _ (by omega)]
        exact with_self ..
      · exact k2 q (by omega) (by omega)
    · rw [k3 k (by omega), hw k (by omega)]
    · have e1 : (S.upd [(8 * n + j, some (.row e s []))]).upd (nilO n (j + 1) l) = S.upd (nilO n j ((e, s) :: l)) := by simp [AS.upd, nilO]
      rw [← e1]
      exact k4
theorem nilL_rep (n : Nat) {ρ ρ' : Env} (he : ExtE ρ ρ') : ∀ (j : Nat) (l : List AV) (ts : List (Option (Nat × Nat))) (cs : List Value), RepL ρ l cs → (∀ q, j ≤ q → q < j + (nilT l ts).length → ρ'.f (8 * n + q) = some (.slice none 0 0)) → RepL ρ' (nilL n j l ts) cs
  | _, [], _, _, h, _ => by simpa [nilL] using RepL.ext he _ _ h
  | _, a :: l, [], _, h, _ => by simpa [nilL] using RepL.ext he _ _ h
  | _, a :: l, _ :: _, [], h, _ => by simp [RepL] at h
  | j, a :: l, some q :: ts, v :: cs, h, hq => by
    simp only [RepL] at h
    simp only [nilL, nilT] at hq ⊢
    split
    · next hn =>
      rw [if_pos hn] at hq
      obtain rfl := isNilA_eq hn
      have hv : v = .slice none 0 0 := by simpa [Rep] using h.1
      simp only [RepL]
      refine ⟨by simp only [Rep]; rw [hv]; exact hq j (Nat.le_refl _) (by simp), nilL_rep n he (j + 1) l ts cs h.2 fun q a b => hq q (by omega) (by simp; omega)⟩
    · next hn =>
      rw [if_neg hn] at hq
      simp only [RepL]
      exact ⟨Rep.ext he _ _ h.1, nilL_rep n he j l ts cs h.2 hq⟩
  | j, a :: l, none :: ts, v :: cs, h, hq => by
    simp only [RepL] at h
    simp only [nilL, nilT] at hq ⊢
    simp only [RepL]
    exact ⟨Rep.ext he _ _ h.1, nilL_rep n he j l ts cs h.2 hq⟩
theorem does_buildN {P : Program} {o : Oper} {S : AS} {n : Nat} {t : TypeId} {i : TI} {parts : List (Nat × Operand)} {l : List AV} (ts : List (Option (Nat × Nat))) (ho : o.op = .build t parts.toArray) (hi : tyI P t = some i) (hk : i.kind = 2 ∨ i.kind = 3) (hpos : ∀ q ∈ i.places, 0 < q.2) (h1 : ∀ u ∈ i.zero, u.oneCell' = true)
    (hf : fillA i.place (i.zero.map .raw) (parts.map fun q => (q.1, S.val q.2)) = some l) (h8 : (nilT l ts).length < 8) : DoesAt P o S n ⟨.agg (nilL n 0 l ts), nilO n 0 (nilT l ts), []⟩ := by
  intro rd m0 c p ρ a w hm hn K Q hK
  obtain ⟨cs', h2, h3, h4⟩ := fill_sound hm i.place parts _ l i.zero (RepL.raws _) h1 hf
  have hr : (execOp a.eval o).run P w = .ok (.value (.agg cs'.toArray)) w := by
    unfold execOp
    rw [ho]
    refine run_v ?_
    have := tyI_built hi hk hpos _ _ h2
    exact run_build (P := P) w t (parts.toArray.map fun (q : Nat × Operand) => (q.1, a.eval q.2)) cs'.toArray (by simpa using this)
  obtain ⟨ρ', he, k1, -, hm'⟩ := Mod.nils n (hm.n0 hn) (fun i h => .inr h) (nilT l ts) 0 ρ S (hm.mono (p' := fun i => p i ∨ i / 8 = n) fun i h => .inl h) (fun q _ hq => hm.fresh hn (by omega)) (by omega)
  refine wpIn_value hr ?_
  exact hK _ ρ' _ hm' (by simp only [Rep]; exact ⟨cs', rfl, nilL_rep n he 0 l ts cs' h3 k1⟩)
theorem does_allocN {P : Program} {o : Oper} {S : AS} {n : Nat} {t : TypeId} {i : TI} (ts : List (Option (Nat × Nat))) (ho : o.op = .alloc t) (hi : tyI P t = some i) (h1 : ∀ u ∈ i.zero, u.oneCell' = true) (h8 : (nilT (i.zero.map .raw) ts).length < 7) :
    DoesAt P o S n ⟨.hdr (8 * n), (8 * n, some (.cells t (nilL n 1 (i.zero.map .raw) ts))) :: nilO n 1 (nilT (i.zero.map .raw) ts), []⟩ := by
  intro rd m0 c p ρ a w hm hn K Q hK
  obtain ⟨x, d, z, e1, e2, e3, e4, e5, e6, e7⟩ := tyI_spec hi
  have hz : z.cells = i.zero.toArray := by rw [← e7]
  have hn0 := hm.n0 hn
  obtain ⟨ρ1, he, k1, k2, hm1⟩ := Mod.nils n hn0 (fun i h => .inr h) (nilT (i.zero.map .raw) ts) 1 ρ S (hm.mono (p' := fun i => p i ∨ i / 8 = n) fun i h => .inl h) (fun q _ hq => hm.fresh hn (by omega)) (by omega)
  have hfr : ρ1.f (8 * n) = none := by rw [k2 _ (by omega)]; exact hm.fresh hn (by omega)
  have h2 := hm1.add (p' := fun i => p i ∨ i / 8 = n) hfr (by omega) (fun i h => h) (.inr (by omega)) (x := .pointer (some ⟨w.heap.size, 0, none⟩)) (o := .cells t (nilL n 1 (i.zero.map .raw) ts)) rfl (.inr ⟨.cells i.zero.toArray t, rfl⟩)
    (obj_cells (nilL_rep n he 1 _ ts _ (RepL.raws _) k1) h1) (fun g hg => by simp [oblk, blkOf] at hg; omega)
  have hr : (execOp a.eval o).run P w = .ok (.value (.pointer (some ⟨w.heap.size, 0, none⟩))) (w.alloc (.cells i.zero.toArray t)) := by
    simp [execOp, ho, Instr.alloc, newVar, newRow, zeroValue, typeInfo, e1, e3, hz]
  refine wpIn_value hr ?_
  exact hK _ _ _ h2 (by simp only [Rep]; exact with_self ..)

/-! strings, and the smaller numbers -/
/-- a byte of a text. -/
def byteAt (s : ByteArray) (q : Nat) : Int := ((s.data.toList.getD q 0).toNat : Int)
theorem does_strIdx {P : Program} {o : Oper} {S : AS} {n : Nat} {t : TypeId} {x y : Operand} {s : ByteArray} {kd : IntKind} {q : Int} (ho : o.op = .index t x y) (ht : P.underlying t = some .string) (hx : S.val x = .raw (.string s)) (hy : S.val y = .raw (.int kd q)) (h0 : 0 ≤ q) (h1 : q < s.size) : DoesAt P o S n ⟨.raw (.int .u8 (byteAt s q.toNat)), [], []⟩ :=
  does_pure rfl fun c p ρ a w hm => ⟨_, by
    unfold execOp; rw [ho]
    refine run_v (v := .int .u8 (byteAt s q.toNat)) ?_
    have hq : q.toNat < s.size := by omega
    have e1 : s[q.toNat]? = some s[q.toNat] := getElem?_pos s q.toNat hq
    have e2 : byteAt s q.toNat = (s[q.toNat].toNat : Int) := by
      unfold byteAt
      have : s.data.toList.getD q.toNat 0 = s[q.toNat] := by
        rw [List.getD_eq_getElem?_getD, List.getElem?_eq_getElem (by simpa using hq)]
        rfl
      rw [this]
    simp [Instr.index, asIntOf, hm.raw hx, hm.raw hy, run_underlying ht, h0, e1, e2], by simp [Rep]⟩
theorem does_strLen {P : Program} {o : Oper} {S : AS} {n : Nat} {x : Operand} {t : TypeId} {s : ByteArray} (ho : o.op = .call { callee := .builtin .len, args := #[x], argTypes := #[t] }) (ht : P.underlying t = some .string) (hx : S.val x = .raw (.string s)) : DoesAt P o S n ⟨.raw (.int .i64 s.size), [], []⟩ :=
  does_pure rfl fun c p ρ a w hm => ⟨.int .i64 s.size, by
    unfold execOp
    rw [ho]
    simp only [resolve, Sem.run_bind, Sem.run_pure, Result.andThen_ok, invoke, builtin]
    have := run_len_string (P := P) (w := w) t o.type s ht
    simp [hm.raw hx, this, goInt], by simp [Rep]⟩
theorem does_strCat {P : Program} {o : Oper} {S : AS} {n : Nat} {x y : Operand} {t u : TypeId} {a b : ByteArray} (ho : o.op = .binOp .add t x y u) (hx : S.val x = .raw (.string a)) (hy : S.val y = .raw (.string b)) (hl : a.size + b.size ≤ 9223372036854775807) : DoesAt P o S n ⟨.raw (.string (a ++ b)), [], []⟩ :=
  does_pure rfl fun c p ρ ac w hm => ⟨_, by
    unfold execOp; rw [ho]
    refine run_v (v := .string (a ++ b)) ?_
    have h1 : ¬ (((a.size + b.size : Nat) : Int) > IntKind.i64.max) := by
      have : IntKind.i64.max = 9223372036854775807 := rfl
      omega
    simp only [hm.raw hx, hm.raw hy, eqGuard, binOp, Op.stringOp]
    rw [if_neg h1]
    simp, by simp [Rep]⟩
/-- how numbers are compared. -/
def cmpOp : BinOp → Int → Int → Option Value
  | .eql, a, b => some (.bool (decide (a = b)))
  | .neq, a, b => some (.bool (!decide (a = b)))
  | .lss, a, b => some (.bool (decide (a < b)))
  | .leq, a, b => some (.bool (decide (a ≤ b)))
  | .gtr, a, b => some (.bool (decide (b < a)))
  | .geq, a, b => some (.bool (decide (b ≤ a)))
  | _, _, _ => none
theorem does_cmp {P : Program} {o : Oper} {S : AS} {n : Nat} {op : BinOp} {x y : Operand} {t u : TypeId} {kd : IntKind} {k l : Int} {v : Value} (ho : o.op = .binOp op t x y u) (hx : S.val x = .raw (.int kd k)) (hy : S.val y = .raw (.int kd l)) (hv : cmpOp op k l = some v) : DoesAt P o S n ⟨.raw v, [], []⟩ :=
  does_pure rfl fun c p ρ a w hm => ⟨v, by
    unfold execOp; rw [ho]
    refine run_v ?_
    have e1 := hm.raw hx
    have e2 := hm.raw hy
    cases op <;> simp only [cmpOp, Option.some.injEq, reduceCtorEq] at hv <;> subst hv
    · simp [e1, e2, eqGuard, binOp, Op.intCmp]; rfl
    · simp [e1, e2, eqGuard, binOp, Op.intCmp]; rfl
    · simp [e1, e2, eqGuard, binOp, Op.intCmp]
    · simp [e1, e2, eqGuard, binOp, Op.intCmp]
    · simp [e1, e2, eqGuard, binOp, Op.intCmp]
    · simp [e1, e2, eqGuard, binOp, Op.intCmp], by simp [Rep]⟩
theorem does_sub8 {P : Program} {o : Oper} {S : AS} {n : Nat} {x y : Operand} {t u : TypeId} {k l : Int} (ho : o.op = .binOp .sub t x y u) (hx : S.val x = .raw (.int .u8 k)) (hy : S.val y = .raw (.int .u8 l)) (h : 0 ≤ k - l ∧ k - l ≤ 255) : DoesAt P o S n ⟨.raw (.int .u8 (k - l)), [], []⟩ :=
  does_pure rfl fun c p ρ a w hm => ⟨.int .u8 (k - l), by
    unfold execOp; rw [ho]
    refine run_v ?_
    have e3 : IntKind.u8.wrap (k - l) = k - l := by
      rw [IntKind.wrap_u8]
      omega
    simp [hm.raw hx, hm.raw hy, eqGuard, binOp, Op.intArith, e3], by simp [Rep]⟩
theorem does_byteStr {P : Program} {o : Oper} {S : AS} {n : Nat} {x : Operand} {t u : TypeId} {i : TI} {v : AV} {c : Int} (ho : o.op = .convert t u x) (hi : tyI P t = some i) (hk : i.kind = 1) (he : P.underlying i.elem = some (.int .u8)) (hu : P.underlying u = some .string) (hx : S.val x = v) (hr : S.rowsOf v = some (1, [[.raw (.int .u8 c)]])) : DoesAt P o S n ⟨.raw (.string (ByteArray.empty.push (UInt8.ofNat c.toNat))), [], v.ids⟩ :=
  does_pure rfl fun cx p ρ a w hm => ⟨_, by
    obtain ⟨A, cp, e2, -, hel⟩ := hm.slice hr (u := a.eval x) (by rw [← hx]; exact hm.val x)
    obtain ⟨b, off, vs, rfl, he1⟩ := hel 0 _ rfl
    have h1 := he1.cell 0 (by omega)
    obtain ⟨v0, h2, h3⟩ := he1.rep.get (i := 0) (p := .raw (.int .u8 c)) rfl
    simp only [PRep] at h3
    subst h3
    rw [h2] at h1
    have hl : (loadCells ⟨b, off, none⟩ 1).run P w = .ok #[.int .u8 c] w := by
      have := run_loadCells_list (P := P) (w := w) ⟨b, off, none⟩ [.int .u8 c] (fun j v hj => by
        match j with
        | 0 => simp at hj; subst hj; simpa [Addr.add] using h1
        | j + 1 => simp at hj)
      simpa using this
    unfold execOp; rw [ho]
    refine run_v (v := .string (ByteArray.empty.push (UInt8.ofNat c.toNat))) ?_
    rw [e2, run_convert_bytes_string w t u i.elem _ _ _ (tyI_slice hi hk) he hu]
    have := run_bytesToString (P := P) w ⟨b, off, none⟩ 1 cp [c] (by simpa using hl)
    simpa using this, by simp [Rep]⟩
/-! an array's element -/
def plainD : TypeDesc → Bool
  | .struct _ => false
  | .array _ _ => false
  | _ => true
theorem run_partP {P : Program} {w : World} {t : TypeId} {cs : Array Value} {k : Nat} {v : Value} {d : TypeDesc} (ht : P.underlying t = some d) (hd : plainD d = true) (hv : cs[k]? = some v) : (part t cs k).run P w = .ok v w := by
  have hagg : (isAgg t).run P w = .ok false w := by
    unfold isAgg
    rw [Sem.run_bind, run_underlying ht w]
    cases d <;> first | rfl | simp [plainD] at hd
  unfold part
  rw [Sem.run_bind, hagg]
  simp [hv]
theorem does_arrIdx {P : Program} {o : Oper} {S : AS} {n : Nat} {t e : TypeId} {x y : Operand} {m : Nat} {d : TypeDesc} {l : List AV} {v : AV} {kd : IntKind} {q : Int} (ho : o.op = .index t x y) (ht : P.underlying t = some (.array m e)) (hsz : (P.info? e).map (fun xi => xi.size) = some 1) (hu : P.underlying e = some d) (hd : plainD d = true) (hx : S.val x = .agg l) (hy : S.val y = .raw (.int kd q)) (h0 : 0 ≤ q) (hq : q < m) (hv : l[q.toNat]? = some v) : DoesAt P o S n ⟨v, [], []⟩ :=
  does_pure rfl fun c p ρ a w hm => by
    obtain ⟨xi, hi, h1⟩ : ∃ xi, P.info? e = some xi ∧ xi.size = 1 := by
      cases q : P.info? e with
      | none => rw [q] at hsz; cases hsz
      | some xi => rw [q] at hsz; exact ⟨xi, rfl, by simpa using hsz⟩
    have h := hm.val x
    rw [hx] at h
    simp only [Rep] at h
    obtain ⟨cs, e1, hr⟩ := h
    obtain ⟨u, h2, h3⟩ := RepL.get q.toNat hr hv
    refine ⟨u, ?_, h3⟩
    unfold execOp
    rw [ho]
    refine run_v ?_
    have hp : (part e cs.toArray (q.toNat * 1)).run P w = .ok u w := run_partP hu hd (by simpa using h2)
    have hq2 : 0 ≤ q ∧ q < ((m : Nat) : Int) := ⟨h0, hq⟩
    simp only [Instr.index, asIntOf, hm.raw hy, e1, Sem.run_bind, Sem.run_pure, Result.andThen_ok, run_underlying ht, if_pos hq2, sizeOf, typeInfo, run_program, hi, h1, hp]
/-- an array's value whose elements are one cell each. -/
def arrV (P : Program) (t : TypeId) : Option Nat := match P.underlying t with
  | some (.array m e) => match P.info? e, P.underlying e with
    | some xi, some d => if (xi.size == 1 && plainD d) = true then some m else none
    | _, _ => none
  | _ => none
theorem arrV_spec {P : Program} {t : TypeId} {m : Nat} (h : arrV P t = some m) : ∃ e d, P.underlying t = some (.array m e) ∧ (P.info? e).map (fun xi => xi.size) = some 1 ∧ P.underlying e = some d ∧ plainD d = true := by
  unfold arrV at h
  split at h
  · next m' e he =>
    split at h
    · next xi d h1 h2 =>
      split at h
      · next h3 =>
        injection h with h
        subst h
        rw [Bool.and_eq_true, beq_iff_eq] at h3
        exact ⟨e, d, he, by rw [h1]; simp [h3.1], h2, h3.2⟩
      · cases h
    · cases h
  · cases h
end Go.Proofs.YtblmebjhhanoaaaGreat
