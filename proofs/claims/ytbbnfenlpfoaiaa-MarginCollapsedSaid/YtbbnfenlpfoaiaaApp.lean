/- MEMORY: an append to an own row inside a region that draws its order: the class of worlds in which it may stand. No program in sight. -/
import Derived.Test.YtbbnfenlpfoaiaaMem3
namespace Go.Proofs.Ytbbnfenlpfoaiaa
open Go.RowKit

theorem take_over {cur news : List Value} {k : Nat} (h : k + news.length ≤ cur.length) :
    (cur.take k ++ news ++ cur.drop (k + news.length)).take k ++ news ++ (cur.take k ++ news ++ cur.drop (k + news.length)).drop (k + news.length) = cur.take k ++ news ++ cur.drop (k + news.length) := by
  have h1 : (cur.take k).length = k := by rw [List.length_take]; omega
  have h2 : (cur.take k ++ news).length = k + news.length := by rw [List.length_append, h1]
  have e1 : (cur.take k ++ news ++ cur.drop (k + news.length)).take k = cur.take k := by
    rw [List.append_assoc]; exact List.take_left' h1
  have e2 : (cur.take k ++ news ++ cur.drop (k + news.length)).drop (k + news.length) = cur.drop (k + news.length) := List.drop_left' h2
  rw [e1, e2]

/-- a step that makes new blocks, and may turn blocks of the type T that are not the caller's into z; but for one block. -/
def TameBut (own : Option Nat) (T : TypeId) (z : Array Value) (w0 w w' : World) : Prop :=
  w'.os = w.os ∧ w'.tape = w.tape ∧ w'.output = w.output ∧ w.heap.size ≤ w'.heap.size ∧
    ∀ g, g < w.heap.size → some g ≠ own → w'.heap[g]? = w.heap[g]? ∨ (w0.heap.size ≤ g ∧ (∃ cs, Blk w g T cs ∧ cs.size = z.size) ∧ Blk w' g T z)
theorem TameBut.of_grown {own : Option Nat} {T : TypeId} {z : Array Value} {w0 w w' : World} (h : w.grownBy w' own) : TameBut own T z w0 w w' := ⟨h.os, h.tape, h.output, h.size, fun g hg hn => .inl (h.block g hg hn)⟩
theorem TameBut.of_below {own : Option Nat} {T : TypeId} {z : Array Value} {w0 w w' : World} (h : Below w.heap.size w w') : TameBut own T z w0 w w' := TameBut.of_grown (only_of_below h own)
theorem TameBut.weak {own : Option Nat} {T : TypeId} {z : Array Value} {w0 w w' : World} (h : TameBut none T z w0 w w') : TameBut own T z w0 w w' := ⟨h.1, h.2.1, h.2.2.1, h.2.2.2.1, fun g hg _ => h.2.2.2.2 g hg (by simp)⟩
theorem TameBut.old {own : Option Nat} {T : TypeId} {z : Array Value} {w0 w w' : World} (h : w0.grownBy w own) (k : TameBut own T z w0 w w') : w0.grownBy w' own :=
  ⟨k.1.trans h.os, k.2.1.trans h.tape, k.2.2.1.trans h.output, Nat.le_trans h.size k.2.2.2.1, fun g hg hn => by
    rcases k.2.2.2.2 g (Nat.lt_of_lt_of_le hg h.size) hn with h1 | ⟨h1, -⟩
    · exact h1.trans (h.block g hg hn)
    · omega⟩
theorem TameBut.blk {own : Option Nat} {T t : TypeId} {z cs : Array Value} {w0 w w' : World} {g : Nat} (k : TameBut own T z w0 w w') (h : Blk w g t cs) (hT : t ≠ T) (hn : some g ≠ own) : Blk w' g t cs := by
  rcases k.2.2.2.2 g h.lt hn with h1 | ⟨-, ⟨cs', h2, -⟩, -⟩
  · exact h1.trans h
  · exact absurd ((h.symm.trans h2)) (fun e => hT (by injection e with e; injection e))
theorem TameBut.own {own : Option Nat} {T e : TypeId} {z : Array Value} {w0 w w' : World} {base size n : Nat} {v : Value} {xs : List Value} (k : TameBut own T z w0 w w') (h : w.ownsRow base e size v n xs) (hT : e ≠ T) (hn : v.ownBlock = none ∨ v.ownBlock ≠ own) : w'.ownsRow base e size v n xs := by
  refine ⟨h.1, ?_⟩
  rcases h.2 with h0 | ⟨g, cap, cur, rfl, hb, hg, rest⟩
  · exact .inl h0
  · exact .inr ⟨g, cap, cur, rfl, hb, k.blk (g := g) hg hT (by simpa [Value.ownBlock] using hn), rest⟩
/-- a store into such a block. -/
theorem TameBut.set {own : Option Nat} {T : TypeId} {z cs : Array Value} {w0 w w' : World} {g : Nat} (h : Blk w g T cs) (hz : cs.size = z.size) (h0 : w0.heap.size ≤ g) (hk : w.grownBy w' (some g)) (h1 : Blk w' g T z) : TameBut own T z w0 w w' :=
  ⟨hk.os, hk.tape, hk.output, hk.size, fun g' hg' _ => by
    by_cases e : g' = g
    · subst e; exact .inr ⟨h0, ⟨cs, h, hz⟩, h1⟩
    · exact .inl (hk.block g' hg' (fun e2 => e (by injection e2)))⟩

/-- what holds of an append to the own row v, whatever else of a region ran before it: C: the worlds it may meet; E: how a step of the region turns one into the next; V: what it yields. -/
structure AppendIn (P : Program) (t ty e : TypeId) (base size : Nat) (v : Value) (n : Nat) (xs : List Value) (m : Nat) (news : List Value) (T : TypeId) (z : Array Value) (w0 : World) (C : World → Prop) (E : World → World → Prop) (V : Value → World → Prop) : Prop where
  start : C w0.drew
  refl : ∀ w, E w w
  more : ∀ w w', C w → TameBut none T z w0 w w' → C w' ∧ E w w'
  since : ∀ w, C w → w0.grownBy w v.ownBlock
  old : ∀ g, v.ownBlock = some g → g < w0.heap.size
  typed : ∀ w, C w → ∀ g, v.ownBlock = some g → ∃ cs, Blk w g e cs
  step : ∀ w w', E w w' → TameBut v.ownBlock T z w0 w w'
  stays : ∀ u w w', V u w → E w w' → V u w'
  owns : ∀ u w, V u w → w.ownsRow base e size u (n + m) (xs ++ news)
  lies : ∀ u w, V u w → u.ownBlock = v.ownBlock ∨ ∃ g, u.ownBlock = some g ∧ w0.heap.size ≤ g
  run : ∀ w a c, C w → (∀ j u, news[j]? = some u → w.cell? (a.add j) = some u) → ∃ u w', (Builtin.append_ #[t, t] ty #[v, .slice (some a) m c]).run P w = .ok u w' ∧ V u w' ∧ C w' ∧ E w w'

theorem append_in {P : Program} (base : Nat) (t ty e : TypeId) (i : TypeInfo) (z : Value) (size bytes : Nat) (ht : P.underlying t = some (.slice e)) (hi : P.info? e = some i) (hz : i.zero = some z)
    (hsize : i.size = size) (hby : i.bytes = bytes) (hzs : z.cells.size = size) (hsz : 0 < size) (w0 : World) (T : TypeId) (zT : Array Value) (hT : e ≠ T)
    (v : Value) (n : Nat) (xs : List Value) (hown : w0.ownsRow base e size v n xs) (m : Nat) (news : List Value) (hm : 0 < m) (hl : news.length = m * size) (h1 : ∀ u ∈ news, u.oneCell' = true)
    (h63 : n + m ≤ maxLen) (hbytes : (n + m) * bytes ≤ 140737488355328) (hbase : base ≤ w0.heap.size) :
    ∃ C E V, AppendIn P t ty e base size v n xs m news T zT w0 C E V := by
  have hsmall : n + m ≤ 9223372036854775807 := by simp only [maxLen] at h63; omega
  -- a fresh row
  have fresh : (∀ w a c, w0.grownBy w none → (∀ j u, news[j]? = some u → w.cell? (a.add j) = some u) → ∃ u w', (Builtin.append_ #[t, t] ty #[v, .slice (some a) m c]).run P w = .ok u w' ∧
      w'.ownsRow base e size u (n + m) (xs ++ news) ∧ Below w.heap.size w w' ∧ u.ownBlock = some w.heap.size) → ∃ C E V, AppendIn P t ty e base size v n xs m news T zT w0 C E V := by
    intro hrun
    refine ⟨fun w => w0.grownBy w none, fun w w' => TameBut none T zT w0 w w', fun u w => w.ownsRow base e size u (n + m) (xs ++ news) ∧ ∃ g, u.ownBlock = some g ∧ w0.heap.size ≤ g, ?_⟩
    refine ⟨only_drew (World.grownBy.refl _ _), fun w => TameBut.of_below (Below.refl _ _), fun w w' hC hb => ⟨hb.old hC, hb⟩, fun w hC => ⟨hC.os, hC.tape, hC.output, hC.size, fun k hk _ => hC.block k hk (by simp)⟩, fun g hg => (hown.lt g hg).2, ?_, fun w w' hE => hE.weak, ?_, fun u w h => h.1, fun u w h => .inr h.2, ?_⟩
    · intro w hC g hg
      rcases hown.2 with ⟨rfl, -⟩ | ⟨g', cap, cur, rfl, -, hgg, -⟩
      · simp [Value.ownBlock] at hg
      · simp [Value.ownBlock] at hg
        subst hg
        exact ⟨cur, (hC.block g' (Array.getElem?_eq_some_iff.1 hgg).1 (by simp)).trans hgg⟩
    · rintro u w w' ⟨h, hg⟩ hE
      exact ⟨hE.own h hT (by cases u.ownBlock <;> simp), hg⟩
    · intro w a c hC hn
      obtain ⟨u, w', hr, ho, hb, hg⟩ := hrun w a c hC hn
      exact ⟨u, w', hr, ⟨ho, _, hg, hC.size⟩, (TameBut.of_below (T := T) (z := zT) hb).old hC, TameBut.of_below hb⟩
  rcases hown.2 with ⟨rfl, rfl⟩ | ⟨g, cap, cur, rfl, hbg, hg, hnc, hcm, hcs, htake⟩
  · refine fresh fun w a c hC hn => ?_
    have ho := hown.kept hC (Classical.em _)
    obtain ⟨u, w', hr, hou, -, -⟩ := run_append_own (P := P) w base t ty e i z size bytes ht hi hz hsize hby hzs hsz _ 0 xs ho a m c news hl hn h1 h63 hbytes (Nat.le_trans hbase hC.size)
    have hr2 := run_append_nil (P := P) w t ty e i z ht hi hz a m c news (by rw [hsize]; exact hl) hn hm (by omega) (by rw [hby]; simp only [Nat.zero_add] at hbytes; omega)
    rw [hr] at hr2
    injection hr2 with e1 e2
    subst e1; subst e2
    exact ⟨_, _, hr, hou, below_step (Below.refl _ _).drew _, rfl⟩
  · by_cases hroom : n + m ≤ cap
    · have hfit : n * size + news.length ≤ cur.size := by rw [hl, hcs, ← Nat.add_mul]; exact Nat.mul_le_mul_right _ hroom
      have hfl : n * size + news.length ≤ cur.toList.length := by rw [Array.length_toList]; exact hfit
      let over := (cur.toList.take (n * size) ++ news ++ cur.toList.drop (n * size + news.length)).toArray
      have hos : over.size = cur.size := by simp only [over, List.size_toArray, List.length_append, List.length_take, List.length_drop, Array.length_toList]; omega
      have hot : (over.toList.take (n * size) ++ news ++ over.toList.drop (n * size + news.length)).toArray = over := by
        simp only [over]; rw [take_over hfl]
      have hgl := (Array.getElem?_eq_some_iff.1 hg).1
      refine ⟨fun w => w0.grownBy w (some g) ∧ (w.heap[g]? = some (.cells cur e (0, 0)) ∨ w.heap[g]? = some (.cells over e (0, 0))),
        fun w w' => TameBut (some g) T zT w0 w w' ∧ (w.heap[g]? = some (.cells over e (0, 0)) → w'.heap[g]? = some (.cells over e (0, 0))),
        fun u w => u = .slice (some ⟨g, 0, none⟩) (n + m) cap ∧ w.heap[g]? = some (.cells over e (0, 0)), ?_⟩
      refine ⟨⟨only_drew (World.grownBy.refl _ _), .inl hg⟩, fun w => ⟨TameBut.of_below (Below.refl _ _), id⟩, ?_, fun w hC => hC.1, fun g hg => (hown.lt g hg).2, ?_, fun w w' hE => hE.1, fun u w w' hV hE => ⟨hV.1, hE.2 hV.2⟩, ?_, fun u w hV => .inl (by rw [hV.1]; rfl), ?_⟩
      · rintro w w' ⟨hC1, hC2⟩ hb
        have hb2 : ∀ cs, w.heap[g]? = some (.cells cs e (0, 0)) → w'.heap[g]? = some (.cells cs e (0, 0)) := fun cs h => hb.blk (g := g) h hT (by simp)
        exact ⟨⟨hb.weak.old hC1, hC2.imp (hb2 _) (hb2 _)⟩, hb.weak, hb2 _⟩
      · rintro w ⟨-, h | h⟩ g' hg'
        · simp [Value.ownBlock] at hg'; subst hg'; exact ⟨cur, h⟩
        · simp [Value.ownBlock] at hg'; subst hg'; exact ⟨over, h⟩
      · rintro u w ⟨rfl, hw⟩
        have hlen : (xs ++ news).length = (n + m) * size := by rw [List.length_append, hown.1, hl, Nat.add_mul]
        refine ⟨hlen, .inr ⟨g, cap, over, rfl, hbg, hw, hroom, hcm, hos.trans hcs, ?_⟩⟩
        simp only [over]
        rw [htake, ← hlen]
        exact List.take_left
      · rintro w a c ⟨hC1, hC2⟩ hn
        have hst : ∀ w : World, w.grownBy (w.setRow g over) (some g) := fun w => ⟨rfl, rfl, rfl, by simp [World.setRow], fun k _ hk => setRow_other w g k _ (fun e => hk (by rw [e]))⟩
        rcases hC2 with h | h
        · have hr := run_append_room (P := P) w t ty e i ht hi g n cap cur h a m c news (by rw [hsize]; exact hl) hn h1 hroom (by rw [hsize]; exact hfit)
          rw [hsize] at hr
          have hh := setRow_heap w g cur over e _ h
          exact ⟨_, _, hr, ⟨rfl, hh⟩, ⟨World.grownBy.trans hC1 (hst w), .inr hh⟩, TameBut.of_grown (hst w), fun _ => hh⟩
        · have hr := run_append_room (P := P) w t ty e i ht hi g n cap over h a m c news (by rw [hsize]; exact hl) hn h1 hroom (by rw [hsize, hos]; exact hfit)
          rw [hsize, hot] at hr
          have hh := setRow_heap w g over over e _ h
          exact ⟨_, _, hr, ⟨rfl, hh⟩, ⟨World.grownBy.trans hC1 (hst w), .inr hh⟩, TameBut.of_grown (hst w), fun _ => hh⟩
    · refine fresh fun w a c hC hn => ?_
      have ho := hown.kept hC (by cases h : Value.ownBlock (.slice (some ⟨g, 0, none⟩) n cap) <;> simp)
      obtain ⟨u, w', hr, hou, -, -⟩ := run_append_own (P := P) w base t ty e i z size bytes ht hi hz hsize hby hzs hsz _ n xs ho a m c news hl hn h1 h63 hbytes (Nat.le_trans hbase hC.size)
      have holds : ∀ j u, xs[j]? = some u → w.cell? ((⟨g, 0, none⟩ : Addr).add j) = some u := ho.cells (g := g) rfl
      have hr2 := run_append_grow (P := P) w t ty e i z ht hi hz ⟨g, 0, none⟩ n cap xs (by rw [hsize]; exact hown.1) holds a m c news (by rw [hsize]; exact hl) hn (by omega) (by omega) (growslice_fits (by omega) (by rw [hby]; exact hbytes))
      rw [hr] at hr2
      injection hr2 with e1 e2
      subst e1; subst e2
      exact ⟨_, _, hr, hou, below_step (Below.refl _ _).drew _, rfl⟩

section
variable {P : Program} {t ty e : TypeId} {base size : Nat} {v : Value} {n : Nat} {xs : List Value} {m : Nat} {news : List Value} {T : TypeId} {z : Array Value} {w0 : World} {C : World → Prop} {E : World → World → Prop} {V : Value → World → Prop} {w w' : World}
theorem blk_far {g g' : Nat} {t t' : TypeId} {cs cs' : Array Value} (h : Blk w g t cs) (h' : Blk w g' t' cs') (ht : t ≠ t') : g ≠ g' := by
  rintro rfl
  exact ht (by have := h.symm.trans h'; injection this with this; injection this)
theorem AppendIn.far (hA : AppendIn P t ty e base size v n xs m news T z w0 C E V) (hC : C w) {g : Nat} {t' : TypeId} {cs : Array Value} (h : Blk w g t' cs) (hg : t' ≠ e ∨ w0.heap.size ≤ g) : some g ≠ v.ownBlock := by
  intro e1
  rcases hg with hg | hg
  · obtain ⟨cs', h'⟩ := hA.typed w hC g e1.symm
    exact blk_far h h' hg rfl
  · have := hA.old g e1.symm; omega
theorem AppendIn.keep_blk (hA : AppendIn P t ty e base size v n xs m news T z w0 C E V) (hC : C w) (hE : E w w') {g : Nat} {t' : TypeId} {cs : Array Value} (h : Blk w g t' cs) (ht : t' ≠ T) (hg : t' ≠ e ∨ w0.heap.size ≤ g) : Blk w' g t' cs :=
  (hA.step w w' hE).blk h ht (hA.far hC h hg)
theorem AppendIn.keep_own (hA : AppendIn P t ty e base size v n xs m news T z w0 C E V) (hC : C w) (hE : E w w') {b s k : Nat} {e' : TypeId} {u : Value} {ys : List Value} (h : w.ownsRow b e' s u k ys) (ht : e' ≠ T) (he : e' ≠ e) : w'.ownsRow b e' s u k ys := by
  refine (hA.step w w' hE).own h ht ?_
  cases hv : v.ownBlock with
  | none => cases u.ownBlock <;> simp
  | some g =>
    obtain ⟨cs', h'⟩ := hA.typed w hC g hv
    exact .inr (own_blk_ne h h' he)
theorem AppendIn.keep_T (hA : AppendIn P t ty e base size v n xs m news T z w0 C E V) (hC : C w) (hE : E w w') {g : Nat} {cs : Array Value} (h : Blk w g T cs) (hz : cs.size = z.size) (ht : T ≠ e) : ∃ cs', Blk w' g T cs' ∧ cs'.size = z.size := by
  rcases (hA.step w w' hE).2.2.2.2 g h.lt (hA.far hC h (.inl ht)) with h1 | ⟨-, -, h1⟩
  · exact ⟨cs, h1.trans h, hz⟩
  · exact ⟨z, h1, rfl⟩
theorem AppendIn.keep_z (hA : AppendIn P t ty e base size v n xs m news T z w0 C E V) (hC : C w) (hE : E w w') {g : Nat} (h : Blk w g T z) (ht : T ≠ e) : Blk w' g T z := by
  rcases (hA.step w w' hE).2.2.2.2 g h.lt (hA.far hC h (.inl ht)) with h1 | ⟨-, -, h1⟩
  · exact h1.trans h
  · exact h1
theorem AppendIn.below (hA : AppendIn P t ty e base size v n xs m news T z w0 C E V) (hC : C w) (hb : Below w.heap.size w w') : C w' ∧ (E w w' ∧ C w) :=
  have h := hA.more w w' hC (TameBut.of_below hb)
  ⟨h.1, h.2, hC⟩
theorem AppendIn.same (hA : AppendIn P t ty e base size v n xs m news T z w0 C E V) (hC : C w) : E w w ∧ C w := ⟨hA.refl w, hC⟩
theorem wp_append_in {o : Oper} {a : Act} {K : Act → World → Prop} {Q : Exit → Act → World → Prop} (hA : AppendIn P t o.type e base size v n xs m news T z w0 C E V) (s x : Operand)
    (ho : o.op = .call { callee := .builtin .append, args := #[s, x], argTypes := #[t, t] }) (hs : a.eval s = v) (ad : Addr) (c : Nat) (hx : a.eval x = .slice (some ad) m c) (hC : C w) (hn : ∀ j u, news[j]? = some u → w.cell? (ad.add j) = some u)
    (h : ∀ A' c' w', V (.slice A' (n + m) c') w' → C w' → E w w' → K (a.put o.dst (.slice A' (n + m) c')) w') : o.wp P a w K Q := by
  obtain ⟨u, w', hr, h2, h3, h4⟩ := hA.run w ad c hC hn
  obtain ⟨A', c', rfl, -⟩ := own_cells (hA.owns _ _ h2)
  unfold Oper.wp execOp
  simp only [ho, resolve, invoke, builtin, Sem.run_bind, Sem.run_pure, Result.andThen_ok, List.map_toArray, List.map_cons, List.map_nil, hs, hx, hr]
  exact h _ _ w' h2 h3 h4
theorem arr2 {cs : Array Value} {a b : Value} (h : cs.size = (#[a, b] : Array Value).size) : ∃ x y, cs = #[x, y] := by
  obtain ⟨l⟩ := cs
  match l, h with
  | [x, y], _ => exact ⟨x, y, rfl⟩
end
end Go.Proofs.Ytbbnfenlpfoaiaa
