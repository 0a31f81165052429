/- WALKS: the law MarginCollapsed of chapter 13. -/
import Derived.Test.YtbbnfenlpfoaiaaMarO
import Derived.Test.YtbbnfenlpfoaiaaMarCP
import Derived.Test.YtbbnfenlpfoaiaaApp
import Derived.Test.YtbbnfenlpfoaiaaLoose2
namespace Go.Proofs.Ytbbnfenlpfoaiaa
open Go.RowKit

/-- two values' own rows are apart. -/
def Apart (u v : Value) : Prop := ∀ g, u.ownBlock = some g → v.ownBlock ≠ some g
theorem Apart.symm {u v : Value} (h : Apart u v) : Apart v u := fun g h1 h2 => h g h2 h1
theorem Apart.own {u v : Value} (h : Apart u v) : u.ownBlock = none ∨ u.ownBlock ≠ v.ownBlock := by
  cases hu : u.ownBlock with
  | none => exact .inl rfl
  | some g => exact .inr (fun e => h g hu e.symm)
theorem Apart.next {u u' v : Value} {w : World} {base n size : Nat} {e : TypeId} {xs : List Value} (h : Apart u v) (hv : w.ownsRow base e size v n xs) (hl : u'.ownBlock = u.ownBlock ∨ u'.ownBlock = some w.heap.size) : Apart u' v := by
  intro g hg hv2
  rcases hl with hl | hl
  · exact h g (hl ▸ hg) hv2
  · rw [hl] at hg
    injection hg with hg
    have := (hv.lt g hv2).2
    omega

theorem near3c (A : Option Addr) (a b c : Int) (w : World) (h : IntsAt w A [a, b, c]) : Calls Try.prog 13 #[.slice A 3 3] w (Ret (.bool (nearF [a, b, c])) w) := near13_any A 3 [a, b, c] w h (by simp)
theorem near_at {xs : List Int} (h : nearF xs = true) (k : Nat) (hk : k < xs.length) : -1125899906842624 ≤ xs[k] ∧ xs[k] ≤ 1125899906842624 := nearF_at xs h k hk
theorem run_alt13 (y m high : Int) (A : Option Addr) (c : Nat) (xs : List Int) (w : World) (hc : CellsAt w A ((altSteps xs xs.length).flatMap stepCells ++ [.int .i64 4, .int .i64 high, .int .i64 0])) (hl : xs.length ≤ 200)
    (h1 : -1125899906842624 ≤ y ∧ y ≤ 1125899906842624) (h2 : -1125899906842624 ≤ m ∧ m ≤ 1125899906842624) (h3 : -1125899906842624 ≤ high ∧ high ≤ 1125899906842624) (hs : nearF xs = true) :
    Calls Try.prog 15 #[.agg #[.int .i64 y, .int .i64 m], .slice A (xs.length + 1) c] w (RunPost ⟨y + mostF m xs + high, 0⟩ [y + mostF m xs] w) := by
  have h := run_any y m A c (altSteps xs xs.length ++ [⟨4, high, 0⟩]) w (CellsAt.row (f := stepCells) step_len (by omega) (by rw [List.flatMap_append]; exact hc)).steps (by simp [alt_len]; omega) (nearF2_mk h1 h2) (nearS_alt hs (nr_iff.2 h3) _)
  rw [run_collapsed, List.length_append, alt_len] at h
  exact h
theorem run_turn13 (y m high : Int) (A : Option Addr) (c : Nat) (xs : List Int) (w : World) (hc : CellsAt w A ((turnSteps xs xs.length).flatMap stepCells ++ [.int .i64 4, .int .i64 high, .int .i64 0])) (hl : xs.length ≤ 200)
    (h1 : -1125899906842624 ≤ y ∧ y ≤ 1125899906842624) (h2 : -1125899906842624 ≤ m ∧ m ≤ 1125899906842624) (h3 : -1125899906842624 ≤ high ∧ high ≤ 1125899906842624) (hs : nearF xs = true) :
    Calls Try.prog 15 #[.agg #[.int .i64 y, .int .i64 m], .slice A (xs.length + 1) c] w (RunPost ⟨y + mostF m xs + high, 0⟩ [y + mostF m xs] w) := by
  have h := run_any y m A c (turnSteps xs xs.length ++ [⟨4, high, 0⟩]) w (CellsAt.row (f := stepCells) step_len (by omega) (by rw [List.flatMap_append]; exact hc)).steps (by simp [turn_len]; omega) (nearF2_mk h1 h2) (nearS_turn hs (nr_iff.2 h3) _)
  rw [run_turned, List.length_append, turn_len] at h
  exact h
theorem own_own_ne {w : World} {b b' s s' k k' : Nat} {e e' : TypeId} {u v : Value} {xs ys : List Value} (h : w.ownsRow b e s u k xs) (h' : w.ownsRow b' e' s' v k' ys) (he : e ≠ e') : u.ownBlock = none ∨ u.ownBlock ≠ v.ownBlock := by
  rcases h'.2 with ⟨rfl, -⟩ | ⟨g, cap, cur, rfl, -, hg, -⟩
  · cases hu : u.ownBlock <;> simp [Value.ownBlock]
  · exact .inr (own_blk_ne h (g := g) hg he)
theorem own_ints1 {w : World} {b c : Nat} {A : Option Addr} {a : Int} (h : w.ownsRow b 3 1 (.slice A 1 c) 1 [.int .i64 a]) : IntsAt w A [a] := by
  obtain ⟨A', c', e, -, -, hc⟩ := own_cells h
  obtain ⟨rfl, rfl⟩ : A = A' ∧ c = c' := by injection e with e1 e2 e3; exact ⟨e1, e3⟩
  exact CellsAt.ints (xs := [a]) hc
theorem near3_bd {a b c : Int} (h : nearF [a, b, c] = true) : (-1125899906842624 ≤ a ∧ a ≤ 1125899906842624) ∧ (-1125899906842624 ≤ b ∧ b ≤ 1125899906842624) ∧ (-1125899906842624 ≤ c ∧ c ≤ 1125899906842624) := by
  simp [nearF, nr] at h; omega
/-- the relation of the loop. -/
def ColRel (w : World) (y m : Int) (xs : List Int) (k : Nat) (u v : Value) (wr : World) : Prop :=
  Blk wr w.heap.size 23 #[.int .i64 y, .int .i64 m] ∧ wr.ownsRow (w.heap.size + 1) 33 3 u k ((altSteps xs k).flatMap stepCells) ∧
  wr.ownsRow (w.heap.size + 1) 33 3 v k ((turnSteps xs k).flatMap stepCells) ∧ Apart u v ∧ Below w.heap.size w wr

set_option maxRecDepth 100000 in
set_option maxHeartbeats 2000000 in
theorem collapsed_near (y m high : Int) (A : Option Addr) (c : Nat) (xs : List Int) (w : World) (hx : IntsAt w A xs) (hl : xs.length ≤ 200) (hn : nearF [y, m, high] = true) (hs : nearF xs = true) :
    Calls Try.prog 4 #[.agg #[.int .i64 y, .int .i64 m], .slice A xs.length c, .int .i64 high] w (RetB (.bool true) w) := by
  obtain ⟨i0, hi0, hz0, hz1, hz2⟩ := info_parts step_info
  have hB0 := Blk.new w 23 #[.int .i64 y, .int .i64 m]
  have c0 := hB0.f2
  have hi3 := IntsAt.new3 (w.alloc (.cells #[.int .i64 y, .int .i64 m] 23)) (w.heap.size + 1) y m high 3 (by simp)
  have hW := below_step (below_alloc w (.cells #[.int .i64 y, .int .i64 m] 23)) (.cells #[.int .i64 y, .int .i64 m, .int .i64 high] 3)
  have hB1 := hB0.alloc (.cells #[.int .i64 y, .int .i64 m, .int .i64 high] 3)
  have hx1 := hx.below hW
  have c1 := hB1.f2
  have t1 : decide (200 < (xs.length : Int)) = false := by simp; omega
  clear hB0
  go_enter Try.func4, Try.ntmps4
  go_wp2_with (first
    | (go_at_call 13; (with_reducible refine (near3c _ y m high _ hi3).mono ?_); rintro e w' ⟨rfl, rfl⟩; rw [hn])
    | (go_at_call 13; (with_reducible refine (near13_any A c xs _ hx1 (by omega)).mono ?_); rintro e w' ⟨rfl, rfl⟩; rw [hs]))
  go_loopw [7, 8, 9, 10] (fun u v q i wr => ∃ k : Nat, k ≤ xs.length ∧ i = .int .i64 k ∧ q = .int .i64 (mostF m (xs.take k)) ∧ ColRel w y m xs k u v wr) (fun _ _ _ i _ => xs.length - (intOf i).toNat)
  case atStart =>
    refine ⟨0, Nat.zero_le _, rfl, rfl, hB1, World.ownsRow_nil _ _ _ _, World.ownsRow_nil _ _ _ _, fun g h => by simp [Value.ownBlock] at h, hW⟩
  case round =>
    obtain ⟨k, hk, rfl, rfl, hB, hU, hV, hap, hbw⟩ := hrel
    by_cases hlt : k < xs.length
    · obtain ⟨b, off, rfl, hb, hc⟩ := (hx.below hbw) k hlt
      obtain ⟨b', off', e', -, hc'⟩ := (hx.below hbw) (xs.length - 1 - k) (by omega)
      injection e' with e'
      injection e' with e1 e2
      subst e1; subst e2
      have hne := near_at hs k hlt
      have hge : xs[k]? = some xs[k] := List.getElem?_eq_getElem hlt
      have hgd : xs.getD k 0 = xs[k] := by rw [List.getD_eq_getElem?_getD, hge]; rfl
      have hgd' : xs.getD (xs.length - 1 - k) 0 = xs[xs.length - 1 - k] := by rw [List.getD_eq_getElem?_getD, List.getElem?_eq_getElem (by omega)]; rfl
      clear hx1 c0 c1 hi3 hW hB1 hc'
      have hUa := hU.alloc (.cells #[.int .i64 (1 + (k : Int) % 2), .int .i64 xs[k], .int .i64 0] 33)
      have hr := (CellsAt.new wr #[.int .i64 (1 + (k : Int) % 2), .int .i64 xs[k], .int .i64 0] 33).reads (size := 3) (n := 1) rfl (by omega)
      have h1 := step_one [⟨1 + (k : Int) % 2, xs[k], 0⟩]
      go_wp2_with (at_builtin; refine wpList_append_any _ rfl (.tmp 43) (.tmp 52) 24 rfl (w.heap.size + 1) 33 i0 (.agg #[.int .i64 0, .int .i64 0, .int .i64 0]) 3 24 Try.underlying24 hi0 hz0 hz1 hz2 rfl (by omega) u7 k _ rfl hUa _ (some ⟨wr.heap.size, 0, none⟩) 1 1 (stepCells ⟨1 + (k : Int) % 2, xs[k], 0⟩) rfl hr (fun u hu => h1 u (by simpa using hu)) (by simp only [maxLen]; omega) (by omega) (by have := hbw.size; have := hB.lt; simp; omega) ?_)
      intro u2 wa hU2 hga hla
      have hap2 : Apart u2 u8 := hap.next (hV.alloc (.cells #[.int .i64 (1 + (k : Int) % 2), .int .i64 xs[k], .int .i64 0] 33)) (by simpa using hla)
      have hV2 := (hV.alloc (.cells #[.int .i64 (1 + (k : Int) % 2), .int .i64 xs[k], .int .i64 0] 33)).kept hga hap.symm.own
      have hB2 := (hB.alloc (.cells #[.int .i64 (1 + (k : Int) % 2), .int .i64 xs[k], .int .i64 0] 33)).grown hga (fun e => by have := own_ge hU _ e.symm; omega)
      have hbw2 : Below w.heap.size w wa := (below_step hbw (.cells #[.int .i64 (1 + (k : Int) % 2), .int .i64 xs[k], .int .i64 0] 33)).grown hga (by have := hbw.size; simp; omega) (fun g e => by have := own_ge hU _ e; omega)
      have hzw := hB2.lt
      obtain ⟨b', off', e', hb', hc'⟩ := (hx.below hbw2) (xs.length - 1 - k) (by omega)
      injection e' with e'
      injection e' with e1 e2
      subst e1; subst e2
      have hU2a := hU2.alloc (.cells #[.int .i64 (2 - (k : Int) % 2), .int .i64 xs[xs.length - 1 - k], .int .i64 0] 33)
      have hV2a := hV2.alloc (.cells #[.int .i64 (2 - (k : Int) % 2), .int .i64 xs[xs.length - 1 - k], .int .i64 0] 33)
      have hr2 := (CellsAt.new wa #[.int .i64 (2 - (k : Int) % 2), .int .i64 xs[xs.length - 1 - k], .int .i64 0] 33).reads (size := 3) (n := 1) rfl (by omega)
      have h2 := step_one [⟨2 - (k : Int) % 2, xs[xs.length - 1 - k], 0⟩]
      clear hc hU hUa hr h1 hga hla hB hV hap hb
      go_wp2_with (at_builtin; refine wpList_append_any _ rfl (.tmp 54) (.tmp 67) 24 rfl (w.heap.size + 1) 33 i0 (.agg #[.int .i64 0, .int .i64 0, .int .i64 0]) 3 24 Try.underlying24 hi0 hz0 hz1 hz2 rfl (by omega) u8 k _ rfl hV2a _ (some ⟨wa.heap.size, 0, none⟩) 1 1 (stepCells ⟨2 - (k : Int) % 2, xs[xs.length - 1 - k], 0⟩) rfl hr2 (fun u hu => h2 u (by simpa using hu)) (by simp only [maxLen]; omega) (by omega) (by simp; omega) ?_)
      intro v2 wb hV3 hgb hlb
      have hap3 : Apart u2 v2 := (hap2.symm.next hU2a (by simpa using hlb)).symm
      have hU3 := hU2a.kept hgb hap2.own
      have hB3 := (hB2.alloc (.cells #[.int .i64 (2 - (k : Int) % 2), .int .i64 xs[xs.length - 1 - k], .int .i64 0] 33)).grown hgb (fun e => by have := own_ge hV2 _ e.symm; omega)
      have hbw3 : Below w.heap.size w wb := (below_step hbw2 (.cells #[.int .i64 (2 - (k : Int) % 2), .int .i64 xs[xs.length - 1 - k], .int .i64 0] 33)).grown hgb (by simp; omega) (fun g e => by have := own_ge hV2 _ e; omega)
      obtain ⟨b', off', e', hb', hc⟩ := (hx.below hbw3) k hlt
      injection e' with e'
      injection e' with e1 e2
      subst e1; subst e2
      have hms := most_succ m xs k hlt
      clear hc' hU2 hU2a hV2 hV2a hr2 h2 hgb hlb hB2 hap2 hbw hbw2
      go_wp2
      go_roundw
      case rel =>
        refine ⟨k + 1, by omega, by go_num, ?_, hB3, ?_, ?_, hap3, hbw3⟩
        · rw [hms]; congr 1; omega
        · rw [alt_succ, List.flatMap_append, hgd]; simpa using hU3
        · rw [turn_succ, List.flatMap_append, hgd']; simpa using hV3
      case measure => simp [intOf]; omega
    · obtain rfl : k = xs.length := by omega
      rw [List.take_length]
      obtain ⟨hny, hnm, hnh⟩ := near3_bd hn
      have hnw := most_near (nr_iff.2 hnm) hs
      clear hx1 c0 c1 hi3 hW hB1 hx t1
      have hUa := hU.alloc (.cells #[.int .i64 4, .int .i64 high, .int .i64 0] 33)
      have hVa := hV.alloc (.cells #[.int .i64 4, .int .i64 high, .int .i64 0] 33)
      have hBa := hB.alloc (.cells #[.int .i64 4, .int .i64 high, .int .i64 0] 33)
      have hXa := Blk.new wr 33 #[.int .i64 4, .int .i64 high, .int .i64 0]
      have hba := below_step hbw (.cells #[.int .i64 4, .int .i64 high, .int .i64 0] 33)
      have hnw2 := nr_iff.1 hnw
      go_wp2_with fail
      generalize hw0 : wr.alloc (.cells #[.int .i64 4, .int .i64 high, .int .i64 0] 33) = w0 at *
      obtain ⟨Cx, Ex, Vx, hA⟩ := append_in (P := Try.prog) (w.heap.size + 1) 24 24 33 i0 (.agg #[.int .i64 0, .int .i64 0, .int .i64 0]) 3 24 Try.underlying24 hi0 hz0 hz1 hz2 rfl (by omega) w0 23 #[.int .i64 (y + mostF m xs + high), .int .i64 0] (by decide) u7 _ _ hUa 1 [.int .i64 4, .int .i64 high, .int .i64 0] (by omega) rfl (by simp [Value.oneCell']) (by simp only [maxLen]; omega) (by omega) (by have := hba.size; have := hBa.lt; omega)
      have hB7 : ∀ w1, w0.grownBy w1 u7.ownBlock → Blk w1 w.heap.size 23 #[.int .i64 y, .int .i64 m] := fun w1 h => hBa.grown h (fun e => by have := own_ge hU _ e.symm; omega)
      have hX7 : ∀ w1, w0.grownBy w1 u7.ownBlock → Blk w1 wr.heap.size 33 #[.int .i64 4, .int .i64 high, .int .i64 0] := fun w1 h => hXa.grown h (fun e => by have := (hU.lt _ e.symm).2; omega)
      refine wp_region_loose2 12 (Cx) (fun w1 w2 => Ex w1 w2 ∧ Cx w1) (fun j vs w' => match j with
            | 0 => vs 0 = .agg #[.int .i64 y, .int .i64 m]
            | 1 => vs 1 = u7
            | 2 => vs 2 = .agg #[.int .i64 4, .int .i64 high, .int .i64 0]
            | 3 => ∃ g, vs 3 = .slice (some ⟨g, 0, none⟩) 1 1 ∧ w0.heap.size ≤ g ∧ Blk w' g 33 #[.int .i64 4, .int .i64 high, .int .i64 0]
            | 4 => ∃ A c, vs 4 = .slice A (xs.length + 1) c ∧ Vx (.slice A (xs.length + 1) c) w'
            | 5 => ∃ A c, vs 5 = .tuple #[.agg #[.int .i64 (y + mostF m xs + high), .int .i64 0], .slice A 1 c] ∧ w'.ownsRow 0 3 1 (.slice A 1 c) 1 [.int .i64 (y + mostF m xs)]
            | 6 => ∃ A c, vs 6 = .tuple #[.agg #[.int .i64 (y + mostF m xs + high), .int .i64 0], .slice A 1 c] ∧ w'.ownsRow 0 3 1 (.slice A 1 c) 1 [.int .i64 (y + mostF m xs)]
            | 7 => vs 7 = .agg #[.int .i64 (y + mostF m xs + high), .int .i64 0]
            | 8 => ∃ A c, vs 8 = .slice A 1 c ∧ w'.ownsRow 0 3 1 (.slice A 1 c) 1 [.int .i64 (y + mostF m xs)]
            | 9 => ∃ g, vs 9 = .pointer (some ⟨g, 0, none⟩) ∧ w0.heap.size ≤ g ∧ ∃ cs, Blk w' g 23 cs ∧ cs.size = (#[.int .i64 (y + mostF m xs + high), .int .i64 0] : Array Value).size
            | 10 => ∃ g, vs 9 = .pointer (some ⟨g, 0, none⟩) ∧ Blk w' g 23 #[.int .i64 (y + mostF m xs + high), .int .i64 0]
            | 11 => ∃ A c, vs 11 = .slice A 1 c ∧ w'.ownsRow 0 3 1 (.slice A 1 c) 1 [.int .i64 (y + mostF m xs)]
            | _ => True)
        [(10, [9])] rfl (by kernel_rfl) hA.start (by kernel_rfl) ?_ ?_ (fun j t hj ht => sizeB_spec (m := 132) (by kernel_rfl) j t hj ht)
        [⟨[], [3]⟩, ⟨[], [7]⟩, ⟨[], [11]⟩, ⟨[(80, 2)], []⟩, ⟨[(79, 1), (81, 3)], []⟩, ⟨[(78, 0), (82, 4)], []⟩, ⟨[(83, 5)], []⟩, ⟨[(77, 6)], []⟩, ⟨[(77, 6)], []⟩, ⟨[], []⟩, ⟨[(12, 9), (84, 7)], []⟩, ⟨[(85, 8)], []⟩] (by kernel_rfl) ?_ ?_
      · intro j vs vs' w1 h hd hV
        match j, h, hd, hV with
        | 0, h, _, hV => exact h.symm.trans hV
        | 1, h, _, hV => exact h.symm.trans hV
        | 2, h, _, hV => exact h.symm.trans hV
        | 3, h, _, hV => obtain ⟨g, e, z, b⟩ := hV; exact ⟨g, h.symm.trans e, z, b⟩
        | 4, h, _, hV => obtain ⟨A, c, e, o⟩ := hV; exact ⟨A, c, h.symm.trans e, o⟩
        | 5, h, _, hV => obtain ⟨A, c, e, o⟩ := hV; exact ⟨A, c, h.symm.trans e, o⟩
        | 6, h, _, hV => obtain ⟨A, c, e, o⟩ := hV; exact ⟨A, c, h.symm.trans e, o⟩
        | 7, h, _, hV => exact h.symm.trans hV
        | 8, h, _, hV => obtain ⟨A, c, e, o⟩ := hV; exact ⟨A, c, h.symm.trans e, o⟩
        | 9, h, _, hV => obtain ⟨g, e, r⟩ := hV; exact ⟨g, h.symm.trans e, r⟩
        | 10, h, hd, hV => obtain ⟨g, e, b⟩ := hV; exact ⟨g, (hd (10, [9]) (by simp) rfl 9 (by simp)).symm.trans e, b⟩
        | 11, h, _, hV => obtain ⟨A, c, e, o⟩ := hV; exact ⟨A, c, h.symm.trans e, o⟩
        | _ + 12, _, _, _ => trivial
      · intro j vs w1 w2 h hE
        match j, h with
        | 0, h => exact h
        | 1, h => exact h
        | 2, h => exact h
        | 3, h => obtain ⟨g, e, z, b⟩ := h; exact ⟨g, e, z, hA.keep_blk hE.2 hE.1 b (by decide) (.inr z)⟩
        | 4, h => obtain ⟨A, c, e, o⟩ := h; exact ⟨A, c, e, hA.stays _ _ _ o hE.1⟩
        | 5, h => obtain ⟨A, c, e, o⟩ := h; exact ⟨A, c, e, hA.keep_own hE.2 hE.1 o (by decide) (by decide)⟩
        | 6, h => obtain ⟨A, c, e, o⟩ := h; exact ⟨A, c, e, hA.keep_own hE.2 hE.1 o (by decide) (by decide)⟩
        | 7, h => exact h
        | 8, h => obtain ⟨A, c, e, o⟩ := h; exact ⟨A, c, e, hA.keep_own hE.2 hE.1 o (by decide) (by decide)⟩
        | 9, h => obtain ⟨g, e, z, cs, b, l⟩ := h; exact ⟨g, e, z, hA.keep_T hE.2 hE.1 b l (by decide)⟩
        | 10, h => obtain ⟨g, e, b⟩ := h; exact ⟨g, e, hA.keep_z hE.2 hE.1 b (by decide)⟩
        | 11, h => obtain ⟨A, c, e, o⟩ := h; exact ⟨A, c, e, hA.keep_own hE.2 hE.1 o (by decide) (by decide)⟩
        | _ + 12, _ => trivial
      · refine ⟨?_, ?_, ?_, ?_, ?_, ?_, ?_, ?_, ?_, ?_, ?_, ?_, trivial⟩
        · refine step2_plain rfl ?_
          rintro fa vs w1 K hC - ⟨h3, -⟩ hK
          have e3 := evg h3
          have c1 := (hB7 w1 (hA.since w1 hC)).f2
          have hK' := Lib.hid hK
          clear hK h3 
          go_simp
          exact hK'.out _ _ (set1_at _ _ _) hC (hA.same hC)
        · refine step2_plain rfl ?_
          rintro fa vs w1 K hC - ⟨h7, -⟩ hK
          have e7 := evg h7
          have hK' := Lib.hid hK
          clear hK h7 
          go_simp
          exact hK'.out _ _ (set1_at _ _ _) hC (hA.same hC)
        · refine step2_plain rfl ?_
          rintro fa vs w1 K hC - ⟨h11, -⟩ hK
          have e11 := evg h11
          have c1 := (hX7 w1 (hA.since w1 hC)).f3
          have hK' := Lib.hid hK
          clear hK h11 
          go_simp
          exact hK'.out _ _ (set1_at _ _ _) hC (hA.same hC)
        · refine step2_plain rfl ?_
          rintro fa vs w1 K hC ⟨⟨f80, h80⟩, -⟩ - hK
          have e80 : fa.tmps[80]?.getD undef = .agg #[.int .i64 4, .int .i64 high, .int .i64 0] := evg (f80.trans h80)
          have hK' := Lib.hid hK
          clear hK h80 f80 
          go_simp
          have hb := below_alloc w1 (.cells #[.int .i64 4, .int .i64 high, .int .i64 0] 33)
          exact hK'.out _ _ ⟨_, set1_at _ _ _, (hA.since w1 hC).size, Blk.new _ _ _⟩ (hA.below hC hb).1 (hA.below hC hb).2
        · refine step2_plain rfl ?_
          rintro fa vs w1 K hC ⟨⟨f79, h79⟩, ⟨f81, h81⟩, -⟩ - hK
          have e79 : fa.tmps[79]?.getD undef = u7 := evg (f79.trans h79)
          obtain ⟨g3, g81, z3, b3⟩ := h81
          have e81 : fa.tmps[81]?.getD undef = _ := evg (f81.trans g81)
          have hK' := Lib.hid hK
          clear hK h79 f79 f81 
          refine wp_append_in hA (.tmp 79) (.tmp 81) rfl (by simpa [Act.eval] using e79) ⟨g3, 0, none⟩ 1 (by simpa [Act.eval] using e81) hC (fun j u hu => ?_) (fun A' c' w' h1 h2 h3 => hK'.out _ _ ⟨A', c', set1_at _ _ _, h1⟩ h2 ⟨h3, hC⟩)
          have := (b3.cell j).trans (by simpa using hu : _ = some u)
          simpa [Addr.add_lit] using this
        · refine step2_plain rfl ?_
          rintro fa vs w1 K hC ⟨⟨f78, h78⟩, ⟨f82, h82⟩, -⟩ - hK
          have e78 : fa.tmps[78]?.getD undef = .agg #[.int .i64 y, .int .i64 m] := evg (f78.trans h78)
          obtain ⟨A4, c4, g82, V4⟩ := h82
          have e82 : fa.tmps[82]?.getD undef = _ := evg (f82.trans g82)
          obtain ⟨A', c', e', -, -, hc4⟩ := own_cells (hA.owns _ _ V4)
          obtain ⟨rfl, rfl⟩ : A4 = A' ∧ c4 = c' := by injection e' with e1 e2 e3; exact ⟨e1, e3⟩
          have hK' := Lib.hid hK
          clear hK h78 f78 f82 
          go_simp
          refine (run_alt13 y m high A4 c4 xs w1 hc4 hl hny hnm hnh hs).mono ?_
          rintro e w2 ⟨A5, c5, rfl, -, -, hb, ho⟩
          exact hK'.out _ _ ⟨A5, c5, set1_at _ _ _, own_base ho (Nat.zero_le _)⟩ (hA.below hC hb).1 (hA.below hC hb).2
        · refine step2_plain rfl ?_
          rintro fa vs w1 K hC ⟨⟨f83, h83⟩, -⟩ - hK
          obtain ⟨A5, c5, g83, o5⟩ := h83
          have e83 : fa.tmps[83]?.getD undef = _ := evg (f83.trans g83)
          have hK' := Lib.hid hK
          clear hK f83 
          go_simp
          exact hK'.out _ _ ⟨A5, c5, set1_at _ _ _, o5⟩ hC (hA.same hC)
        · refine step2_plain rfl ?_
          rintro fa vs w1 K hC ⟨⟨f77, h77⟩, -⟩ - hK
          obtain ⟨A6, c6, g77, o6⟩ := h77
          have e77 : fa.tmps[77]?.getD undef = _ := evg (f77.trans g77)
          have hK' := Lib.hid hK
          clear hK f77 
          go_simp
          exact hK'.out _ _ (set1_at _ _ _) hC (hA.same hC)
        · refine step2_plain rfl ?_
          rintro fa vs w1 K hC ⟨⟨f77, h77⟩, -⟩ - hK
          obtain ⟨A6, c6, g77, o6⟩ := h77
          have e77 : fa.tmps[77]?.getD undef = _ := evg (f77.trans g77)
          have hK' := Lib.hid hK
          clear hK f77 
          go_simp
          exact hK'.out _ _ ⟨A6, c6, set1_at _ _ _, o6⟩ hC (hA.same hC)
        · refine step2_plain rfl ?_
          rintro fa vs w1 K hC - - hK
          have hK' := Lib.hid hK
          clear hK  
          go_simp
          have hb := below_alloc w1 (.cells #[.int .i64 0, .int .i64 0] 23)
          exact hK'.out _ _ ⟨_, set1_at _ _ _, (hA.since w1 hC).size, _, Blk.new _ _ _, rfl⟩ (hA.below hC hb).1 (hA.below hC hb).2
        · refine step2_plain rfl ?_
          rintro fa vs w1 K hC ⟨⟨f12, h12⟩, ⟨f84, h84⟩, -⟩ - hK
          obtain ⟨g9, g12, z9, cs9, b9, l9⟩ := h12
          have e12 : fa.tmps[12]?.getD undef = _ := evg (f12.trans g12)
          have e84 : fa.tmps[84]?.getD undef = .agg #[.int .i64 (y + mostF m xs + high), .int .i64 0] := evg (f84.trans h84)
          obtain ⟨x9, y9, rfl⟩ := arr2 l9
          have c1 := b9.f2
          have hK' := Lib.hid hK
          clear hK f12 h84 f84 
          go_simp
          have bz := (b9.set0 (.int .i64 (y + mostF m xs + high))).set1 (.int .i64 0)
          have hk := only_setCell (p := ⟨g9, 1, none⟩) (only_setCell (p := ⟨g9, 0, none⟩) (World.grownBy.refl w1 (some g9)) (.inl rfl) (.int .i64 (y + mostF m xs + high))) (.inl rfl) (.int .i64 0)
          have hm := hA.more w1 _ hC (TameBut.set b9 l9 z9 hk bz)
          exact hK'.out undef _ ⟨g9, (set1_ne _ _ (by omega)).trans g12, bz⟩ hm.1 ⟨hm.2, hC⟩
        · refine step2_plain rfl ?_
          rintro fa vs w1 K hC ⟨⟨f85, h85⟩, -⟩ - hK
          obtain ⟨A8, c8, g85, o8⟩ := h85
          have e85 : fa.tmps[85]?.getD undef = _ := evg (f85.trans g85)
          have hK' := Lib.hid hK
          clear hK f85 
          go_simp
          exact hK'.out _ _ ⟨A8, c8, set1_at _ _ _, o8⟩ hC (hA.same hC)
      · intro vs w9 hC hv
        have e0 : vs 0 = .agg #[.int .i64 y, .int .i64 m] := hv 0 (by omega)
        have e1 : vs 1 = u7 := hv 1 (by omega)
        have e2 : vs 2 = .agg #[.int .i64 4, .int .i64 high, .int .i64 0] := hv 2 (by omega)
        obtain ⟨A4, c4, e4, V4⟩ := hv 4 (by omega)
        have e7 : vs 7 = .agg #[.int .i64 (y + mostF m xs + high), .int .i64 0] := hv 7 (by omega)
        obtain ⟨gz12, e9, bz12⟩ := hv 10 (by omega)
        obtain ⟨A11_12, c11_12, e11, o11_12⟩ := hv 11 (by omega)
        simp only [fill, dstOf, Act.put, List.drop_succ_cons, List.drop_zero, if_true, List.getElem?_toArray, List.getElem?_cons_zero, List.getElem?_cons_succ, Option.bind_some, List.setIfInBounds_toArray, List.set_cons_succ, List.set_cons_zero, e0, e1, e2, e4, e7, e9, e11]
        clear hv e0 e1 e2 e4 e7 e9 e11 
        have hs9 := hA.since w9 hC
        have hB9 := hB7 w9 hs9
        have hX9 := hX7 w9 hs9
        have hV9 := hVa.kept hs9 hap.symm.own
        have hb9 : Below w.heap.size w w9 := hba.grown hs9 (by have := hba.size; omega) (fun g e => by have := own_ge hU _ e; omega)
        clear hs9 hA hC V4 hB7 hX7 hUa hVa hBa hXa hba hw0 Cx Ex Vx hU
        have hB8 : ∀ w1, w9.grownBy w1 u8.ownBlock → Blk w1 w.heap.size 23 #[.int .i64 y, .int .i64 m] := fun w1 h => hB9.grown h (fun e => by have := own_ge hV _ e.symm; omega)
        have hX8 : ∀ w1, w9.grownBy w1 u8.ownBlock → Blk w1 wr.heap.size 33 #[.int .i64 4, .int .i64 high, .int .i64 0] := fun w1 h => hX9.grown h (fun e => by have := (hV.lt _ e.symm).2; omega)
        obtain ⟨Cx, Ex, Vx, hA⟩ := append_in (P := Try.prog) (w.heap.size + 1) 24 24 33 i0 (.agg #[.int .i64 0, .int .i64 0, .int .i64 0]) 3 24 Try.underlying24 hi0 hz0 hz1 hz2 rfl (by omega) w9 23 #[.int .i64 (y + mostF m xs + high), .int .i64 0] (by decide) u8 _ _ hV9 1 [.int .i64 4, .int .i64 high, .int .i64 0] (by omega) rfl (by simp [Value.oneCell']) (by simp only [maxLen]; omega) (by omega) (by have := hb9.size; have := hB9.lt; omega)
        go_wp2_with fail
        refine wp_region_loose2 12 (Cx) (fun w1 w2 => Ex w1 w2 ∧ Cx w1) (fun j vs w' => match j with
              | 0 => vs 0 = .agg #[.int .i64 y, .int .i64 m]
              | 1 => vs 1 = u8
              | 2 => vs 2 = .agg #[.int .i64 4, .int .i64 high, .int .i64 0]
              | 3 => ∃ g, vs 3 = .slice (some ⟨g, 0, none⟩) 1 1 ∧ w9.heap.size ≤ g ∧ Blk w' g 33 #[.int .i64 4, .int .i64 high, .int .i64 0]
              | 4 => ∃ A c, vs 4 = .slice A (xs.length + 1) c ∧ Vx (.slice A (xs.length + 1) c) w'
              | 5 => ∃ A c, vs 5 = .tuple #[.agg #[.int .i64 (y + mostF m xs + high), .int .i64 0], .slice A 1 c] ∧ w'.ownsRow 0 3 1 (.slice A 1 c) 1 [.int .i64 (y + mostF m xs)]
              | 6 => ∃ A c, vs 6 = .tuple #[.agg #[.int .i64 (y + mostF m xs + high), .int .i64 0], .slice A 1 c] ∧ w'.ownsRow 0 3 1 (.slice A 1 c) 1 [.int .i64 (y + mostF m xs)]
              | 7 => vs 7 = .agg #[.int .i64 (y + mostF m xs + high), .int .i64 0]
              | 8 => ∃ A c, vs 8 = .slice A 1 c ∧ w'.ownsRow 0 3 1 (.slice A 1 c) 1 [.int .i64 (y + mostF m xs)]
              | 9 => ∃ g, vs 9 = .pointer (some ⟨g, 0, none⟩) ∧ w9.heap.size ≤ g ∧ ∃ cs, Blk w' g 23 cs ∧ cs.size = (#[.int .i64 (y + mostF m xs + high), .int .i64 0] : Array Value).size
              | 10 => ∃ g, vs 9 = .pointer (some ⟨g, 0, none⟩) ∧ Blk w' g 23 #[.int .i64 (y + mostF m xs + high), .int .i64 0]
              | 11 => ∃ A c, vs 11 = .slice A 1 c ∧ w'.ownsRow 0 3 1 (.slice A 1 c) 1 [.int .i64 (y + mostF m xs)]
              | _ => True)
          [(10, [9])] rfl (by kernel_rfl) hA.start (by kernel_rfl) ?_ ?_ (fun j t hj ht => sizeB_spec (m := 132) (by kernel_rfl) j t hj ht)
          [⟨[], [3]⟩, ⟨[], [8]⟩, ⟨[], [11]⟩, ⟨[(89, 2)], []⟩, ⟨[(88, 1), (90, 3)], []⟩, ⟨[(87, 0), (91, 4)], []⟩, ⟨[(92, 5)], []⟩, ⟨[(86, 6)], []⟩, ⟨[(86, 6)], []⟩, ⟨[], []⟩, ⟨[(14, 9), (93, 7)], []⟩, ⟨[(94, 8)], []⟩] (by kernel_rfl) ?_ ?_
        · intro j vs vs' w1 h hd hV
          match j, h, hd, hV with
          | 0, h, _, hV => exact h.symm.trans hV
          | 1, h, _, hV => exact h.symm.trans hV
          | 2, h, _, hV => exact h.symm.trans hV
          | 3, h, _, hV => obtain ⟨g, e, z, b⟩ := hV; exact ⟨g, h.symm.trans e, z, b⟩
          | 4, h, _, hV => obtain ⟨A, c, e, o⟩ := hV; exact ⟨A, c, h.symm.trans e, o⟩
          | 5, h, _, hV => obtain ⟨A, c, e, o⟩ := hV; exact ⟨A, c, h.symm.trans e, o⟩
          | 6, h, _, hV => obtain ⟨A, c, e, o⟩ := hV; exact ⟨A, c, h.symm.trans e, o⟩
          | 7, h, _, hV => exact h.symm.trans hV
          | 8, h, _, hV => obtain ⟨A, c, e, o⟩ := hV; exact ⟨A, c, h.symm.trans e, o⟩
          | 9, h, _, hV => obtain ⟨g, e, r⟩ := hV; exact ⟨g, h.symm.trans e, r⟩
          | 10, h, hd, hV => obtain ⟨g, e, b⟩ := hV; exact ⟨g, (hd (10, [9]) (by simp) rfl 9 (by simp)).symm.trans e, b⟩
          | 11, h, _, hV => obtain ⟨A, c, e, o⟩ := hV; exact ⟨A, c, h.symm.trans e, o⟩
          | _ + 12, _, _, _ => trivial
        · intro j vs w1 w2 h hE
          match j, h with
          | 0, h => exact h
          | 1, h => exact h
          | 2, h => exact h
          | 3, h => obtain ⟨g, e, z, b⟩ := h; exact ⟨g, e, z, hA.keep_blk hE.2 hE.1 b (by decide) (.inr z)⟩
          | 4, h => obtain ⟨A, c, e, o⟩ := h; exact ⟨A, c, e, hA.stays _ _ _ o hE.1⟩
          | 5, h => obtain ⟨A, c, e, o⟩ := h; exact ⟨A, c, e, hA.keep_own hE.2 hE.1 o (by decide) (by decide)⟩
          | 6, h => obtain ⟨A, c, e, o⟩ := h; exact ⟨A, c, e, hA.keep_own hE.2 hE.1 o (by decide) (by decide)⟩
          | 7, h => exact h
          | 8, h => obtain ⟨A, c, e, o⟩ := h; exact ⟨A, c, e, hA.keep_own hE.2 hE.1 o (by decide) (by decide)⟩
          | 9, h => obtain ⟨g, e, z, cs, b, l⟩ := h; exact ⟨g, e, z, hA.keep_T hE.2 hE.1 b l (by decide)⟩
          | 10, h => obtain ⟨g, e, b⟩ := h; exact ⟨g, e, hA.keep_z hE.2 hE.1 b (by decide)⟩
          | 11, h => obtain ⟨A, c, e, o⟩ := h; exact ⟨A, c, e, hA.keep_own hE.2 hE.1 o (by decide) (by decide)⟩
          | _ + 12, _ => trivial
        · refine ⟨?_, ?_, ?_, ?_, ?_, ?_, ?_, ?_, ?_, ?_, ?_, ?_, trivial⟩
          · refine step2_plain rfl ?_
            rintro fa vs w1 K hC - ⟨h3, -⟩ hK
            have e3 := evg h3
            have c1 := (hB8 w1 (hA.since w1 hC)).f2
            have hK' := Lib.hid hK
            clear hK h3 
            go_simp
            exact hK'.out _ _ (set1_at _ _ _) hC (hA.same hC)
          · refine step2_plain rfl ?_
            rintro fa vs w1 K hC - ⟨h8, -⟩ hK
            have e8 := evg h8
            have hK' := Lib.hid hK
            clear hK h8 
            go_simp
            exact hK'.out _ _ (set1_at _ _ _) hC (hA.same hC)
          · refine step2_plain rfl ?_
            rintro fa vs w1 K hC - ⟨h11, -⟩ hK
            have e11 := evg h11
            have c1 := (hX8 w1 (hA.since w1 hC)).f3
            have hK' := Lib.hid hK
            clear hK h11 
            go_simp
            exact hK'.out _ _ (set1_at _ _ _) hC (hA.same hC)
          · refine step2_plain rfl ?_
            rintro fa vs w1 K hC ⟨⟨f89, h89⟩, -⟩ - hK
            have e89 : fa.tmps[89]?.getD undef = .agg #[.int .i64 4, .int .i64 high, .int .i64 0] := evg (f89.trans h89)
            have hK' := Lib.hid hK
            clear hK h89 f89 
            go_simp
            have hb := below_alloc w1 (.cells #[.int .i64 4, .int .i64 high, .int .i64 0] 33)
            exact hK'.out _ _ ⟨_, set1_at _ _ _, (hA.since w1 hC).size, Blk.new _ _ _⟩ (hA.below hC hb).1 (hA.below hC hb).2
          · refine step2_plain rfl ?_
            rintro fa vs w1 K hC ⟨⟨f88, h88⟩, ⟨f90, h90⟩, -⟩ - hK
            have e88 : fa.tmps[88]?.getD undef = u8 := evg (f88.trans h88)
            obtain ⟨g3, g90, z3, b3⟩ := h90
            have e90 : fa.tmps[90]?.getD undef = _ := evg (f90.trans g90)
            have hK' := Lib.hid hK
            clear hK h88 f88 f90 
            refine wp_append_in hA (.tmp 88) (.tmp 90) rfl (by simpa [Act.eval] using e88) ⟨g3, 0, none⟩ 1 (by simpa [Act.eval] using e90) hC (fun j u hu => ?_) (fun A' c' w' h1 h2 h3 => hK'.out _ _ ⟨A', c', set1_at _ _ _, h1⟩ h2 ⟨h3, hC⟩)
            have := (b3.cell j).trans (by simpa using hu : _ = some u)
            simpa [Addr.add_lit] using this
          · refine step2_plain rfl ?_
            rintro fa vs w1 K hC ⟨⟨f87, h87⟩, ⟨f91, h91⟩, -⟩ - hK
            have e87 : fa.tmps[87]?.getD undef = .agg #[.int .i64 y, .int .i64 m] := evg (f87.trans h87)
            obtain ⟨A4, c4, g91, V4⟩ := h91
            have e91 : fa.tmps[91]?.getD undef = _ := evg (f91.trans g91)
            obtain ⟨A', c', e', -, -, hc4⟩ := own_cells (hA.owns _ _ V4)
            obtain ⟨rfl, rfl⟩ : A4 = A' ∧ c4 = c' := by injection e' with e1 e2 e3; exact ⟨e1, e3⟩
            have hK' := Lib.hid hK
            clear hK h87 f87 f91 
            go_simp
            refine (run_turn13 y m high A4 c4 xs w1 hc4 hl hny hnm hnh hs).mono ?_
            rintro e w2 ⟨A5, c5, rfl, -, -, hb, ho⟩
            exact hK'.out _ _ ⟨A5, c5, set1_at _ _ _, own_base ho (Nat.zero_le _)⟩ (hA.below hC hb).1 (hA.below hC hb).2
          · refine step2_plain rfl ?_
            rintro fa vs w1 K hC ⟨⟨f92, h92⟩, -⟩ - hK
            obtain ⟨A5, c5, g92, o5⟩ := h92
            have e92 : fa.tmps[92]?.getD undef = _ := evg (f92.trans g92)
            have hK' := Lib.hid hK
            clear hK f92 
            go_simp
            exact hK'.out _ _ ⟨A5, c5, set1_at _ _ _, o5⟩ hC (hA.same hC)
          · refine step2_plain rfl ?_
            rintro fa vs w1 K hC ⟨⟨f86, h86⟩, -⟩ - hK
            obtain ⟨A6, c6, g86, o6⟩ := h86
            have e86 : fa.tmps[86]?.getD undef = _ := evg (f86.trans g86)
            have hK' := Lib.hid hK
            clear hK f86 
            go_simp
            exact hK'.out _ _ (set1_at _ _ _) hC (hA.same hC)
          · refine step2_plain rfl ?_
            rintro fa vs w1 K hC ⟨⟨f86, h86⟩, -⟩ - hK
            obtain ⟨A6, c6, g86, o6⟩ := h86
            have e86 : fa.tmps[86]?.getD undef = _ := evg (f86.trans g86)
            have hK' := Lib.hid hK
            clear hK f86 
            go_simp
            exact hK'.out _ _ ⟨A6, c6, set1_at _ _ _, o6⟩ hC (hA.same hC)
          · refine step2_plain rfl ?_
            rintro fa vs w1 K hC - - hK
            have hK' := Lib.hid hK
            clear hK  
            go_simp
            have hb := below_alloc w1 (.cells #[.int .i64 0, .int .i64 0] 23)
            exact hK'.out _ _ ⟨_, set1_at _ _ _, (hA.since w1 hC).size, _, Blk.new _ _ _, rfl⟩ (hA.below hC hb).1 (hA.below hC hb).2
          · refine step2_plain rfl ?_
            rintro fa vs w1 K hC ⟨⟨f14, h14⟩, ⟨f93, h93⟩, -⟩ - hK
            obtain ⟨g9, g14, z9, cs9, b9, l9⟩ := h14
            have e14 : fa.tmps[14]?.getD undef = _ := evg (f14.trans g14)
            have e93 : fa.tmps[93]?.getD undef = .agg #[.int .i64 (y + mostF m xs + high), .int .i64 0] := evg (f93.trans h93)
            obtain ⟨x9, y9, rfl⟩ := arr2 l9
            have c1 := b9.f2
            have hK' := Lib.hid hK
            clear hK f14 h93 f93 
            go_simp
            have bz := (b9.set0 (.int .i64 (y + mostF m xs + high))).set1 (.int .i64 0)
            have hk := only_setCell (p := ⟨g9, 1, none⟩) (only_setCell (p := ⟨g9, 0, none⟩) (World.grownBy.refl w1 (some g9)) (.inl rfl) (.int .i64 (y + mostF m xs + high))) (.inl rfl) (.int .i64 0)
            have hm := hA.more w1 _ hC (TameBut.set b9 l9 z9 hk bz)
            exact hK'.out undef _ ⟨g9, (set1_ne _ _ (by omega)).trans g14, bz⟩ hm.1 ⟨hm.2, hC⟩
          · refine step2_plain rfl ?_
            rintro fa vs w1 K hC ⟨⟨f94, h94⟩, -⟩ - hK
            obtain ⟨A8, c8, g94, o8⟩ := h94
            have e94 : fa.tmps[94]?.getD undef = _ := evg (f94.trans g94)
            have hK' := Lib.hid hK
            clear hK f94 
            go_simp
            exact hK'.out _ _ ⟨A8, c8, set1_at _ _ _, o8⟩ hC (hA.same hC)
        · intro vs w10 hC hv
          have e0 : vs 0 = .agg #[.int .i64 y, .int .i64 m] := hv 0 (by omega)
          have e1 : vs 1 = u8 := hv 1 (by omega)
          have e2 : vs 2 = .agg #[.int .i64 4, .int .i64 high, .int .i64 0] := hv 2 (by omega)
          obtain ⟨A4, c4, e4, V4⟩ := hv 4 (by omega)
          have e7 : vs 7 = .agg #[.int .i64 (y + mostF m xs + high), .int .i64 0] := hv 7 (by omega)
          obtain ⟨gz13, e9, bz13⟩ := hv 10 (by omega)
          obtain ⟨A11_13, c11_13, e11, o11_13⟩ := hv 11 (by omega)
          simp only [fill, dstOf, Act.put, List.drop_succ_cons, List.drop_zero, if_true, List.getElem?_toArray, List.getElem?_cons_zero, List.getElem?_cons_succ, Option.bind_some, List.setIfInBounds_toArray, List.set_cons_succ, List.set_cons_zero, e0, e1, e2, e4, e7, e9, e11]
          clear hv e0 e1 e2 e4 e7 e9 e11 
          have hs10 := hA.since w10 hC
          have hB10 := hB8 w10 hs10
          have hb10 : Below w.heap.size w w10 := hb9.grown hs10 (by have := hb9.size; omega) (fun g e => by have := own_ge hV _ e; omega)
          have bz10 := bz12.grown hs10 (fun e => own_blk_ne hV9 bz12 (by decide) e.symm)
          have o10 := o11_12.kept hs10 (own_own_ne o11_12 hV9 (by decide))
          have i10 := own_ints1 o10
          have j10 := own_ints1 o11_13
          obtain ⟨b11, off11, rfl, hb11, hc11⟩ := i10 0 (by simp)
          clear hs10 hA hC V4 hB8 hX8 hV9 hB9 hX9 hb9 bz12 o10 o11_12 o11_13 hV hap hbw hB Cx Ex Vx
          go_wp2_with fail
          refine wp_region_below 38 132 (fun j v w' => match j with
                | 0 => v = .slice (some ⟨b11, off11, none⟩) 1 c11_12
                | 1 => v = .int .i64 1
                | 2 => v = .bool true
                | 3 => v = .bool true
                | 4 => v = .slice (some ⟨b11, off11, none⟩) 1 c11_12
                | 5 => v = .pointer (some ⟨b11, off11, none⟩)
                | 6 => v = .int .i64 (y + mostF m xs)
                | 7 => v = .pointer (some ⟨w.heap.size, 0, none⟩)
                | 8 => v = .int .i64 y
                | 9 => v = .int .i64 (mostF m xs)
                | 10 => v = .int .i64 (y + mostF m xs)
                | 11 => v = .bool true
                | 12 => v = .bool true
                | 13 => v = .bool true
                | 14 => v = .agg #[.int .i64 (y + mostF m xs + high), .int .i64 0]
                | 15 => v = .pointer (some ⟨w.heap.size, 0, none⟩)
                | 16 => v = .int .i64 y
                | 17 => v = .int .i64 (mostF m xs)
                | 18 => v = .int .i64 (y + mostF m xs)
                | 19 => v = .int .i64 high
                | 20 => v = .int .i64 (y + mostF m xs + high)
                | 21 => v = .agg #[.int .i64 (y + mostF m xs + high), .int .i64 0]
                | 22 => v = .bool true
                | 23 => v = .bool true
                | 24 => v = .bool true
                | 25 => v = .agg #[.int .i64 (y + mostF m xs + high), .int .i64 0]
                | 26 => v = .agg #[.int .i64 (y + mostF m xs + high), .int .i64 0]
                | 27 => v = .bool true
                | 28 => v = .bool true
                | 29 => v = .bool true
                | 30 => v = .slice (some ⟨b11, off11, none⟩) 1 c11_12
                | 31 => v = .slice A11_13 1 c11_13
                | 32 => v = .bool true
                | 33 => v = .bool true
                | 34 => v = .bool true
                | 35 => v = .bool true
                | 36 => v = .bool true
                | _ => v = .bool true)
            [⟨[], [13]⟩, ⟨[(95, 0)], []⟩, ⟨[(96, 1)], []⟩, ⟨[(97, 2)], []⟩, ⟨[(98, 3)], [13]⟩, ⟨[(99, 4), (98, 3)], []⟩, ⟨[(100, 5), (98, 3)], []⟩, ⟨[(98, 3)], [3]⟩, ⟨[(102, 7), (98, 3)], []⟩, ⟨[(98, 3)], [9]⟩, ⟨[(103, 8), (104, 9), (98, 3)], []⟩, ⟨[(101, 6), (105, 10), (98, 3)], []⟩, ⟨[(98, 3), (106, 11)], []⟩, ⟨[(107, 12)], []⟩, ⟨[(108, 13)], [12]⟩, ⟨[(108, 13)], [3]⟩, ⟨[(110, 15), (108, 13)], []⟩, ⟨[(108, 13)], [9]⟩, ⟨[(111, 16), (112, 17), (108, 13)], []⟩, ⟨[(108, 13)], [2]⟩, ⟨[(113, 18), (114, 19), (108, 13)], []⟩, ⟨[(115, 20), (108, 13)], []⟩, ⟨[(109, 14), (116, 21), (108, 13)], []⟩, ⟨[(108, 13), (117, 22)], []⟩, ⟨[(118, 23)], []⟩, ⟨[(119, 24)], [14]⟩, ⟨[(119, 24)], [12]⟩, ⟨[(120, 25), (121, 26), (119, 24)], []⟩, ⟨[(119, 24), (122, 27)], []⟩, ⟨[(123, 28)], []⟩, ⟨[(124, 29)], [13]⟩, ⟨[(124, 29)], [15]⟩, ⟨[(125, 30), (126, 31), (124, 29)], []⟩, ⟨[(124, 29), (127, 32)], []⟩, ⟨[(128, 33)], []⟩, ⟨[(129, 34)], []⟩, ⟨[(129, 34), (130, 35)], []⟩, ⟨[(131, 36)], []⟩] (by kernel_rfl) (by kernel_rfl) (by kernel_rfl) (by kernel_rfl) rfl ?_ ?_ ?_
          · intro j v w1 w2 h _
            match j, h with
            | 0, h => exact h
            | 1, h => exact h
            | 2, h => exact h
            | 3, h => exact h
            | 4, h => exact h
            | 5, h => exact h
            | 6, h => exact h
            | 7, h => exact h
            | 8, h => exact h
            | 9, h => exact h
            | 10, h => exact h
            | 11, h => exact h
            | 12, h => exact h
            | 13, h => exact h
            | 14, h => exact h
            | 15, h => exact h
            | 16, h => exact h
            | 17, h => exact h
            | 18, h => exact h
            | 19, h => exact h
            | 20, h => exact h
            | 21, h => exact h
            | 22, h => exact h
            | 23, h => exact h
            | 24, h => exact h
            | 25, h => exact h
            | 26, h => exact h
            | 27, h => exact h
            | 28, h => exact h
            | 29, h => exact h
            | 30, h => exact h
            | 31, h => exact h
            | 32, h => exact h
            | 33, h => exact h
            | 34, h => exact h
            | 35, h => exact h
            | 36, h => exact h
            | _ + 37, h => exact h
          · refine ⟨?_, ?_, ?_, ?_, ?_, ?_, ?_, ?_, ?_, ?_, ?_, ?_, ?_, ?_, ?_, ?_, ?_, ?_, ?_, ?_, ?_, ?_, ?_, ?_, ?_, ?_, ?_, ?_, ?_, ?_, ?_, ?_, ?_, ?_, ?_, ?_, ?_, ?_, trivial⟩
            · refine step_plain rfl ?_
              rintro fa w1 K hC - ⟨h13, -⟩ hK
              have e13 := evg h13
              have hK' := Lib.hid hK
              clear hK h13 hB10 bz10 bz13 i10 j10 hb10
              go_simp
              exact hK'.out _ _ rfl hC (Below.refl _ _)
            · refine step_plain rfl ?_
              rintro fa w1 K hC ⟨h95, -⟩ - hK
              have e95 : fa.tmps[95]?.getD undef = .slice (some ⟨b11, off11, none⟩) 1 c11_12 := evg h95
              have hK' := Lib.hid hK
              clear hK h95 hB10 bz10 bz13 i10 j10 hb10
              go_simp
              exact hK'.out _ _ rfl hC (Below.refl _ _)
            · refine step_plain rfl ?_
              rintro fa w1 K hC ⟨h96, -⟩ - hK
              have e96 : fa.tmps[96]?.getD undef = .int .i64 1 := evg h96
              have hK' := Lib.hid hK
              clear hK h96 hB10 bz10 bz13 i10 j10 hb10
              go_simp
              exact hK'.out _ _ rfl hC (Below.refl _ _)
            · refine step_plain rfl ?_
              rintro fa w1 K hC ⟨h97, -⟩ - hK
              have e97 : fa.tmps[97]?.getD undef = .bool true := evg h97
              have hK' := Lib.hid hK
              clear hK h97 hB10 bz10 bz13 i10 j10 hb10
              go_simp
              exact hK'.out _ _ rfl hC (Below.refl _ _)
            · refine step_want (t := 98) rfl rfl (by simp) (fun v w h => h) ?_
              rintro fa w1 K hC ⟨-, -⟩ ⟨h13, -⟩ hK
              have e13 := evg h13
              have hK' := Lib.hid hK
              clear hK h13 hB10 bz10 bz13 i10 j10 hb10
              go_simp
              exact hK'.out _ _ rfl hC (Below.refl _ _)
            · refine step_want (t := 98) rfl rfl (by simp) (fun v w h => h) ?_
              rintro fa w1 K hC ⟨h99, -, -⟩ - hK
              have e99 : fa.tmps[99]?.getD undef = .slice (some ⟨b11, off11, none⟩) 1 c11_12 := evg h99
              have hK' := Lib.hid hK
              clear hK h99 hB10 bz10 bz13 i10 j10 hb10
              go_simp
              exact hK'.out _ _ rfl hC (Below.refl _ _)
            · refine step_want (t := 98) rfl rfl (by simp) (fun v w h => h) ?_
              rintro fa w1 K hC ⟨h100, -, -⟩ - hK
              have e100 : fa.tmps[100]?.getD undef = .pointer (some ⟨b11, off11, none⟩) := evg h100
              have c2 : w1.cell? ⟨b11, off11, none⟩ = some (.int .i64 (y + mostF m xs)) := (hC.cell (p := ⟨b11, off11 + 0, none⟩) hb11).trans hc11
              have hK' := Lib.hid hK
              clear hK h100 hB10 bz10 bz13 i10 j10 hb10
              go_simp
              exact hK'.out _ _ rfl hC (Below.refl _ _)
            · refine step_want (t := 98) rfl rfl (by simp) (fun v w h => h) ?_
              rintro fa w1 K hC ⟨-, -⟩ ⟨h3, -⟩ hK
              have e3 := evg h3
              have hK' := Lib.hid hK
              clear hK h3 hB10 bz10 bz13 i10 j10 hb10
              go_simp
              exact hK'.out _ _ rfl hC (Below.refl _ _)
            · refine step_want (t := 98) rfl rfl (by simp) (fun v w h => h) ?_
              rintro fa w1 K hC ⟨h102, -, -⟩ - hK
              have e102 : fa.tmps[102]?.getD undef = .pointer (some ⟨w.heap.size, 0, none⟩) := evg h102
              have c1 := (hB10.belowB hC).f2
              have hK' := Lib.hid hK
              clear hK h102 hB10 bz10 bz13 i10 j10 hb10
              go_simp
              exact hK'.out _ _ rfl hC (Below.refl _ _)
            · refine step_want (t := 98) rfl rfl (by simp) (fun v w h => h) ?_
              rintro fa w1 K hC ⟨-, -⟩ ⟨h9, -⟩ hK
              have e9 := evg h9
              have hK' := Lib.hid hK
              clear hK h9 hB10 bz10 bz13 i10 j10 hb10
              go_simp
              exact hK'.out _ _ rfl hC (Below.refl _ _)
            · refine step_want (t := 98) rfl rfl (by simp) (fun v w h => h) ?_
              rintro fa w1 K hC ⟨h103, h104, -, -⟩ - hK
              have e103 : fa.tmps[103]?.getD undef = .int .i64 y := evg h103
              have e104 : fa.tmps[104]?.getD undef = .int .i64 (mostF m xs) := evg h104
              have hK' := Lib.hid hK
              clear hK h103 h104 hB10 bz10 bz13 i10 j10 hb10
              go_simp
              rw [IntWalk.i64_in _ (by omega)]
              exact hK'.out _ _ rfl hC (Below.refl _ _)
            · refine step_want (t := 98) rfl rfl (by simp) (fun v w h => h) ?_
              rintro fa w1 K hC ⟨h101, h105, -, -⟩ - hK
              have e101 : fa.tmps[101]?.getD undef = .int .i64 (y + mostF m xs) := evg h101
              have e105 : fa.tmps[105]?.getD undef = .int .i64 (y + mostF m xs) := evg h105
              have hK' := Lib.hid hK
              clear hK h101 h105 hB10 bz10 bz13 i10 j10 hb10
              go_simp
              exact hK'.out _ _ rfl hC (Below.refl _ _)
            · refine step_plain rfl ?_
              rintro fa w1 K hC ⟨h98, h106, -⟩ - hK
              have e98 : fa.tmps[98]?.getD undef = .bool true := evg h98
              have e106 : fa.tmps[106]?.getD undef = .bool true := evg h106
              have hK' := Lib.hid hK
              clear hK h98 h106 hB10 bz10 bz13 i10 j10 hb10
              go_simp
              exact hK'.out _ _ rfl hC (Below.refl _ _)
            · refine step_plain rfl ?_
              rintro fa w1 K hC ⟨h107, -⟩ - hK
              have e107 : fa.tmps[107]?.getD undef = .bool true := evg h107
              have hK' := Lib.hid hK
              clear hK h107 hB10 bz10 bz13 i10 j10 hb10
              go_simp
              exact hK'.out _ _ rfl hC (Below.refl _ _)
            · refine step_want (t := 108) rfl rfl (by simp) (fun v w h => h) ?_
              rintro fa w1 K hC ⟨-, -⟩ ⟨h12, -⟩ hK
              have e12 := evg h12
              have c1 := (bz10.belowB hC).f2
              have hK' := Lib.hid hK
              clear hK h12 hB10 bz10 bz13 i10 j10 hb10
              go_simp
              exact hK'.out _ _ rfl hC (Below.refl _ _)
            · refine step_want (t := 108) rfl rfl (by simp) (fun v w h => h) ?_
              rintro fa w1 K hC ⟨-, -⟩ ⟨h3, -⟩ hK
              have e3 := evg h3
              have hK' := Lib.hid hK
              clear hK h3 hB10 bz10 bz13 i10 j10 hb10
              go_simp
              exact hK'.out _ _ rfl hC (Below.refl _ _)
            · refine step_want (t := 108) rfl rfl (by simp) (fun v w h => h) ?_
              rintro fa w1 K hC ⟨h110, -, -⟩ - hK
              have e110 : fa.tmps[110]?.getD undef = .pointer (some ⟨w.heap.size, 0, none⟩) := evg h110
              have c1 := (hB10.belowB hC).f2
              have hK' := Lib.hid hK
              clear hK h110 hB10 bz10 bz13 i10 j10 hb10
              go_simp
              exact hK'.out _ _ rfl hC (Below.refl _ _)
            · refine step_want (t := 108) rfl rfl (by simp) (fun v w h => h) ?_
              rintro fa w1 K hC ⟨-, -⟩ ⟨h9, -⟩ hK
              have e9 := evg h9
              have hK' := Lib.hid hK
              clear hK h9 hB10 bz10 bz13 i10 j10 hb10
              go_simp
              exact hK'.out _ _ rfl hC (Below.refl _ _)
            · refine step_want (t := 108) rfl rfl (by simp) (fun v w h => h) ?_
              rintro fa w1 K hC ⟨h111, h112, -, -⟩ - hK
              have e111 : fa.tmps[111]?.getD undef = .int .i64 y := evg h111
              have e112 : fa.tmps[112]?.getD undef = .int .i64 (mostF m xs) := evg h112
              have hK' := Lib.hid hK
              clear hK h111 h112 hB10 bz10 bz13 i10 j10 hb10
              go_simp
              rw [IntWalk.i64_in _ (by omega)]
              exact hK'.out _ _ rfl hC (Below.refl _ _)
            · refine step_want (t := 108) rfl rfl (by simp) (fun v w h => h) ?_
              rintro fa w1 K hC ⟨-, -⟩ ⟨h2, -⟩ hK
              have e2 := evg h2
              have hK' := Lib.hid hK
              clear hK h2 hB10 bz10 bz13 i10 j10 hb10
              go_simp
              exact hK'.out _ _ rfl hC (Below.refl _ _)
            · refine step_want (t := 108) rfl rfl (by simp) (fun v w h => h) ?_
              rintro fa w1 K hC ⟨h113, h114, -, -⟩ - hK
              have e113 : fa.tmps[113]?.getD undef = .int .i64 (y + mostF m xs) := evg h113
              have e114 : fa.tmps[114]?.getD undef = .int .i64 high := evg h114
              have hK' := Lib.hid hK
              clear hK h113 h114 hB10 bz10 bz13 i10 j10 hb10
              go_simp
              rw [IntWalk.i64_in _ (by omega)]
              exact hK'.out _ _ rfl hC (Below.refl _ _)
            · refine step_want (t := 108) rfl rfl (by simp) (fun v w h => h) ?_
              rintro fa w1 K hC ⟨h115, -, -⟩ - hK
              have e115 : fa.tmps[115]?.getD undef = .int .i64 (y + mostF m xs + high) := evg h115
              have hK' := Lib.hid hK
              clear hK h115 hB10 bz10 bz13 i10 j10 hb10
              go_simp
              refine (pen_any (y + mostF m xs + high) 0 _).mono ?_
              rintro e w2 ⟨rfl, hb⟩
              exact hK'.out _ _ rfl (below_then hC hb) hb
            · refine step_want (t := 108) rfl rfl (by simp) (fun v w h => h) ?_
              rintro fa w1 K hC ⟨h109, h116, -, -⟩ - hK
              have e109 : fa.tmps[109]?.getD undef = .agg #[.int .i64 (y + mostF m xs + high), .int .i64 0] := evg h109
              have e116 : fa.tmps[116]?.getD undef = .agg #[.int .i64 (y + mostF m xs + high), .int .i64 0] := evg h116
              have hK' := Lib.hid hK
              clear hK h109 h116 hB10 bz10 bz13 i10 j10 hb10
              go_simp
              exact hK'.out _ _ rfl hC (Below.refl _ _)
            · refine step_plain rfl ?_
              rintro fa w1 K hC ⟨h108, h117, -⟩ - hK
              have e108 : fa.tmps[108]?.getD undef = .bool true := evg h108
              have e117 : fa.tmps[117]?.getD undef = .bool true := evg h117
              have hK' := Lib.hid hK
              clear hK h108 h117 hB10 bz10 bz13 i10 j10 hb10
              go_simp
              exact hK'.out _ _ rfl hC (Below.refl _ _)
            · refine step_plain rfl ?_
              rintro fa w1 K hC ⟨h118, -⟩ - hK
              have e118 : fa.tmps[118]?.getD undef = .bool true := evg h118
              have hK' := Lib.hid hK
              clear hK h118 hB10 bz10 bz13 i10 j10 hb10
              go_simp
              exact hK'.out _ _ rfl hC (Below.refl _ _)
            · refine step_want (t := 119) rfl rfl (by simp) (fun v w h => h) ?_
              rintro fa w1 K hC ⟨-, -⟩ ⟨h14, -⟩ hK
              have e14 := evg h14
              have c1 := (bz13.belowB hC).f2
              have hK' := Lib.hid hK
              clear hK h14 hB10 bz10 bz13 i10 j10 hb10
              go_simp
              exact hK'.out _ _ rfl hC (Below.refl _ _)
            · refine step_want (t := 119) rfl rfl (by simp) (fun v w h => h) ?_
              rintro fa w1 K hC ⟨-, -⟩ ⟨h12, -⟩ hK
              have e12 := evg h12
              have c1 := (bz10.belowB hC).f2
              have hK' := Lib.hid hK
              clear hK h12 hB10 bz10 bz13 i10 j10 hb10
              go_simp
              exact hK'.out _ _ rfl hC (Below.refl _ _)
            · refine step_want (t := 119) rfl rfl (by simp) (fun v w h => h) ?_
              rintro fa w1 K hC ⟨h120, h121, -, -⟩ - hK
              have e120 : fa.tmps[120]?.getD undef = .agg #[.int .i64 (y + mostF m xs + high), .int .i64 0] := evg h120
              have e121 : fa.tmps[121]?.getD undef = .agg #[.int .i64 (y + mostF m xs + high), .int .i64 0] := evg h121
              have hK' := Lib.hid hK
              clear hK h120 h121 hB10 bz10 bz13 i10 j10 hb10
              go_simp
              exact hK'.out _ _ rfl hC (Below.refl _ _)
            · refine step_plain rfl ?_
              rintro fa w1 K hC ⟨h119, h122, -⟩ - hK
              have e119 : fa.tmps[119]?.getD undef = .bool true := evg h119
              have e122 : fa.tmps[122]?.getD undef = .bool true := evg h122
              have hK' := Lib.hid hK
              clear hK h119 h122 hB10 bz10 bz13 i10 j10 hb10
              go_simp
              exact hK'.out _ _ rfl hC (Below.refl _ _)
            · refine step_plain rfl ?_
              rintro fa w1 K hC ⟨h123, -⟩ - hK
              have e123 : fa.tmps[123]?.getD undef = .bool true := evg h123
              have hK' := Lib.hid hK
              clear hK h123 hB10 bz10 bz13 i10 j10 hb10
              go_simp
              exact hK'.out _ _ rfl hC (Below.refl _ _)
            · refine step_want (t := 124) rfl rfl (by simp) (fun v w h => h) ?_
              rintro fa w1 K hC ⟨-, -⟩ ⟨h13, -⟩ hK
              have e13 := evg h13
              have hK' := Lib.hid hK
              clear hK h13 hB10 bz10 bz13 i10 j10 hb10
              go_simp
              exact hK'.out _ _ rfl hC (Below.refl _ _)
            · refine step_want (t := 124) rfl rfl (by simp) (fun v w h => h) ?_
              rintro fa w1 K hC ⟨-, -⟩ ⟨h15, -⟩ hK
              have e15 := evg h15
              have hK' := Lib.hid hK
              clear hK h15 hB10 bz10 bz13 i10 j10 hb10
              go_simp
              exact hK'.out _ _ rfl hC (Below.refl _ _)
            · refine step_want (t := 124) rfl rfl (by simp) (fun v w h => h) ?_
              rintro fa w1 K hC ⟨h125, h126, -, -⟩ - hK
              have e125 : fa.tmps[125]?.getD undef = .slice (some ⟨b11, off11, none⟩) 1 c11_12 := evg h125
              have e126 : fa.tmps[126]?.getD undef = .slice A11_13 1 c11_13 := evg h126
              have i11 := i10.below hC
              have j11 := j10.below hC
              have hK' := Lib.hid hK
              clear hK h125 h126 hB10 bz10 bz13 i10 j10 hb10
              go_simp
              refine (same13 _ A11_13 c11_12 c11_13 [y + mostF m xs] _ i11 j11 (by simp)).mono ?_
              rintro e w2 ⟨rfl, hb⟩
              exact hK'.out _ _ rfl (below_then hC hb) hb
            · refine step_plain rfl ?_
              rintro fa w1 K hC ⟨h124, h127, -⟩ - hK
              have e124 : fa.tmps[124]?.getD undef = .bool true := evg h124
              have e127 : fa.tmps[127]?.getD undef = .bool true := evg h127
              have hK' := Lib.hid hK
              clear hK h124 h127 hB10 bz10 bz13 i10 j10 hb10
              go_simp
              exact hK'.out _ _ rfl hC (Below.refl _ _)
            · refine step_plain rfl ?_
              rintro fa w1 K hC ⟨h128, -⟩ - hK
              have e128 : fa.tmps[128]?.getD undef = .bool true := evg h128
              have hK' := Lib.hid hK
              clear hK h128 hB10 bz10 bz13 i10 j10 hb10
              go_simp
              exact hK'.out _ _ rfl hC (Below.refl _ _)
            · refine step_want (t := 129) rfl rfl (by simp) (fun v w h => h) ?_
              rintro fa w1 K hC ⟨-, -⟩ - hK
              have hK' := Lib.hid hK
              clear hK  hB10 bz10 bz13 i10 j10 hb10
              go_simp
              refine (awake13 _).mono ?_
              rintro e w2 ⟨rfl, hb⟩
              exact hK'.out _ _ rfl (below_then hC hb) hb
            · refine step_plain rfl ?_
              rintro fa w1 K hC ⟨h129, h130, -⟩ - hK
              have e129 : fa.tmps[129]?.getD undef = .bool true := evg h129
              have e130 : fa.tmps[130]?.getD undef = .bool true := evg h130
              have hK' := Lib.hid hK
              clear hK h129 h130 hB10 bz10 bz13 i10 j10 hb10
              go_simp
              exact hK'.out _ _ rfl hC (Below.refl _ _)
            · refine step_plain rfl ?_
              rintro fa w1 K hC ⟨h131, -⟩ - hK
              have e131 : fa.tmps[131]?.getD undef = .bool true := evg h131
              have hK' := Lib.hid hK
              clear hK h131 hB10 bz10 bz13 i10 j10 hb10
              go_simp
              exact hK'.out _ _ rfl hC (Below.refl _ _)
          · intro vs w11 hC hv
            have e0 : vs 0 = .slice (some ⟨b11, off11, none⟩) 1 c11_12 := hv 0 (by omega)
            have e1 : vs 1 = .int .i64 1 := hv 1 (by omega)
            have e2 : vs 2 = .bool true := hv 2 (by omega)
            have e3 : vs 3 = .bool true := hv 3 (by omega)
            have e4 : vs 4 = .slice (some ⟨b11, off11, none⟩) 1 c11_12 := hv 4 (by omega)
            have e5 : vs 5 = .pointer (some ⟨b11, off11, none⟩) := hv 5 (by omega)
            have e6 : vs 6 = .int .i64 (y + mostF m xs) := hv 6 (by omega)
            have e7 : vs 7 = .pointer (some ⟨w.heap.size, 0, none⟩) := hv 7 (by omega)
            have e8 : vs 8 = .int .i64 y := hv 8 (by omega)
            have e9 : vs 9 = .int .i64 (mostF m xs) := hv 9 (by omega)
            have e10 : vs 10 = .int .i64 (y + mostF m xs) := hv 10 (by omega)
            have e11 : vs 11 = .bool true := hv 11 (by omega)
            have e12 : vs 12 = .bool true := hv 12 (by omega)
            have e13 : vs 13 = .bool true := hv 13 (by omega)
            have e14 : vs 14 = .agg #[.int .i64 (y + mostF m xs + high), .int .i64 0] := hv 14 (by omega)
            have e15 : vs 15 = .pointer (some ⟨w.heap.size, 0, none⟩) := hv 15 (by omega)
            have e16 : vs 16 = .int .i64 y := hv 16 (by omega)
            have e17 : vs 17 = .int .i64 (mostF m xs) := hv 17 (by omega)
            have e18 : vs 18 = .int .i64 (y + mostF m xs) := hv 18 (by omega)
            have e19 : vs 19 = .int .i64 high := hv 19 (by omega)
            have e20 : vs 20 = .int .i64 (y + mostF m xs + high) := hv 20 (by omega)
            have e21 : vs 21 = .agg #[.int .i64 (y + mostF m xs + high), .int .i64 0] := hv 21 (by omega)
            have e22 : vs 22 = .bool true := hv 22 (by omega)
            have e23 : vs 23 = .bool true := hv 23 (by omega)
            have e24 : vs 24 = .bool true := hv 24 (by omega)
            have e25 : vs 25 = .agg #[.int .i64 (y + mostF m xs + high), .int .i64 0] := hv 25 (by omega)
            have e26 : vs 26 = .agg #[.int .i64 (y + mostF m xs + high), .int .i64 0] := hv 26 (by omega)
            have e27 : vs 27 = .bool true := hv 27 (by omega)
            have e28 : vs 28 = .bool true := hv 28 (by omega)
            have e29 : vs 29 = .bool true := hv 29 (by omega)
            have e30 : vs 30 = .slice (some ⟨b11, off11, none⟩) 1 c11_12 := hv 30 (by omega)
            have e31 : vs 31 = .slice A11_13 1 c11_13 := hv 31 (by omega)
            have e32 : vs 32 = .bool true := hv 32 (by omega)
            have e33 : vs 33 = .bool true := hv 33 (by omega)
            have e34 : vs 34 = .bool true := hv 34 (by omega)
            have e35 : vs 35 = .bool true := hv 35 (by omega)
            have e36 : vs 36 = .bool true := hv 36 (by omega)
            have e37 : vs 37 = .bool true := hv 37 (by omega)
            simp only [fill, dstOf, Act.put, List.drop_succ_cons, List.drop_zero, if_true, List.getElem?_toArray, List.getElem?_cons_zero, List.getElem?_cons_succ, Option.bind_some, List.setIfInBounds_toArray, List.set_cons_succ, List.set_cons_zero, e0, e1, e2, e3, e4, e5, e6, e7, e8, e9, e10, e11, e12, e13, e14, e15, e16, e17, e18, e19, e20, e21, e22, e23, e24, e25, e26, e27, e28, e29, e30, e31, e32, e33, e34, e35, e36, e37]
            clear hv e0 e1 e2 e3 e4 e5 e6 e7 e8 e9 e10 e11 e12 e13 e14 e15 e16 e17 e18 e19 e20 e21 e22 e23 e24 e25 e26 e27 e28 e29 e30 e31 e32 e33 e34 e35 e36 e37 hB10 bz10 bz13 i10 j10
            go_wp2
            refine bodyPost_ret (v := .bool true) (by simp [results, Try.results4, go_sem]) rfl ?_
            exact ⟨rfl, below_then hb10 hC⟩
end Go.Proofs.Ytbbnfenlpfoaiaa
