/- CHAPTER 22: the first and the best: what they are. -/
/- G -/
import Derived.Test.YtdpaflhlgaffdaaGChoA
set_option linter.unusedSimpArgs false
set_option linter.unusedVariables false
namespace Go.Proofs.Ytdpaflhlgaffdaa
open Go.RowKit

theorem fst_spec (l : List LBrk) (lo : Nat) : ∀ cnt : Nat, ((mosR fstA l noFo lo cnt).is = false ∧ (mosR fstA l noFo lo cnt).out = noFo ∧ ∀ j, j < cnt → (foAt l (lo + j)).b.fo = 0) ∨
    ((mosR fstA l noFo lo cnt).is = true ∧ ∃ j, j < cnt ∧ (mosR fstA l noFo lo cnt).out = foAt l (lo + j) ∧ (foAt l (lo + j)).b.fo ≠ 0 ∧ ∀ i, i < j → (foAt l (lo + i)).b.fo = 0)
  | 0 => .inl ⟨rfl, rfl, fun j h => absurd h (Nat.not_lt_zero _)⟩
  | cnt + 1 => by
    have ih := fst_spec l lo cnt
    rw [show mosR fstA l noFo lo (cnt + 1) = mosT fstA (mosR fstA l noFo lo cnt) (foAt l (lo + cnt)) from rfl]
    generalize mosR fstA l noFo lo cnt = o at ih
    rcases ih with ⟨h1, h2, h3⟩ | ⟨h1, j, h2, h3, h4, h5⟩
    · by_cases hf : (foAt l (lo + cnt)).b.fo = 0
      · left
        have e : mosT fstA o (foAt l (lo + cnt)) = o := by simp [mosT, fstA, hf]
        rw [e]
        refine ⟨h1, h2, fun j hj => ?_⟩
        rcases Nat.lt_succ_iff_lt_or_eq.1 hj with h | h
        · exact h3 j h
        · subst h; exact hf
      · right
        have e : mosT fstA o (foAt l (lo + cnt)) = ⟨foAt l (lo + cnt), true⟩ := by simp [mosT, fstA, hf, h1]
        rw [e]
        exact ⟨rfl, cnt, by omega, rfl, hf, h3⟩
    · right
      have e : mosT fstA o (foAt l (lo + cnt)) = o := by simp [mosT, fstA, h1]
      rw [e]
      exact ⟨h1, j, by omega, h3, h4, h5⟩
theorem bst_spec (l : List LBrk) (lo : Nat) : ∀ cnt : Nat, (cnt = 0 ∧ (mosR bstA l noFo lo cnt).is = false ∧ (mosR bstA l noFo lo cnt).out = noFo) ∨
    ((mosR bstA l noFo lo cnt).is = true ∧ ∃ j, j < cnt ∧ (mosR bstA l noFo lo cnt).out = foAt l (lo + j) ∧ (∀ i, i < cnt → (foAt l (lo + j)).b.rk ≤ (foAt l (lo + i)).b.rk) ∧ ∀ i, j < i → i < cnt → (foAt l (lo + j)).b.rk < (foAt l (lo + i)).b.rk)
  | 0 => .inl ⟨rfl, rfl, rfl⟩
  | cnt + 1 => by
    have ih := bst_spec l lo cnt
    rw [show mosR bstA l noFo lo (cnt + 1) = mosT bstA (mosR bstA l noFo lo cnt) (foAt l (lo + cnt)) from rfl]
    generalize mosR bstA l noFo lo cnt = o at ih
    right
    rcases ih with ⟨h1, h2, h3⟩ | ⟨h1, j, h2, h3, h4, h5⟩
    · subst h1
      have e : mosT bstA o (foAt l (lo + 0)) = ⟨foAt l (lo + 0), true⟩ := by simp [mosT, bstA, h2]
      rw [e]
      refine ⟨rfl, 0, by omega, rfl, fun i hi => ?_, fun i h6 h7 => by omega⟩
      obtain rfl : i = 0 := by omega
      exact Int.le_refl _
    · by_cases hf : (foAt l (lo + cnt)).b.rk ≤ (foAt l (lo + j)).b.rk
      · have e : mosT bstA o (foAt l (lo + cnt)) = ⟨foAt l (lo + cnt), true⟩ := by simp [mosT, bstA, h1, h3, hf]
        rw [e]
        refine ⟨rfl, cnt, by omega, rfl, fun i hi => ?_, fun i h6 h7 => by omega⟩
        rcases Nat.lt_succ_iff_lt_or_eq.1 hi with h | h
        · exact Int.le_trans hf (h4 i h)
        · subst h; exact Int.le_refl _
      · have e : mosT bstA o (foAt l (lo + cnt)) = o := by simp [mosT, bstA, h1, h3, hf]
        rw [e]
        refine ⟨h1, j, by omega, h3, fun i hi => ?_, fun i h6 h7 => ?_⟩
        · rcases Nat.lt_succ_iff_lt_or_eq.1 hi with h | h
          · exact h4 i h
          · subst h; omega
        · rcases Nat.lt_succ_iff_lt_or_eq.1 h7 with h | h
          · exact h5 i h6 h
          · subst h; omega
/-- the cut of a page: where it lies. -/
structure CutIs (l : List LBrk) (i fit k : Nat) : Prop where
  lt : i < k
  le : k ≤ fit
  in_ : k < l.length
  calm : ∀ m, i < m → m < k → (foAt l m).b.fo = 0
  best : (foAt l k).b.fo = 0 → ∀ m, i < m → m ≤ fit → m < l.length → (foAt l m).b.fo = 0 ∧ (foAt l k).b.rk ≤ (foAt l m).b.rk ∧ (k < m → (foAt l k).b.rk < (foAt l m).b.rk)
theorem cut_is {l : List LBrk} {i : Nat} {fit : Int} (h : cutO l i fit = true) : ∃ k : Nat, cutI l i fit = k ∧ CutIs l i fit.toNat k := by
  have h0 : mayB l = true ∧ (0 : Int) ≤ i ∧ (i : Int) < l.length - 1 ∧ (i : Int) < fit := by simpa [cutO] using h
  obtain ⟨-, -, h2, h3⟩ := h0
  have e0 : cutI l i fit = cutK l i fit := by simp [cutI, h]
  have elo : (max ((i : Int) + 1) 0).toNat = i + 1 := by omega
  have ec : cntB (max ((i : Int) + 1) 0) (min fit (l.length - 1)) = min fit.toNat (l.length - 1) - i := by unfold cntB; omega
  have hf := fst_spec l (i + 1) (min fit.toNat (l.length - 1) - i)
  have hb := bst_spec l (i + 1) (min fit.toNat (l.length - 1) - i)
  have ef : fstB l (i + 1) fit = mosR fstA l noFo (i + 1) (min fit.toNat (l.length - 1) - i) := by unfold fstB; rw [elo, ec]
  have eb : bstB l (i + 1) fit = mosR bstA l noFo (i + 1) (min fit.toNat (l.length - 1) - i) := by unfold bstB; rw [elo, ec]
  rw [e0]
  unfold cutK
  rw [ef, eb]
  rcases hf with ⟨f1, f2, f3⟩ | ⟨f1, j, f2, f3, f4, f5⟩
  · rw [f2, if_pos (by simp [noFo])]
    rcases hb with ⟨b1, -⟩ | ⟨b1, j, b2, b3, b4, b5⟩
    · omega
    · rw [b3]
      have a1 : i + 1 + j ≤ fit.toNat := by clear b5 b4 f3; omega
      have a2 : i + 1 + j < l.length := by clear b5 b4 f3; omega
      refine ⟨i + 1 + j, rfl, ⟨by omega, a1, a2, fun m h7 h8 => ?_, fun _ m h7 h8 h9 => ?_⟩⟩
      · have := f3 (m - (i + 1)) (by omega)
        rwa [show i + 1 + (m - (i + 1)) = m by omega] at this
      · have h10 : i + 1 + (m - (i + 1)) = m := by omega
        have k1 := f3 (m - (i + 1)) (by omega)
        have k2 := b4 (m - (i + 1)) (by omega)
        rw [h10] at k1 k2
        refine ⟨k1, k2, fun h11 => ?_⟩
        have k3 := b5 (m - (i + 1)) (by omega) (by omega)
        rwa [h10] at k3
  · rw [f3, if_neg (by simp [foAt]; omega)]
    have a1 : i + 1 + j ≤ fit.toNat := by clear f5 f4 f3; omega
    have a2 : i + 1 + j < l.length := by clear f5 f4 f3; omega
    refine ⟨i + 1 + j, rfl, ⟨by omega, a1, a2, fun m h7 h8 => ?_, fun h => absurd h f4⟩⟩
    have := f5 (m - (i + 1)) (by omega)
    rwa [show i + 1 + (m - (i + 1)) = m by omega] at this
theorem cut_uniq {l : List LBrk} {i fit k m : Nat} (hk : CutIs l i fit k) (hm : CutIs l i fit m) : k = m := by
  by_cases fk : (foAt l k).b.fo = 0
  · have bk := hk.best fk m hm.lt hm.le hm.in_
    have bm := hm.best bk.1 k hk.lt hk.le hk.in_
    rcases Nat.lt_trichotomy k m with h | h | h
    · have := bk.2.2 h; omega
    · exact h
    · have := bm.2.2 h; omega
  · by_cases fm : (foAt l m).b.fo = 0
    · exact absurd (hm.best fm k hk.lt hk.le hk.in_).1 fk
    · rcases Nat.lt_trichotomy k m with h | h | h
      · exact absurd (hm.calm k hk.lt h) fk
      · exact h
      · exact absurd (hk.calm m hm.lt h) fm
end Go.Proofs.Ytdpaflhlgaffdaa
