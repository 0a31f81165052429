/- CONTRACTS of the functions, and plain laws, joined out of: GFloB GChkB GChkC GChkD GChkE GFloC GFloD GFloP G17 GStpA GMarA GMarB GMarF GStpB GStpD GStpC GOncA GFloE GFloF GFloG GFloH GScrD GScrE GScrF GAtoA GFloX. -/
import Derived.BigQuiet
import Derived.BigRegion
import Derived.StillTailTactics
import Derived.MapKept
import Derived.Test.YtblmebjhhanoaaaGreatKS141
/- CHAPTER 14: flow: what is laid out keeps within its bounds. -/
/- G -/
set_option linter.unusedSimpArgs false
set_option linter.unusedVariables false
namespace Go.Proofs.YtblmebjhhanoaaaGreat
open Go.RowKit

theorem setG_fold (k : Nat) (H : Int) : ∀ (L : List LSet) (s : LGs), (L.foldl (setG k H) s).a = s.a ++ L.map (atL k H) ∧ (L.foldl (setG k H) s).f = s.f
  | [], s => by simp
  | z :: L, s => by
    obtain ⟨h1, h2⟩ := setG_fold k H L (setG k H s z)
    rw [List.foldl_cons, h1, h2]
    simp [setG]
theorem tex_pen {l : List LFl} {ws : List Int} {sp H B : Int} {s : LSpan} {k : Nat} (hH : 1 ≤ H) (hf : ∀ g ∈ l, g.y + g.h ≤ B) : ∀ (n f : Nat) (y C : Int) (g : LGs), f ≤ ws.length → 0 ≤ y → y ≤ C → B ≤ C → 0 ≤ g.p.y ∧ 0 ≤ g.p.m ∧ g.p.y + g.p.m ≤ C →
    0 ≤ ((texG l ws sp H s n f y).foldl (setG k H) g).p.y ∧ 0 ≤ ((texG l ws sp H s n f y).foldl (setG k H) g).p.m ∧ ((texG l ws sp H s n f y).foldl (setG k H) g).p.y + ((texG l ws sp H s n f y).foldl (setG k H) g).p.m ≤ C + H * ((ws.length : Int) - f)
  | 0, f, y, C, g, h0, h1, h2, h3, h4 => by
    have := Int.mul_nonneg (show 0 ≤ H by omega) (show 0 ≤ (ws.length : Int) - f by omega)
    simp only [texG, List.foldl_nil]
    omega
  | n + 1, f, y, C, g, h0, h1, h2, h3, h4 => by
    have hm := Int.mul_nonneg (show 0 ≤ H by omega) (show 0 ≤ (ws.length : Int) - f by omega)
    rw [texG]
    split
    · next q =>
      obtain ⟨t, e1, e2, e3⟩ := lin_t (l := l) (sp := sp) (H := H) (y := y) (s := s) q
      rw [e1, Int.toNat_natCast, List.foldl_cons]
      have hy : (linN l ws sp H f y s).y = romY l (ws.getD f 0) H y s := rfl
      have hge := rom_ge l (ws.getD f 0) H y s
      have hle := rom_le (w := ws.getD f 0) (H := H) (s := s) (Int.le_trans h2 (Int.le_refl C)) (fun g hg => Int.le_trans (hf g hg) h3)
      have ih := tex_pen (k := k) (ws := ws) (sp := sp) (s := s) hH hf n t ((linN l ws sp H f y s).y + H) (C + H) (setG k H g (linN l ws sp H f y s)) e3 (by omega) (by omega) (by omega) ⟨by simp only [setG]; omega, by simp [setG], by simp only [setG]; omega⟩
      have h5 : H * ((ws.length : Int) - f) = H * ((ws.length : Int) - t) + H * ((t : Int) - f) := by rw [← Int.mul_add]; congr 1; omega
      have h6 : H * 1 ≤ H * ((t : Int) - f) := Int.mul_le_mul_of_nonneg_left (by omega) (by omega)
      omega
    · simp only [List.foldl_nil]
      omega
theorem clr_bd {l : List LNo} {B : Int} {k : Nat} {s : LGs} (x : LNo) (h : GsOk l B k s) : 0 ≤ (clrG x s).y ∧ 0 ≤ (clrG x s).m ∧ (clrG x s).y + (clrG x s).m ≤ B := by
  have h1 := h.y
  have h2 := h.m
  have h3 := h.b
  unfold clrG
  split
  · next q =>
    obtain ⟨f, hf, e⟩ := most_at q
    have e : (lowO x.st.clear s.f).n = f.y + f.h := e
    have h4 := (h.fs f hf).y
    have h5 := (h.fs f hf).h
    unfold penC
    split
    · simp only; omega
    · omega
  · omega
theorem ent_ok {l : List LNo} {B : Int} {k : Nat} {s : LGs} {x : LNo} (hk : k < l.length) (hx : Blk6 x) (h : GsOk l B k s) : GsOk l (B + x.st.top + x.st.padTop) (k + 1) (entG x s) := by
  obtain ⟨c1, c2, c3⟩ := clr_bd x h
  have h1 := hx.top
  have h2 := hx.padTop
  have h3 := h.fl
  have h4 := h.al
  have h5 := ps_mono (l := l) (show k ≤ k + 1 by omega) hk
  have e : 0 ≤ (entG x s).p.y ∧ 0 ≤ (entG x s).p.m ∧ (entG x s).p.y + (entG x s).p.m ≤ B + x.st.top + x.st.padTop := by
    simp only [entG, penE, penP]
    split <;> (first | omega | (simp only; omega))
  exact ⟨e.1, e.2.1, e.2.2, by simp only [entG]; omega, by simp only [entG]; omega, fun f hf => (h.fs f hf).mono (by omega) (Nat.le_refl _)⟩
theorem lv_ok {l : List LNo} {B : Int} {k : Nat} {s : LGs} {x : LNo} (hx : Blk6 x) (h : GsOk l B k s) : GsOk l (B + x.st.bottom + x.st.padBottom) k (lvG x s) := by
  have c1 := h.y
  have c2 := h.m
  have c3 := h.b
  have h1 := hx.bottom
  have h2 := hx.padBottom
  have e : 0 ≤ (lvG x s).p.y ∧ 0 ≤ (lvG x s).p.m ∧ (lvG x s).p.y + (lvG x s).p.m ≤ B + x.st.bottom + x.st.padBottom := by
    simp only [lvG, penL, penP]
    split <;> (first | omega | (simp only; omega))
  exact ⟨e.1, e.2.1, e.2.2, h.fl, h.al, fun f hf => (h.fs f hf).mono (by omega) (Nat.le_refl _)⟩
theorem txt_ok {l : List LNo} {B : Int} {k : Nat} {s : LGs} {x : LNo} {sp : LSpan} (hk : k < l.length) (e : psN l (k + 1) = psN l k + x.words.length) (hx : Txt6 x) (h : GsOk l B k s) : GsOk l (B + x.line * x.words.length) (k + 1) (txtG sp k x s) := by
  obtain ⟨f1, f2⟩ := setG_fold k x.line (texF s.f x.words x.space x.line (atP s.p) sp) s
  have hp := tex_pen (ws := x.words) (sp := x.space) (s := sp) (k := k) hx.line.1 (fun g hg => (h.fs g hg).y.2) x.words.length 0 (atP s.p) B s (Nat.zero_le _) (by have := h.y; have := h.m; unfold atP; omega) h.b (Int.le_refl _) ⟨h.y, h.m, h.b⟩
  have hl := tex_len (l := s.f) (ws := x.words) (sp := x.space) (H := x.line) (s := sp) x.words.length 0 (atP s.p)
  have h3 := h.fl
  have h4 := h.al
  have hm := Int.mul_nonneg (show 0 ≤ x.line by have := hx.line; omega) (show 0 ≤ (x.words.length : Int) by omega)
  have e0 : (x.words.length : Int) - (0 : Nat) = x.words.length := by omega
  rw [e0] at hp
  refine ⟨hp.1, hp.2.1, hp.2.2, ?_, ?_, ?_⟩
  · unfold txtG; rw [f2]; omega
  · unfold txtG; rw [f1, List.length_append, List.length_map]
    have hl2 : (texF s.f x.words x.space x.line (atP s.p) sp).length ≤ x.words.length := hl
    omega
  · unfold txtG; rw [f2]
    exact fun f hf => (h.fs f hf).mono (by omega) (Nat.le_refl _)
theorem mon_ok {l : List LNo} {B : Int} {k : Nat} {s : LGs} {x : LNo} {sp : LSpan} (e : psN l (k + 1) = psN l k + 1) (hx : Box6 x) (h : GsOk l B k s) : GsOk l (B + x.h) (k + 1) (monG sp k x s) := by
  have h0 := hx.h
  have h1 := h.y
  have h2 := h.m
  have h3 := h.fl
  have h4 := h.al
  have h5 := rom_ge s.f x.w x.h (atP s.p) sp
  have h6 := rom_le (w := x.w) (H := x.h) (s := sp) (y := atP s.p) h.b (fun g hg => (h.fs g hg).y.2)
  unfold atP at h5 h6
  refine ⟨?_, by simp [monG], ?_, ?_, ?_, fun f hf => (h.fs f hf).mono (by omega) (Nat.le_refl _)⟩
  · simp only [monG, monY, atP]; omega
  · simp only [monG, monY, atP]; omega
  · simp only [monG]; omega
  · simp only [monG, List.length_append, List.length_cons, List.length_nil]; omega
theorem flt_ok {l : List LNo} {B : Int} {k : Nat} {s : LGs} {x : LNo} {sp : LSpan} (e : psN l (k + 1) = psN l k + 1) (hx : Box6 x) (hd : 1 ≤ x.side ∧ x.side ≤ 2) (hs : SpOk sp) (h : GsOk l B k s) : GsOk l (B + x.h) (k + 1) (fltG sp k x s) := by
  have h0 := hx.h
  have h1 := h.y
  have h2 := h.m
  have h3 := h.fl
  have h4 := h.al
  have h5 := h.b
  refine ⟨h1, h2, by simp only [fltG]; omega, by simp only [fltG, putP, List.length_append, List.length_cons, List.length_nil]; omega, by simp only [fltG]; omega, fun f hf => ?_⟩
  have el : (fltG sp k x s).f.length = s.f.length + 1 := by simp [fltG, putP]
  rw [el]
  rcases List.mem_append.1 hf with hf | hf
  · exact (h.fs f hf).mono (by omega) (by omega)
  · rw [List.mem_singleton] at hf
    subst hf
    exact put_ok' (f := newF k x s) hs (by unfold atP; omega) h.fs hx.w hx.h (by unfold newF; simp only; omega)
/-- what is asked of nodes and a width. -/
structure FlwP (l : List LNo) (w : Int) : Prop where
  v : isS l = true
  len : l.length ≤ 60
  hi : hall l ≤ 1099511627776
  ps : pall l ≤ 2000
  w : 1 ≤ w ∧ w ≤ 1099511627776
theorem FlwP.sp {l : List LNo} {w : Int} (h : FlwP l w) (k : Nat) : SpOk (spK l w k) := spK_ok (isS_ins h.v) h.w k
theorem nodG_ok {l : List LNo} {w : Int} (hP : FlwP l w) {kids : Nat → Int → LGs → LGs} {k : Nat} {B : Int} {s : LGs} (hk : k < l.length) (h : GsOk l B k s)
    (hkids : ∀ B s, GsOk l B (k + 1) s → GsOk l (B + (hsN l (k + (ndN l k).size.toNat) - hsN l (k + 1))) (k + (ndN l k).size.toNat) (kids (k + 1) (k + (ndN l k).size) s)) :
    GsOk l (B + (hsN l (k + (ndN l k).size.toNat) - hsN l k)) (k + (ndN l k).size.toNat) (nodG l w kids k s) := by
  have hn := nod_at hP.v hk
  have hL := isS_lam hP.v
  have h1 := hL.pos k hk
  have h2 := hL.fin k hk
  have hs1 := hsN_succ hk
  have ps1 := psN_succ hk
  rw [← ndN_siz] at h1 h2
  have hm1 := hs_mono hP.v (show k + 1 ≤ k + (ndN l k).size.toNat by omega) (by omega)
  have hm2 := ps_mono (l := l) (show k + 1 ≤ k + (ndN l k).size.toNat by omega) (by omega)
  have up : ∀ {s' : LGs}, GsOk l (B + hgtN (ndN l k)) (k + 1) s' → GsOk l (B + (hsN l (k + (ndN l k).size.toNat) - hsN l k)) (k + (ndN l k).size.toNat) s' := fun q => by
    obtain ⟨a, b, c, d, e, f⟩ := q
    exact ⟨a, b, by omega, by omega, by omega, fun x hx => (f x hx).mono (by omega) (Nat.le_refl _)⟩
  unfold nodG
  rcases nodB_kind hn with q | q | q | q
  · rw [if_pos q]
    have hb := nodB_blk hn q
    have e1 : hgtN (ndN l k) = (ndN l k).st.top + (ndN l k).st.bottom + (ndN l k).st.padTop + (ndN l k).st.padBottom + (ndN l k).st.head := by unfold hgtN; rw [if_pos q]
    have := hb.head
    exact (lv_ok hb (hkids _ _ (ent_ok hk hb h))).mono (by omega)
  · rw [if_neg (by omega), if_pos q]
    have e1 : hgtN (ndN l k) = (ndN l k).line * (ndN l k).words.length := by unfold hgtN; rw [if_neg (by omega), if_pos q]
    have e2 : pcsN (ndN l k) = (ndN l k).words.length := by unfold pcsN; rw [if_neg (by omega), if_pos q]
    have := txt_ok (sp := spK l w k) hk (by rw [ps1, e2]) (nodB_txt hn q) h
    rw [← e1] at this
    exact up this
  · rw [if_neg (by omega), if_neg (by omega), if_pos q]
    have e1 : hgtN (ndN l k) = (ndN l k).h := by unfold hgtN; rw [if_neg (by omega), if_neg (by omega)]
    have e2 : pcsN (ndN l k) = 1 := by unfold pcsN; rw [if_neg (by omega), if_neg (by omega)]
    have := mon_ok (sp := spK l w k) (by rw [ps1, e2]) (nodB_mono hn q) h
    rw [← e1] at this
    exact up this
  · rw [if_neg (by omega), if_neg (by omega), if_neg (by omega)]
    have e1 : hgtN (ndN l k) = (ndN l k).h := by unfold hgtN; rw [if_neg (by omega), if_neg (by omega)]
    have e2 : pcsN (ndN l k) = 1 := by unfold pcsN; rw [if_neg (by omega), if_neg (by omega)]
    obtain ⟨hb, hd⟩ := nodB_flt hn q
    have := flt_ok (sp := spK l w k) (by rw [ps1, e2]) hb hd (hP.sp k) h
    rw [← e1] at this
    exact up this
theorem rowG_ok {l : List LNo} {w : Int} (hP : FlwP l w) : ∀ (n k : Nat) (e : Int) (B : Int) (s : LGs), nst l n k e → e ≤ l.length → GsOk l B k s → GsOk l (B + (hsN l e.toNat - hsN l k)) e.toNat (rowG l w n k e s)
  | 0, k, e, B, s, h, _, _ => absurd h (by simp [nst])
  | n + 1, k, e, B, s, h, he, hg => by
    obtain ⟨h1, h2⟩ := h
    rw [rowG]
    split
    · next q =>
      obtain ⟨u1, u2, u3, u4⟩ := h2 q
      rw [← ndN_siz] at u1 u2 u3 u4
      have hk : k < l.length := by omega
      have e3 : ((k : Int) + (ndN l k).size).toNat = k + (ndN l k).size.toNat := by omega
      have hn := nodG_ok hP hk hg (kids := rowG l w n) fun B s hs => by
        have := rowG_ok hP n (k + 1) (k + (ndN l k).size) B s u3 (by omega) hs
        rw [e3] at this
        exact this
      have := rowG_ok hP n (k + (ndN l k).size.toNat) e _ _ u4 he hn
      exact this.mono (by omega)
    · have e2 : e.toNat = k := by omega
      rw [e2]
      exact hg.mono (by omega)
end Go.Proofs.YtblmebjhhanoaaaGreat
/- CHAPTER 06: valid: the ends that are still ahead: slices.DeleteFunc. -/
/- G -/
/- BOOLS -/
set_option linter.unusedSimpArgs false
set_option linter.unusedVariables false
namespace Go.Proofs.YtblmebjhhanoaaaGreat
open Go.RowKit

def offE (i e : Int) : Bool := decide (e ≤ i)
def gtE (i e : Int) : Bool := !offE i e
def gtL (l : List Int) (i : Int) : List Int := l.filter (gtE i)
set_option maxRecDepth 100000 in
theorem node1_ok (e i : Int) : FnOk Tryz.prog 106 [.raw (.int .i64 e), .hdr 0] [(0, .cells 3 [.raw (.int .i64 i)])] (.raw (.bool (offE i e))) [(0, .cells 3 [.raw (.int .i64 i)])] := by
  refine fn_of_awp Tryz.func106 rfl (by kernel_rfl) (by kernel_rfl) (Nat.le_of_ble_eq_true rfl) Tryz.results106 ?_
  unfold offE
  simp only [go_sem, Bool.not_eq_true', Bool.not_eq_false']
  (refine ret2 [] (by simp only [go_sem, Bool.not_eq_true', Bool.not_eq_false']; rfl) ?_; simp only [go_sem, Bool.not_eq_true', Bool.not_eq_false'])
/-- the place of the first that is so; below 0: none is. -/
def idxE (p : Int → Bool) (l : List Int) : Int := if l.findIdx p < l.length then l.findIdx p else -1
theorem idxE_at {p : Int → Bool} {l : List Int} {k : Nat} (hk : k < l.length) (h : ∀ j (hj : j < l.length), j < k → p l[j] = false) (hp : p l[k] = true) : idxE p l = k := by
  have e : l.findIdx p = k := by
    rw [List.findIdx_eq hk]
    exact ⟨hp, fun j hj => by have := h j (by omega) hj; simpa using this⟩
  unfold idxE
  rw [if_pos (by omega), e]
theorem idxE_no {p : Int → Bool} {l : List Int} (h : ∀ j (hj : j < l.length), p l[j] = false) : idxE p l = -1 := by
  unfold idxE
  rw [if_neg]
  intro hlt
  have := List.findIdx_getElem (w := hlt)
  rw [h _ hlt] at this
  cases this
set_option maxRecDepth 100000 in
theorem indexE_ok (l : List Int) (i : Int) (hl : l.length ≤ 1000) : FnOk Tryz.prog 131 [.sl 1 (l.map cInt), .clo (.func 106) [.hdr 0]] [(0, .cells 3 [.raw (.int .i64 i)])] (.raw (.int .i64 (idxE (offE i) l))) [(0, .cells 3 [.raw (.int .i64 i)])] := by
  refine fn_of_awp Tryz.func131 rfl (by kernel_rfl) (by kernel_rfl) (Nat.le_of_ble_eq_true rfl) Tryz.results131 ?_
  simp only [go_sem, Bool.not_eq_true', Bool.not_eq_false', List.length_map]
  refine aloop2 [] (fun k : Nat => ⟨[(0, .sl 1 (l.map cInt)), (1, .clo (.func 106) [.hdr 0]), (7, .raw (.int .i64 l.length)), (8, .raw (.int .i64 k))], [(0, some (.cells 3 [.raw (.int .i64 i)]))], none⟩) (fun k => k ≤ l.length ∧ ∀ j (hj : j < l.length), j < k → offE i l[j] = false) (fun k => l.length - k) 4 0 (by simp only [go_sem, Bool.not_eq_true', Bool.not_eq_false']; rfl) (by simp only [go_sem, Bool.not_eq_true', Bool.not_eq_false']) ?_ ?_
  · exact ⟨Nat.zero_le _, fun j _ h => absurd h (Nat.not_lt_zero j)⟩
  · rintro k ⟨h1, h2⟩
    simp only [go_sem, Bool.not_eq_true', Bool.not_eq_false', List.length_map]
    refine ⟨fun h5 => ?_, fun h5 => ?_⟩
    · have hk : k < l.length := by omega
      refine ⟨by omega, ex_get hk ?_⟩
      (refine acall2 [] (node1_ok l[k] i) (by simp only [go_sem, Bool.not_eq_true', Bool.not_eq_false']; rfl) (fit_of (by simp only [go_sem, Bool.not_eq_true', Bool.not_eq_false']) (by simp only [go_sem, Bool.not_eq_true', Bool.not_eq_false']) (by simp only [go_sem, Bool.not_eq_true', Bool.not_eq_false']) (by simp only [go_sem, Bool.not_eq_true', Bool.not_eq_false']) (by simp only [go_sem, Bool.not_eq_true', Bool.not_eq_false']) (by simp only [go_sem, Bool.not_eq_true', Bool.not_eq_false']) (by simp only [go_sem, Bool.not_eq_true', Bool.not_eq_false'])) ?_; simp only [go_sem, Bool.not_eq_true', Bool.not_eq_false'])
      refine ⟨fun h6 => ?_, fun h6 => ⟨by omega, ?_⟩⟩
      · rw [idxE_at hk h2 h6]
        (refine ret2 [] (by simp only [go_sem, Bool.not_eq_true', Bool.not_eq_false']; rfl) ?_; simp only [go_sem, Bool.not_eq_true', Bool.not_eq_false'])
      · (refine loop_end [] (k + 1) (by simp only [go_sem, Bool.not_eq_true', Bool.not_eq_false']; rfl) ?_ ?_ ?_; (focus first | omega | (simp only; omega)); (focus (simp only [go_sem, Bool.not_eq_true', Bool.not_eq_false']; done)))
        refine ⟨by omega, fun j hj h7 => ?_⟩
        rcases Nat.lt_succ_iff_lt_or_eq.1 h7 with h8 | h8
        · exact h2 j hj h8
        · subst h8; exact h6
    · rw [idxE_no (fun j hj => h2 j hj (by omega))]
      (refine ret2 [] (by simp only [go_sem, Bool.not_eq_true', Bool.not_eq_false']; rfl) ?_; simp only [go_sem, Bool.not_eq_true', Bool.not_eq_false'])
structure LDelE where
  k : Nat
  mid : List Int
def kepE (l : List Int) (i : Int) (k : Nat) : List Int := (l.take k).filter (gtE i)
theorem kepE_len (l : List Int) (i : Int) (k : Nat) : (kepE l i k).length ≤ k := Nat.le_trans (List.length_filter_le _ _) (by simp; omega)
theorem kepE_succ {l : List Int} {i : Int} {k : Nat} (hk : k < l.length) : kepE l i (k + 1) = if gtE i l[k] = true then kepE l i k ++ [l[k]] else kepE l i k := by
  unfold kepE
  rw [List.take_succ_eq_append_getElem hk, List.filter_append]
  split
  · next h => simp [h]
  · next h => simp [h]
def rowE (l : List Int) (i : Int) (z : LDelE) : List Int := kepE l i z.k ++ z.mid ++ l.drop z.k
theorem rowE_get {l : List Int} {i : Int} {k : Nat} {mid : List Int} (hk : k < l.length) (h : (kepE l i k).length + mid.length = k) : (rowE l i ⟨k, mid⟩)[k]? = some l[k] := by
  unfold rowE
  rw [List.getElem?_append_right (by simp; omega), List.length_append, h, Nat.sub_self, List.getElem?_drop]
  simp [hk]
theorem rowE_keep {l : List Int} {i : Int} {k : Nat} {mid : List Int} (hk : k < l.length) (h0 : 0 < mid.length) (h : gtE i l[k] = true) : (rowE l i ⟨k, mid⟩).set (kepE l i k).length l[k] = rowE l i ⟨k + 1, mid.tail ++ [l[k]]⟩ := by
  unfold rowE
  cases mid with
  | nil => simp at h0
  | cons x mid =>
    have e1 : l.drop k = l[k] :: l.drop (k + 1) := List.drop_eq_getElem_cons hk
    rw [kepE_succ hk, if_pos h, e1]
    simp
theorem rowE_skip {l : List Int} {i : Int} {k : Nat} {mid : List Int} (hk : k < l.length) (h : ¬ gtE i l[k] = true) : rowE l i ⟨k, mid⟩ = rowE l i ⟨k + 1, mid ++ [l[k]]⟩ := by
  unfold rowE
  have e1 : l.drop k = l[k] :: l.drop (k + 1) := List.drop_eq_getElem_cons hk
  rw [kepE_succ hk, if_neg h, e1]
  simp
theorem rowE_len {l : List Int} {i : Int} {k : Nat} {mid : List Int} (hk : k ≤ l.length) (h : (kepE l i k).length + mid.length = k) : (rowE l i ⟨k, mid⟩).length = l.length := by
  unfold rowE
  simp
  omega
theorem kepE_pre {l : List Int} {i : Int} {k : Nat} (h : ∀ j (hj : j < l.length), j < k → offE i l[j] = false) : kepE l i k = l.take k := by
  unfold kepE
  rw [List.filter_eq_self]
  intro x hx
  obtain ⟨j, hj, rfl⟩ := List.getElem_of_mem hx
  simp only [List.length_take] at hj
  rw [List.getElem_take]
  unfold gtE
  rw [h j (by omega) (by omega)]
  rfl
theorem idxE_cases (p : Int → Bool) (l : List Int) : (idxE p l = -1 ∧ ∀ j (hj : j < l.length), p l[j] = false) ∨ ∃ k : Nat, idxE p l = k ∧ ∃ hk : k < l.length, p l[k] = true ∧ ∀ j (hj : j < l.length), j < k → p l[j] = false := by
  unfold idxE
  by_cases h : l.findIdx p < l.length
  · right
    rw [if_pos h]
    refine ⟨l.findIdx p, rfl, h, List.findIdx_getElem (w := h), fun j hj hlt => ?_⟩
    have := List.not_of_lt_findIdx hlt
    simpa using this
  · left
    rw [if_neg h]
    refine ⟨rfl, fun j hj => ?_⟩
    have := List.not_of_lt_findIdx (p := p) (xs := l) (i := j) (by omega)
    simpa using this
set_option maxRecDepth 100000 in
set_option maxHeartbeats 4000000 in
theorem deleteE_ok (l : List Int) (i : Int) (hl : l.length ≤ 1000) : FnOk Tryz.prog 105 [.hdr 0, .clo (.func 106) [.hdr 1]] [(0, .row 3 1 (l.map cInt)), (1, .cells 3 [.raw (.int .i64 i)])] (.hdr 8) [(8, .row 3 1 ((gtL l i).map cInt)), (1, .cells 3 [.raw (.int .i64 i)])] := by
  refine fn_of_swp Tryz.func105 rfl (by kernel_rfl) (by kernel_rfl) (Nat.le_of_ble_eq_true rfl) Tryz.results105 ?_
  (refine swp_seqW ?_; simp only [go_sem, Bool.not_eq_true', Bool.not_eq_false'])
  (refine swp_seqW ?_; simp only [go_sem, Bool.not_eq_true', Bool.not_eq_false'])
  (refine acall2 [0 ] ( indexE_ok l i hl) (by simp only [go_sem, Bool.not_eq_true', Bool.not_eq_false']; rfl) (fit_of (by simp only [go_sem, Bool.not_eq_true', Bool.not_eq_false']) (by simp only [go_sem, Bool.not_eq_true', Bool.not_eq_false']) (by simp only [go_sem, Bool.not_eq_true', Bool.not_eq_false']) (by simp only [go_sem, Bool.not_eq_true', Bool.not_eq_false']) (by simp only [go_sem, Bool.not_eq_true', Bool.not_eq_false']) (by simp only [go_sem, Bool.not_eq_true', Bool.not_eq_false']) (by simp only [go_sem, Bool.not_eq_true', Bool.not_eq_false'])) ?_; simp only [go_sem, Bool.not_eq_true', Bool.not_eq_false'])
  rcases idxE_cases (offE i) l with ⟨e0, hno⟩ | ⟨i0, e0, hi0, hp0, hb0⟩
  · rw [e0]
    have e1 : gtL l i = l := by
      have := kepE_pre (l := l) (i := i) (k := l.length) (fun j hj _ => hno j hj)
      unfold kepE at this
      rw [List.take_length] at this
      exact this
    rw [e1]
    (refine swp_lastW ?_; simp only [go_sem, Bool.not_eq_true', Bool.not_eq_false'])
    repeat' first | contradiction | intro _ | refine And.intro ?_ ?_ | refine ex_get (by omega) ?_ | (show drawB _ _ = true; kernel_rfl) | (refine ret2 [] (by simp only [go_sem, Bool.not_eq_true', Bool.not_eq_false']; rfl) ?_; simp only [go_sem, Bool.not_eq_true', Bool.not_eq_false'])
    all_goals skip
  · rw [e0]
    have ek := kepE_pre (l := l) (i := i) (k := i0) hb0
    have eks : kepE l i (i0 + 1) = l.take i0 := by
      rw [kepE_succ hi0, if_neg (by unfold gtE; rw [hp0]; decide), ek]
    have elen : (kepE l i (i0 + 1)).length = i0 := by rw [eks]; simp; omega
    have erow : rowE l i ⟨i0 + 1, [l[i0]]⟩ = l := by
      unfold rowE
      dsimp only
      rw [eks]
      simp
    (refine swp_seqW ?_; simp only [go_sem, Bool.not_eq_true', Bool.not_eq_false', List.length_map])
    refine swp_seqS ?_
    (refine swp_seqW ?_; simp only [go_sem, Bool.not_eq_true', Bool.not_eq_false'])
    refine ⟨by omega, ?_⟩
    refine swp_block ?_
    refine swp_loop2 [] (fun z : LDelE => ⟨[(0, .hdr 0), (1, .clo (.func 106) [.hdr 1]), (5, .raw (.int .i64 (kepE l i z.k).length)), (6, .raw (.int .i64 z.k))], [(0, some (.row 3 1 ((rowE l i z).map cInt))), (1, some (.cells 3 [.raw (.int .i64 i)]))], none⟩) (fun z => z.k ≤ l.length ∧ 0 < z.mid.length ∧ (kepE l i z.k).length + z.mid.length = z.k) (fun z => l.length - z.k) 4 ⟨i0 + 1, [l[i0]]⟩ (by simp only [go_sem, Bool.not_eq_true', Bool.not_eq_false']; rfl) (by simp only [go_sem, Bool.not_eq_true', Bool.not_eq_false', elen, erow]) ?_ ?_
    · exact ⟨hi0, by simp, by rw [elen]; simp⟩
    · rintro ⟨k, mid⟩ ⟨h1, h2, h3⟩
      simp only at h1 h2 h3
      have hlen := rowE_len h1 h3
      (refine swp_seqW ?_; simp only [go_sem, Bool.not_eq_true', Bool.not_eq_false', List.length_map])
      refine ⟨fun h5 => ?_, fun h5 => ?_⟩
      · have hk : k < l.length := by omega
        have hget := rowE_get hk h3
        have hK := kepE_len l i k
        (refine swp_lastW ?_; simp only [go_sem, Bool.not_eq_true', Bool.not_eq_false', List.length_map])
        refine ⟨by omega, l[k], hget, ?_⟩
        (refine acall2 [] (node1_ok l[k] i) (by simp only [go_sem, Bool.not_eq_true', Bool.not_eq_false']; rfl) (fit_of (by simp only [go_sem, Bool.not_eq_true', Bool.not_eq_false']) (by simp only [go_sem, Bool.not_eq_true', Bool.not_eq_false']) (by simp only [go_sem, Bool.not_eq_true', Bool.not_eq_false']) (by simp only [go_sem, Bool.not_eq_true', Bool.not_eq_false']) (by simp only [go_sem, Bool.not_eq_true', Bool.not_eq_false']) (by simp only [go_sem, Bool.not_eq_true', Bool.not_eq_false']) (by simp only [go_sem, Bool.not_eq_true', Bool.not_eq_false'])) ?_; simp only [go_sem, Bool.not_eq_true', Bool.not_eq_false'])
        refine ⟨fun h6 => ?_, fun h6 => ?_⟩
        · have h7 : gtE i l[k] = true := by unfold gtE; rw [h6]; rfl
          have hset := rowE_keep hk h2 h7
          have hs2 : (List.map cInt (rowE l i ⟨k, mid⟩)).set (kepE l i k).length (cInt l[k]) = List.map cInt (rowE l i ⟨k + 1, mid.tail ++ [l[k]]⟩) := by rw [← hset, List.map_set]
          simp only [cInt] at hs2
          have hks : kepE l i (k + 1) = kepE l i k ++ [l[k]] := by rw [kepE_succ hk, if_pos h7]
          have hi2 : (rowE l i ⟨k, mid⟩)[(kepE l i k).length]? = some (rowE l i ⟨k, mid⟩)[(kepE l i k).length] := List.getElem?_eq_getElem (by omega)
          refine ⟨by omega, _, hi2, ?_⟩
          refine ⟨by omega, by omega, ?_⟩
          (refine loop_end [] (⟨k + 1, mid.tail ++ [l[k]]⟩) (by simp only [go_sem, Bool.not_eq_true', Bool.not_eq_false']; rfl) ?_ ?_ ?_; (focus first | omega | (simp only; omega)); (focus (simp only [go_sem, Bool.not_eq_true', Bool.not_eq_false', hks, hs2, List.length_append, List.length_cons, List.length_nil]; done)))
          exact ⟨by show k + 1 ≤ l.length; omega, by simp, by rw [hks]; simp; omega⟩
        · have h7 : ¬ gtE i l[k] = true := by unfold gtE; rw [h6]; decide
          rw [rowE_skip hk h7]
          have hks : kepE l i (k + 1) = kepE l i k := by rw [kepE_succ hk, if_neg h7]
          refine ⟨by omega, ?_⟩
          (refine loop_end [] (⟨k + 1, mid ++ [l[k]]⟩) (by simp only [go_sem, Bool.not_eq_true', Bool.not_eq_false']; rfl) ?_ ?_ ?_; (focus first | omega | (simp only; omega)); (focus (simp only [go_sem, Bool.not_eq_true', Bool.not_eq_false', hks]; done)))
          exact ⟨by show k + 1 ≤ l.length; omega, by simp, by rw [hks]; simp; omega⟩
      · have ekl : k = l.length := by omega
        have eA : kepE l i k = gtL l i := by unfold kepE; rw [ekl, List.take_length]; rfl
        have et : List.take (kepE l i k).length (rowE l i ⟨k, mid⟩) = kepE l i k := by unfold rowE; simp
        (refine swp_lastW ?_; simp only [go_sem, Bool.not_eq_true', Bool.not_eq_false', List.length_map])
        rw [et]
        refine ⟨by omega, by omega, ?_, ?_⟩
        · simp; omega
        · have e9 : ∀ X Y : List (List PV), List.take (kepE l i k).length (List.map cInt (kepE l i k) ++ X ++ Y) = List.map cInt (gtL l i) := fun X Y => by
            rw [List.append_assoc, ← eA]
            exact List.take_left' (by simp)
          rw [e9]
          (refine ret2 [] (by simp only [go_sem, Bool.not_eq_true', Bool.not_eq_false']; rfl) ?_; simp only [go_sem, Bool.not_eq_true', Bool.not_eq_false'])
end Go.Proofs.YtblmebjhhanoaaaGreat
/- CHAPTER 06: valid: Count: one node. -/
/- G -/
/- BOOLS -/
set_option linter.unusedSimpArgs false
set_option linter.unusedVariables false
namespace Go.Proofs.YtblmebjhhanoaaaGreat
open Go.RowKit

def hghT (t h n : Int) : Int := cutM (h + cutM (n * t))
structure LCt where
  d : Int
  p : Int
  n : Int
  h : Int
deriving DecidableEq
abbrev cO (c : LCt) (i : Nat) : Nat × AO := (0, .cells 121 [.raw (.int .i64 c.d), .raw (.int .i64 c.p), .raw (.int .i64 c.n), .raw (.int .i64 c.h), .hdr i])
theorem quo_le {t x : Int} (hx : 0 < x) : t ≤ Int.tdiv 1099511627776 x ↔ x * t ≤ 1099511627776 := by
  rw [Int.tdiv_eq_ediv_of_nonneg (by omega), Int.le_ediv_iff_mul_le hx, Int.mul_comm]
theorem hgh_bd {t h n : Int} (hh : 0 ≤ h) (hn : 0 ≤ n) (ht : 0 ≤ t) : 0 ≤ hghT t h n ∧ hghT t h n ≤ 1099511627777 := by
  have := Int.mul_nonneg hn ht
  unfold hghT cutM
  omega
set_option maxRecDepth 100000 in
set_option maxHeartbeats 4000000 in
theorem high6_ok (c : LCt) (t : Int) (es ls : List Int) (ht : 0 ≤ t) (hl : ls.length ≤ 1000) (hn : ∀ x ∈ ls, 0 ≤ x ∧ x ≤ 1099511627776) (hh : 0 ≤ c.h ∧ c.h ≤ 1099511627777) :
    FnOk Tryz.prog 107 [.hdr 0, .raw (.int .i64 t), .sl 1 (ls.map cInt)] [cO c 1, (1, .row 3 1 (es.map cInt))] (.tup []) [cO ⟨c.d, c.p, c.n, ls.foldl (hghT t) c.h⟩ 8, (8, .row 3 1 (es.map cInt))] := by
  refine fn_of_awp Tryz.func107 rfl (by kernel_rfl) (by kernel_rfl) (Nat.le_of_ble_eq_true rfl) Tryz.results107 ?_
  simp only [go_sem, Bool.not_eq_true', Bool.not_eq_false', List.length_map]
  refine aloop2 [] (fun z : KX Int => ⟨[(0, .hdr 0), (1, .raw (.int .i64 t)), (9, .sl 1 (ls.map cInt)), (10, .raw (.int .i64 ls.length)), (11, .raw (.int .i64 z.k))], [((cO ⟨c.d, c.p, c.n, z.o⟩ 1).1, some (cO ⟨c.d, c.p, c.n, z.o⟩ 1).2), (1, some (.row 3 1 (es.map cInt)))], none⟩) (fun z => FInv (hghT t) c.h ls z ∧ 0 ≤ z.o ∧ z.o ≤ 1099511627777) (fun z => ls.length - z.k) 80 ⟨0, c.h⟩ (by simp only [go_sem, Bool.not_eq_true', Bool.not_eq_false']; rfl) (by simp only [go_sem, Bool.not_eq_true', Bool.not_eq_false']) ?_ ?_
  · exact ⟨fInv_first _ _ _, hh⟩
  · rintro ⟨k, o⟩ ⟨h1, h2, h3⟩
    simp only at h2 h3
    simp only [go_sem, Bool.not_eq_true', Bool.not_eq_false', List.length_map]
    refine ⟨fun h5 => ?_, fun h5 => ?_⟩
    · have hk : k < ls.length := by omega
      have hx := hn ls[k] (List.getElem_mem hk)
      have hnx := fun (o' : Int) (e : o' = hghT t o ls[k]) => fInv_next h1 hk e
      have hbd := hgh_bd h2 hx.1 ht
      refine ⟨by omega, ex_get hk ?_⟩
      generalize ls[k] = x at hx hnx hbd ⊢
      have e0 : x = 0 → hghT t o x = min o 1099511627777 := fun q => by subst q; unfold hghT cutM; rw [Int.zero_mul]; omega
      have e1 : x * t ≤ 1099511627776 → hghT t o x = min (o + x * t) 1099511627777 := fun q => by unfold hghT cutM; omega
      have e2 : 1099511627776 < x * t → hghT t o x = min (o + 1099511627777) 1099511627777 := fun q => by unfold hghT cutM; omega
      have hq := fun q : 0 < x => quo_le (t := t) q
      have hm := Int.mul_nonneg hx.1 ht
      have hz : x = 0 → x * t = 0 := fun q => by rw [q, Int.zero_mul]
      have hb1 : 0 ≤ Int.tdiv 1099511627776 x := Int.tdiv_nonneg (by omega) hx.1
      have hb2 : Int.tdiv 1099511627776 x ≤ 1099511627776 := Int.tdiv_le_self x (by omega)
      generalize Int.tdiv 1099511627776 x = v at *
      generalize x * t = y at *
      repeat' first | contradiction | intro _ | refine And.intro ?_ ?_ | refine ex_get (by omega) ?_ | (show drawB _ _ = true; kernel_rfl) | (refine ret2 [] (by simp only [go_sem, Bool.not_eq_true', Bool.not_eq_false']; rfl) ?_; simp only [go_sem, Bool.not_eq_true', Bool.not_eq_false'])
      all_goals first
        | omega
        | ((refine loop_end [] (⟨k + 1, min (o + y) 1099511627777⟩) (by simp only [go_sem, Bool.not_eq_true', Bool.not_eq_false']; rfl) ?_ ?_ ?_; (focus first | omega | (simp only; omega)); (focus (simp only [go_sem, Bool.not_eq_true', Bool.not_eq_false']; done)))
           exact ⟨hnx _ (by omega), by simp only; omega, by simp only; omega⟩)
        | ((refine loop_end [] (⟨k + 1, min (o + 1099511627777) 1099511627777⟩) (by simp only [go_sem, Bool.not_eq_true', Bool.not_eq_false']; rfl) ?_ ?_ ?_; (focus first | omega | (simp only; omega)); (focus (simp only [go_sem, Bool.not_eq_true', Bool.not_eq_false']; done)))
           exact ⟨hnx _ (by omega), by simp only; omega, by simp only; omega⟩)
        | skip
    · have e := fInv_last h1 h5
      rw [← e]
      (refine ret2 [] (by simp only [go_sem, Bool.not_eq_true', Bool.not_eq_false']; rfl) ?_; simp only [go_sem, Bool.not_eq_true', Bool.not_eq_false'])
def endT (es : List Int) (i : Nat) (x : LNo) : List Int := if x.kind = 1 then gtL es i ++ [(i : Int) + x.size] else gtL es i
def cntT (c : LCt) (es : List Int) (i : Nat) (x : LNo) : LCt := ⟨if x.kind = 1 then max c.d (endT es i x).length else c.d, c.p + pcsN x, c.n + 1, cutM (c.h + hgtN x)⟩
set_option maxRecDepth 100000 in
set_option maxHeartbeats 8000000 in
theorem node6_ok (c : LCt) (es : List Int) (i : Nat) (x : LNo) (hx : nodB x = true) (he : es.length ≤ 999) (hi : i ≤ 1000) (hs : 0 ≤ x.size ∧ x.size ≤ 1000) (hw : x.words.length ≤ 9223372036854775807) (hh : 0 ≤ c.h ∧ c.h ≤ 1099511627777) (hp : 0 ≤ c.p ∧ c.p + pcsN x ≤ 9223372036854775807) (hn : 0 ≤ c.n ∧ c.n ≤ 1000) :
    FnOk Tryz.prog 75 [.hdr 0, .raw (.int .i64 i), aNo x] [cO c 1, (1, .row 3 1 (es.map cInt))] (.tup []) [cO (cntT c es i x) 8, (8, .row 3 1 ((endT es i x).map cInt))] := by
  have hgl : (gtL es i).length ≤ es.length := List.length_filter_le _ _
  refine fn_of_swp Tryz.func75 rfl (by kernel_rfl) (by kernel_rfl) (Nat.le_of_ble_eq_true rfl) Tryz.results75 ?_
  (refine swp_seqW ?_; simp only [go_sem, Bool.not_eq_true', Bool.not_eq_false'])
  (refine swp_seqW ?_; simp only [go_sem, Bool.not_eq_true', Bool.not_eq_false'])
  (refine acall2 [] (deleteE_ok es i (by omega)) (by simp only [go_sem, Bool.not_eq_true', Bool.not_eq_false']; rfl) (fit_of (by simp only [go_sem, Bool.not_eq_true', Bool.not_eq_false']) (by simp only [go_sem, Bool.not_eq_true', Bool.not_eq_false']) (by simp only [go_sem, Bool.not_eq_true', Bool.not_eq_false']) (by simp only [go_sem, Bool.not_eq_true', Bool.not_eq_false']) (by simp only [go_sem, Bool.not_eq_true', Bool.not_eq_false']) (by simp only [go_sem, Bool.not_eq_true', Bool.not_eq_false']) (by simp only [go_sem, Bool.not_eq_true', Bool.not_eq_false'])) ?_; simp only [go_sem, Bool.not_eq_true', Bool.not_eq_false'])
  (refine swp_seqW ?_; simp only [go_sem, Bool.not_eq_true', Bool.not_eq_false'])
  repeat' first | contradiction | intro _ | refine And.intro ?_ ?_ | refine ex_get (by omega) ?_ | (show drawB _ _ = true; kernel_rfl) | (refine ret2 [] (by simp only [go_sem, Bool.not_eq_true', Bool.not_eq_false']; rfl) ?_; simp only [go_sem, Bool.not_eq_true', Bool.not_eq_false'])
  all_goals try omega
  (refine swp_seqW ?_; simp only [go_sem, Bool.not_eq_true', Bool.not_eq_false'])
  refine swp_block ?_
  (refine swp_seqW ?_; simp only [go_sem, Bool.not_eq_true', Bool.not_eq_false'])
  (refine swp_condW ?_; simp only [go_sem, Bool.not_eq_true', Bool.not_eq_false'])
  rcases nodB_kind hx with q | q | q | q
  · have hb := nodB_blk hx q
    have e1 : endT es i x = gtL es i ++ [(i : Int) + x.size] := if_pos q
    have e2 : cntT c es i x = ⟨max c.d (endT es i x).length, c.p, c.n + 1, [x.st.top, x.st.bottom, x.st.padTop, x.st.padBottom, x.st.head].foldl (hghT 1) c.h⟩ := by
      obtain ⟨h1, h2, h3, h4, h5, h6, -⟩ := hb
      have e3 : [x.st.top, x.st.bottom, x.st.padTop, x.st.padBottom, x.st.head].foldl (hghT 1) c.h = cutM (c.h + (x.st.top + x.st.bottom + x.st.padTop + x.st.padBottom + x.st.head)) := by
        simp only [List.foldl_cons, List.foldl_nil, hghT, cutM, Int.mul_one]
        omega
      rw [e3]
      unfold cntT pcsN hgtN
      simp only [if_pos q, Int.add_zero]
    refine ⟨fun _ => ?_, fun w => absurd q w⟩
    have el : (gtL es i ++ [(i : Int) + x.size]).length = (gtL es i).length + 1 := by simp
    have em : List.map cInt (gtL es i) ++ [[PV.raw (.int .i64 ((i : Int) + x.size))]] = List.map cInt (gtL es i ++ [(i : Int) + x.size]) := by simp [cInt]
    (refine swp_seqW ?_; simp only [go_sem, Bool.not_eq_true', Bool.not_eq_false'])
    repeat' first | contradiction | intro _ | refine And.intro ?_ ?_ | refine ex_get (by omega) ?_ | (show drawB _ _ = true; kernel_rfl) | (refine ret2 [] (by simp only [go_sem, Bool.not_eq_true', Bool.not_eq_false']; rfl) ?_; simp only [go_sem, Bool.not_eq_true', Bool.not_eq_false'])
    all_goals try omega
    rw [em]
    (refine swp_seqW ?_; simp only [go_sem, Bool.not_eq_true', Bool.not_eq_false', List.length_map])
    repeat' first | contradiction | intro _ | refine And.intro ?_ ?_ | refine ex_get (by omega) ?_ | (show drawB _ _ = true; kernel_rfl) | (refine ret2 [] (by simp only [go_sem, Bool.not_eq_true', Bool.not_eq_false']; rfl) ?_; simp only [go_sem, Bool.not_eq_true', Bool.not_eq_false'])
    all_goals try omega
    (refine swp_seqW ?_; simp only [go_sem, Bool.not_eq_true', Bool.not_eq_false'])
    (refine swp_lastW ?_; simp only [go_sem, Bool.not_eq_true', Bool.not_eq_false'])
    have h5 : ∀ y ∈ [x.st.top, x.st.bottom, x.st.padTop, x.st.padBottom, x.st.head], 0 ≤ y ∧ y ≤ 1099511627776 := by
      obtain ⟨h1, h2, h3, h4, h5, h6, -⟩ := hb
      simp only [List.mem_cons, List.not_mem_nil, or_false]
      rintro y (rfl | rfl | rfl | rfl | rfl) <;> assumption
    rw [e2, e1]
    (refine acallF2 [576 ] [] ( high6_ok ⟨max c.d (gtL es i ++ [(i : Int) + x.size]).length, c.p, c.n + 1, c.h⟩ 1 (gtL es i ++ [(i : Int) + x.size]) [x.st.top, x.st.bottom, x.st.padTop, x.st.padBottom, x.st.head] (by omega) (by simp) h5 hh) (by simp only [go_sem, Bool.not_eq_true', Bool.not_eq_false']; rfl) (fit_of (by simp only [go_sem, Bool.not_eq_true', Bool.not_eq_false']) (by simp only [go_sem, Bool.not_eq_true', Bool.not_eq_false']) (by simp only [go_sem, Bool.not_eq_true', Bool.not_eq_false']) (by simp only [go_sem, Bool.not_eq_true', Bool.not_eq_false']) (by simp only [go_sem, Bool.not_eq_true', Bool.not_eq_false']) (by simp only [go_sem, Bool.not_eq_true', Bool.not_eq_false']) (by simp only [go_sem, Bool.not_eq_true', Bool.not_eq_false'])) ?_; simp only [go_sem, Bool.not_eq_true', Bool.not_eq_false', List.map])

    (refine ret2 [] (by simp only [go_sem, Bool.not_eq_true', Bool.not_eq_false']; rfl) ?_; simp only [go_sem, Bool.not_eq_true', Bool.not_eq_false'])
  · refine ⟨fun w => by omega, fun _ => ?_⟩
    have hb := nodB_txt hx q
    have e1 : endT es i x = gtL es i := if_neg (by omega)
    have e4 : pcsN x = x.words.length := by unfold pcsN; rw [if_neg (by omega), if_pos q]
    have e2 : cntT c es i x = ⟨c.d, c.p + x.words.length, c.n + 1, [x.line].foldl (hghT x.words.length) c.h⟩ := by
      have hm := Int.mul_nonneg (show 0 ≤ x.line by have := hb.line; omega) (show 0 ≤ (x.words.length : Int) by omega)
      have e3 : [x.line].foldl (hghT x.words.length) c.h = cutM (c.h + x.line * x.words.length) := by
        simp only [List.foldl_cons, List.foldl_nil, hghT, cutM]
        omega
      rw [e3]
      unfold cntT pcsN hgtN
      simp only [if_neg (show ¬ x.kind = 1 by omega), if_pos q]
    (refine swp_seqW ?_; simp only [go_sem, Bool.not_eq_true', Bool.not_eq_false'])
    (refine swp_condW ?_; simp only [go_sem, Bool.not_eq_true', Bool.not_eq_false'])
    refine ⟨fun _ => ?_, fun w => absurd q w⟩
    rw [e4] at hp
    (refine swp_seqW ?_; simp only [go_sem, Bool.not_eq_true', Bool.not_eq_false', List.length_map])
    repeat' first | contradiction | intro _ | refine And.intro ?_ ?_ | refine ex_get (by omega) ?_ | (show drawB _ _ = true; kernel_rfl) | (refine ret2 [] (by simp only [go_sem, Bool.not_eq_true', Bool.not_eq_false']; rfl) ?_; simp only [go_sem, Bool.not_eq_true', Bool.not_eq_false'])
    all_goals try omega
    (refine swp_lastW ?_; simp only [go_sem, Bool.not_eq_true', Bool.not_eq_false', List.length_map])
    rw [e2, e1]
    (refine acallF2 [384 ] [] ( high6_ok ⟨c.d, c.p + x.words.length, c.n + 1, c.h⟩ x.words.length (gtL es i) [x.line] (by omega) (by simp) (fun y hy => by rw [List.mem_singleton] at hy; subst hy; have := hb.line; omega) hh) (by simp only [go_sem, Bool.not_eq_true', Bool.not_eq_false']; rfl) (fit_of (by simp only [go_sem, Bool.not_eq_true', Bool.not_eq_false']) (by simp only [go_sem, Bool.not_eq_true', Bool.not_eq_false']) (by simp only [go_sem, Bool.not_eq_true', Bool.not_eq_false']) (by simp only [go_sem, Bool.not_eq_true', Bool.not_eq_false']) (by simp only [go_sem, Bool.not_eq_true', Bool.not_eq_false']) (by simp only [go_sem, Bool.not_eq_true', Bool.not_eq_false']) (by simp only [go_sem, Bool.not_eq_true', Bool.not_eq_false'])) ?_; simp only [go_sem, Bool.not_eq_true', Bool.not_eq_false', List.map])
    (refine ret2 [] (by simp only [go_sem, Bool.not_eq_true', Bool.not_eq_false']; rfl) ?_; simp only [go_sem, Bool.not_eq_true', Bool.not_eq_false'])
  all_goals
    refine ⟨fun w => by omega, fun _ => ?_⟩
    have hb : Box6 x := by first | exact nodB_mono hx q | exact (nodB_flt hx q).1
    have e1 : endT es i x = gtL es i := if_neg (by omega)
    have e4 : pcsN x = 1 := by unfold pcsN; rw [if_neg (by omega), if_neg (by omega)]
    have e2 : cntT c es i x = ⟨c.d, c.p + 1, c.n + 1, [x.h].foldl (hghT 1) c.h⟩ := by
      have e3 : [x.h].foldl (hghT 1) c.h = cutM (c.h + x.h) := by
        have := hb.h
        simp only [List.foldl_cons, List.foldl_nil, hghT, cutM, Int.mul_one]
        omega
      rw [e3]
      unfold cntT pcsN hgtN
      simp only [if_neg (show ¬ x.kind = 1 by omega), if_neg (show ¬ x.kind = 2 by omega)]
    (refine swp_seqW ?_; simp only [go_sem, Bool.not_eq_true', Bool.not_eq_false'])
    (refine swp_condW ?_; simp only [go_sem, Bool.not_eq_true', Bool.not_eq_false'])
    refine ⟨fun w => by omega, fun _ => ?_⟩
    rw [e4] at hp
    (refine swp_seqW ?_; simp only [go_sem, Bool.not_eq_true', Bool.not_eq_false', List.length_map])
    repeat' first | contradiction | intro _ | refine And.intro ?_ ?_ | refine ex_get (by omega) ?_ | (show drawB _ _ = true; kernel_rfl) | (refine ret2 [] (by simp only [go_sem, Bool.not_eq_true', Bool.not_eq_false']; rfl) ?_; simp only [go_sem, Bool.not_eq_true', Bool.not_eq_false'])
    all_goals try omega
    (refine swp_lastW ?_; simp only [go_sem, Bool.not_eq_true', Bool.not_eq_false', List.length_map])
    rw [e2, e1]
    (refine acallF2 [336 ] [] ( high6_ok ⟨c.d, c.p + 1, c.n + 1, c.h⟩ 1 (gtL es i) [x.h] (by omega) (by simp) (fun y hy => by rw [List.mem_singleton] at hy; subst hy; have := hb.h; omega) hh) (by simp only [go_sem, Bool.not_eq_true', Bool.not_eq_false']; rfl) (fit_of (by simp only [go_sem, Bool.not_eq_true', Bool.not_eq_false']) (by simp only [go_sem, Bool.not_eq_true', Bool.not_eq_false']) (by simp only [go_sem, Bool.not_eq_true', Bool.not_eq_false']) (by simp only [go_sem, Bool.not_eq_true', Bool.not_eq_false']) (by simp only [go_sem, Bool.not_eq_true', Bool.not_eq_false']) (by simp only [go_sem, Bool.not_eq_true', Bool.not_eq_false']) (by simp only [go_sem, Bool.not_eq_true', Bool.not_eq_false'])) ?_; simp only [go_sem, Bool.not_eq_true', Bool.not_eq_false', List.map])
    (refine ret2 [] (by simp only [go_sem, Bool.not_eq_true', Bool.not_eq_false']; rfl) ?_; simp only [go_sem, Bool.not_eq_true', Bool.not_eq_false'])
end Go.Proofs.YtblmebjhhanoaaaGreat
/- CHAPTER 06: valid: Count, Check. -/
/- G -/
/- BOOLS -/
set_option linter.unusedSimpArgs false
set_option linter.unusedVariables false
namespace Go.Proofs.YtblmebjhhanoaaaGreat
open Go.RowKit

def cntC (l : List LNo) (k : Nat) : LCt := ⟨dpN l k, psN l k, k, cutM (hsN l k)⟩
theorem gtL_eq (l : List Int) (i : Int) : gtL l i = l.filter (fun e => decide (i < e)) := by
  unfold gtL
  congr 1
  funext e
  unfold gtE offE
  rw [Bool.eq_iff_iff, Bool.not_eq_true', decide_eq_false_iff_not, decide_eq_true_iff]
  omega
theorem end_op {l : List LNo} {es : List Int} {k : Nat} (h1 : 1 ≤ (ndN l k).size) (he : gtL es k = opE l k k) : endT es k (ndN l k) = opE l k (k + 1) := by
  unfold endT
  rw [opE, he]
  split
  · next q => rw [if_pos ⟨q, by omega⟩]
  · next q => rw [if_neg (fun w => q w.1), List.append_nil]
theorem cnt_step {l : List LNo} {es : List Int} {k : Nat} (hk : k < l.length) (h0 : 0 ≤ hgtN (ndN l k)) (h1 : 1 ≤ (ndN l k).size) (he : gtL es k = opE l k k) : cntT (cntC l k) es k (ndN l k) = cntC l (k + 1) := by
  unfold cntT
  rw [end_op h1 he]
  unfold cntC
  simp only [dpN, psN_succ hk, hsN_succ hk, LCt.mk.injEq, true_and]
  exact ⟨by omega, by unfold cutM; omega⟩
theorem end_next {l : List LNo} {k : Nat} : gtL (opE l k (k + 1)) (k + 1 : Nat) = opE l (k + 1 : Nat) (k + 1) := by
  rw [gtL_eq, opE_filter]
  congr 1
  omega
theorem cntC_d (l : List LNo) : (cntC l 0).d = 0 := rfl
theorem cntC_p (l : List LNo) : (cntC l 0).p = 0 := rfl
theorem cntC_n (l : List LNo) : (cntC l 0).n = 0 := rfl
theorem cntC_h (l : List LNo) : (cntC l 0).h = 0 := rfl
def sumC (l : List LNo) : LCt := if isS l = true then cntC l l.length else ⟨0, 0, 0, 0⟩
def eC (l : List LNo) : Int := if isS l = true then 0 else 4
def aSum (l : List LNo) : AV := .tup [.agg [.raw (.int .i64 (sumC l).d), .raw (.int .i64 (sumC l).p), .raw (.int .i64 (sumC l).n), .raw (.int .i64 (sumC l).h)], .raw (.int .i64 (eC l))]
attribute [go_sem] aSum
set_option maxRecDepth 100000 in
set_option maxHeartbeats 8000000 in
theorem count6_ok (l : List LNo) (hl : l.length ≤ 900) (hw : ∀ x ∈ l, x.words.length ≤ 9223372036854775807) (hp : pall l ≤ 9223372036854775807) : FnOk Tryz.prog 35 [.sl 20 (l.map cNo)] [] (aSum l) [] := by
  refine fn_of_swp Tryz.func35 rfl (by kernel_rfl) (by kernel_rfl) (Nat.le_of_ble_eq_true rfl) Tryz.results35 ?_
  (refine swp_seqW ?_; simp only [go_sem, Bool.not_eq_true', Bool.not_eq_false'])
  (refine swp_seqW ?_; simp only [go_sem, Bool.not_eq_true', Bool.not_eq_false'])
  (refine acall2 [] (is6_ok l (by omega) hw) (by simp only [go_sem, Bool.not_eq_true', Bool.not_eq_false']; rfl) (fit_of (by simp only [go_sem, Bool.not_eq_true', Bool.not_eq_false']) (by simp only [go_sem, Bool.not_eq_true', Bool.not_eq_false']) (by simp only [go_sem, Bool.not_eq_true', Bool.not_eq_false']) (by simp only [go_sem, Bool.not_eq_true', Bool.not_eq_false']) (by simp only [go_sem, Bool.not_eq_true', Bool.not_eq_false']) (by simp only [go_sem, Bool.not_eq_true', Bool.not_eq_false']) (by simp only [go_sem, Bool.not_eq_true', Bool.not_eq_false'])) ?_; simp only [go_sem, Bool.not_eq_true', Bool.not_eq_false'])
  refine ⟨fun hv => ?_, fun hv => ?_⟩
  · have e1 : sumC l = ⟨0, 0, 0, 0⟩ := by unfold sumC; rw [hv]; rfl
    have e2 : eC l = 4 := by unfold eC; rw [hv]; rfl
    simp only [aSum, e1, e2]
    (refine ret2 [] (by simp only [go_sem, Bool.not_eq_true', Bool.not_eq_false']; rfl) ?_; simp only [go_sem, Bool.not_eq_true', Bool.not_eq_false'])
  have e1 : sumC l = cntC l l.length := by unfold sumC; rw [hv]; rfl
  have e2 : eC l = 0 := by unfold eC; rw [hv]; rfl
  simp only [aSum, e1, e2]
  have hpos := isS_sizes hv
  (refine swp_seqW ?_; simp only [go_sem, Bool.not_eq_true', Bool.not_eq_false'])
  refine swp_cutS (fun _ : Unit => ⟨[(2, .hdr 8), (3, .raw (.int .i64 0)), (4, .hdr 800)], [(8, some (.cells 81 [.raw (.int .i64 0), .raw (.int .i64 0), .raw (.int .i64 0), .raw (.int .i64 0)])), (800, some (cO (cntC l l.length) 801).2)], none⟩) (fun _ => True) 120 ?_ ?_
  · (refine swp_seqW ?_; simp only [go_sem, Bool.not_eq_true', Bool.not_eq_false', List.length_map])
    refine swp_block ?_
    refine swp_loop2 [] (fun z : KY (List Int) => ⟨[(2, .hdr 8), (3, .raw (.int .i64 0)), (4, .hdr 800), (11, .sl 20 (l.map cNo)), (12, .raw (.int .i64 l.length)), (13, .raw (.int .i64 z.k))], [(8, some (.cells 81 [.raw (.int .i64 0), .raw (.int .i64 0), .raw (.int .i64 0), .raw (.int .i64 0)])), (800, some (cO (cntC l z.k) 801).2), (801, some (.row 3 1 (z.o.map cInt)))], none⟩) (fun z => z.k ≤ l.length ∧ gtL z.o z.k = opE l z.k z.k ∧ z.o.length ≤ z.k) (fun z => l.length - z.k) 120 ⟨0, []⟩ (by simp only [go_sem, Bool.not_eq_true', Bool.not_eq_false']; rfl) (by simp only [go_sem, Bool.not_eq_true', Bool.not_eq_false', List.map_nil, cntC_d, cntC_p, cntC_n, cntC_h]) ?_ ?_
    · exact ⟨Nat.zero_le _, rfl, Nat.le_refl _⟩
    rintro ⟨k, o⟩ ⟨h1, h2, h3⟩
    simp only at h1 h2 h3
    (refine swp_seqW ?_; simp only [go_sem, Bool.not_eq_true', Bool.not_eq_false'])
    (refine swp_seqW ?_; simp only [go_sem, Bool.not_eq_true', Bool.not_eq_false'])
    refine ⟨fun h5 => ?_, fun h5 => ?_⟩
    · have hk : k < l.length := by omega
      have hn := nod_at hv hk
      have hsz := hpos l[k] (List.getElem_mem hk)
      have hwk := hw l[k] (List.getElem_mem hk)
      have hst := cnt_step hk (hgt_nn hn) (by rw [ndN_get hk]; exact hsz.1) h2
      have hen := end_op (k := k) (by rw [ndN_get hk]; exact hsz.1) h2
      have hps := ps_mono (l := l) (show k + 1 ≤ l.length by omega) (Nat.le_refl _)
      have hps0 := ps_mono (l := l) (show 0 ≤ k by omega) (show k ≤ l.length by omega)
      have hps1 := psN_succ hk
      have hh0 := hs_mono hv (show 0 ≤ k by omega) (show k ≤ l.length by omega)
      have hol := opE_len l k (k + 1)
      have hnx := end_next (l := l) (k := k)
      have hnod := node6_ok (cntC l k) o k (ndN l k) hn (by omega) (by omega) (by rw [ndN_get hk]; omega) (by rw [ndN_get hk]; exact hwk) (by have : (cntC l k).h = cutM (hsN l k) := rfl; rw [hsN_zero] at hh0; unfold cutM at this; omega) (by have : (cntC l k).p = psN l k := rfl; rw [psN_zero] at hps0; unfold pall at hp; omega) (by have : (cntC l k).n = k := rfl; omega)
      rw [hst, hen, ndN_get hk] at hnod
      generalize opE l k (k + 1) = o2 at *
      generalize hc2 : cntC l (k + 1) = c2 at *
      generalize cntC l k = c1 at *
      refine swp_seqS ?_
      refine swp_block ?_
      (refine swp_seqW ?_; simp only [go_sem, Bool.not_eq_true', Bool.not_eq_false'])
      refine ⟨by omega, ex_get hk ?_⟩
      (refine swp_lastW ?_; simp only [go_sem, Bool.not_eq_true', Bool.not_eq_false'])
      (refine acall2 [] (hnod) (by simp only [go_sem, Bool.not_eq_true', Bool.not_eq_false']; rfl) (fit_of (by simp only [go_sem, Bool.not_eq_true', Bool.not_eq_false']) (by simp only [go_sem, Bool.not_eq_true', Bool.not_eq_false']) (by simp only [go_sem, Bool.not_eq_true', Bool.not_eq_false']) (by simp only [go_sem, Bool.not_eq_true', Bool.not_eq_false']) (by simp only [go_sem, Bool.not_eq_true', Bool.not_eq_false']) (by simp only [go_sem, Bool.not_eq_true', Bool.not_eq_false']) (by simp only [go_sem, Bool.not_eq_true', Bool.not_eq_false'])) ?_; simp only [go_sem, Bool.not_eq_true', Bool.not_eq_false'])
      (refine swp_lastW ?_; simp only [go_sem, Bool.not_eq_true', Bool.not_eq_false'])
      refine ⟨by omega, ?_⟩
      (refine loop_end [] (⟨k + 1, o2⟩) (by simp only [go_sem, Bool.not_eq_true', Bool.not_eq_false']; rfl) ?_ ?_ ?_; (focus first | omega | (simp only; omega)); (focus (simp only [go_sem, Bool.not_eq_true', Bool.not_eq_false', hc2]; done)))
      exact ⟨hk, hnx, hol⟩
    · obtain rfl : k = l.length := by omega
      (refine cut_end [] (()) (by simp only [go_sem, Bool.not_eq_true', Bool.not_eq_false']; rfl) ?_ ?_; (focus (simp only [go_sem, Bool.not_eq_true', Bool.not_eq_false']; done)))
      trivial
  rintro - -
  (refine swp_lastW ?_; simp only [go_sem, Bool.not_eq_true', Bool.not_eq_false'])
  (refine ret2 [] (by simp only [go_sem, Bool.not_eq_true', Bool.not_eq_false']; rfl) ?_; simp only [go_sem, Bool.not_eq_true', Bool.not_eq_false'])
theorem chk_no {l : List LNo} (h : isS l = false) : chkN l = 4 := if_pos h
theorem chk_lim {l : List LNo} (h : isS l = true) : chkN l = if 16 < (cntC l l.length).d ∨ 2000 < (cntC l l.length).p ∨ 2000 < (cntC l l.length).n ∨ 1099511627776 < (cntC l l.length).h then 2 else 0 := by
  unfold chkN
  rw [if_neg (by rw [h]; decide)]
  have e : 1099511627776 < hall l ↔ 1099511627776 < (cntC l l.length).h := by
    show _ ↔ 1099511627776 < cutM (hsN l l.length)
    unfold hall cutM
    omega
  simp only [e]
  rfl
set_option maxRecDepth 100000 in
set_option maxHeartbeats 8000000 in
theorem check6_ok (l : List LNo) (hl : l.length ≤ 900) (hw : ∀ x ∈ l, x.words.length ≤ 9223372036854775807) (hp : pall l ≤ 9223372036854775807) : FnOk Tryz.prog 13 [.sl 20 (l.map cNo)] [] (.raw (.int .i64 (chkN l))) [] := by
  refine fn_of_swp Tryz.func13 rfl (by kernel_rfl) (by kernel_rfl) (Nat.le_of_ble_eq_true rfl) Tryz.results13 ?_
  (refine swp_seqW ?_; simp only [go_sem, Bool.not_eq_true', Bool.not_eq_false'])
  (refine swp_seqW ?_; simp only [go_sem, Bool.not_eq_true', Bool.not_eq_false'])
  (refine acall2 [] (count6_ok l hl hw hp) (by simp only [go_sem, Bool.not_eq_true', Bool.not_eq_false']; rfl) (fit_of (by simp only [go_sem, Bool.not_eq_true', Bool.not_eq_false']) (by simp only [go_sem, Bool.not_eq_true', Bool.not_eq_false']) (by simp only [go_sem, Bool.not_eq_true', Bool.not_eq_false']) (by simp only [go_sem, Bool.not_eq_true', Bool.not_eq_false']) (by simp only [go_sem, Bool.not_eq_true', Bool.not_eq_false']) (by simp only [go_sem, Bool.not_eq_true', Bool.not_eq_false']) (by simp only [go_sem, Bool.not_eq_true', Bool.not_eq_false'])) ?_; simp only [go_sem, Bool.not_eq_true', Bool.not_eq_false'])
  (refine swp_seqW ?_; simp only [go_sem, Bool.not_eq_true', Bool.not_eq_false'])
  rcases hv : isS l with _ | _
  · have e2 : eC l = 4 := by unfold eC; rw [hv]; rfl
    rw [e2, chk_no hv]
    exact ⟨fun _ => rfl, fun w => absurd w (by decide)⟩
  have e1 : sumC l = cntC l l.length := by unfold sumC; rw [hv]; rfl
  have e2 : eC l = 0 := by unfold eC; rw [hv]; rfl
  rw [e1, e2, chk_lim hv]
  generalize cntC l l.length = c
  refine ⟨fun w => absurd rfl w, fun _ => ?_⟩
  (refine swp_seqW ?_; simp only [go_sem, Bool.not_eq_true', Bool.not_eq_false'])
  refine swp_cutS (fun _ : Unit => ⟨[], [], none⟩) (fun _ => ¬ (16 < c.d ∨ 2000 < c.p ∨ 2000 < c.n ∨ 1099511627776 < c.h)) 120 ?_ ?_
  · (refine swp_seqW ?_; simp only [go_sem, Bool.not_eq_true', Bool.not_eq_false'])
    refine swp_block ?_
    refine swp_loop2 [] (fun i : Nat => ⟨[(5, .hdr 96), (25, .agg [.raw (.int .i64 16), .raw (.int .i64 2000), .raw (.int .i64 2000), .raw (.int .i64 1099511627776)]), (26, .raw (.int .i64 i))], [(96, some (.cells 84 [.raw (.int .i64 c.d), .raw (.int .i64 c.p), .raw (.int .i64 c.n), .raw (.int .i64 c.h)]))], none⟩) (fun i => i ≤ 4 ∧ (0 < i → ¬ 16 < c.d) ∧ (1 < i → ¬ 2000 < c.p) ∧ (2 < i → ¬ 2000 < c.n) ∧ (3 < i → ¬ 1099511627776 < c.h)) (fun i => 4 - i) 120 0 (by simp only [go_sem, Bool.not_eq_true', Bool.not_eq_false']; rfl) (by simp only [go_sem, Bool.not_eq_true', Bool.not_eq_false']) ?_ ?_
    · exact ⟨by omega, by omega, by omega, by omega, by omega⟩
    rintro i ⟨h1, h2, h3, h4, h5⟩
    (refine swp_seqW ?_; simp only [go_sem, Bool.not_eq_true', Bool.not_eq_false'])
    (refine swp_seqW ?_; simp only [go_sem, Bool.not_eq_true', Bool.not_eq_false'])
    refine ⟨fun q => ?_, fun q => ?_⟩
    · refine swp_seqS ?_
      refine swp_block ?_
      rcases (by omega : i = 0 ∨ i = 1 ∨ i = 2 ∨ i = 3) with rfl | rfl | rfl | rfl
      all_goals
        (refine swp_seqW ?_; simp only [go_sem, Bool.not_eq_true', Bool.not_eq_false'])
        refine ⟨⟨by omega, by omega⟩, _, rfl, ?_⟩
        (refine swp_seqW ?_; simp only [go_sem, Bool.not_eq_true', Bool.not_eq_false', Int.reduceToNat, Int.reduceLT, Int.reduceLE, Int.reduceEq, Int.reduceAdd, Int.reduceSub, Int.reduceMul, Int.reduceNeg, Int.reduceNe, decide_false, Int.cast_ofNat_Int, kSet, List.getElem?_cons_succ, List.getElem?_cons_zero, List.set_cons_succ, List.set_cons_zero, exists_eq_left', forall_const, true_implies, Int.natCast_zero, Int.natCast_one, List.drop_zero, List.drop_succ_cons, List.take_succ_cons, List.take_zero, List.headD_cons])
        (refine swp_condW ?_; simp only [go_sem, Bool.not_eq_true', Bool.not_eq_false'])
        refine ⟨fun w => ?_, fun w => ?_⟩
        · rw [if_pos (by omega)]
          (refine swp_lastW ?_; simp only [go_sem, Bool.not_eq_true', Bool.not_eq_false'])
        · (refine swp_lastW ?_; simp only [go_sem, Bool.not_eq_true', Bool.not_eq_false'])
          (refine swp_lastW ?_; simp only [go_sem, Bool.not_eq_true', Bool.not_eq_false'])
          first
            | (refine ⟨by omega, loop_end [] (0 + 1) (by simp only [go_sem, Bool.not_eq_true', Bool.not_eq_false']; rfl) (by omega) (by simp only [go_sem, Bool.not_eq_true', Bool.not_eq_false']; omega) (by omega)⟩)
            | (refine ⟨by omega, loop_end [] (1 + 1) (by simp only [go_sem, Bool.not_eq_true', Bool.not_eq_false']; rfl) (by omega) (by simp only [go_sem, Bool.not_eq_true', Bool.not_eq_false']; omega) (by omega)⟩)
            | (refine ⟨by omega, loop_end [] (2 + 1) (by simp only [go_sem, Bool.not_eq_true', Bool.not_eq_false']; rfl) (by omega) (by simp only [go_sem, Bool.not_eq_true', Bool.not_eq_false']; omega) (by omega)⟩)
            | (refine ⟨by omega, loop_end [] (3 + 1) (by simp only [go_sem, Bool.not_eq_true', Bool.not_eq_false']; rfl) (by omega) (by simp only [go_sem, Bool.not_eq_true', Bool.not_eq_false']; omega) (by omega)⟩)
    · obtain rfl : i = 4 := by omega
      (refine cut_end [] (()) (by simp only [go_sem, Bool.not_eq_true', Bool.not_eq_false']; rfl) ?_ ?_; (focus (simp only [go_sem, Bool.not_eq_true', Bool.not_eq_false']; done)))
      omega
  rintro - hF
  rw [if_neg hF]
  (refine swp_lastW ?_; simp only [go_sem, Bool.not_eq_true', Bool.not_eq_false'])
end Go.Proofs.YtblmebjhhanoaaaGreat
/- CHAPTER 06: the document's answer: Count, Check. -/
/- G -/
/- BOOLS -/
set_option linter.unusedSimpArgs false
set_option linter.unusedVariables false
namespace Go.Proofs.YtblmebjhhanoaaaGreat
open Go.RowKit

abbrev sO (d p n h : Int) : AO := .cells 81 [.raw (.int .i64 d), .raw (.int .i64 p), .raw (.int .i64 n), .raw (.int .i64 h)]
def stC (l : List LNo) (k : Nat) (more : List (Nat × AV)) (d p h : Int) (ob : List (Nat × Option AO)) : AS := ⟨[(0, .sl 20 (l.map cNo)), (2, .hdr 8), (3, .raw (.int .i64 0)), (4, .hdr 800), (5, .raw (.int .i64 k))] ++ more, [(8, some (sO 0 0 0 0)), (800, some (sO d p l.length h))] ++ ob, none⟩
attribute [go_sem] stC
end Go.Proofs.YtblmebjhhanoaaaGreat
/- CHAPTER 14: the document's answer: one node. -/
/- G -/
/- BOOLS -/
set_option linter.unusedSimpArgs false
set_option linter.unusedVariables false
namespace Go.Proofs.YtblmebjhhanoaaaGreat
open Go.RowKit

abbrev rowA (s : LGs) : AO := .row 47 8 (s.a.map cAt)
abbrev rowF (s : LGs) : AO := .row 62 7 (s.f.map cFl)
abbrev stO (p : LPen) (i j : Nat) : AO := .cells 70 [.hdr i, .hdr j, .raw (.int .i64 0), .raw (.int .i64 p.y), .raw (.int .i64 p.m)]
def aGs (s : LGs) (i j : Nat) : AV := .agg [.hdr i, .hdr j, .raw (.int .i64 0), .raw (.int .i64 s.p.y), .raw (.int .i64 s.p.m)]
attribute [go_sem] aGs
theorem GsOk.at {l : List LNo} {B : Int} {k : Nat} {s : LGs} (h : GsOk l B k s) (hB : B ≤ 1099511627776) : 0 ≤ atP s.p ∧ atP s.p ≤ 1099511627776 := by
  have := h.y
  have := h.m
  have := h.b
  unfold atP
  omega
theorem GsOk.lin {l : List LNo} {B : Int} {k : Nat} {s : LGs} (h : GsOk l B k s) (hB : B ≤ 1099511627776) (hk : k ≤ 60) {H : Int} {sp : LSpan} (hH : 0 ≤ H ∧ H ≤ 1099511627776) (hs : SpOk sp) : LinOk s.f H sp :=
  ⟨by have := h.fl; omega, h.near hB hk, by omega, by obtain ⟨a, b⟩ := hs; omega⟩
theorem GsOk.pla {l : List LNo} {B : Int} {k : Nat} {s : LGs} (h : GsOk l B k s) (hB : B ≤ 1099511627776) (hk : k ≤ 60) {x : LNo} {n : Nat} {sp : LSpan} (hx : Box6 x) (hs : SpOk sp) : PlaOk s.f (newF n x s) (atP s.p) sp := by
  have h1 := hx.w
  have h2 := hx.h
  have h3 := h.at hB
  obtain ⟨a, b⟩ := hs
  exact ⟨by have := h.fl; omega, h.near hB hk, nearF_iff.2 ⟨by simp only [newF]; omega, by simp only [newF]; omega, by simp only [newF]; omega, by simp only [newF]; omega⟩, by omega, by omega⟩
theorem wor_ok {l : List LNo} {w : Int} (hP : FlwP l w) {k : Nat} (hk : k < l.length) {x : LNo} (e : ndN l k = x) (hx : Txt6 x) (q : x.kind = 2) : WorOk x.words x.space := by
  have h1 := psN_succ hk
  have h2 := ps_mono (l := l) (show 0 ≤ k by omega) (by omega)
  have h3 := ps_mono (l := l) (show k + 1 ≤ l.length by omega) (Nat.le_refl _)
  have h4 := hP.ps
  have h5 : pcsN x = x.words.length := by unfold pcsN; rw [if_neg (by omega), if_pos q]
  rw [e, h5] at h1
  rw [psN_zero] at h2
  unfold pall at h4
  have h6 := hx.space
  refine ⟨by omega, ?_, by omega⟩
  rw [List.all_eq_true]
  intro y hy
  have := hx.words y hy
  simp only [nr9, decide_eq_true_eq]
  omega
theorem nod_next {l : List LNo} {w : Int} (hP : FlwP l w) {g k : Nat} {B : Int} {s : LGs} (hk : k < l.length) (hn : nst l g (k + 1) (k + (ndN l k).size)) (h : GsOk l B k s) : GsOk l (B + (hsN l (k + (ndN l k).size.toNat) - hsN l k)) (k + (ndN l k).size.toNat) (nodG l w (rowG l w g) k s) := by
  have hL := isS_lam hP.v
  have h1 := hL.pos k hk
  have h2 := hL.fin k hk
  rw [← ndN_siz] at h1 h2
  refine nodG_ok hP hk h fun B s hs => ?_
  have := rowG_ok hP g (k + 1) (k + (ndN l k).size) B s hn (by omega) hs
  have e3 : ((k : Int) + (ndN l k).size).toNat = k + (ndN l k).size.toNat := by omega
  rw [e3] at this
  exact this
theorem rmR_ok' {l : List LNo} {w : Int} (hP : FlwP l w) (k : Nat) : okR (rmR l w l.length k) := rmR_ok (isS_ins hP.v) hP.w l.length k
theorem tex_all {l : List LFl} {ws : List Int} {sp H B : Int} {s : LSpan} (hH : 1 ≤ H) (hf : ∀ g ∈ l, g.y + g.h ≤ B) : ∀ (n f : Nat) (y C : Int), f ≤ ws.length → y ≤ C → B ≤ C → ∀ z ∈ texG l ws sp H s n f y, y ≤ z.y ∧ z.y + H ≤ C + H * ((ws.length : Int) - f)
  | 0, f, y, C, h0, h2, h3, z, hz => by
    rw [texG] at hz
    cases hz
  | n + 1, f, y, C, h0, h2, h3, z, hz => by
    rw [texG] at hz
    split at hz
    · next q =>
      obtain ⟨t, e1, e2, e3⟩ := lin_t (l := l) (sp := sp) (H := H) (y := y) (s := s) q
      rw [e1, Int.toNat_natCast] at hz
      have hy : (linN l ws sp H f y s).y = romY l (ws.getD f 0) H y s := rfl
      have hge := rom_ge l (ws.getD f 0) H y s
      have hle := rom_le (w := ws.getD f 0) (H := H) (s := s) (Int.le_trans h2 (Int.le_refl C)) (fun g hg => Int.le_trans (hf g hg) h3)
      have h5 : H * ((ws.length : Int) - f) = H * ((ws.length : Int) - t) + H * ((t : Int) - f) := by rw [← Int.mul_add]; congr 1; omega
      have h6 : H * 1 ≤ H * ((t : Int) - f) := Int.mul_le_mul_of_nonneg_left (by omega) (by omega)
      have h7 := Int.mul_nonneg (show 0 ≤ H by omega) (show 0 ≤ (ws.length : Int) - t by omega)
      rcases List.mem_cons.1 hz with rfl | hz
      · omega
      · have ih := tex_all (s := s) hH hf n t ((linN l ws sp H f y s).y + H) (C + H) e3 (by omega) (by omega) z hz
        omega
    · cases hz
theorem take_setG {k : Nat} {H : Int} {T : List LSet} {s : LGs} {i : Nat} (hi : i < T.length) : (T.take (i + 1)).foldl (setG k H) s = setG k H ((T.take i).foldl (setG k H) s) T[i] := by
  rw [List.take_succ_eq_append_getElem hi, List.foldl_append]
  rfl
def stR (l : List LNo) (w : Int) (k : Nat) (y : Int) (s : LGs) (more : List (Nat × AV)) (ob : List (Nat × Option AO)) : AS :=
  ⟨[(1, .sl 20 (l.map cNo)), (2, .raw (.int .i64 k)), (3, .raw (.int .i64 w)), (4, .hdr 800), (8, .hdr 801), (9, .hdr 802), (11, .hdr 803), (12, .raw (.int .i64 y))] ++ more,
   [(800, some (stO s.p 804 805)), (804, some (rowA s)), (805, some (rowF s)), (801, some (stO ⟨0, 0⟩ 806 807)), (802, some (.cells 56 (lNo (ndN l k)))), (803, some (.cells 112 [.raw (.int .i64 (spK l w k).a), .raw (.int .i64 (spK l w k).b)]))] ++ ob, none⟩
attribute [go_sem] stR
theorem spK_a (l : List LNo) (w : Int) (k : Nat) : (spK l w k).a = (rmR l w l.length k).x := rfl
theorem spK_b (l : List LNo) (w : Int) (k : Nat) : (spK l w k).b = (rmR l w l.length k).x + (rmR l w l.length k).w := rfl
end Go.Proofs.YtblmebjhhanoaaaGreat
/- CHAPTER 14: the document's answer: the galley. -/
/- G -/
/- BOOLS -/
set_option linter.unusedSimpArgs false
set_option linter.unusedVariables false
namespace Go.Proofs.YtblmebjhhanoaaaGreat
open Go.RowKit

structure LGal where
  a : List LAt
  f : List LFl
  h : Int
def endF (n : Nat) (f : LFl) : LFl := ⟨f.node, f.side, if (n : Int) ≤ f.anchor then max ((n : Int) - 1) 0 else f.anchor, f.x, f.y, f.w, f.h⟩
def hgtS (b : Int) (fs : List LFl) : Int := fs.foldl (fun h f => max h (f.y + f.h)) b
def endG (s : LGs) : LGal := ⟨s.a, s.f.map (endF s.a.length), hgtS (atP s.p) s.f⟩
def allS (l : List LNo) (w : Int) : LGs := rowG l w (l.length + 1) 0 l.length ⟨[], [], ⟨0, 0⟩⟩
def errG (l : List LNo) (w : Int) : Int := if 1 ≤ w ∧ w ≤ 1099511627776 then chkN l else 4
def resG (l : List LNo) (w : Int) : LGal := if errG l w = 0 then endG (allS l w) else ⟨[], [], 0⟩
def aGal (g : LGal) (i j : Nat) : AV := .agg [.hdr i, .hdr j, .raw (.int .i64 g.h)]
attribute [go_sem] aGal
theorem errG_ok {l : List LNo} {w : Int} (hl : l.length ≤ 60) (h : errG l w = 0) : FlwP l w := by
  unfold errG at h
  split at h
  · next q =>
    unfold chkN at h
    split at h
    · cases h
    · next hv =>
      split at h
      · cases h
      · next hc => exact ⟨by simpa using hv, hl, by omega, by omega, q⟩
  · cases h
theorem gs_zero (l : List LNo) : GsOk l 0 0 ⟨[], [], ⟨0, 0⟩⟩ := ⟨Int.le_refl _, Int.le_refl _, Int.le_refl _, Nat.le_refl _, Int.le_refl _, fun f hf => by cases hf⟩
theorem allS_ok {l : List LNo} {w : Int} (hP : FlwP l w) : GsOk l (hall l) l.length (allS l w) := by
  have := rowG_ok hP (l.length + 1) 0 l.length 0 ⟨[], [], ⟨0, 0⟩⟩ (isS_nst hP.v) (Int.le_refl _) (gs_zero l)
  rw [Int.toNat_natCast, hsN_zero] at this
  exact this.mono (by unfold hall; omega)
def flE (n : Nat) (fs : List LFl) (i : Nat) : List LFl := (fs.take i).map (endF n) ++ fs.drop i
theorem flE_len {n : Nat} {fs : List LFl} {i : Nat} : (flE n fs i).length = fs.length := by
  unfold flE
  simp
  omega
theorem flE_get {n : Nat} {fs : List LFl} {i : Nat} (hi : i < fs.length) : (flE n fs i)[i]? = some fs[i] := by
  unfold flE
  rw [List.getElem?_append_right (by simp; omega), List.length_map, List.length_take, List.getElem?_drop]
  have : i + (i - min i fs.length) = i := by omega
  rw [this, List.getElem?_eq_getElem hi]
theorem flE_set {n : Nat} {fs : List LFl} {i : Nat} (hi : i < fs.length) : (flE n fs i).set i (endF n fs[i]) = flE n fs (i + 1) := by
  unfold flE
  rw [List.drop_eq_getElem_cons hi, List.take_succ_eq_append_getElem hi, List.set_append_right _ _ (by simp; omega)]
  have : i - (List.map (endF n) (List.take i fs)).length = 0 := by simp; omega
  rw [this, List.set_cons_zero, List.map_append, List.append_assoc]
  rfl
theorem hgtS_bd {B : Int} : ∀ (fs : List LFl) (b : Int), 0 ≤ b ∧ b ≤ B → (∀ f ∈ fs, 0 ≤ f.y + f.h ∧ f.y + f.h ≤ B) → 0 ≤ hgtS b fs ∧ hgtS b fs ≤ B
  | [], b, h, _ => h
  | f :: fs, b, h, hf => by
    have := hf f List.mem_cons_self
    exact hgtS_bd fs (max b (f.y + f.h)) (by omega) fun g hg => hf g (List.mem_cons_of_mem _ hg)
theorem flE_zero (n : Nat) (fs : List LFl) : flE n fs 0 = fs := rfl
theorem flE_all (n : Nat) (fs : List LFl) : flE n fs fs.length = fs.map (endF n) := by
  unfold flE
  rw [List.take_length, List.drop_length, List.append_nil]
abbrev stH (h : Int) (p : LPen) (i j : Nat) : AO := .cells 70 [.hdr i, .hdr j, .raw (.int .i64 h), .raw (.int .i64 p.y), .raw (.int .i64 p.m)]
end Go.Proofs.YtblmebjhhanoaaaGreat
/- CHAPTER 14: flow: what each node's step keeps, all keep; what stands where, node by node. -/
/- G -/
set_option linter.unusedSimpArgs false
set_option linter.unusedVariables false
namespace Go.Proofs.YtblmebjhhanoaaaGreat
open Go.RowKit

theorem isG_nodk : ∀ (l : List LNo) (i : Nat) (st : List Int), isG l i st = true → ∀ x ∈ l, nodB x = true ∧ ¬(x.kind ≠ 1 ∧ 1 < x.size)
  | [], _, _, _, x, hx => by cases hx
  | y :: l, i, st, h, x, hx => by
    rw [isG] at h
    simp only [Bool.and_eq_true, Bool.not_eq_true', Bool.and_eq_false_iff, decide_eq_true_eq, decide_eq_false_iff_not] at h
    obtain ⟨⟨⟨⟨u1, u2⟩, u3⟩, u4⟩, u5⟩ := h
    rcases List.mem_cons.1 hx with e | q
    · subst e
      exact ⟨u1, fun w => u4.elim (fun z => z w.1) (fun z => z w.2)⟩
    · exact isG_nodk l _ _ u5 x q
theorem leaf_siz {l : List LNo} (hv : isS l = true) {k : Nat} (hk : k < l.length) (q : (ndN l k).kind ≠ 1) : (ndN l k).size = 1 := by
  have h1 := (isG_nodk l 0 _ hv l[k] (List.getElem_mem hk)).2
  have h2 := isS_sizes hv l[k] (List.getElem_mem hk)
  rw [ndN_get hk] at q ⊢
  have : ¬ 1 < l[k].size := fun w => h1 ⟨q, w⟩
  omega
/-- a property that each node's step hands on. -/
structure StepP (l : List LNo) (w : Int) (P : Nat → LGs → Prop) : Prop where
  ent : ∀ k s B, k < l.length → (ndN l k).kind = 1 → GsOk l B k s → B ≤ 1099511627776 → P k s → P (k + 1) (entG (ndN l k) s)
  lv : ∀ k e s B, k < l.length → (ndN l k).kind = 1 → GsOk l B e s → B ≤ 1099511627776 → P e s → P e (lvG (ndN l k) s)
  txt : ∀ k s B, k < l.length → (ndN l k).kind = 2 → GsOk l B k s → B ≤ 1099511627776 → P k s → P (k + 1) (txtG (spK l w k) k (ndN l k) s)
  mon : ∀ k s B, k < l.length → (ndN l k).kind = 3 → GsOk l B k s → B ≤ 1099511627776 → P k s → P (k + 1) (monG (spK l w k) k (ndN l k) s)
  flt : ∀ k s B, k < l.length → (ndN l k).kind = 4 → GsOk l B k s → B ≤ 1099511627776 → P k s → P (k + 1) (fltG (spK l w k) k (ndN l k) s)
theorem row_ind {l : List LNo} {w : Int} (hP : FlwP l w) {P : Nat → LGs → Prop} (hS : StepP l w P) : ∀ (n k : Nat) (e B : Int) (s : LGs), nst l n k e → e ≤ l.length → GsOk l B k s → B + (hall l - hsN l k) ≤ 1099511627776 → P k s → P e.toNat (rowG l w n k e s)
  | 0, k, e, B, s, h, _, _, _, _ => absurd h (by simp [nst])
  | n + 1, k, e, B, s, h, he, hg, hB, hp => by
    obtain ⟨h1, h2⟩ := h
    rw [rowG]
    split
    · next q =>
      obtain ⟨u1, u2, u3, u4⟩ := h2 q
      rw [← ndN_siz] at u1 u2 u3 u4
      have hk : k < l.length := by omega
      have e3 : ((k : Int) + (ndN l k).size).toNat = k + (ndN l k).size.toNat := by omega
      have hnb := nod_at hP.v hk
      have hs1 := hsN_succ hk
      have hm0 := hs_mono hP.v (show k ≤ l.length by omega) (Nat.le_refl _)
      have hm1 := hs_mono hP.v (show k + 1 ≤ k + (ndN l k).size.toNat by omega) (by omega)
      have hm2 := hs_mono hP.v (show k + (ndN l k).size.toNat ≤ l.length by omega) (Nat.le_refl _)
      unfold hall at hB
      have hB1 : B ≤ 1099511627776 := by omega
      have hnx := nod_next hP hk u3 hg
      have hN : P (k + (ndN l k).size.toNat) (nodG l w (rowG l w n) k s) := by
        unfold nodG
        rcases nodB_kind hnb with q | q | q | q
        · rw [if_pos q]
          have hb := nodB_blk hnb q
          have e1 : hgtN (ndN l k) = (ndN l k).st.top + (ndN l k).st.bottom + (ndN l k).st.padTop + (ndN l k).st.padBottom + (ndN l k).st.head := by unfold hgtN; rw [if_pos q]
          have hhd := hb.head
          have hbo := hb.bottom
          have hpb := hb.padBottom
          have hent := ent_ok hk hb hg
          have hr := row_ind hP hS n (k + 1) (k + (ndN l k).size) _ _ u3 (by omega) hent (by unfold hall; omega) (hS.ent k s B hk q hg hB1 hp)
          have hro := rowG_ok hP n (k + 1) (k + (ndN l k).size) _ _ u3 (by omega) hent
          rw [e3] at hr hro
          exact hS.lv k _ _ _ hk q hro (by omega) hr
        · rw [if_neg (by omega), if_pos q, leaf_siz hP.v hk (by omega)]
          exact hS.txt k s B hk q hg hB1 hp
        · rw [if_neg (by omega), if_neg (by omega), if_pos q, leaf_siz hP.v hk (by omega)]
          exact hS.mon k s B hk q hg hB1 hp
        · rw [if_neg (by omega), if_neg (by omega), if_neg (by omega), leaf_siz hP.v hk (by omega)]
          exact hS.flt k s B hk q hg hB1 hp
      exact row_ind hP hS n (k + (ndN l k).size.toNat) e _ _ u4 he hnx (by unfold hall; omega) hN
    · have e2 : e.toNat = k := by omega
      rw [e2]
      exact hp
theorem all_ind {l : List LNo} {w : Int} (hP : FlwP l w) {P : Nat → LGs → Prop} (hS : StepP l w P) (h0 : P 0 ⟨[], [], ⟨0, 0⟩⟩) : P l.length (allS l w) := by
  have := row_ind hP hS (l.length + 1) 0 l.length 0 ⟨[], [], ⟨0, 0⟩⟩ (isS_nst hP.v) (Int.le_refl _) (gs_zero l) (by have := hP.hi; rw [hsN_zero]; omega) h0
  rw [Int.toNat_natCast] at this
  exact this
/-! the pen never goes up -/
/-! anchors -/
def AncP (_ : Nat) (s : LGs) : Prop := ∀ f ∈ s.f, 0 ≤ f.anchor ∧ f.anchor ≤ s.a.length
theorem anc_step (l : List LNo) (w : Int) : StepP l w AncP where
  ent := fun _ _ _ _ _ _ _ h => h
  lv := fun _ _ _ _ _ _ _ _ h => h
  txt := fun k s B _ _ _ _ h => by
    obtain ⟨f1, f2⟩ := setG_fold k (ndN l k).line (texF s.f (ndN l k).words (ndN l k).space (ndN l k).line (atP s.p) (spK l w k)) s
    intro f hf
    unfold txtG at hf ⊢
    rw [f2] at hf
    rw [f1, List.length_append]
    have := h f hf
    omega
  mon := fun k s B _ _ _ _ h => fun f hf => by
    have := h f hf
    simp only [monG, List.length_append, List.length_cons, List.length_nil]
    omega
  flt := fun k s B _ _ _ _ h => fun f hf => by
    rcases List.mem_append.1 hf with hf | hf
    · exact h f hf
    · rw [List.mem_singleton] at hf
      subst hf
      simp only [fltG, setP, newF]
      omega
/-! what stands where -/
/-- lines that have a text's words, from one on. -/
def LinC (x : LNo) (k : Nat) : Nat → List LAt → Prop
  | f, [] => f = x.words.length
  | f, a :: L => a.kind = 1 ∧ a.node = k ∧ a.fr = f ∧ a.h = x.line ∧ ∃ t : Nat, a.to = t ∧ f < t ∧ t ≤ x.words.length ∧ a.w = wideN x.space (seg x.words f t) ∧ LinC x k t L
/-- a node's atoms. -/
def SegC (x : LNo) (k : Nat) (L : List LAt) : Prop :=
  if x.kind = 2 then LinC x k 0 L else if x.kind = 3 then ∃ a : LAt, L = [a] ∧ a.kind = 2 ∧ a.node = k ∧ a.w = x.w ∧ a.h = x.h else L = []
/-- atoms one below the other, from one height on, up to another one. -/
def RiseP : Int → List LAt → Int → Prop
  | lo, [], hi => lo ≤ hi
  | lo, a :: L, hi => lo ≤ a.y ∧ 0 ≤ a.h ∧ RiseP (a.y + a.h) L hi
def nA (ss : List (List LAt)) (j : Nat) : Nat := (ss.take j).flatten.length
def nF (l : List LNo) : Nat → Nat
  | 0 => 0
  | j + 1 => if (ndN l j).kind = 4 then nF l j + 1 else nF l j
structure FltC (x : LNo) (j : Nat) (n : Nat) (f : LFl) : Prop where
  node : f.node = j
  side : f.side = x.side
  w : f.w = x.w
  h : f.h = x.h
  anchor : f.anchor = n
structure OncQ (l : List LNo) (ss : List (List LAt)) (i : Nat) (s : LGs) : Prop where
  len : ss.length = i
  flat : s.a = ss.flatten
  seg : ∀ j (h : j < ss.length), SegC (ndN l j) j ss[j]
  rise : RiseP 0 s.a (atP s.p)
  fl : s.f.length = nF l i
  flt : ∀ j, j < i → (ndN l j).kind = 4 → ∃ f, s.f[nF l j]? = some f ∧ FltC (ndN l j) j (nA ss j) f
  fy : ∀ q a b, s.f[q]? = some a → s.f[q + 1]? = some b → a.y ≤ b.y
def OncP (l : List LNo) (i : Nat) (s : LGs) : Prop := ∃ ss, OncQ l ss i s
theorem anc_all {l : List LNo} {w : Int} (hP : FlwP l w) : AncP l.length (allS l w) := all_ind hP (anc_step l w) fun f hf => by cases hf
end Go.Proofs.YtblmebjhhanoaaaGreat
/- ENGINE (second) 17: a drawn statement with a sum that may wrap; over any program. -/
/- G -/
set_option linter.unusedSimpArgs false
set_option linter.unusedVariables false
namespace Go.Proofs.YtblmebjhhanoaaaGreat
open Go.RowKit

theorem chain_app {P : Program} {D : List (Option Nat)} : ∀ (a b : List Oper) (n : Nat) (S : AS) (Ea Eb : List Eff) (Sa Sf : AS), Chain P D a n S Ea Sa → Chain P D b (n + a.length) Sa Eb Sf → Chain P D (a ++ b) n S (Ea ++ Eb) Sf
  | [], b, n, S, Ea, Eb, Sa, Sf, h1, h2 => by
    obtain ⟨rfl, rfl⟩ := h1
    exact h2
  | o :: a, b, n, S, Ea, Eb, Sa, Sf, h1, h2 => by
    obtain ⟨E, ran, S1, Es', rfl, hs, hst, hr⟩ := h1
    rw [List.length_cons, Nat.add_comm a.length 1, ← Nat.add_assoc] at h2
    exact ⟨E, ran, S1, Es' ++ Eb, rfl, hs, hst, chain_app a b _ _ _ _ _ _ hr h2⟩
theorem sli_same {P : Program} {A : Array Oper} {Q : Exit → Nat → AS → Prop} {ops : List Oper} {n : Nat} {S S1 : AS} (h1 : ∀ d, S1.get d = S.get d) (h2 : ∀ i, S1.obj i = S.obj i) (h : SLi P A Q ops n S1) : SLi P A Q ops n S :=
  ⟨fun rd m0 c p ρ a w hd hm hn ha => h.h rd m0 c p ρ a w hd (hm.same h1 h2) hn ha⟩
theorem chain_sli {P : Program} {D : List (Option Nat)} {A : Array Oper} {Q : Exit → Nat → AS → Prop} : ∀ (ops : List Oper) (n : Nat) (S : AS) (Es : List Eff) (Sf : AS), (∀ o ∈ ops, o.guard = none) → Chain P D ops n S Es Sf → Q .normal (n + ops.length) ⟨Sf.t, Sf.s, none⟩ → SLi P A Q ops n S
  | [], n, S, Es, Sf, _, h, hq => by
    obtain ⟨rfl, rfl⟩ := h
    exact sli_same (S1 := ⟨Sf.t, Sf.s, none⟩) (fun _ => rfl) (fun _ => rfl) (sli_nil hq)
  | o :: rest, n, S, Es, Sf, hg, h, hq => by
    obtain ⟨E, ran, S1, Es', rfl, hs, ⟨hgi, hst, -⟩, hr⟩ := h
    have g := hg o List.mem_cons_self
    unfold GuardIs at hgi
    rw [g] at hgi
    refine sli_same hs.1 hs.2.1 (sli_cons g (hst hgi S1 (fun _ _ => rfl) (fun _ _ => rfl)) (chain_sli rest (n + 1) _ Es' Sf (fun o ho => hg o (List.mem_cons_of_mem _ ho)) hr ?_))
    rw [List.length_cons, Nat.add_comm rest.length 1, ← Nat.add_assoc] at hq
    exact hq
end Go.Proofs.YtblmebjhhanoaaaGreat
/- CHAPTER 09: all lines of a text. -/
/- G -/
/- BOOLS -/
set_option linter.unusedSimpArgs false
set_option linter.unusedVariables false
namespace Go.Proofs.YtblmebjhhanoaaaGreat
open Go.RowKit

/-- a statement in the text's order, one of whose operations is shown apart. -/
theorem swp_onev {P : Program} {id : Nat} {l : List Oper} {Q : Exit → Nat → AS → Prop} {n : Nat} {S : AS} (k : Nat) (v : AV) {o : Oper} (hgs : ∀ o ∈ l, o.guard = none) (hk : (l.take k).length = k) (e : l.take k ++ o :: l.drop (k + 1) = l) (hg : o.guard = none)
    (h : AOps P (W (l.map (·.dst))) (W (l.take k)) (fun n' S' => (∀ S'' : AS, (∀ x ∈ o.op.operands, S''.val x = S'.val x) → DoesAt P o S'' n' ⟨v, [], []⟩) ∧ AOps P (W (l.map (·.dst))) (W (l.drop (k + 1))) (fun n' S' => Q .normal n' ⟨S'.t, S'.s, none⟩) (n' + 1) (fin o.dst ⟨v, [], []⟩ S')) n ⟨S.t, S.s, some []⟩) : SWP P (.region id l.toArray false) Q n S := by
  obtain ⟨E1, S1, c1, hx, h2⟩ := aops_chain (D := l.map (·.dst)) (l.take k) n _ rfl h
  obtain ⟨-, -, -, -, hfl⟩ := chain_at (l.take k) n _ E1 S1 c1
  have hlg := hfl [] rfl
  obtain ⟨E2, S2, c2, h3⟩ := aops_chain (D := l.map (·.dst)) (l.drop (k + 1)) _ _ (by rw [fin_lg, hlg]; rfl) h2
  have hst : StepIs P (l.map (·.dst)) o (n + (l.take k).length) S1 ⟨v, [], []⟩ true := ⟨by unfold GuardIs; rw [hg], fun _ S' h1 _ => hx S' h1, fun q => by cases q⟩
  have hc := chain_app (l.take k) (o :: l.drop (k + 1)) n _ E1 (_ :: E2) S1 S2 c1 ⟨_, true, S1, E2, rfl, ⟨fun _ => rfl, fun _ => rfl, rfl⟩, hst, c2⟩
  rw [e] at hc
  refine swp_region (sli_same (S1 := ⟨S.t, S.s, some []⟩) (fun _ => rfl) (fun _ => rfl) (chain_sli l n _ _ S2 hgs hc ?_))
  have el : n + l.length = n + (l.take k).length + 1 + (l.drop (k + 1)).length := by
    have := congrArg List.length e
    rw [List.length_append, List.length_cons] at this
    omega
  rw [el]
  exact h3
set_option maxRecDepth 100000 in
theorem clipR_ok (l : List WRun) (hl : l.length ≤ 9223372036854775807) : FnOk Tryz.prog 79 [.sl 3 (l.map cRun)] [] (.sl 3 (l.map cRun)) [] := by
  refine fn_of_swp Tryz.func79 rfl (by kernel_rfl) (by kernel_rfl) (Nat.le_of_ble_eq_true rfl) Tryz.results79 ?_
  (refine swp_seqW ?_; simp only [go_sem, Bool.not_eq_true', Bool.not_eq_false'])
  refine swp_seqS ?_
  refine swp_onev 5 (.sl 3 (l.map cRun)) (by simp) rfl rfl rfl ?_
  simp only [go_sem, Bool.not_eq_true', Bool.not_eq_false', List.take_succ_cons, List.take_zero, List.drop_succ_cons, List.drop_zero, List.map_cons, List.map_nil, List.length_map]
  refine ⟨fun S'' h => ?_, ?_⟩
  · have e3 : S''.val (.tmp 3) = .sl 3 (l.map cRun) := (h _ (by simp [Op.operands])).trans (by simp only [go_sem, Bool.not_eq_true', Bool.not_eq_false'])
    have e5 : S''.val (.tmp 5) = .raw (.int .i64 l.length) := (h _ (by simp [Op.operands])).trans (by simp only [go_sem, Bool.not_eq_true', Bool.not_eq_false'])
    have e7 : S''.val (.tmp 7) = .raw (.int .i64 l.length) := (h _ (by simp [Op.operands])).trans (by simp only [go_sem, Bool.not_eq_true', Bool.not_eq_false'])
    have hd := does_sub_sl (P := Tryz.prog) (S := S'') (n := 7) (rd0 := []) (rows := l.map cRun) (l := 0) (h := l.length) (ql := none) (qh := some l.length) (qm := some l.length) (o := { dst := some 8, op := .slice 91 (.tmp 3) none (some (.tmp 5)) (some (.tmp 7)), type := 91, pos := "", after := #[], guard := none }) rfl tI91 rfl tI126 rfl (by rw [e3]; rfl) rfl (by simp only [optInt, e5]) (by simp only [optInt, e7]) (fun _ => rfl) rfl rfl (Nat.zero_le _) (by simp) (fun q hq => by obtain rfl := Option.some.inj hq; simp)
    rw [List.drop_zero, Nat.sub_zero, List.take_of_length_le (by simp)] at hd
    exact hd
  · (refine swp_lastW ?_; simp only [go_sem, Bool.not_eq_true', Bool.not_eq_false'])
    (refine ret2 [] (by simp only [go_sem, Bool.not_eq_true', Bool.not_eq_false']; rfl) ?_; simp only [go_sem, Bool.not_eq_true', Bool.not_eq_false'])
set_option maxRecDepth 100000 in
set_option maxHeartbeats 4000000 in
theorem all9_ok (xs : List Int) (sp width : Int) (h : WorOk xs sp) : FnOk Tryz.prog 44 [.sl 1 (xs.map cInt), .raw (.int .i64 sp), .raw (.int .i64 width)] [] (.sl 3 ((allF xs sp width).map cRun)) [] := by
  have hlen := h.len
  refine fn_of_swp Tryz.func44 rfl (by kernel_rfl) (by kernel_rfl) (Nat.le_of_ble_eq_true rfl) Tryz.results44 ?_
  (refine swp_seqW ?_; simp only [go_sem, Bool.not_eq_true', Bool.not_eq_false'])
  (refine swp_seqW ?_; simp only [go_sem, Bool.not_eq_true', Bool.not_eq_false'])
  refine swp_cutS (fun _ : Unit => ⟨[(7, .hdr 800)], [(800, some (.row 126 3 ((allF xs sp width).map cRun)))], none⟩) (fun _ => (allF xs sp width).length ≤ xs.length) 120 ?_ ?_
  · (refine swp_seqW ?_; simp only [go_sem, Bool.not_eq_true', Bool.not_eq_false'])
    refine swp_block ?_
    refine swp_loop2 [] (fun z : KY (List WRun) => ⟨[(0, .sl 1 (xs.map cInt)), (1, .raw (.int .i64 sp)), (2, .raw (.int .i64 width)), (7, .hdr 800), (8, .raw (.int .i64 z.k))], [(800, some (.row 126 3 (z.o.map cRun)))], none⟩) (fun z => z.k ≤ xs.length ∧ z.o.length ≤ z.k ∧ ∃ n, xs.length ≤ z.k + n ∧ z.o ++ allG xs sp width n z.k = allF xs sp width) (fun z => xs.length - z.k) 120 ⟨0, []⟩ (by simp only [go_sem, Bool.not_eq_true', Bool.not_eq_false']; rfl) (by simp only [go_sem, Bool.not_eq_true', Bool.not_eq_false', List.map_nil]) ?_ ?_
    · exact ⟨Nat.zero_le _, Nat.zero_le _, xs.length, by simp, rfl⟩
    rintro ⟨k, o⟩ ⟨h1, h2, n, h3, h4⟩
    simp only at h1 h2 h3 h4
    (refine swp_seqW ?_; simp only [go_sem, Bool.not_eq_true', Bool.not_eq_false', List.length_map])
    refine ⟨fun h5 => ?_, fun h5 => ?_⟩
    rotate_left
    · have e : allG xs sp width n k = [] := by
        cases n with
        | zero => rfl
        | succ n => rw [allG, if_neg (by omega)]
      rw [e, List.append_nil] at h4
      subst h4
      (refine cut_end [] (()) (by simp only [go_sem, Bool.not_eq_true', Bool.not_eq_false']; rfl) ?_ ?_; (focus (simp only [go_sem, Bool.not_eq_true', Bool.not_eq_false']; done)))
      omega
    have hk : k < xs.length := by omega
    have htb := takeT_bd xs sp width k hk
    obtain ⟨n, rfl⟩ : ∃ n', n = n' + 1 := ⟨n - 1, by omega⟩
    rw [allG, if_pos hk] at h4
    have htk := take_ok xs sp width k h
    rw [takeF_nat hk] at htk h4
    generalize wideN sp (seg xs k (takeT xs sp width k)) = wd at *
    generalize takeT xs sp width k = t at *
    refine swp_seqS ?_
    refine swp_block ?_
    (refine swp_lastW ?_; simp only [go_sem, Bool.not_eq_true', Bool.not_eq_false'])
    (refine acall2 [] (htk) (by simp only [go_sem, Bool.not_eq_true', Bool.not_eq_false']; rfl) (fit_of (by simp only [go_sem, Bool.not_eq_true', Bool.not_eq_false']) (by simp only [go_sem, Bool.not_eq_true', Bool.not_eq_false']) (by simp only [go_sem, Bool.not_eq_true', Bool.not_eq_false']) (by simp only [go_sem, Bool.not_eq_true', Bool.not_eq_false']) (by simp only [go_sem, Bool.not_eq_true', Bool.not_eq_false']) (by simp only [go_sem, Bool.not_eq_true', Bool.not_eq_false']) (by simp only [go_sem, Bool.not_eq_true', Bool.not_eq_false'])) ?_; simp only [go_sem, Bool.not_eq_true', Bool.not_eq_false'])
    refine ⟨⟨by omega, by omega⟩, ?_⟩
    have em : List.map cRun o ++ [[PV.raw (.int .i64 k), PV.raw (.int .i64 t), PV.raw (.int .i64 wd)]] = (o ++ [(⟨k, t, wd⟩ : WRun)]).map cRun := by simp [cRun]
    rw [em]
    have el : (o ++ [(⟨k, t, wd⟩ : WRun)]).length = o.length + 1 := by simp
    (refine swp_lastW ?_; simp only [go_sem, Bool.not_eq_true', Bool.not_eq_false', List.length_map, el])
    refine ⟨⟨by omega, by omega⟩, ⟨by omega, by omega⟩, (⟨k, t, wd⟩ : WRun), ?_, ?_⟩
    · rw [show ((o.length : Int) + 1 - 1).toNat = o.length by omega, List.getElem?_append_right (Nat.le_refl _), Nat.sub_self]
      rfl
    (refine loop_end [] (⟨t, o ++ [(⟨k, t, wd⟩ : WRun)]⟩) (by simp only [go_sem, Bool.not_eq_true', Bool.not_eq_false']; rfl) ?_ ?_ ?_; (focus first | omega | (simp only; omega)); (focus (simp only [go_sem, Bool.not_eq_true', Bool.not_eq_false']; done)))
    exact ⟨htb.2, by rw [el]; simp only; omega, n, by simp only; omega, by rw [← h4]; simp⟩
  rintro - hA
  (refine swp_lastW ?_; simp only [go_sem, Bool.not_eq_true', Bool.not_eq_false'])
  (refine acallF2 [800 ] [] ( clipR_ok (allF xs sp width) (by omega)) (by simp only [go_sem, Bool.not_eq_true', Bool.not_eq_false']; rfl) (fit_of (by simp only [go_sem, Bool.not_eq_true', Bool.not_eq_false']) (by simp only [go_sem, Bool.not_eq_true', Bool.not_eq_false']) (by simp only [go_sem, Bool.not_eq_true', Bool.not_eq_false']) (by simp only [go_sem, Bool.not_eq_true', Bool.not_eq_false']) (by simp only [go_sem, Bool.not_eq_true', Bool.not_eq_false']) (by simp only [go_sem, Bool.not_eq_true', Bool.not_eq_false']) (by simp only [go_sem, Bool.not_eq_true', Bool.not_eq_false'])) ?_; simp only [go_sem, Bool.not_eq_true', Bool.not_eq_false'])
  (refine ret2 [] (by simp only [go_sem, Bool.not_eq_true', Bool.not_eq_false']; rfl) ?_; simp only [go_sem, Bool.not_eq_true', Bool.not_eq_false'])
end Go.Proofs.YtblmebjhhanoaaaGreat
/- CHAPTER 13: pens and steps (first engine's way): what a run needs. -/
set_option linter.unusedSimpArgs false
set_option linter.unusedVariables false
namespace Go.Proofs.YtblmebjhhanoaaaGreat.M13
open Go.RowKit


structure Pen where
  y : Int
  m : Int
structure Step where
  kind : Int
  a : Int
  b : Int

def padF (p : Pen) (n : Int) : Pen := if 0 < n then ⟨p.y + p.m + n, 0⟩ else p
def widenF (p : Pen) (margin : Int) : Pen := ⟨p.y, max p.m margin⟩
def enterF (p : Pen) (margin n : Int) : Pen := padF (widenF p margin) n
def leaveF (p : Pen) (margin n : Int) : Pen := widenF (padF p n) margin
def clearF (p : Pen) (low : Int) : Pen := if p.y + p.m < low then ⟨low, 0⟩ else p
def stepF (s : Pen × List Int) (x : Step) : Pen × List Int :=
  if x.kind = 1 then (enterF s.1 x.a x.b, s.2)
  else if x.kind = 2 then (leaveF s.1 x.a x.b, s.2)
  else if x.kind = 3 then (clearF s.1 x.a, s.2)
  else if x.kind = 4 then (⟨s.1.y + s.1.m + x.a, 0⟩, s.2 ++ [s.1.y + s.1.m])
  else s
def runF (p : Pen) (l : List Step) : Pen × List Int := l.foldl stepF (p, [])
theorem runF_take (p : Pen) (l : List Step) (k : Nat) (h : k < l.length) : runF p (l.take (k + 1)) = stepF (runF p (l.take k)) l[k] := by
  unfold runF; rw [List.take_succ_eq_append_getElem h, List.foldl_append]; rfl

/-- near: from -2^50 to 2^50. -/
def nr (x : Int) : Bool := decide (-1125899906842624 ≤ x ∧ x ≤ 1125899906842624)
def nearF (xs : List Int) : Bool := xs.all nr
def nearS (l : List Step) : Bool := l.all fun x => nearF [x.a, x.b]
/-- how far a pen may have gone behind k steps. -/
def Far (k : Nat) (p : Pen) : Prop := -(1125899906842624 * (3 * (k : Int) + 1)) ≤ p.y ∧ p.y ≤ 1125899906842624 * (3 * (k : Int) + 1) ∧ -1125899906842624 ≤ p.m ∧ p.m ≤ 1125899906842624
theorem len_run (p : Pen) (l : List Step) : ∀ k, k ≤ l.length → (runF p (l.take k)).2.length ≤ k := by
  intro k
  induction k with
  | zero => intro _; simp [runF]
  | succ k ih =>
    intro hk
    rw [runF_take p l k (by omega)]
    have := ih (by omega)
    unfold stepF
    (repeat' split) <;> simp <;> omega

def Bd (x : Int) : Prop := -1152921504606846976 ≤ x ∧ x ≤ 1152921504606846976

set_option maxHeartbeats 400000 in
theorem at_any (y m : Int) (w : World) (hy : Bd y) (hm : Bd m) :
    Calls Tryz.prog 16 #[.agg #[.int .i64 y, .int .i64 m]] w (RetB (.int .i64 (y + m)) w) := by
  obtain ⟨y1, y2⟩ := hy
  obtain ⟨m1, m2⟩ := hm
  go_enter Tryz.func16, Tryz.ntmps16
  go_wp2
  go_ret
  exact RetB.int rfl (below_alloc _ _)

set_option maxHeartbeats 400000 in
theorem put_any (y m a b : Int) (w : World) (hs : -9223372036854775808 ≤ a + b ∧ a + b ≤ 9223372036854775807) :
    Calls Tryz.prog 43 #[.agg #[.int .i64 y, .int .i64 m], .int .i64 a, .int .i64 b] w (RetB (.agg #[.int .i64 (a + b), .int .i64 0]) w) := by
  obtain ⟨s1, s2⟩ := hs
  go_enter Tryz.func43, Tryz.ntmps43
  go_wp2
  exact bodyPost_ret (v := .agg #[.int .i64 (a + b), .int .i64 0]) (by simp [results, Tryz.results43, go_sem]) rfl (RetB.of rfl (below_step (below_alloc _ _) _))

set_option maxHeartbeats 400000 in
theorem clear_any (y m a : Int) (w : World) (hy : Bd y) (hm : Bd m) :
    Calls Tryz.prog 41 #[.agg #[.int .i64 y, .int .i64 m], .int .i64 a] w (RetB (.agg #[.int .i64 (clearF ⟨y, m⟩ a).y, .int .i64 (clearF ⟨y, m⟩ a).m]) w) := by
  by_cases h : y + m < a
  · have e : clearF ⟨y, m⟩ a = ⟨a, 0⟩ := by unfold clearF; rw [if_pos h]
    rw [e]
    go_enter Tryz.func41, Tryz.ntmps41
    go_wp2_with (go_at_call 16; refine (at_any _ _ _ hy hm).mono ?_; rintro e w1 ⟨rfl, hb⟩; obtain ⟨hc, hf⟩ := bcell hb; have hz := hb.size)
    refine bodyPost_ret (v := .agg #[.int .i64 a, .int .i64 0]) (by simp [results, Tryz.results41, go_sem, hc]) rfl (RetB.of rfl ?_)
    exact (by (repeat with_reducible (first | exact Below.refl _ _ | exact below_alloc _ _ | refine below_step ?_ _ | refine below_set ?_ ?_ | refine below_drew ?_ | refine below_drewN' ?_ | refine below_then ?_ (by assumption) | refine below_only' ?_ ?_ (by assumption))) <;> (first | omega | (simp; done) | (simp; omega)))
  · have e : clearF ⟨y, m⟩ a = ⟨y, m⟩ := by unfold clearF; rw [if_neg h]
    rw [e]
    go_enter Tryz.func41, Tryz.ntmps41
    go_wp2_with (go_at_call 16; refine (at_any _ _ _ hy hm).mono ?_; rintro e w1 ⟨rfl, hb⟩; obtain ⟨hc, hf⟩ := bcell hb; have hz := hb.size)
    refine bodyPost_ret (v := .agg #[.int .i64 y, .int .i64 m]) (by simp [results, Tryz.results41, go_sem, hc]) rfl (RetB.of rfl ?_)
    exact (by (repeat with_reducible (first | exact Below.refl _ _ | exact below_alloc _ _ | refine below_step ?_ _ | refine below_set ?_ ?_ | refine below_drew ?_ | refine below_drewN' ?_ | refine below_then ?_ (by assumption) | refine below_only' ?_ ?_ (by assumption))) <;> (first | omega | (simp; done) | (simp; omega)))

/-- a method of a pen: nothing comes back, the pen's block holds another pen, nothing else has turned. -/
def PenSet (b : Nat) (p : Pen) (w : World) (e : Ending) (w' : World) : Prop :=
  e = .returned (.tuple #[]) ∧ Blk w' b 124 #[.int .i64 p.y, .int .i64 p.m] ∧ w.grownBy w' (some b)

set_option maxHeartbeats 400000 in
theorem widen_any (b : Nat) (y m a : Int) (w : World) (hB : Blk w b 124 #[.int .i64 y, .int .i64 m]) :
    Calls Tryz.prog 76 #[.pointer (some ⟨b, 0, none⟩), .int .i64 a] w (PenSet b (widenF ⟨y, m⟩ a) w) := by
  have c1 := hB.cell 1
  have f1 := hB.frozen 1
  simp at c1
  have HB := Lib.hid hB
  clear hB
  go_enter Tryz.func76, Tryz.ntmps76
  go_wp2
  · have e : widenF ⟨y, m⟩ a = ⟨y, a⟩ := by unfold widenF; simp only [Pen.mk.injEq, true_and]; omega
    go_end0
    exact ⟨rfl, by rw [e]; exact HB.out.set1 _, only_setCell (World.grownBy.refl w _) (.inl rfl) _⟩
  · have e : widenF ⟨y, m⟩ a = ⟨y, m⟩ := by unfold widenF; simp only [Pen.mk.injEq, true_and]; omega
    go_end0
    exact ⟨rfl, by rw [e]; exact HB.out.set1 _, only_setCell (World.grownBy.refl w _) (.inl rfl) _⟩

set_option maxHeartbeats 400000 in
theorem pad_any (b : Nat) (y m a : Int) (w : World) (hB : Blk w b 124 #[.int .i64 y, .int .i64 m]) (hy : Bd y) (hm : Bd m) (ha : Bd a) :
    Calls Tryz.prog 77 #[.pointer (some ⟨b, 0, none⟩), .int .i64 a] w (PenSet b (padF ⟨y, m⟩ a) w) := by
  obtain ⟨y1, y2⟩ := hy
  obtain ⟨m1, m2⟩ := hm
  obtain ⟨a1, a2⟩ := ha
  have c0 := hB.cell 0
  have f0 := hB.frozen 0
  have c1 := hB.cell 1
  have f1 := hB.frozen 1
  simp at c1 c0
  have HB := Lib.hid hB
  clear hB
  by_cases hp : 0 < a
  · have e := Lib.hid (show padF ⟨y, m⟩ a = ⟨y + m + a, 0⟩ by unfold padF; rw [if_pos hp])
    go_enter Tryz.func77, Tryz.ntmps77
    go_wp2
    go_region
    go_end0
    refine ⟨rfl, ?_, ?_⟩
    · rw [e.out]; exact ((HB.out.set0 _).set1 _).drew
    · refine only_drew ?_
      refine only_setCell ?_ (.inl rfl) _
      exact only_setCell (World.grownBy.refl w _) (.inl rfl) _
  · have e := Lib.hid (show padF ⟨y, m⟩ a = ⟨y, m⟩ by unfold padF; rw [if_neg hp])
    go_enter Tryz.func77, Tryz.ntmps77
    go_wp2
    go_end0
    exact ⟨rfl, by rw [e.out]; exact HB.out, World.grownBy.refl w _⟩

theorem max_bd {m a : Int} (hm : Bd m) (ha : Bd a) : Bd (max m a) := by unfold Bd at *; omega

set_option maxHeartbeats 400000 in
theorem enter_any (y m a n : Int) (w : World) (hy : Bd y) (hm : Bd m) (ha : Bd a) (hn : Bd n) :
    Calls Tryz.prog 37 #[.agg #[.int .i64 y, .int .i64 m], .int .i64 a, .int .i64 n] w (RetB (.agg #[.int .i64 (enterF ⟨y, m⟩ a n).y, .int .i64 (enterF ⟨y, m⟩ a n).m]) w) := by
  have hma := max_bd hm ha
  have hR0 := (Blk.newB (w.alloc (.cells #[.int .i64 y, .int .i64 m] 39)) (w.heap.size + 1) 39 #[.int .i64 0, .int .i64 0] (by simp)).alloc (.cells #[.int .i64 y, .int .i64 m] 124)
  go_enter Tryz.func37, Tryz.ntmps37
  go_wp2_with fail
  refine (widen_any _ _ _ _ _ (Blk.newB _ _ _ _ (by simp))).mono ?_
  rintro e w1 ⟨rfl, hB1, ho1⟩
  have hB1' : Blk w1 (w.heap.size + 1 + 1) 124 #[.int .i64 y, .int .i64 (max m a)] := hB1
  have hR1 := hR0.only ho1 (by omega)
  clear hB1 hR0
  go_wp2_with fail
  refine (pad_any _ _ _ _ _ hB1' hy hma hn).mono ?_
  rintro e w2 ⟨rfl, hB2, ho2⟩
  have hB2' : Blk w2 (w.heap.size + 1 + 1) 124 #[.int .i64 (enterF ⟨y, m⟩ a n).y, .int .i64 (enterF ⟨y, m⟩ a n).m] := hB2
  have hR2 := hR1.only ho2 (by omega)
  have c0 := hB2'.f2
  have c1 := hR2.f2
  clear hB2 hB2' hB1' hR1 hR2
  go_wp2
  refine bodyPost_ret (v := .agg #[.int .i64 (enterF ⟨y, m⟩ a n).y, .int .i64 (enterF ⟨y, m⟩ a n).m]) (by simp [results, Tryz.results37, go_sem, c1]) rfl (RetB.of rfl ?_)
  exact (by (repeat with_reducible (first | exact Below.refl _ _ | exact below_alloc _ _ | refine below_step ?_ _ | refine below_set ?_ ?_ | refine below_drew ?_ | refine below_drewN' ?_ | refine below_then ?_ (by assumption) | refine below_only' ?_ ?_ (by assumption))) <;> (first | omega | (simp; done) | (simp; omega)))

set_option maxHeartbeats 400000 in
theorem leave_any (y m a n : Int) (w : World) (hy : Bd y) (hm : Bd m) (_ha : Bd a) (hn : Bd n) :
    Calls Tryz.prog 39 #[.agg #[.int .i64 y, .int .i64 m], .int .i64 a, .int .i64 n] w (RetB (.agg #[.int .i64 (leaveF ⟨y, m⟩ a n).y, .int .i64 (leaveF ⟨y, m⟩ a n).m]) w) := by
  have hR0 := (Blk.newB (w.alloc (.cells #[.int .i64 y, .int .i64 m] 39)) (w.heap.size + 1) 39 #[.int .i64 0, .int .i64 0] (by simp)).alloc (.cells #[.int .i64 y, .int .i64 m] 124)
  go_enter Tryz.func39, Tryz.ntmps39
  go_wp2_with fail
  refine (pad_any _ _ _ _ _ (Blk.newB _ _ _ _ (by simp)) hy hm hn).mono ?_
  rintro e w1 ⟨rfl, hB1, ho1⟩
  have hB1' : Blk w1 (w.heap.size + 1 + 1) 124 #[.int .i64 (padF ⟨y, m⟩ n).y, .int .i64 (padF ⟨y, m⟩ n).m] := hB1
  have hR1 := hR0.only ho1 (by omega)
  clear hB1 hR0
  go_wp2_with fail
  refine (widen_any _ _ _ _ _ hB1').mono ?_
  rintro e w2 ⟨rfl, hB2, ho2⟩
  have hB2' : Blk w2 (w.heap.size + 1 + 1) 124 #[.int .i64 (leaveF ⟨y, m⟩ a n).y, .int .i64 (leaveF ⟨y, m⟩ a n).m] := hB2
  have hR2 := hR1.only ho2 (by omega)
  have c0 := hB2'.f2
  have c1 := hR2.f2
  clear hB2 hB2' hB1' hR1 hR2
  go_wp2
  refine bodyPost_ret (v := .agg #[.int .i64 (leaveF ⟨y, m⟩ a n).y, .int .i64 (leaveF ⟨y, m⟩ a n).m]) (by simp [results, Tryz.results39, go_sem, c1]) rfl (RetB.of rfl ?_)
  exact (by (repeat with_reducible (first | exact Below.refl _ _ | exact below_alloc _ _ | refine below_step ?_ _ | refine below_set ?_ ?_ | refine below_drew ?_ | refine below_drewN' ?_ | refine below_then ?_ (by assumption) | refine below_only' ?_ ?_ (by assumption))) <;> (first | omega | (simp; done) | (simp; omega)))

def StepsAt (w : World) (A : Option Addr) (xs : List Step) : Prop :=
  ∀ k (h : k < xs.length), ∃ b off, A = some ⟨b, off, none⟩ ∧ b < w.heap.size ∧ w.cell? ⟨b, off + k * 3, none⟩ = some (.int .i64 xs[k].kind) ∧
    w.cell? ⟨b, off + k * 3 + 1, none⟩ = some (.int .i64 xs[k].a) ∧ w.cell? ⟨b, off + k * 3 + 2, none⟩ = some (.int .i64 xs[k].b)
theorem StepsAt.below {w w' : World} {A : Option Addr} {xs : List Step} (h : StepsAt w A xs) (hb : Below w.heap.size w w') : StepsAt w' A xs := fun k hk => by
  obtain ⟨b, off, e, hlt, h1, h2, h3⟩ := h k hk
  exact ⟨b, off, e, Nat.lt_of_lt_of_le hlt hb.size, (hb.cell (p := ⟨b, _, none⟩) hlt).trans h1, (hb.cell (p := ⟨b, _, none⟩) hlt).trans h2, (hb.cell (p := ⟨b, _, none⟩) hlt).trans h3⟩
theorem int_info13 : (Tryz.prog.info? 3).map (fun i => (i.zero, i.size, i.bytes)) = some (some (.int .i64 0), 1, 8) := by kernel_rfl

/-- what a round of a pen's run leaves: a pen in a block of its own, the places in a row of its own. -/
def PenAt (w : World) (P : Nat) (p : Pen) : Prop := Blk w P 39 #[.int .i64 p.y, .int .i64 p.m]

theorem step_1 {s : Pen × List Int} {x : Step} (h : x.kind = 1) : stepF s x = (enterF s.1 x.a x.b, s.2) := by unfold stepF; rw [if_pos h]
theorem step_2 {s : Pen × List Int} {x : Step} (h : x.kind = 2) : stepF s x = (leaveF s.1 x.a x.b, s.2) := by unfold stepF; rw [if_neg (by omega), if_pos h]
theorem step_3 {s : Pen × List Int} {x : Step} (h : x.kind = 3) : stepF s x = (clearF s.1 x.a, s.2) := by unfold stepF; rw [if_neg (by omega), if_neg (by omega), if_pos h]
theorem step_4 {s : Pen × List Int} {x : Step} (h : x.kind = 4) : stepF s x = (⟨s.1.y + s.1.m + x.a, 0⟩, s.2 ++ [s.1.y + s.1.m]) := by unfold stepF; rw [if_neg (by omega), if_neg (by omega), if_neg (by omega), if_pos h]
theorem step_0 {s : Pen × List Int} {x : Step} (h1 : x.kind ≠ 1) (h2 : x.kind ≠ 2) (h3 : x.kind ≠ 3) (h4 : x.kind ≠ 4) : stepF s x = s := by unfold stepF; rw [if_neg h1, if_neg h2, if_neg h3, if_neg h4]

/-- the relation of the run's loop. -/
def RunRel (w : World) (base : Nat) (P R : Nat) (p0 : Pen) (xs : List Step) (k : Nat) (v : Value) (wr : World) : Prop :=
  PenAt wr P (runF p0 (xs.take k)).1 ∧ PenAt wr R ⟨0, 0⟩ ∧ wr.ownsRow base 3 1 v (runF p0 (xs.take k)).2.length ((runF p0 (xs.take k)).2.map (Value.int .i64)) ∧ Below w.heap.size w wr

theorem own_below {w w' : World} {base : Nat} {e : TypeId} {size n : Nat} {v : Value} {xs : List Value} (h : w.ownsRow base e size v n xs) (hb : Below w.heap.size w w') : w'.ownsRow base e size v n xs :=
  h.kept (only_of_below hb none) (Classical.em _)
theorem own_base {w : World} {base base' : Nat} {e : TypeId} {size n : Nat} {v : Value} {xs : List Value} (h : w.ownsRow base e size v n xs) (hb : base' ≤ base) : w.ownsRow base' e size v n xs := by
  obtain ⟨h1, h2 | ⟨g, cap, cur, e1, h2, h3⟩⟩ := h
  · exact ⟨h1, .inl h2⟩
  · exact ⟨h1, .inr ⟨g, cap, cur, e1, by omega, h3⟩⟩
/-- what a run hands back. -/
def RunPost (p : Pen) (l : List Int) (w : World) (e : Ending) (w' : World) : Prop :=
  ∃ A c, e = .returned (.tuple #[.agg #[.int .i64 p.y, .int .i64 p.m], .slice A l.length c]) ∧ IntsAt w' A l ∧ c ≤ maxLen ∧ Below w.heap.size w w' ∧ w'.ownsRow w.heap.size 3 1 (.slice A l.length c) l.length (l.map (Value.int .i64))
/-- a step's function: nothing comes back, the pen's block holds another pen, nothing else has turned. -/
def ClPost (P : Nat) (p : Pen) (w : World) (e : Ending) (w' : World) : Prop := e = .returned (.tuple #[]) ∧ PenAt w' P p ∧ w.grownBy w' (some P)

set_option maxHeartbeats 400000 in
theorem run1_any (P : Nat) (y m kd a b : Int) (w : World) (hP : PenAt w P ⟨y, m⟩) (hy : Bd y) (hm : Bd m) (ha : Bd a) (hb0 : Bd b) :
    Calls Tryz.prog 36 #[.agg #[.int .i64 kd, .int .i64 a, .int .i64 b], .pointer (some ⟨P, 0, none⟩)] w (ClPost P (enterF ⟨y, m⟩ a b) w) := by
  have hP0 := hP.alloc (.cells #[.int .i64 kd, .int .i64 a, .int .i64 b] 86)
  have cP := hP0.f2
  have hzp := hP.lt
  have hX0 := Blk.newB w w.heap.size 86 #[.int .i64 kd, .int .i64 a, .int .i64 b] rfl
  clear hP
  have cP2 := cP
  go_enter Tryz.func36, Tryz.ntmps36
  go_wp2_with fail
  refine (enter_any _ _ _ _ _ hy hm ha hb0).mono ?_
  rintro e w1 ⟨rfl, hb1⟩
  have hP1 := hP0.belowB hb1
  have hg : w.grownBy w1 (some P) := only_of_below (below_then (below_alloc w _) hb1) (some P)
  have cP1 := hP1.f2
  clear hP0 hX0 hb1 cP cP2
  go_wp2
  go_end0
  refine ⟨rfl, ?_, ?_⟩
  · exact (hP1.set0 _).set1 _
  · refine only_setCell ?_ (.inl rfl) _
    exact only_setCell hg (.inl rfl) _

set_option maxHeartbeats 400000 in
theorem run2_any (P : Nat) (y m kd a b : Int) (w : World) (hP : PenAt w P ⟨y, m⟩) (hy : Bd y) (hm : Bd m) (ha : Bd a) (hb0 : Bd b) :
    Calls Tryz.prog 38 #[.agg #[.int .i64 kd, .int .i64 a, .int .i64 b], .pointer (some ⟨P, 0, none⟩)] w (ClPost P (leaveF ⟨y, m⟩ a b) w) := by
  have hP0 := hP.alloc (.cells #[.int .i64 kd, .int .i64 a, .int .i64 b] 86)
  have cP := hP0.f2
  have hzp := hP.lt
  have hX0 := Blk.newB w w.heap.size 86 #[.int .i64 kd, .int .i64 a, .int .i64 b] rfl
  clear hP
  have cP2 := cP
  go_enter Tryz.func38, Tryz.ntmps38
  go_wp2_with fail
  refine (leave_any _ _ _ _ _ hy hm ha hb0).mono ?_
  rintro e w1 ⟨rfl, hb1⟩
  have hP1 := hP0.belowB hb1
  have hg : w.grownBy w1 (some P) := only_of_below (below_then (below_alloc w _) hb1) (some P)
  have cP1 := hP1.f2
  clear hP0 hX0 hb1 cP cP2
  go_wp2
  go_end0
  refine ⟨rfl, ?_, ?_⟩
  · exact (hP1.set0 _).set1 _
  · refine only_setCell ?_ (.inl rfl) _
    exact only_setCell hg (.inl rfl) _

set_option maxHeartbeats 400000 in
theorem run3_any (P : Nat) (y m kd a b : Int) (w : World) (hP : PenAt w P ⟨y, m⟩) (hy : Bd y) (hm : Bd m) (_ : Bd a) (_ : Bd b) :
    Calls Tryz.prog 40 #[.agg #[.int .i64 kd, .int .i64 a, .int .i64 b], .pointer (some ⟨P, 0, none⟩)] w (ClPost P (clearF ⟨y, m⟩ a) w) := by
  have hP0 := hP.alloc (.cells #[.int .i64 kd, .int .i64 a, .int .i64 b] 86)
  have cP := hP0.f2
  have hzp := hP.lt
  have hX0 := Blk.newB w w.heap.size 86 #[.int .i64 kd, .int .i64 a, .int .i64 b] rfl
  clear hP
  have cP2 := cP
  go_enter Tryz.func40, Tryz.ntmps40
  go_wp2_with fail
  refine (clear_any _ _ _ _ hy hm).mono ?_
  rintro e w1 ⟨rfl, hb1⟩
  have hP1 := hP0.belowB hb1
  have hg : w.grownBy w1 (some P) := only_of_below (below_then (below_alloc w _) hb1) (some P)
  have cP1 := hP1.f2
  clear hP0 hX0 hb1 cP cP2
  go_wp2
  go_end0
  refine ⟨rfl, ?_, ?_⟩
  · exact (hP1.set0 _).set1 _
  · refine only_setCell ?_ (.inl rfl) _
    exact only_setCell hg (.inl rfl) _

/-- where something is put: the places' row has one more, the pen is behind it; beyond these blocks, and the row's, nothing has turned. -/
def PutPost (T P base : Nat) (v0 : Value) (l : List Int) (y m a : Int) (w : World) (e : Ending) (w' : World) : Prop :=
  e = .returned (.tuple #[]) ∧ PenAt w' P ⟨y + m + a, 0⟩ ∧ (∃ v2, Blk w' T 40 #[v2] ∧ w'.ownsRow base 3 1 v2 (l.length + 1) ((l ++ [y + m]).map (Value.int .i64))) ∧
    (∀ g, g < w.heap.size → g ≠ T → g ≠ P → some g ≠ v0.ownBlock → w'.heap[g]? = w.heap[g]?) ∧ (∀ B, B ≤ T → B ≤ P → (∀ k, v0.ownBlock = some k → B ≤ k) → Below B w w')

set_option maxRecDepth 100000 in
set_option maxHeartbeats 1000000 in
theorem run4_any (T P : Nat) (y m kd a b : Int) (v0 : Value) (l : List Int) (w : World) (base : Nat) (hT : Blk w T 40 #[v0]) (hP : PenAt w P ⟨y, m⟩) (hown : w.ownsRow base 3 1 v0 l.length (l.map (Value.int .i64)))
    (hy : Bd y) (hm : Bd m) (hlen : l.length ≤ 4000) (hb : base ≤ w.heap.size) (hTP : T ≠ P) (hTb : T < base) (hPb : P < base) (ha : Bd a) :
    Calls Tryz.prog 42 #[.agg #[.int .i64 kd, .int .i64 a, .int .i64 b], .pointer (some ⟨T, 0, none⟩), .pointer (some ⟨P, 0, none⟩)] w (PutPost T P base v0 l y m a w) := by
  obtain ⟨i0, hi0, hz0, hz1, hz2⟩ := info_parts int_info13
  have hT1 := hT.alloc (.cells #[.int .i64 kd, .int .i64 a, .int .i64 b] 86)
  have hP1 := hP.alloc (.cells #[.int .i64 kd, .int .i64 a, .int .i64 b] 86)
  have hO0 := hown.alloc (.cells #[.int .i64 kd, .int .i64 a, .int .i64 b] 86)
  have hX1 := Blk.newB w w.heap.size 86 #[.int .i64 kd, .int .i64 a, .int .i64 b] rfl
  have hlto := hown.lt
  have hput : -9223372036854775808 ≤ y + m + a ∧ y + m + a ≤ 9223372036854775807 := by obtain ⟨y1, y2⟩ := hy; obtain ⟨m1, m2⟩ := hm; obtain ⟨a1, a2⟩ := ha; omega
  have hsz : w.heap.size + 1 = (w.alloc (.cells #[.int .i64 kd, .int .i64 a, .int .i64 b] 86)).heap.size := by simp
  clear hT hP
  go_enter Tryz.func42, Tryz.ntmps42
  go_wp2
  have Hsz := Lib.hid hsz
  clear hsz
  refine wp_region_below 4 15 (fun j v w' => match j with
        | 0 => v = v0
        | 1 => v = .agg #[.int .i64 y, .int .i64 m]
        | 2 => v = .int .i64 (y + m)
        | _ => ∃ A, v = .slice A 1 1 ∧ IntsAt w' A [y + m])
    [⟨[], [1]⟩, ⟨[], [2]⟩, ⟨[(5, 1)], []⟩, ⟨[(6, 2)], []⟩] (by kernel_rfl) (by kernel_rfl) (by kernel_rfl) (by kernel_rfl) rfl ?_ ?_ ?_
  · intro j v w1 w2 h hE
    match j, h with
    | 0, h => exact h
    | 1, h => exact h
    | 2, h => exact h
    | _ + 3, h => obtain ⟨A, e, h⟩ := h; exact ⟨A, e, h.below hE⟩
  · refine ⟨?_, ?_, ?_, ?_, trivial⟩
    · refine step_plain rfl ?_
      rintro fa w1 K hC - ⟨h1, -⟩ hK
      have e1 := evg h1
      have c1 := (hT1.belowB hC).f1
      have hK' := Lib.hid hK
      clear hK h1 hT1 hP1 hown
      go_simp
      exact hK'.out _ _ rfl hC (Below.refl _ _)
    · refine step_plain rfl ?_
      rintro fa w1 K hC - ⟨h2, -⟩ hK
      have e2 := evg h2
      have c1 := (hP1.belowB hC).f2
      have hK' := Lib.hid hK
      clear hK h2 hT1 hP1 hown
      go_simp
      exact hK'.out _ _ rfl hC (Below.refl _ _)
    · refine step_plain rfl ?_
      rintro fa w1 K hC ⟨h5, -⟩ - hK
      have e5 : fa.tmps[5]?.getD undef = .agg #[.int .i64 y, .int .i64 m] := evg h5
      have hK' := Lib.hid hK
      clear hK h5 hT1 hP1 hown
      go_simp
      refine (at_any _ _ _ hy hm).mono ?_
      rintro e w2 ⟨rfl, hb⟩
      exact hK'.out _ _ rfl (below_then hC hb) hb
    · refine step_plain rfl ?_
      rintro fa w1 K hC ⟨h6, -⟩ - hK
      have e6 : fa.tmps[6]?.getD undef = .int .i64 (y + m) := evg h6
      have hK' := Lib.hid hK
      clear hK h6 hT1 hP1 hown
      go_simp
      exact hK'.out _ _ ⟨_, rfl, IntsAt.new1 _ _ _ _ rfl⟩ (below_step hC _) (below_alloc _ _)
  · intro vs w1 hC hv
    have e0 : vs 0 = v0 := hv 0 (by omega)
    have e1 : vs 1 = .agg #[.int .i64 y, .int .i64 m] := hv 1 (by omega)
    have e2 : vs 2 = .int .i64 (y + m) := hv 2 (by omega)
    obtain ⟨A, e3, hA⟩ := hv 3 (by omega)
    simp only [fill, dstOf, Act.put, List.drop_succ_cons, List.drop_zero, if_true, List.getElem?_toArray, List.getElem?_cons_zero, List.getElem?_cons_succ, Option.bind_some, List.setIfInBounds_toArray, List.set_cons_succ, List.set_cons_zero, e0, e1, e2, e3]
    clear hv e0 e1 e2 e3 
    have hO1 := own_below hO0 hC
    have hbw : base ≤ w1.heap.size := by have h1 := hC.size; have h2 := Hsz.out; omega
    have hr1 := hA.cells.reads (size := 1) (n := 1) (by simp) (by omega)
    have hl1 : ∀ u ∈ [y + m].map (Value.int .i64), u.oneCell' = true := by simp [Value.oneCell']
    go_wp2_with (at_builtin; refine wpList_append_any _ rfl (.tmp 4) (.tmp 7) 40 rfl base 3 i0 (.int .i64 0) 1 8 Tryz.underlying40 hi0 hz0 hz1 hz2 rfl (by omega) v0 l.length _ rfl hO1 _ A 1 1 _ rfl hr1 hl1 (by simp only [maxLen]; omega) (by omega) hbw ?_)
    intro v2 w2 hown2 hg2 _
    have nT : some T ≠ v0.ownBlock := fun e => by have := hlto _ e.symm; omega
    have nP : some P ≠ v0.ownBlock := fun e => by have := hlto _ e.symm; omega
    have nX : some w.heap.size ≠ v0.ownBlock := fun e => by have := hlto _ e.symm; omega
    have hT2 := (hT1.belowB hC).grown hg2 nT
    have hP2 := (hP1.belowB hC).grown hg2 nP
    have hX2 := (hX1.belowB hC).grown hg2 nX
    have cT := hT2.f1
    obtain ⟨A2, c2, rfl, _, _, _⟩ := own_cells hown2
    have hT3 : Blk (w2.setCell ⟨T, 0, none⟩ (.slice A2 (l.length + 1) c2)) T 40 #[.slice A2 (l.length + 1) c2] := hT2.set_ 0 _
    have hP3 := hP2.far (p := ⟨T, 0, none⟩) (Ne.symm hTP) (.slice A2 (l.length + 1) c2)
    have hX3 := hX2.far (p := ⟨T, 0, none⟩) (by simp; omega) (.slice A2 (l.length + 1) c2)
    have hO3 := ownsRow_setCell_below hown2 (a := ⟨T, 0, none⟩) hTb (.slice A2 (l.length + 1) c2)
    have hz3 : (w2.setCell ⟨T, 0, none⟩ (.slice A2 (l.length + 1) c2)).heap.size = w2.heap.size := by simp [World.setCell]
    have hzw : w.heap.size + 1 ≤ w2.heap.size := by have h1 := hC.size; have h2 := Hsz.out; have h3 := hg2.size; omega
    -- what stays, beyond these
    have keep : ∀ g, g < w.heap.size → g ≠ T → some g ≠ v0.ownBlock → (w2.setCell ⟨T, 0, none⟩ (.slice A2 (l.length + 1) c2)).heap[g]? = w.heap[g]? := fun g hgs h1 h3 => by
      have hz1 : g < w1.heap.size := by have h1 := hC.size; have h2 := Hsz.out; omega
      exact ((Below.heap_setCell _ _ _ _ h1).trans (hg2.block g hz1 h3)).trans ((hC.block g (by rw [← Hsz.out]; omega)).trans (Below.heap_alloc _ _ _ hgs))
    have keepB : ∀ B, B ≤ T → (∀ k, v0.ownBlock = some k → B ≤ k) → Below B w (w2.setCell ⟨T, 0, none⟩ (.slice A2 (l.length + 1) c2)) := fun B h1 h3 => by
      refine Below.setCell ?_ h1 _
      exact ((((Below.refl B w).alloc (by omega) (.cells #[.int .i64 kd, .int .i64 a, .int .i64 b] 86)).trans (hC.mono (by rw [← Hsz.out]; omega))).grown hg2 (by omega) h3)
    have Hk := Lib.hid keep
    have HkB := Lib.hid keepB
    have HzS := Lib.hid hz3
    clear keep keepB hz3 hT2 hP2 hX2 hg2 hown2 nT nP nX hlto hO1 hr1 hl1 hA hT1 hP1 hX1 hO0 hi0 hz0 hz1 hz2 hC
    go_wp2
    refine wp_region_below 6 15 (fun j v w' => match j with
          | 0 => v = .agg #[.int .i64 y, .int .i64 m]
          | 1 => v = .agg #[.int .i64 y, .int .i64 m]
          | 2 => v = .int .i64 (y + m)
          | 3 => v = .pointer (some ⟨w.heap.size, 1, none⟩)
          | 4 => v = .int .i64 a
          | _ => v = .agg #[.int .i64 (y + m + a), .int .i64 0])
      [⟨[], [2]⟩, ⟨[], [2]⟩, ⟨[(10, 1)], []⟩, ⟨[], [3]⟩, ⟨[(12, 3)], []⟩, ⟨[(9, 0), (11, 2), (13, 4)], []⟩] (by kernel_rfl) (by kernel_rfl) (by kernel_rfl) (by kernel_rfl) rfl ?_ ?_ ?_
    · intro j v w1 w2 h _
      match j, h with
      | 0, h => exact h
      | 1, h => exact h
      | 2, h => exact h
      | 3, h => exact h
      | 4, h => exact h
      | _ + 5, h => exact h
    · refine ⟨?_, ?_, ?_, ?_, ?_, ?_, trivial⟩
      · refine step_plain rfl ?_
        rintro fa w1 K hC - ⟨h2, -⟩ hK
        have e2 := evg h2
        have c1 := (hP3.belowB hC).f2
        have hK' := Lib.hid hK
        clear hK h2 hP3 hX3 hT3 hO3
        go_simp
        exact hK'.out _ _ rfl hC (Below.refl _ _)
      · refine step_plain rfl ?_
        rintro fa w1 K hC - ⟨h2, -⟩ hK
        have e2 := evg h2
        have c1 := (hP3.belowB hC).f2
        have hK' := Lib.hid hK
        clear hK h2 hP3 hX3 hT3 hO3
        go_simp
        exact hK'.out _ _ rfl hC (Below.refl _ _)
      · refine step_plain rfl ?_
        rintro fa w1 K hC ⟨h10, -⟩ - hK
        have e10 : fa.tmps[10]?.getD undef = .agg #[.int .i64 y, .int .i64 m] := evg h10
        have hK' := Lib.hid hK
        clear hK h10 hP3 hX3 hT3 hO3
        go_simp
        refine (at_any _ _ _ hy hm).mono ?_
        rintro e w2 ⟨rfl, hb⟩
        exact hK'.out _ _ rfl (below_then hC hb) hb
      · refine step_plain rfl ?_
        rintro fa w1 K hC - ⟨h3, -⟩ hK
        have e3 := evg h3
        have hK' := Lib.hid hK
        clear hK h3 hP3 hX3 hT3 hO3
        go_simp
        exact hK'.out _ _ rfl hC (Below.refl _ _)
      · refine step_plain rfl ?_
        rintro fa w1 K hC ⟨h12, -⟩ - hK
        have e12 : fa.tmps[12]?.getD undef = .pointer (some ⟨w.heap.size, 1, none⟩) := evg h12
        have c1 := (hX3.belowB hC).f3
        have hK' := Lib.hid hK
        clear hK h12 hP3 hX3 hT3 hO3
        go_simp
        exact hK'.out _ _ rfl hC (Below.refl _ _)
      · refine step_plain rfl ?_
        rintro fa w1 K hC ⟨h9, h11, h13, -⟩ - hK
        have e9 : fa.tmps[9]?.getD undef = .agg #[.int .i64 y, .int .i64 m] := evg h9
        have e11 : fa.tmps[11]?.getD undef = .int .i64 (y + m) := evg h11
        have e13 : fa.tmps[13]?.getD undef = .int .i64 a := evg h13
        have hK' := Lib.hid hK
        clear hK h9 h11 h13 hP3 hX3 hT3 hO3
        go_simp
        refine (put_any _ _ _ _ _ hput).mono ?_
        rintro e w2 ⟨rfl, hb⟩
        exact hK'.out _ _ rfl (below_then hC hb) hb
    · intro vs w1 hC hv
      have e0 : vs 0 = .agg #[.int .i64 y, .int .i64 m] := hv 0 (by omega)
      have e1 : vs 1 = .agg #[.int .i64 y, .int .i64 m] := hv 1 (by omega)
      have e2 : vs 2 = .int .i64 (y + m) := hv 2 (by omega)
      have e3 : vs 3 = .pointer (some ⟨w.heap.size, 1, none⟩) := hv 3 (by omega)
      have e4 : vs 4 = .int .i64 a := hv 4 (by omega)
      have e5 : vs 5 = .agg #[.int .i64 (y + m + a), .int .i64 0] := hv 5 (by omega)
      simp only [fill, dstOf, Act.put, List.drop_succ_cons, List.drop_zero, if_true, List.getElem?_toArray, List.getElem?_cons_zero, List.getElem?_cons_succ, Option.bind_some, List.setIfInBounds_toArray, List.set_cons_succ, List.set_cons_zero, e0, e1, e2, e3, e4, e5]
      clear hv e0 e1 e2 e3 e4 e5 
      have cP4 := (hP3.belowB hC).f2
      have hP4 := hP3.belowB hC
      have hT4 := hT3.belowB hC
      have hO4 := own_below hO3 hC
      go_wp2
      go_end0
      refine ⟨rfl, ?_, ⟨.slice A2 (l.length + 1) c2, ?_, ?_⟩, ?_, ?_⟩
      · exact (hP4.set0 _).set1 _
      · exact (hT4.far (p := ⟨P, 0, none⟩) hTP _).far (p := ⟨P, 1, none⟩) hTP _
      · rw [List.map_append]
        exact ownsRow_setCell_below (ownsRow_setCell_below hO4 (a := ⟨P, 0, none⟩) hPb _) (a := ⟨P, 1, none⟩) hPb _
      · intro g hgs h1 h2 h3
        have hz1 : g < w2.heap.size := by omega
        exact ((Below.heap_setCell _ _ _ _ h2).trans (Below.heap_setCell _ _ _ _ h2)).trans ((hC.block g (by rw [HzS.out]; omega)).trans (Hk.out g hgs h1 h3))
      · intro B h1 h2 h3
        refine Below.setCell (p := ⟨P, 1, none⟩) ?_ h2 _
        refine Below.setCell (p := ⟨P, 0, none⟩) ?_ h2 _
        exact (HkB.out B h1 h3).trans (hC.mono (by rw [HzS.out]; omega))

section
variable {P : Program} {T K E : TypeId}
theorem run_put_new (hT : P.underlying T = some (.map K E)) (hK : P.underlying K = some (.int .i64)) (W : World) (r : Nat) (es : Array MapEntry) (clock : Nat) (k : Int) (v : Value) (hr : r = W.heap.size)
    (hf : Instr.findNow (.int .i64) (.int .i64 k) es.toList 0 = some none) :
    (Instr.mapUpdate T (.map (some r)) (.int .i64 k) v).run P (W.alloc (.map es clock)) = .ok () (W.alloc (.map (es.push { key := .int .i64 k, val := v, born := clock }) (clock + 1))) := by
  subst hr
  have hb : (W.alloc (.map es clock)).heap[W.heap.size]? = some (.map es clock) := by
    show (W.heap.push _)[W.heap.size]? = _
    exact Array.getElem?_push_size
  have e : ({ W.alloc (.map es clock) with heap := (W.alloc (.map es clock)).heap.setIfInBounds W.heap.size (.map (es.push { key := .int .i64 k, val := v, born := clock }) (clock + 1)) } : World) =
      W.alloc (.map (es.push { key := .int .i64 k, val := v, born := clock }) (clock + 1)) := by
    show ({ W with heap := (W.heap.push _).setIfInBounds W.heap.size _ } : World) = { W with heap := W.heap.push _ }
    congr 1
    apply Array.ext_getElem?
    intro i
    simp only [Array.getElem?_setIfInBounds, Array.getElem?_push, Array.size_push]
    split <;> rename_i h
    · subst h; simp
    · rw [if_neg (Ne.symm h), if_neg (Ne.symm h)]
  simp only [Instr.mapUpdate, Sem.run_bind, run_underlying hT, Result.andThen_ok, MapKept.run_getObj_map hb]
  rw [MapKept.run_checkKey hK (by trivial)]
  simp only [Result.andThen_ok]
  rw [MapKept.run_findKey hK hf]
  simp only [Result.andThen_ok]
  rw [MapKept.run_setObj_map _ hb, e]
theorem run_look_some (hT : P.underlying T = some (.map K E)) (hK : P.underlying K = some (.int .i64)) {w : World} {r : Nat} {es : Array MapEntry} {clock : Nat} (hb : w.heap[r]? = some (.map es clock)) {k : Int} {i : Nat} {v : Value}
    (hf : Instr.findNow (.int .i64) (.int .i64 k) es.toList 0 = some (some (i, v))) : (Instr.lookup T (.map (some r)) (.int .i64 k) false).run P w = .ok v w := by
  simp only [Instr.lookup, Sem.run_bind, run_underlying hT, Result.andThen_ok, MapKept.run_getObj_map hb, Sem.run_pure]
  rw [MapKept.run_checkKey hK (by trivial)]
  simp only [Result.andThen_ok]
  rw [MapKept.run_findKey hK hf]
  rfl
theorem run_look_none (hT : P.underlying T = some (.map K E)) (hK : P.underlying K = some (.int .i64)) {w : World} {r : Nat} {es : Array MapEntry} {clock : Nat} (hb : w.heap[r]? = some (.map es clock)) {k : Int} {z : Value}
    (hz : (zeroValue E).run P w = .ok z w)
    (hf : Instr.findNow (.int .i64) (.int .i64 k) es.toList 0 = some none) : (Instr.lookup T (.map (some r)) (.int .i64 k) false).run P w = .ok z w := by
  simp only [Instr.lookup, Sem.run_bind, run_underlying hT, Result.andThen_ok, MapKept.run_getObj_map hb, Sem.run_pure]
  rw [MapKept.run_checkKey hK (by trivial)]
  simp only [Result.andThen_ok]
  rw [MapKept.run_findKey hK hf]
  simp only [Result.andThen_ok, Sem.run_bind, hz]
  rfl
end
theorem run_equal_fn {P : Program} {t : TypeId} {ps rs : Array TypeId} {vd : Bool} {v : Value} {f : Fn} {a c : Array Value} {w : World} (ht : P.underlying t = some (.func ps rs vd)) (hv : v = .func f a c) : (Op.equal t v .nilFunc).run P w = .ok false w := by
  subst hv
  obtain ⟨d, hd⟩ : ∃ d, Op.maxDepth = d + 1 := ⟨9999, rfl⟩
  unfold Op.equal
  rw [hd]
  simp only [Op.equalIn, Sem.run_bind, run_underlying ht, Result.andThen_ok, Sem.run_pure]
theorem run_neq_fn {P : Program} {t : TypeId} {ps rs : Array TypeId} {vd : Bool} {f : Fn} {a c : Array Value} {w : World} (ht : P.underlying t = some (.func ps rs vd)) : (binOp .neq t (.func f a c) .nilFunc).run P w = .ok (.bool true) w := by
  show (do pure (Value.bool (!(← Op.equal t _ _)))).run P w = _
  simp only [Sem.run_bind, run_equal_fn ht rfl, Result.andThen_ok, Sem.run_pure]; rfl
theorem run_neq_fn0 {P : Program} {t : TypeId} {ps rs : Array TypeId} {vd : Bool} {w : World} (ht : P.underlying t = some (.func ps rs vd)) : (binOp .neq t .nilFunc .nilFunc).run P w = .ok (.bool false) w := by
  have : (Op.equal t .nilFunc .nilFunc).run P w = .ok true w := by
    obtain ⟨d, hd⟩ : ∃ d, Op.maxDepth = d + 1 := ⟨9999, rfl⟩
    unfold Op.equal
    rw [hd]
    simp only [Op.equalIn, Sem.run_bind, run_underlying ht, Result.andThen_ok, Sem.run_pure]
  show (do pure (Value.bool (!(← Op.equal t _ _)))).run P w = _
  simp only [Sem.run_bind, this, Result.andThen_ok, Sem.run_pure]; rfl
end Go.Proofs.YtblmebjhhanoaaaGreat.M13
/- CHAPTER 13: pens and steps (first engine's way): margin.Run. -/
set_option linter.unusedSimpArgs false
set_option linter.unusedVariables false
namespace Go.Proofs.YtblmebjhhanoaaaGreat.M13
open Go.RowKit


/-- the map of a run's functions. -/
def stepsMap (w : World) : Array MapEntry := #[{ key := .int .i64 1, val := .func (.func 36) #[] #[.pointer (some ⟨w.heap.size, 0, none⟩)], born := 0 }, { key := .int .i64 2, val := .func (.func 38) #[] #[.pointer (some ⟨w.heap.size, 0, none⟩)], born := 1 }, { key := .int .i64 3, val := .func (.func 40) #[] #[.pointer (some ⟨w.heap.size, 0, none⟩)], born := 2 }, { key := .int .i64 4, val := .func (.func 42) #[] #[.pointer (some ⟨w.heap.size + 1 + 1, 0, none⟩), .pointer (some ⟨w.heap.size, 0, none⟩)], born := 3 }]

theorem look_none {w : World} {k : Int} (h1 : k ≠ 1) (h2 : k ≠ 2) (h3 : k ≠ 3) (h4 : k ≠ 4) : Instr.findNow (.int .i64) (.int .i64 k) (stepsMap w).toList 0 = some none := by
  have e1 : (k == 1) = false := by simp [h1]
  have e2 : (k == 2) = false := by simp [h2]
  have e3 : (k == 3) = false := by simp [h3]
  have e4 : (k == 4) = false := by simp [h4]
  simp [stepsMap, Instr.findNow, Instr.sameNow, e1, e2, e3, e4]
theorem own_ge {w : World} {base : Nat} {e : TypeId} {size n : Nat} {v : Value} {xs : List Value} (h : w.ownsRow base e size v n xs) : ∀ g, v.ownBlock = some g → base ≤ g := by
  obtain ⟨-, (⟨rfl, -⟩ | ⟨g, cap, cur, rfl, hg, -⟩)⟩ := h
  · intro g h; simp [Value.ownBlock] at h
  · intro g' h; simp [Value.ownBlock] at h; omega

/-- the relation of the run's loop. -/
def Run2Rel (w : World) (p0 : Pen) (xs : List Step) (k : Nat) (wr : World) : Prop :=
  PenAt wr w.heap.size (runF p0 (xs.take k)).1 ∧ PenAt wr (w.heap.size + 1) ⟨0, 0⟩ ∧ (∃ v, Blk wr (w.heap.size + 1 + 1) 40 #[v] ∧ wr.ownsRow (w.heap.size + 1 + 1 + 1 + 1) 3 1 v (runF p0 (xs.take k)).2.length ((runF p0 (xs.take k)).2.map (Value.int .i64))) ∧
    wr.heap[w.heap.size + 1 + 1 + 1]? = some (.map (stepsMap w) 4) ∧ Below w.heap.size w wr

set_option maxRecDepth 100000 in
set_option maxHeartbeats 2000000 in
theorem run_any (y m : Int) (A : Option Addr) (c : Nat) (xs : List Step) (w : World) (hx : StepsAt w A xs) (hl : xs.length ≤ 4000) (hfar : ∀ k, k ≤ xs.length → Bd (runF ⟨y, m⟩ (xs.take k)).1.y ∧ Bd (runF ⟨y, m⟩ (xs.take k)).1.m) (hst : ∀ k (h : k < xs.length), Bd xs[k].a ∧ Bd xs[k].b) :
    Calls Tryz.prog 14 #[.agg #[.int .i64 y, .int .i64 m], .slice A xs.length c] w (RunPost (runF ⟨y, m⟩ xs).1 (runF ⟨y, m⟩ xs).2 w) := by
  have hmm := @run_makeMap Tryz.prog
  have hp0 := run_put_new Tryz.underlying90 Tryz.underlying3 (((w.alloc (.cells #[.int .i64 y, .int .i64 m] 39)).alloc (.cells #[.int .i64 0, .int .i64 0] 39)).alloc (.cells #[.slice none 0 0] 40)) (w.heap.size + 1 + 1 + 1) #[] 0 1 (.func (.func 36) #[] #[.pointer (some ⟨w.heap.size, 0, none⟩)]) (by simp) rfl
  have hp1 := run_put_new Tryz.underlying90 Tryz.underlying3 (((w.alloc (.cells #[.int .i64 y, .int .i64 m] 39)).alloc (.cells #[.int .i64 0, .int .i64 0] 39)).alloc (.cells #[.slice none 0 0] 40)) (w.heap.size + 1 + 1 + 1) #[{ key := .int .i64 1, val := .func (.func 36) #[] #[.pointer (some ⟨w.heap.size, 0, none⟩)], born := 0 }] 1 2 (.func (.func 38) #[] #[.pointer (some ⟨w.heap.size, 0, none⟩)]) (by simp) rfl
  have hp2 := run_put_new Tryz.underlying90 Tryz.underlying3 (((w.alloc (.cells #[.int .i64 y, .int .i64 m] 39)).alloc (.cells #[.int .i64 0, .int .i64 0] 39)).alloc (.cells #[.slice none 0 0] 40)) (w.heap.size + 1 + 1 + 1) #[{ key := .int .i64 1, val := .func (.func 36) #[] #[.pointer (some ⟨w.heap.size, 0, none⟩)], born := 0 }, { key := .int .i64 2, val := .func (.func 38) #[] #[.pointer (some ⟨w.heap.size, 0, none⟩)], born := 1 }] 2 3 (.func (.func 40) #[] #[.pointer (some ⟨w.heap.size, 0, none⟩)]) (by simp) rfl
  have hp3 := run_put_new Tryz.underlying90 Tryz.underlying3 (((w.alloc (.cells #[.int .i64 y, .int .i64 m] 39)).alloc (.cells #[.int .i64 0, .int .i64 0] 39)).alloc (.cells #[.slice none 0 0] 40)) (w.heap.size + 1 + 1 + 1) #[{ key := .int .i64 1, val := .func (.func 36) #[] #[.pointer (some ⟨w.heap.size, 0, none⟩)], born := 0 }, { key := .int .i64 2, val := .func (.func 38) #[] #[.pointer (some ⟨w.heap.size, 0, none⟩)], born := 1 }, { key := .int .i64 3, val := .func (.func 40) #[] #[.pointer (some ⟨w.heap.size, 0, none⟩)], born := 2 }] 3 4 (.func (.func 42) #[] #[.pointer (some ⟨w.heap.size + 1 + 1, 0, none⟩), .pointer (some ⟨w.heap.size, 0, none⟩)]) (by simp) rfl
  simp only [List.push_toArray, List.cons_append, List.nil_append, Nat.reduceAdd] at hp0 hp1 hp2 hp3
  have hfar := Lib.hid hfar
  have hlen := Lib.hid (len_run ⟨y, m⟩ xs)
  have hst := Lib.hid hst
  go_enter Tryz.func14, Tryz.ntmps14
  go_wp2
  clear hp0 hp1 hp2 hp3 hmm
  go_loopw [18] (fun i wr => ∃ k : Nat, k ≤ xs.length ∧ i = .int .i64 k ∧ Run2Rel w ⟨y, m⟩ xs k wr) (fun i _ => xs.length - (intOf i).toNat)
  case atStart =>
    refine ⟨0, Nat.zero_le _, rfl, ?_, ?_, ⟨.slice none 0 0, ?_, World.ownsRow_nil _ _ _ _⟩, ?_, ?_⟩
    · exact (((Blk.newB w _ _ _ rfl).alloc _).alloc _).alloc _
    · exact ((Blk.newB _ _ _ _ (by simp)).alloc _).alloc _
    · exact (Blk.newB _ _ _ _ (by simp)).alloc _
    · have : w.heap.size + 1 + 1 + 1 = (((w.alloc (.cells #[.int .i64 y, .int .i64 m] 39)).alloc (.cells #[.int .i64 0, .int .i64 0] 39)).alloc (.cells #[.slice none 0 0] 40)).heap.size := by simp
      rw [this]
      exact (MapKept.heap_alloc _ _).1
    · exact (by (repeat with_reducible (first | exact Below.refl _ _ | exact below_alloc _ _ | refine below_step ?_ _ | refine below_set ?_ ?_ | refine below_drew ?_ | refine below_drewN' ?_ | refine below_then ?_ (by assumption) | refine below_only' ?_ ?_ (by assumption))) <;> (first | omega | (simp; done) | (simp; omega)))
  case round =>
    obtain ⟨k, hk, rfl, hP, hR, ⟨v, hT, hown⟩, hM, hbw⟩ := hrel
    by_cases hlt : k < xs.length
    · obtain ⟨b, off, rfl, hb, h1, h2, h3⟩ := hx.below hbw k hlt
      clear hx
      have hstep := runF_take ⟨y, m⟩ xs k hlt
      have hfk := hfar.out k (by omega)
      have hlk := hlen.out k (by omega)
      generalize runF ⟨y, m⟩ (xs.take k) = s at *
      obtain ⟨⟨py, pm⟩, l⟩ := s
      dsimp only at hP hown hlk hfk
      obtain ⟨by1, bm1⟩ := hfk
      obtain ⟨ba, bb⟩ := hst.out k hlt
      have hzs : w.heap.size + 1 + 1 + 1 < wr.heap.size := (Array.getElem?_eq_some_iff.1 hM).1
      have hX0 := Blk.newB wr wr.heap.size 86 #[.int .i64 xs[k].kind, .int .i64 xs[k].a, .int .i64 xs[k].b] rfl
      have hP0 := hP.alloc (.cells #[.int .i64 xs[k].kind, .int .i64 xs[k].a, .int .i64 xs[k].b] 86)
      have hR0 := hR.alloc (.cells #[.int .i64 xs[k].kind, .int .i64 xs[k].a, .int .i64 xs[k].b] 86)
      have hT0 := hT.alloc (.cells #[.int .i64 xs[k].kind, .int .i64 xs[k].a, .int .i64 xs[k].b] 86)
      have hO0 := hown.alloc (.cells #[.int .i64 xs[k].kind, .int .i64 xs[k].a, .int .i64 xs[k].b] 86)
      have hB0 := below_step hbw (.cells #[.int .i64 xs[k].kind, .int .i64 xs[k].a, .int .i64 xs[k].b] 86)
      have hM0 : (wr.alloc (.cells #[.int .i64 xs[k].kind, .int .i64 xs[k].a, .int .i64 xs[k].b] 86)).heap[w.heap.size + 1 + 1 + 1]? = some (.map (stepsMap w) 4) := (Below.heap_alloc _ _ _ hzs).trans hM
      have hcs : xs[k].kind = 1 ∨ xs[k].kind = 2 ∨ xs[k].kind = 3 ∨ xs[k].kind = 4 ∨ (xs[k].kind ≠ 1 ∧ xs[k].kind ≠ 2 ∧ xs[k].kind ≠ 3 ∧ xs[k].kind ≠ 4) := by omega
      clear hP hR hT hbw hM
      rcases hcs with hk1 | hk2 | hk3 | hk4 | ⟨hk1, hk2, hk3, hk4⟩
      · have hst' := Lib.hid (hstep.trans (step_1 hk1))
        have hlook := run_look_some Tryz.underlying90 Tryz.underlying3 hM0 (k := xs[k].kind) (i := 0) (v := .func (.func 36) #[] #[.pointer (some ⟨w.heap.size, 0, none⟩)]) (by rw [hk1]; rfl)
        have hneq := @run_neq_fn Tryz.prog 88 _ _ _ (.func 36) #[] #[.pointer (some ⟨w.heap.size, 0, none⟩)] (wr.alloc (.cells #[.int .i64 xs[k].kind, .int .i64 xs[k].a, .int .i64 xs[k].b] 86)) Tryz.underlying88
        have cX := hX0.f3
        clear hstep hk1 hown
        go_wp2_with fail
        refine (run1_any w.heap.size py pm _ _ _ _ hP0 by1 bm1 ba bb).mono ?_
        rintro e w1 ⟨rfl, hP1, hg⟩
        have hR1 := hR0.only hg (by omega)
        have hT1 := hT0.only hg (by omega)
        have hO1 := hO0.kept hg (.inr (own_blk_ne hO0 hP0 (by decide)))
        have hM1 := (hg.block (w.heap.size + 1 + 1 + 1) (by simp; omega) (by simp; omega)).trans hM0
        have hB1 := below_only' hB0 (Nat.le_refl _) hg
        clear hlook hneq cX hP0 hR0 hT0 hO0 hM0 hB0 hX0
        go_wp2
        go_roundw
        case rel =>
          refine ⟨k + 1, by omega, by go_num, ?_⟩
          unfold Run2Rel
          rw [hst'.out]
          exact ⟨hP1, hR1, ⟨v, hT1, hO1⟩, hM1, hB1⟩
        case measure => simp [intOf]; omega
      · have hst' := Lib.hid (hstep.trans (step_2 hk2))
        have hlook := run_look_some Tryz.underlying90 Tryz.underlying3 hM0 (k := xs[k].kind) (i := 1) (v := .func (.func 38) #[] #[.pointer (some ⟨w.heap.size, 0, none⟩)]) (by rw [hk2]; rfl)
        have hneq := @run_neq_fn Tryz.prog 88 _ _ _ (.func 38) #[] #[.pointer (some ⟨w.heap.size, 0, none⟩)] (wr.alloc (.cells #[.int .i64 xs[k].kind, .int .i64 xs[k].a, .int .i64 xs[k].b] 86)) Tryz.underlying88
        have cX := hX0.f3
        clear hstep hk2 hown
        go_wp2_with fail
        refine (run2_any w.heap.size py pm _ _ _ _ hP0 by1 bm1 ba bb).mono ?_
        rintro e w1 ⟨rfl, hP1, hg⟩
        have hR1 := hR0.only hg (by omega)
        have hT1 := hT0.only hg (by omega)
        have hO1 := hO0.kept hg (.inr (own_blk_ne hO0 hP0 (by decide)))
        have hM1 := (hg.block (w.heap.size + 1 + 1 + 1) (by simp; omega) (by simp; omega)).trans hM0
        have hB1 := below_only' hB0 (Nat.le_refl _) hg
        clear hlook hneq cX hP0 hR0 hT0 hO0 hM0 hB0 hX0
        go_wp2
        go_roundw
        case rel =>
          refine ⟨k + 1, by omega, by go_num, ?_⟩
          unfold Run2Rel
          rw [hst'.out]
          exact ⟨hP1, hR1, ⟨v, hT1, hO1⟩, hM1, hB1⟩
        case measure => simp [intOf]; omega
      · have hst' := Lib.hid (hstep.trans (step_3 hk3))
        have hlook := run_look_some Tryz.underlying90 Tryz.underlying3 hM0 (k := xs[k].kind) (i := 2) (v := .func (.func 40) #[] #[.pointer (some ⟨w.heap.size, 0, none⟩)]) (by rw [hk3]; rfl)
        have hneq := @run_neq_fn Tryz.prog 88 _ _ _ (.func 40) #[] #[.pointer (some ⟨w.heap.size, 0, none⟩)] (wr.alloc (.cells #[.int .i64 xs[k].kind, .int .i64 xs[k].a, .int .i64 xs[k].b] 86)) Tryz.underlying88
        have cX := hX0.f3
        clear hstep hk3 hown
        go_wp2_with fail
        refine (run3_any w.heap.size py pm _ _ _ _ hP0 by1 bm1 ba bb).mono ?_
        rintro e w1 ⟨rfl, hP1, hg⟩
        have hR1 := hR0.only hg (by omega)
        have hT1 := hT0.only hg (by omega)
        have hO1 := hO0.kept hg (.inr (own_blk_ne hO0 hP0 (by decide)))
        have hM1 := (hg.block (w.heap.size + 1 + 1 + 1) (by simp; omega) (by simp; omega)).trans hM0
        have hB1 := below_only' hB0 (Nat.le_refl _) hg
        clear hlook hneq cX hP0 hR0 hT0 hO0 hM0 hB0 hX0
        go_wp2
        go_roundw
        case rel =>
          refine ⟨k + 1, by omega, by go_num, ?_⟩
          unfold Run2Rel
          rw [hst'.out]
          exact ⟨hP1, hR1, ⟨v, hT1, hO1⟩, hM1, hB1⟩
        case measure => simp [intOf]; omega
      · have hst' := Lib.hid (hstep.trans (step_4 hk4))
        have hlook := run_look_some Tryz.underlying90 Tryz.underlying3 hM0 (k := xs[k].kind) (i := 3) (v := .func (.func 42) #[] #[.pointer (some ⟨w.heap.size + 1 + 1, 0, none⟩), .pointer (some ⟨w.heap.size, 0, none⟩)]) (by rw [hk4]; rfl)
        have hneq := @run_neq_fn Tryz.prog 88 _ _ _ (.func 42) #[] #[.pointer (some ⟨w.heap.size + 1 + 1, 0, none⟩), .pointer (some ⟨w.heap.size, 0, none⟩)] (wr.alloc (.cells #[.int .i64 xs[k].kind, .int .i64 xs[k].a, .int .i64 xs[k].b] 86)) Tryz.underlying88
        have cX := hX0.f3
        clear hstep hk4 hown
        go_wp2_with fail
        refine (run4_any (w.heap.size + 1 + 1) w.heap.size py pm _ _ _ v l _ (w.heap.size + 1 + 1 + 1 + 1) hT0 hP0 hO0 by1 bm1 (by omega) (by simp; omega) (by omega) (by omega) (by omega) ba).mono ?_
        rintro e w1 ⟨rfl, hP1, ⟨v2, hT1, hO1⟩, hkp, hbl⟩
        have hge : ∀ g, v.ownBlock = some g → w.heap.size + 1 + 1 + 1 + 1 ≤ g := own_ge hO0
        have hR1 := (hkp (w.heap.size + 1) (by simp; omega) (by omega) (by omega) (fun e => by have := hge _ e.symm; omega)).trans hR0
        have hM1 := (hkp (w.heap.size + 1 + 1 + 1) (by simp; omega) (by omega) (by omega) (fun e => by have := hge _ e.symm; omega)).trans hM0
        have hB1 := hB0.trans (hbl w.heap.size (by omega) (by omega) (fun g e => by have := hge _ e; omega))
        clear hlook hneq cX hP0 hR0 hT0 hO0 hM0 hB0 hX0 hge hkp hbl
        go_wp2
        go_roundw
        case rel =>
          refine ⟨k + 1, by omega, by go_num, ?_⟩
          unfold Run2Rel
          rw [hst'.out]
          refine ⟨hP1, hR1, ⟨v2, hT1, ?_⟩, hM1, hB1⟩
          rw [List.length_append]
          exact hO1
        case measure => simp [intOf]; omega
      · have hst' := Lib.hid (hstep.trans (step_0 hk1 hk2 hk3 hk4))
        have hlook := run_look_none Tryz.underlying90 Tryz.underlying3 hM0 (k := xs[k].kind) (z := .nilFunc) (by simp [go_sem]) (look_none (w := w) hk1 hk2 hk3 hk4)
        have hneq := @run_neq_fn0 Tryz.prog 88 _ _ _ (wr.alloc (.cells #[.int .i64 xs[k].kind, .int .i64 xs[k].a, .int .i64 xs[k].b] 86)) Tryz.underlying88
        have cX := hX0.f3
        clear hstep hk1 hk2 hk3 hk4 hown
        go_wp2
        go_roundw
        case rel =>
          refine ⟨k + 1, by omega, by go_num, ?_⟩
          unfold Run2Rel
          rw [hst'.out]
          exact ⟨hP0, hR0, ⟨v, hT0, hO0⟩, hM0, hB0⟩
        case measure => simp [intOf]; omega
    · obtain rfl : k = xs.length := by omega
      rw [List.take_length] at hP hown
      have hzs : w.heap.size + 1 < wr.heap.size := hR.lt
      have hzp : w.heap.size < wr.heap.size := by omega
      generalize runF ⟨y, m⟩ xs = s at *
      obtain ⟨⟨py, pm⟩, l⟩ := s
      dsimp only at hP hown
      have cP := hP.f2
      have cR := hR.f2
      obtain ⟨A1, c1, rfl, _, hc2, _⟩ := own_cells hown
      have hO2 := ownsRow_setCell_below (ownsRow_setCell_below (ownsRow_setCell_below hown (a := ⟨w.heap.size + 1, 0, none⟩) (by simp) (.int .i64 py)) (a := ⟨w.heap.size + 1, 1, none⟩) (by simp) (.int .i64 pm)) (a := ⟨w.heap.size + 1 + 1, 0, none⟩) (by simp) (.slice A1 l.length c1)
      obtain ⟨A2, c2, e2, _, _, hc3⟩ := own_cells hO2
      obtain ⟨rfl, -, rfl⟩ : A1 = A2 ∧ l.length = l.length ∧ c1 = c2 := by injection e2 with e3 e4 e5; exact ⟨e3, rfl, e5⟩
      clear e2
      have cT := hT.f1
      have hB2 := below_drew (below_set (o := 0) (v := .slice A1 l.length c1) (below_set (o := 1) (v := .int .i64 pm) (below_set (o := 0) (v := .int .i64 py) hbw (Nat.le_succ w.heap.size)) (Nat.le_succ w.heap.size)) (b := w.heap.size + 1 + 1) (by omega))
      have cR2 := (((hR.set0 (.int .i64 py)).set1 (.int .i64 pm)).far (p := ⟨w.heap.size + 1 + 1, 0, none⟩) (by simp) (.slice A1 l.length c1)).drew.f2
      have cT2 := (((hT.far (p := ⟨w.heap.size + 1, 0, none⟩) (by simp) (.int .i64 py)).far (p := ⟨w.heap.size + 1, 1, none⟩) (by simp) (.int .i64 pm)).set_ 0 (.slice A1 l.length c1)).drew.f1
      have hO3 := own_base hO2 (base' := w.heap.size) (by omega)
      clear hx hP hR hT hown hO2 hbw hM
      go_wp2_with fail
      go_region
      go_wp2
      refine bodyPost_ret (v := .tuple #[.agg #[.int .i64 py, .int .i64 pm], .slice A1 l.length c1]) (by simp [results, Tryz.results14, go_sem, cR2, cT2]) rfl ?_
      exact ⟨A1, c1, rfl, hc3.ints, hc2, hB2, hO3⟩
end Go.Proofs.YtblmebjhhanoaaaGreat.M13
/- CHAPTER 13: margin.Run, as the second engine's contracts are. -/
/- G -/
set_option linter.unusedSimpArgs false
set_option linter.unusedVariables false
namespace Go.Proofs.YtblmebjhhanoaaaGreat
open Go.RowKit

def cStp (x : M13.Step) : List PV := [.raw (.int .i64 x.kind), .raw (.int .i64 x.a), .raw (.int .i64 x.b)]
attribute [go_sem] cStp
theorem prep_ints (R : Frz) : ∀ l : List Int, PRepLL R (l.map cInt) (l.map fun n => [.int .i64 n])
  | [] => by simp [PRepLL]
  | n :: l => by
    simp only [List.map_cons, PRepLL]
    exact ⟨by simp [cInt, PRepL, PRep], prep_ints R l⟩
theorem flat_ints : ∀ l : List Int, (l.map fun n => [Value.int .i64 n]).flatten = l.map (Value.int .i64)
  | [] => rfl
  | n :: l => by simp [flat_ints l]
set_option maxHeartbeats 1000000 in
theorem run13_ok (y m : Int) (xs : List M13.Step) (hl : xs.length ≤ 4000) (hfar : ∀ k, k ≤ xs.length → M13.Bd (M13.runF ⟨y, m⟩ (xs.take k)).1.y ∧ M13.Bd (M13.runF ⟨y, m⟩ (xs.take k)).1.m) (hst : ∀ k (h : k < xs.length), M13.Bd xs[k].a ∧ M13.Bd xs[k].b) :
    FnOk Tryz.prog 14 [.agg [.raw (.int .i64 y), .raw (.int .i64 m)], .sl 3 (xs.map cStp)] [] (.tup [.agg [.raw (.int .i64 (M13.runF ⟨y, m⟩ xs).1.y), .raw (.int .i64 (M13.runF ⟨y, m⟩ xs).1.m)], .hdr 8]) [(8, .row 3 1 ((M13.runF ⟨y, m⟩ xs).2.map cInt))] := by
  refine ⟨by kernel_rfl, fun ρ w vs hA hr => ?_⟩
  match vs, hr with
  | [], hr => simp [RepL] at hr
  | [_], hr => simp [RepL] at hr
  | _ :: _ :: _ :: _, hr => simp [RepL] at hr
  | [v, x], hr =>
    simp only [RepL] at hr
    obtain ⟨h0, h1, -⟩ := hr
    simp only [Rep] at h0
    obtain ⟨cs, rfl, hcs⟩ := h0
    obtain rfl := repL_raws (l := [.int .i64 y, .int .i64 m]) hcs
    simp only [Rep, PRep] at h1
    obtain ⟨A, c, rfl, hc, hrows⟩ := h1
    rw [List.length_map] at hc ⊢
    refine (M13.run_any y m A c xs w (fun k hk => ?_) hl hfar hst).mono ?_
    · obtain ⟨b, off, vs', rfl, hel⟩ := hrows.elem hA.ro (k := k) (r := cStp xs[k]) (by simp [hk])
      have c0 := hel.cell 0 (by omega)
      have c1 := hel.cell 1 (by omega)
      have c2 := hel.cell 2 (by omega)
      obtain ⟨v0, g0, p0⟩ := hel.rep.get (i := 0) (p := .raw (.int .i64 xs[k].kind)) rfl
      obtain ⟨v1, g1, p1⟩ := hel.rep.get (i := 1) (p := .raw (.int .i64 xs[k].a)) rfl
      obtain ⟨v2, g2, p2⟩ := hel.rep.get (i := 2) (p := .raw (.int .i64 xs[k].b)) rfl
      simp only [PRep] at p0 p1 p2
      subst p0 p1 p2
      rw [g0] at c0
      rw [g1] at c1
      rw [g2] at c2
      simp only [Nat.add_zero] at c0
      refine ⟨b, off, rfl, ?_, c0, c1, c2⟩
      unfold World.cell? at c0
      split at c0
      · next c e f hq => exact (Array.getElem?_eq_some_iff.1 hq).1
      · cases c0
    · rintro e w' ⟨A', c', rfl, hint, hcm, hb, hown⟩
      generalize M13.runF ⟨y, m⟩ xs = r at *
      obtain ⟨⟨py, pm⟩, l⟩ := r
      simp only at hown hint ⊢
      have hge := M13.own_ge hown
      have hblk : ∀ g, oblk (.slice A' l.length c') (.row 3 1 (l.map cInt)) = some g → w.heap.size ≤ g := fun g hg => by
        cases A' with
        | none => simp [oblk] at hg
        | some a =>
          refine hge g ?_
          unfold oblk at hg
          simp only at hg
          cases c' with
          | zero => simp at hg
          | succ c' => simpa [Value.ownBlock] using hg
      refine ⟨_, ρ.with 8 (.slice A' l.length c'), rfl, rfl, fun i hi => ?_, SubR.refl _, fun i hi => by omega, fun i x e => ?_, fun d => ?_, fun i o e => ?_, fun i j oi oj x y hne ei ej => ?_, fun i o x g ei ex eg => .inr ?_, fun g o e => ?_, fun i o x g ei ex eg => ?_, fun g o e => .inl e, hA.rdf, fun g e => e.elim, ⟨hb.os, hb.tape, hb.output, hb.size, fun g hg _ => hb.block g hg⟩⟩
      · show (if i = 8 then _ else _) = _
        rw [if_neg (by omega)]
      · have e : (if i = 8 then some (Value.slice A' l.length c') else ρ.f i) = some x := e
        split at e
        · obtain rfl := Option.some.inj e
          exact ⟨by omega, rfl⟩
        · have := hA.dom i x e
          exact ⟨by omega, this.2⟩
      · unfold AS.get
        simp only [find]
        split
        · next e => subst e; simp [Rep, RepL, Env.with]
        · simp [Rep]
      · simp only [somes, AS.obj, List.map_cons, List.map_nil, find] at e
        split at e
        · next q =>
          subst q
          obtain rfl := Option.some.inj (show some (AO.row 3 1 (l.map cInt)) = some o from e)
          refine ⟨.slice A' l.length c', (show (if 8 = 8 then some (Value.slice A' l.length c') else ρ.f 8) = _ from if_pos rfl), l.map fun n => [.int .i64 n], prep_ints _ l, fun r hr => ?_, fun r hr u hu => ?_, ownAt_of ?_⟩
          · obtain ⟨n, -, rfl⟩ := List.mem_map.1 hr; rfl
          · obtain ⟨n, -, rfl⟩ := List.mem_map.1 hr
            obtain rfl := List.mem_singleton.1 hu
            rfl
          · rw [List.length_map, flat_ints]
            exact M13.own_base hown (Nat.zero_le _)
        · cases e
      · simp only [somes, AS.obj, List.map_cons, List.map_nil, find] at ei ej
        split at ei
        · split at ej
          · next q1 q2 => exact absurd (q1.symm.trans q2) hne
          · cases ej
        · cases ei
      · simp only [somes, AS.obj, List.map_cons, List.map_nil, find] at ei
        split at ei
        · next q =>
          subst q
          obtain rfl := Option.some.inj (show some (AO.row 3 1 (l.map cInt)) = some o from ei)
          have ex : some (Value.slice A' l.length c') = some x := ex
          obtain rfl := Option.some.inj ex
          exact hblk g eg
        · cases ei
      · have h := hA.ro g o e
        rw [hb.block g (Array.getElem?_eq_some_iff.1 h).1]
        exact h
      · simp only [somes, AS.obj, List.map_cons, List.map_nil, find] at ei
        split at ei
        · next q =>
          subst q
          obtain rfl := Option.some.inj (show some (AO.row 3 1 (l.map cInt)) = some o from ei)
          have ex : some (Value.slice A' l.length c') = some x := ex
          obtain rfl := Option.some.inj ex
          have h1 := hblk g eg
          cases hR : (ρ.with 8 (.slice A' l.length c')).R g with
          | none => rfl
          | some o2 =>
            have h := hA.ro g o2 hR
            have := (Array.getElem?_eq_some_iff.1 h).1
            omega
        · cases ei
end Go.Proofs.YtblmebjhhanoaaaGreat
/- CHAPTER 14: the law FlowSteps: the steps of nodes. -/
/- G -/
/- BOOLS -/
set_option linter.unusedSimpArgs false
set_option linter.unusedVariables false
namespace Go.Proofs.YtblmebjhhanoaaaGreat
open Go.RowKit

def manN (l : List LNo) (w : Int) (k : Nat) : Nat := (allF (ndN l k).words (ndN l k).space (rmR l w l.length k).w).length
def stpN (x : LNo) (many : Nat) (kids : List M13.Step) : List M13.Step :=
  (if x.kind = 1 then [(⟨1, x.st.top, x.st.padTop⟩ : M13.Step)] ++ kids ++ [⟨2, x.st.bottom, x.st.padBottom⟩] else []) ++ List.replicate many ⟨4, x.line, 0⟩ ++ (if x.kind = 3 then [⟨4, x.h, 0⟩] else [])
def stpR (l : List LNo) (w : Int) : Nat → Nat → Int → List M13.Step
  | 0, _, _ => []
  | n + 1, k, e => if (k : Int) < e then stpN (ndN l k) (manN l w k) (stpR l w n (k + 1) (k + (ndN l k).size)) ++ stpR l w n (k + (ndN l k).size.toNat) e else []
theorem allG_len (xs : List Int) (sp w : Int) : ∀ n f, f ≤ xs.length → (allG xs sp w n f).length ≤ xs.length - f
  | 0, f, h => Nat.zero_le _
  | n + 1, f, h => by
    rw [allG]
    split
    · next q =>
      have hb := takeT_bd xs sp w f q
      have := allG_len xs sp w n (takeT xs sp w f) hb.2
      simp only [List.length_cons]
      omega
    · exact Nat.zero_le _
theorem man_le {l : List LNo} {w : Int} {k : Nat} : manN l w k ≤ (ndN l k).words.length := by
  have := allG_len (ndN l k).words (ndN l k).space (rmR l w l.length k).w (ndN l k).words.length 0 (Nat.zero_le _)
  unfold manN allF
  omega
theorem stpN_len {l : List LNo} {w : Int} {k : Nat} (hn : nodB (ndN l k) = true) (kids : List M13.Step) : ((stpN (ndN l k) (manN l w k) kids).length : Int) ≤ (if (ndN l k).kind = 1 then 2 + (kids.length : Int) else 0) + pcsN (ndN l k) := by
  have hm := man_le (l := l) (w := w) (k := k)
  unfold stpN pcsN
  rcases nodB_kind hn with q | q | q | q
  · have hw : (ndN l k).words.length = 0 := by rw [(nodB_blk hn q).words]; rfl
    simp only [if_pos q, if_neg (show ¬ (ndN l k).kind = 3 by omega), List.length_append, List.length_cons, List.length_nil, List.length_replicate]
    omega
  · simp only [if_neg (show ¬ (ndN l k).kind = 1 by omega), if_pos q, if_neg (show ¬ (ndN l k).kind = 3 by omega), List.length_append, List.length_nil, List.length_replicate]
    omega
  · have hw : (ndN l k).words.length = 0 := by rw [(nodB_mono hn q).words]; rfl
    simp only [if_neg (show ¬ (ndN l k).kind = 1 by omega), if_neg (show ¬ (ndN l k).kind = 2 by omega), if_pos q, List.length_append, List.length_nil, List.length_cons, List.length_replicate]
    omega
  · have hw : (ndN l k).words.length = 0 := by rw [(nodB_flt hn q).1.words]; rfl
    simp only [if_neg (show ¬ (ndN l k).kind = 1 by omega), if_neg (show ¬ (ndN l k).kind = 2 by omega), if_neg (show ¬ (ndN l k).kind = 3 by omega), List.length_append, List.length_nil, List.length_replicate]
    omega
theorem stpR_len {l : List LNo} {w : Int} (hv : isS l = true) : ∀ (n k : Nat) (e : Int), nst l n k e → e ≤ l.length → ((stpR l w n k e).length : Int) ≤ 2 * (e - k) + (psN l e.toNat - psN l k)
  | 0, k, e, h, _ => absurd h (by simp [nst])
  | n + 1, k, e, h, he => by
    obtain ⟨h1, h2⟩ := h
    rw [stpR]
    split
    · next q =>
      obtain ⟨u1, u2, u3, u4⟩ := h2 q
      rw [← ndN_siz] at u1 u2 u3 u4
      have hk : k < l.length := by omega
      have hn := nod_at hv hk
      obtain ⟨sz, hsz⟩ : ∃ sz : Nat, (ndN l k).size = sz := ⟨(ndN l k).size.toNat, by omega⟩
      rw [hsz] at u1 u2 u3 u4 ⊢
      rw [Int.toNat_natCast] at u4 ⊢
      have i1 := stpR_len (w := w) hv n (k + 1) (k + sz) u3 (by omega)
      have i2 := stpR_len (w := w) hv n (k + sz) e u4 he
      have e1 : ((k : Int) + sz).toNat = k + sz := by omega
      rw [e1] at i1
      have hps := psN_succ hk
      have hmo := ps_mono (l := l) (show k + 1 ≤ k + sz by omega) (by omega)
      have hnl := stpN_len (w := w) hn (stpR l w n (k + 1) (k + sz))
      rw [List.length_append]
      split at hnl
      · omega
      · omega
    · have := ps_mono (l := l) (show k ≤ e.toNat by omega) (by omega)
      simp only [List.length_nil]
      omega
set_option maxRecDepth 100000 in
theorem all9_nil (sp width : Int) : FnOk Tryz.prog 44 [.sl 1 (List.map cInt []), .raw (.int .i64 sp), .raw (.int .i64 width)] [] (.sl 3 ((allF [] sp width).map cRun)) [] := by
  refine fn_of_swp Tryz.func44 rfl (by kernel_rfl) (by kernel_rfl) (Nat.le_of_ble_eq_true rfl) Tryz.results44 ?_
  (refine swp_seqW ?_; simp only [go_sem, Bool.not_eq_true', Bool.not_eq_false'])
  (refine swp_seqW ?_; simp only [go_sem, Bool.not_eq_true', Bool.not_eq_false'])
  refine swp_cutS (fun _ : Unit => ⟨[(7, .hdr 800)], [(800, some (.row 126 3 []))], none⟩) (fun _ => True) 120 ?_ ?_
  · (refine swp_seqW ?_; simp only [go_sem, Bool.not_eq_true', Bool.not_eq_false'])
    refine swp_block ?_
    refine swp_loop2 [] (fun _ : Unit => ⟨[(0, .sl 1 (List.map cInt [])), (7, .hdr 800), (8, .raw (.int .i64 0))], [(800, some (.row 126 3 []))], none⟩) (fun _ => True) (fun _ => 0) 120 () (by simp only [go_sem, Bool.not_eq_true', Bool.not_eq_false']; rfl) (by simp only [go_sem, Bool.not_eq_true', Bool.not_eq_false']) ?_ ?_
    · trivial
    rintro - -
    (refine swp_seqW ?_; simp only [go_sem, Bool.not_eq_true', Bool.not_eq_false', List.map_nil, List.length_nil])
    refine ⟨fun q => absurd q (by omega), fun _ => ?_⟩
    (refine cut_end [] (()) (by simp only [go_sem, Bool.not_eq_true', Bool.not_eq_false']; rfl) ?_ ?_; (focus (simp only [go_sem, Bool.not_eq_true', Bool.not_eq_false']; done)))
    trivial
  rintro - -
  rw [show allF [] sp width = [] from rfl]
  (refine swp_lastW ?_; simp only [go_sem, Bool.not_eq_true', Bool.not_eq_false'])
  (refine acallF2 [800 ] [] ( clipR_ok [] (by simp)) (by simp only [go_sem, Bool.not_eq_true', Bool.not_eq_false']; rfl) (fit_of (by simp only [go_sem, Bool.not_eq_true', Bool.not_eq_false']) (by simp only [go_sem, Bool.not_eq_true', Bool.not_eq_false']) (by simp only [go_sem, Bool.not_eq_true', Bool.not_eq_false']) (by simp only [go_sem, Bool.not_eq_true', Bool.not_eq_false']) (by simp only [go_sem, Bool.not_eq_true', Bool.not_eq_false']) (by simp only [go_sem, Bool.not_eq_true', Bool.not_eq_false']) (by simp only [go_sem, Bool.not_eq_true', Bool.not_eq_false'])) ?_; simp only [go_sem, Bool.not_eq_true', Bool.not_eq_false'])
  (refine ret2 [] (by simp only [go_sem, Bool.not_eq_true', Bool.not_eq_false']; rfl) ?_; simp only [go_sem, Bool.not_eq_true', Bool.not_eq_false'])
end Go.Proofs.YtblmebjhhanoaaaGreat
/- CHAPTER 14: the law FlowSteps, in plain words. -/
/- G -/
set_option linter.unusedSimpArgs false
set_option linter.unusedVariables false
namespace Go.Proofs.YtblmebjhhanoaaaGreat
open Go.RowKit

/-! how far a pen may have gone -/
def Far4 (k : Nat) (p : M13.Pen) : Prop := -(1099511627776 * (3 * (k : Int) + 1)) ≤ p.y ∧ p.y ≤ 1099511627776 * (3 * (k : Int) + 1) ∧ -1099511627776 ≤ p.m ∧ p.m ≤ 1099511627776
def Nea4 (x : M13.Step) : Prop := (-1099511627776 ≤ x.a ∧ x.a ≤ 1099511627776) ∧ (-1099511627776 ≤ x.b ∧ x.b ≤ 1099511627776)
theorem far4_step {k : Nat} {s : M13.Pen × List Int} {x : M13.Step} (h : Far4 k s.1) (hx : Nea4 x) : Far4 (k + 1) (M13.stepF s x).1 := by
  obtain ⟨h1, h2, h3, h4⟩ := h
  obtain ⟨⟨x1, x2⟩, x3, x4⟩ := hx
  unfold Far4 M13.stepF M13.enterF M13.leaveF M13.padF M13.widenF M13.clearF at *
  have e : ((k + 1 : Nat) : Int) = (k : Int) + 1 := by omega
  rw [e]
  (repeat' split) <;> (try dsimp only at *) <;> omega
theorem far4_run (p : M13.Pen) (l : List M13.Step) (hp : Far4 0 p) (hl : ∀ x ∈ l, Nea4 x) : ∀ k, k ≤ l.length → Far4 k (M13.runF p (l.take k)).1 := by
  intro k
  induction k with
  | zero =>
    intro _
    unfold M13.runF
    simpa using hp
  | succ k ih =>
    intro hk
    rw [M13.runF_take p l k (by omega)]
    exact far4_step (ih (by omega)) (hl _ (List.getElem_mem (by omega)))
theorem stpN_nea {x : LNo} (hn : nodB x = true) (many : Nat) (hmw : many ≤ x.words.length) {kids : List M13.Step} (hk : ∀ y ∈ kids, Nea4 y) : ∀ y ∈ stpN x many kids, Nea4 y := by
  intro y hy
  unfold stpN at hy
  rcases List.mem_append.1 hy with hy | hy
  · rcases List.mem_append.1 hy with hy | hy
    · split at hy
      · next q =>
        have hb := nodB_blk hn q
        have h1 := hb.top
        have h2 := hb.bottom
        have h3 := hb.padTop
        have h4 := hb.padBottom
        rcases List.mem_append.1 hy with hy | hy
        · rcases List.mem_append.1 hy with hy | hy
          · obtain rfl := List.mem_singleton.1 hy
            exact ⟨⟨by simp only; omega, by simp only; omega⟩, by simp only; omega, by simp only; omega⟩
          · exact hk y hy
        · obtain rfl := List.mem_singleton.1 hy
          exact ⟨⟨by simp only; omega, by simp only; omega⟩, by simp only; omega, by simp only; omega⟩
      · cases hy
    · obtain ⟨h0, rfl⟩ := List.mem_replicate.1 hy
      rcases nodB_kind hn with q | q | q | q
      · rw [(nodB_blk hn q).words] at hmw; exact absurd (Nat.le_zero.1 hmw) h0
      · have hb := (nodB_txt hn q).line
        exact ⟨⟨by simp only; omega, by simp only; omega⟩, by simp only; omega, by simp only; omega⟩
      · rw [(nodB_mono hn q).words] at hmw; exact absurd (Nat.le_zero.1 hmw) h0
      · rw [(nodB_flt hn q).1.words] at hmw; exact absurd (Nat.le_zero.1 hmw) h0
  · split at hy
    · next q =>
      have hb := (nodB_mono hn q).h
      obtain rfl := List.mem_singleton.1 hy
      exact ⟨⟨by simp only; omega, by simp only; omega⟩, by simp only; omega, by simp only; omega⟩
    · cases hy
theorem stpR_nea {l : List LNo} {w : Int} (hv : isS l = true) : ∀ (n k : Nat) (e : Int), e ≤ l.length → ∀ y ∈ stpR l w n k e, Nea4 y
  | 0, k, e, _, y, hy => by cases hy
  | n + 1, k, e, he, y, hy => by
    rw [stpR] at hy
    split at hy
    · next q =>
      have hk : k < l.length := by omega
      have hn := nod_at hv hk
      rcases List.mem_append.1 hy with hy | hy
      · refine stpN_nea hn _ man_le (fun z hz => ?_) y hy
        by_cases hle : (k : Int) + (ndN l k).size ≤ l.length
        · exact stpR_nea hv n (k + 1) _ hle z hz
        · have hL := isS_lam hv
          have hf := hL.fin k hk
          rw [← ndN_siz] at hf
          omega
      · exact stpR_nea hv n _ e he y hy
    · cases hy
theorem sp_len {l : List LNo} {w : Int} (hP : FlwP l w) (k : Nat) : lenS (spK l w k) = (rmR l w l.length k).w := by
  have h := (hP.sp k).b.1
  unfold spK at h ⊢
  simp only at h
  unfold lenS
  rw [if_neg (by simp only; omega)]
  simp only
  omega
/-! without floats -/
structure RelP (l : List LNo) (w : Int) (s : LGs) (q : M13.Pen × List Int) : Prop where
  f : s.f = []
  y : q.1.y = s.p.y
  m : q.1.m = s.p.m
  a : q.2 = s.a.map (·.y)
  x : ∀ a ∈ s.a, ∃ j : Nat, a.node = j ∧ j < l.length ∧ a.x = (rmR l w l.length j).x
theorem rowG_fl {l : List LNo} {w : Int} : ∀ (n k : Nat) (e : Int) (s : LGs), s.f.length ≤ (rowG l w n k e s).f.length
  | 0, k, e, s => Nat.le_refl _
  | n + 1, k, e, s => by
    rw [rowG]
    split
    · refine Nat.le_trans ?_ (rowG_fl n _ _ _)
      unfold nodG
      split
      · exact rowG_fl n (k + 1) _ (entG (ndN l k) s)
      · split
        · obtain ⟨f1, f2⟩ := setG_fold k (ndN l k).line (texF s.f (ndN l k).words (ndN l k).space (ndN l k).line (atP s.p) (spK l w k)) s
          unfold txtG
          rw [f2]
          exact Nat.le_refl _
        · split
          · exact Nat.le_refl _
          · simp [fltG, putP]
    · exact Nat.le_refl _
/-- a text's lines, one behind the other. -/
theorem tex_rel {l : List LNo} {w : Int} {k : Nat} (hk : k < l.length) {x : LNo} {sp : LSpan} (hsp : sp.a = (rmR l w l.length k).x) {W : Int} (hW : lenS sp = W) : ∀ (n f : Nat) (y : Int) (s : LGs) (q : M13.Pen × List Int), RelP l w s q → atP s.p = y →
    RelP l w ((texG [] x.words x.space x.line sp n f y).foldl (setG k x.line) s) ((List.replicate (allG x.words x.space W n f).length (⟨4, x.line, 0⟩ : M13.Step)).foldl M13.stepF q)
  | 0, f, y, s, q, h, hy => h
  | n + 1, f, y, s, q, h, hy => by
    rw [texG, allG]
    split
    · next hf =>
      rw [List.length_cons, List.replicate_succ, List.foldl_cons, List.foldl_cons]
      have e : (linN [] x.words x.space x.line f y sp).t.toNat = takeT x.words x.space W f := by
        show ((takeT x.words x.space (lenS sp) f : Nat) : Int).toNat = _
        rw [Int.toNat_natCast, hW]
      rw [e]
      refine tex_rel hk hsp hW n _ _ _ _ ⟨h.f, ?_, ?_, ?_, fun a ha => ?_⟩ ?_
      · rw [M13.step_4 rfl]
        show q.1.y + q.1.m + x.line = y + x.line
        unfold atP at hy
        rw [h.y, h.m, hy]
      · rw [M13.step_4 rfl]
        rfl
      · rw [M13.step_4 rfl]
        show q.2 ++ [q.1.y + q.1.m] = List.map (fun b : LAt => b.y) (s.a ++ [_])
        rw [List.map_append, ← h.a, h.y, h.m]
        unfold atP at hy
        rw [hy]
        rfl
      · rcases List.mem_append.1 ha with ha | ha
        · exact h.x a ha
        · obtain rfl := List.mem_singleton.1 ha
          exact ⟨k, rfl, hk, hsp⟩
      · show atP ⟨y + x.line, 0⟩ = y + x.line
        simp [atP]
    · exact h
theorem rel_row {l : List LNo} {w : Int} (hP : FlwP l w) : ∀ (n k : Nat) (e : Int) (s : LGs) (q : M13.Pen × List Int), e ≤ l.length → RelP l w s q → (rowG l w n k e s).f = [] → RelP l w (rowG l w n k e s) ((stpR l w n k e).foldl M13.stepF q)
  | 0, k, e, s, q, _, h, _ => h
  | n + 1, k, e, s, q, he, h, hf => by
    rw [rowG] at hf ⊢
    rw [stpR]
    split
    · next p =>
      rw [if_pos p] at hf
      have hk : k < l.length := by omega
      have hn := nod_at hP.v hk
      have hL := isS_lam hP.v
      have hfi := hL.fin k hk
      rw [← ndN_siz] at hfi
      have hfz : (nodG l w (rowG l w n) k s).f = [] := by
        have := rowG_fl (l := l) (w := w) n (k + (ndN l k).size.toNat) e (nodG l w (rowG l w n) k s)
        rw [hf] at this
        exact List.eq_nil_of_length_eq_zero (Nat.le_zero.1 this)
      rw [List.foldl_append]
      refine rel_row hP n _ e _ _ he ?_ hf
      unfold nodG at hfz ⊢
      unfold stpN
      rcases nodB_kind hn with c | c | c | c
      · rw [if_pos c] at hfz ⊢
        have hw0 : manN l w k = 0 := by
          have := man_le (l := l) (w := w) (k := k)
          rw [(nodB_blk hn c).words] at this
          exact Nat.le_zero.1 this
        rw [if_pos c, if_neg (show ¬ (ndN l k).kind = 3 by omega), hw0, List.replicate_zero, List.append_nil, List.append_nil, List.foldl_append, List.foldl_append, List.foldl_cons, List.foldl_nil, List.foldl_cons, List.foldl_nil]
        have hent : RelP l w (entG (ndN l k) s) (M13.stepF q ⟨1, (ndN l k).st.top, (ndN l k).st.padTop⟩) := by
          rw [M13.step_1 rfl]
          have hc : clrG (ndN l k) s = s.p := by
            unfold clrG
            rw [if_neg]
            rw [h.f]
            simp [lowO, mostF]
          have hy := h.y
          have hm := h.m
          refine ⟨h.f, ?_, ?_, h.a, h.x⟩
          · simp only [entG, hc, penE, penP, M13.enterF, M13.padF, M13.widenF]
            split <;> simp only [hy, hm]
          · simp only [entG, hc, penE, penP, M13.enterF, M13.padF, M13.widenF]
            split <;> simp only [hy, hm]
        have hk2 := rel_row hP n (k + 1) (k + (ndN l k).size) _ _ hfi hent hfz
        have hy := hk2.y
        have hm := hk2.m
        refine ⟨hk2.f, ?_, ?_, ?_, hk2.x⟩
        · rw [M13.step_2 rfl]
          simp only [lvG, penL, penP, M13.leaveF, M13.padF, M13.widenF]
          split <;> simp only [hy, hm]
        · rw [M13.step_2 rfl]
          simp only [lvG, penL, penP, M13.leaveF, M13.padF, M13.widenF]
          split <;> simp only [hy, hm]
        · rw [M13.step_2 rfl]
          exact hk2.a
      · rw [if_neg (show ¬ (ndN l k).kind = 1 by omega), if_pos c]
        rw [if_neg (show ¬ (ndN l k).kind = 1 by omega), if_neg (show ¬ (ndN l k).kind = 3 by omega), List.nil_append, List.append_nil]
        unfold txtG texF
        rw [h.f]
        exact tex_rel hk rfl (sp_len hP k) (ndN l k).words.length 0 _ s q h rfl
      · rw [if_neg (show ¬ (ndN l k).kind = 1 by omega), if_neg (show ¬ (ndN l k).kind = 2 by omega), if_pos c]
        have hw0 : manN l w k = 0 := by
          have := man_le (l := l) (w := w) (k := k)
          rw [(nodB_mono hn c).words] at this
          exact Nat.le_zero.1 this
        rw [if_neg (show ¬ (ndN l k).kind = 1 by omega), if_pos c, hw0, List.replicate_zero, List.append_nil, List.nil_append, List.foldl_cons, List.foldl_nil, M13.step_4 rfl]
        have hy := h.y
        have hm := h.m
        have eY : monY (spK l w k) (ndN l k) s = s.p.y + s.p.m := by unfold monY; rw [h.f]; rfl
        refine ⟨h.f, ?_, rfl, ?_, fun a ha => ?_⟩
        · show q.1.y + q.1.m + _ = monY _ _ _ + _
          rw [eY, hy, hm]
        · show q.2 ++ [q.1.y + q.1.m] = List.map (fun b : LAt => b.y) (s.a ++ [_])
          rw [List.map_append, ← h.a, hy, hm]
          show _ = q.2 ++ [monY (spK l w k) (ndN l k) s]
          rw [eY]
        · rcases List.mem_append.1 ha with ha | ha
          · exact h.x a ha
          · obtain rfl := List.mem_singleton.1 ha
            refine ⟨k, rfl, hk, ?_⟩
            show (bandF s.f _ _ (spK l w k)).a = _
            rw [h.f]
            rfl
      · rw [if_neg (show ¬ (ndN l k).kind = 1 by omega), if_neg (show ¬ (ndN l k).kind = 2 by omega), if_neg (show ¬ (ndN l k).kind = 3 by omega)] at hfz
        simp [fltG, putP] at hfz
    · exact h
end Go.Proofs.YtblmebjhhanoaaaGreat
/- CHAPTER 14: the law FlowSteps: the steps of nodes: the walk. -/
/- G -/
/- BOOLS -/
set_option linter.unusedSimpArgs false
set_option linter.unusedVariables false
namespace Go.Proofs.YtblmebjhhanoaaaGreat
open Go.RowKit

def stSt (l : List LNo) (rms : List LRm) (x : LNo) (k : Nat) (e : Int) (o : List M13.Step) (more : List (Nat × AV)) : AS :=
  ⟨[(0, .sl 20 (l.map cNo)), (1, .sl 2 (rms.map cRm)), (2, .raw (.int .i64 k)), (3, .raw (.int .i64 e)), (9, .hdr 800), (10, .hdr 804)] ++ more, [(800, some (.row 86 3 (o.map cStp))), (804, some (.cells 56 (lNo x)))], none⟩
attribute [go_sem] stSt
theorem alls_ok {l : List LNo} {w : Int} (hP : FlwP l w) {k : Nat} (hk : k < l.length) : FnOk Tryz.prog 44 [.sl 1 ((ndN l k).words.map cInt), .raw (.int .i64 (ndN l k).space), .raw (.int .i64 (rmR l w l.length k).w)] [] (.sl 3 ((allF (ndN l k).words (ndN l k).space (rmR l w l.length k).w).map cRun)) [] := by
  have hn := nod_at hP.v hk
  rcases nodB_kind hn with q | q | q | q
  · rw [(nodB_blk hn q).words]; exact all9_nil _ _
  · exact all9_ok _ _ _ (wor_ok hP hk rfl (nodB_txt hn q) q)
  · rw [(nodB_mono hn q).words]; exact all9_nil _ _
  · rw [(nodB_flt hn q).1.words]; exact all9_nil _ _
set_option maxRecDepth 100000 in
set_option maxHeartbeats 16000000 in
theorem steps_ok {l : List LNo} {w : Int} (hP : FlwP l w) : ∀ (F g : Nat), g ≤ F → ∀ (k : Nat) (e : Int), nst l g k e → e ≤ l.length →
    FnOk Tryz.prog 15 [.sl 20 (l.map cNo), .sl 2 ((rmsR l w l.length).map cRm), .raw (.int .i64 k), .raw (.int .i64 e)] [] (.hdr 8) [(8, .row 86 3 ((stpR l w g k e).map cStp))]
  | 0, g, hg, k, e, hn, he => by
    obtain rfl : g = 0 := by omega
    exact absurd hn (by simp [nst])
  | F + 1, g, hg, k, e, hn, he => by
    have hlen := hP.len
    have hps := hP.ps
    have hrl : (rmsR l w l.length).length = l.length := by simp [rmsR]
    have hrg : ∀ j : Nat, j < l.length → (rmsR l w l.length)[j]? = some (rmR l w l.length j) := fun j hj => by simp [rmsR, hj]
    have hall := stpR_len (w := w) hP.v g k e hn he
    have hle := (show (k : Int) ≤ e from by cases g with | zero => exact absurd hn (by simp [nst]) | succ g => exact hn.1)
    have hp1 := ps_mono (l := l) (show 0 ≤ k by omega) (by omega)
    have hp2 := ps_mono (l := l) (show e.toNat ≤ l.length by omega) (Nat.le_refl _)
    rw [psN_zero] at hp1
    unfold pall at hps
    have hbig : (stpR l w g k e).length ≤ 3000 := by omega
    generalize hR : stpR l w g k e = R at *
    generalize hrr : rmsR l w l.length = rms at *
    refine fn_of_swp Tryz.func15 rfl (by kernel_rfl) (by kernel_rfl) (Nat.le_of_ble_eq_true rfl) Tryz.results15 ?_
    (refine swp_seqW ?_; simp only [go_sem, Bool.not_eq_true', Bool.not_eq_false'])
    (refine swp_seqW ?_; simp only [go_sem, Bool.not_eq_true', Bool.not_eq_false'])
    refine swp_cutS (fun _ : Unit => ⟨[(9, .hdr 800)], [(800, some (.row 86 3 (R.map cStp)))], none⟩) (fun _ => True) 140 ?_ ?_
    · refine swp_block ?_
      refine swp_loop2 [] (fun z : KY (List M13.Step) => ⟨[(0, .sl 20 (l.map cNo)), (1, .sl 2 (rms.map cRm)), (2, .raw (.int .i64 z.k)), (3, .raw (.int .i64 e)), (9, .hdr 800)], [(800, some (.row 86 3 (z.o.map cStp)))], none⟩) (fun z => ∃ g', g' ≤ g ∧ nst l g' z.k e ∧ z.o ++ stpR l w g' z.k e = R) (fun z => l.length - z.k) 140 ⟨k, []⟩ (by simp only [go_sem, Bool.not_eq_true', Bool.not_eq_false']; rfl) (by simp only [go_sem, Bool.not_eq_true', Bool.not_eq_false', List.map_nil]) ?_ ?_
      · exact ⟨g, Nat.le_refl _, hn, hR⟩
      rintro ⟨kk, o⟩ ⟨g', z1, z2, z3⟩
      simp only at z1 z2 z3
      (refine swp_seqW ?_; simp only [go_sem, Bool.not_eq_true', Bool.not_eq_false'])
      refine ⟨fun h5 => ?_, fun h5 => ?_⟩
      rotate_left
      · have e5 : stpR l w g' kk e = [] := by
          cases g' with
          | zero => rfl
          | succ m => rw [stpR, if_neg h5]
        rw [e5, List.append_nil] at z3
        subst z3
        (refine cut_end [] (()) (by simp only [go_sem, Bool.not_eq_true', Bool.not_eq_false']; rfl) ?_ ?_; (focus (simp only [go_sem, Bool.not_eq_true', Bool.not_eq_false']; done)))
        trivial
      obtain ⟨m, rfl⟩ : ∃ m, g' = m + 1 := by
        cases g' with
        | zero => exact absurd z2 (by simp [nst])
        | succ m => exact ⟨m, rfl⟩
      obtain ⟨u1, u2, u3, u4⟩ := z2.2 h5
      rw [← ndN_siz] at u1 u2 u3 u4
      have hkk : kk < l.length := by omega
      rw [stpR, if_pos h5] at z3
      have hnb := nod_at hP.v hkk
      have hal := alls_ok hP hkk
      have hrk := hrg kk hkk
      have hrec := fun q => steps_ok hP F m (by omega) (kk + 1) ((kk : Int) + (ndN l kk).size) u3 q
      rw [hrr] at hrec
      obtain ⟨sz, hsz⟩ : ∃ sz : Nat, (ndN l kk).size = sz := ⟨(ndN l kk).size.toNat, by omega⟩
      rw [hsz] at u1 u2 u3 u4 z3 hrec
      rw [Int.toNat_natCast] at u4 z3
      have hrec := hrec (by omega)
      generalize stpR l w m (kk + 1) ((kk : Int) + sz) = K at *
      have hman : (allF (ndN l kk).words (ndN l kk).space (rmR l w l.length kk).w).length = manN l w kk := rfl
      generalize hmn : manN l w kk = mn at *
      generalize allF (ndN l kk).words (ndN l kk).space (rmR l w l.length kk).w = runs at *
      generalize rmR l w l.length kk = rm at *
      refine swp_block ?_
      (refine swp_seqW ?_; simp only [go_sem, Bool.not_eq_true', Bool.not_eq_false'])
      refine ⟨by omega, ex_get hkk ?_⟩
      rw [← ndN_get hkk]
      generalize ndN l kk = x at *
      obtain ⟨A1, hA1⟩ : ∃ A1, A1 = (if x.kind = 1 then [(⟨1, x.st.top, x.st.padTop⟩ : M13.Step)] ++ K ++ [⟨2, x.st.bottom, x.st.padBottom⟩] else []) := ⟨_, rfl⟩
      obtain ⟨M3, hM3⟩ : ∃ M3, M3 = (if x.kind = 3 then [(⟨4, x.h, 0⟩ : M13.Step)] else []) := ⟨_, rfl⟩
      have hN : stpN x mn K = A1 ++ List.replicate mn ⟨4, x.line, 0⟩ ++ M3 := by unfold stpN; rw [← hA1, ← hM3]
      rw [hN] at z3
      have hln := congrArg List.length z3
      simp only [List.length_append, List.length_replicate] at hln
      refine swp_cutS (fun _ : Unit => stSt l rms x kk e (o ++ A1) []) (fun _ => True) 260 ?_ ?_
      · (refine swp_seqW ?_; simp only [go_sem, Bool.not_eq_true', Bool.not_eq_false'])
        (refine swp_condW ?_; simp only [go_sem, Bool.not_eq_true', Bool.not_eq_false'])
        refine ⟨fun q => ?_, fun q => ?_⟩
        rotate_left
        · rw [if_neg q] at hA1
          subst hA1
          rw [List.append_nil]
          (refine swp_lastW ?_; simp only [go_sem, Bool.not_eq_true', Bool.not_eq_false'])
          (refine cut_end [] (()) (by simp only [go_sem, Bool.not_eq_true', Bool.not_eq_false']; rfl) ?_ ?_; (focus (simp only [go_sem, Bool.not_eq_true', Bool.not_eq_false']; done)))
          trivial
        rw [if_pos q] at hA1
        have hl1 := congrArg List.length hA1
        simp only [List.length_append, List.length_cons, List.length_nil] at hl1
        have ea : List.map cStp o ++ [[PV.raw (.int .i64 1), PV.raw (.int .i64 x.st.top), PV.raw (.int .i64 x.st.padTop)]] = (o ++ [(⟨1, x.st.top, x.st.padTop⟩ : M13.Step)]).map cStp := by simp [cStp]
        (refine swp_seqW ?_; simp only [go_sem, Bool.not_eq_true', Bool.not_eq_false', List.length_map])
        refine ⟨⟨by omega, by omega⟩, ?_⟩
        rw [ea]
        have ea2 : (o ++ [(⟨1, x.st.top, x.st.padTop⟩ : M13.Step)]).length = o.length + 1 := by simp
        (refine swp_seqW ?_; simp only [go_sem, Bool.not_eq_true', Bool.not_eq_false', hsz, List.length_map])
        refine ⟨⟨by omega, by omega⟩, ⟨by omega, by omega⟩, ?_⟩
        (refine acall2 [] (hrec) (by simp only [go_sem, Bool.not_eq_true', Bool.not_eq_false']; rfl) (fit_of (by simp only [go_sem, Bool.not_eq_true', Bool.not_eq_false']) (by simp only [go_sem, Bool.not_eq_true', Bool.not_eq_false']) (by simp only [go_sem, Bool.not_eq_true', Bool.not_eq_false']) (by simp only [go_sem, Bool.not_eq_true', Bool.not_eq_false']) (by simp only [go_sem, Bool.not_eq_true', Bool.not_eq_false']) (by simp only [go_sem, Bool.not_eq_true', Bool.not_eq_false']) (by simp only [go_sem, Bool.not_eq_true', Bool.not_eq_false'])) ?_; simp only [go_sem, Bool.not_eq_true', Bool.not_eq_false', List.length_map, ea2])
        refine ⟨⟨by omega, by omega⟩, ?_⟩
        rw [← List.map_append]
        have ea3 : ((o ++ [(⟨1, x.st.top, x.st.padTop⟩ : M13.Step)]) ++ K).length = o.length + 1 + K.length := by simp; omega
        have ea4 : List.map cStp ((o ++ [(⟨1, x.st.top, x.st.padTop⟩ : M13.Step)]) ++ K) ++ [[PV.raw (.int .i64 2), PV.raw (.int .i64 x.st.bottom), PV.raw (.int .i64 x.st.padBottom)]] = (o ++ A1).map cStp := by rw [hA1]; simp [cStp]
        generalize (o ++ [(⟨1, x.st.top, x.st.padTop⟩ : M13.Step)]) ++ K = o' at *
        (refine swp_lastW ?_; simp only [go_sem, Bool.not_eq_true', Bool.not_eq_false', List.length_map])
        refine ⟨⟨by omega, by omega⟩, ?_⟩
        rw [ea4]
        (refine cut_end [] (()) (by simp only [go_sem, Bool.not_eq_true', Bool.not_eq_false']; rfl) ?_ ?_; (focus (simp only [go_sem, Bool.not_eq_true', Bool.not_eq_false', hsz]; done)))
        trivial
      rintro - -
      have el1 : (o ++ A1).length = o.length + A1.length := by simp
      generalize hoA : o ++ A1 = o1 at *
      (refine swp_seqW ?_; simp only [go_sem, Bool.not_eq_true', Bool.not_eq_false'])
      refine ⟨⟨by omega, by omega⟩, rm, hrk, ?_⟩
      (refine acall2 [] (hal) (by simp only [go_sem, Bool.not_eq_true', Bool.not_eq_false']; rfl) (fit_of (by simp only [go_sem, Bool.not_eq_true', Bool.not_eq_false']) (by simp only [go_sem, Bool.not_eq_true', Bool.not_eq_false']) (by simp only [go_sem, Bool.not_eq_true', Bool.not_eq_false']) (by simp only [go_sem, Bool.not_eq_true', Bool.not_eq_false']) (by simp only [go_sem, Bool.not_eq_true', Bool.not_eq_false']) (by simp only [go_sem, Bool.not_eq_true', Bool.not_eq_false']) (by simp only [go_sem, Bool.not_eq_true', Bool.not_eq_false'])) ?_; simp only [go_sem, Bool.not_eq_true', Bool.not_eq_false', List.length_map])
      (refine ⟨(show drawB _ _ = true by kernel_rfl), ?_⟩)
      rw [hman]
      refine swp_cutS (fun _ : Unit => stSt l rms x kk e (o1 ++ List.replicate mn ⟨4, x.line, 0⟩) []) (fun _ => True) 300 ?_ ?_
      · (refine swp_seqW ?_; simp only [go_sem, Bool.not_eq_true', Bool.not_eq_false'])
        refine swp_block ?_
        refine swp_loop2 [] (fun i : Nat => stSt l rms x kk e (o1 ++ List.replicate i ⟨4, x.line, 0⟩) [(11, .raw (.int .i64 mn)), (12, .raw (.int .i64 i))]) (fun i => i ≤ mn) (fun i => mn - i) 300 0 (by simp only [go_sem, Bool.not_eq_true', Bool.not_eq_false']; rfl) (by simp only [go_sem, Bool.not_eq_true', Bool.not_eq_false', List.replicate_zero, List.append_nil]) ?_ ?_
        · exact Nat.zero_le _
        intro i hi
        (refine swp_seqW ?_; simp only [go_sem, Bool.not_eq_true', Bool.not_eq_false'])
        refine ⟨fun h6 => ?_, fun h6 => ?_⟩
        rotate_left
        · obtain rfl : i = mn := by omega
          (refine cut_end [] (()) (by simp only [go_sem, Bool.not_eq_true', Bool.not_eq_false']; rfl) ?_ ?_; (focus (simp only [go_sem, Bool.not_eq_true', Bool.not_eq_false']; done)))
          trivial
        have er : List.map cStp (o1 ++ List.replicate i ⟨4, x.line, 0⟩) ++ [[PV.raw (.int .i64 4), PV.raw (.int .i64 x.line), PV.raw (.int .i64 0)]] = (o1 ++ List.replicate (i + 1) (⟨4, x.line, 0⟩ : M13.Step)).map cStp := by rw [List.replicate_succ']; simp [cStp]
        have er2 : (o1 ++ List.replicate i (⟨4, x.line, 0⟩ : M13.Step)).length = o1.length + i := by simp
        refine swp_seqS ?_
        refine swp_block ?_
        (refine swp_lastW ?_; simp only [go_sem, Bool.not_eq_true', Bool.not_eq_false', List.length_map, er2])
        refine ⟨⟨by omega, by omega⟩, ?_⟩
        rw [er]
        (refine swp_lastW ?_; simp only [go_sem, Bool.not_eq_true', Bool.not_eq_false'])
        refine ⟨by omega, ?_⟩
        (refine loop_end [] (i + 1) (by simp only [go_sem, Bool.not_eq_true', Bool.not_eq_false']; rfl) ?_ ?_ ?_; (focus first | omega | (simp only; omega)); (focus (simp only [go_sem, Bool.not_eq_true', Bool.not_eq_false']; done)))
        omega
      rintro - -
      have el2 : (o1 ++ List.replicate mn (⟨4, x.line, 0⟩ : M13.Step)).length = o1.length + mn := by simp
      generalize hoB : o1 ++ List.replicate mn (⟨4, x.line, 0⟩ : M13.Step) = o2 at *
      refine swp_cutS (fun _ : Unit => stSt l rms x kk e (o2 ++ M3) []) (fun _ => True) 340 ?_ ?_
      · (refine swp_seqW ?_; simp only [go_sem, Bool.not_eq_true', Bool.not_eq_false'])
        (refine swp_condW ?_; simp only [go_sem, Bool.not_eq_true', Bool.not_eq_false'])
        refine ⟨fun q => ?_, fun q => ?_⟩
        · rw [if_pos q] at hM3
          have em : List.map cStp o2 ++ [[PV.raw (.int .i64 4), PV.raw (.int .i64 x.h), PV.raw (.int .i64 0)]] = (o2 ++ M3).map cStp := by rw [hM3]; simp [cStp]
          (refine swp_lastW ?_; simp only [go_sem, Bool.not_eq_true', Bool.not_eq_false', List.length_map])
          refine ⟨⟨by omega, by omega⟩, ?_⟩
          rw [em]
          (refine cut_end [] (()) (by simp only [go_sem, Bool.not_eq_true', Bool.not_eq_false']; rfl) ?_ ?_; (focus (simp only [go_sem, Bool.not_eq_true', Bool.not_eq_false']; done)))
          trivial
        · rw [if_neg q] at hM3
          subst hM3
          rw [List.append_nil]
          (refine swp_lastW ?_; simp only [go_sem, Bool.not_eq_true', Bool.not_eq_false'])
          (refine cut_end [] (()) (by simp only [go_sem, Bool.not_eq_true', Bool.not_eq_false']; rfl) ?_ ?_; (focus (simp only [go_sem, Bool.not_eq_true', Bool.not_eq_false']; done)))
          trivial
      rintro - -
      (refine swp_lastW ?_; simp only [go_sem, Bool.not_eq_true', Bool.not_eq_false', hsz])
      refine ⟨⟨by omega, by omega⟩, ?_⟩
      (refine loop_end [] (⟨kk + sz, o2 ++ M3⟩) (by simp only [go_sem, Bool.not_eq_true', Bool.not_eq_false']; rfl) ?_ ?_ ?_; (focus first | omega | (simp only; omega)); (focus (simp only [go_sem, Bool.not_eq_true', Bool.not_eq_false']; done)))
      exact ⟨m, by omega, by simpa using u4, by rw [← z3, ← hoB, ← hoA]; simp⟩
    rintro - -
    (refine swp_lastW ?_; simp only [go_sem, Bool.not_eq_true', Bool.not_eq_false'])
    (refine ret2 [] (by simp only [go_sem, Bool.not_eq_true', Bool.not_eq_false']; rfl) ?_; simp only [go_sem, Bool.not_eq_true', Bool.not_eq_false'])
end Go.Proofs.YtblmebjhhanoaaaGreat
/- CHAPTER 14: what a galley holds, node by node. -/
/- G -/
set_option linter.unusedSimpArgs false
set_option linter.unusedVariables false
namespace Go.Proofs.YtblmebjhhanoaaaGreat
open Go.RowKit

structure OnF (l : List LNo) (j n : Nat) (H : Int) (f : LFl) : Prop where
  node : f.node = j
  side : f.side = (ndN l j).side
  w : f.w = (ndN l j).w
  h : f.h = (ndN l j).h
  anchor : 0 ≤ f.anchor ∧ f.anchor ≤ n
  y : 0 ≤ f.y ∧ f.y + f.h ≤ H
/-- what a galley holds. -/
structure OnG (l : List LNo) (ss : List (List LAt)) (g : LGal) : Prop where
  len : ss.length = l.length
  flat : g.a = ss.flatten
  seg : ∀ j (h : j < ss.length), SegC (ndN l j) j ss[j]
  rise : RiseP 0 g.a g.h
  fl : g.f.length = nF l l.length
  flt : ∀ j, j < l.length → (ndN l j).kind = 4 → ∃ f, g.f[nF l j]? = some f ∧ OnF l j (nA ss j) g.h f
  fy : ∀ q a b, g.f[q]? = some a → g.f[q + 1]? = some b → a.y ≤ b.y
theorem res_len {l : List LNo} {w : Int} (hl : l.length ≤ 60) : (resG l w).a.length ≤ 2000 ∧ (resG l w).f.length ≤ 60 ∧ 0 ≤ (resG l w).h ∧ (resG l w).h ≤ 1099511627776 := by
  unfold resG
  split
  · next q =>
    have hP := errG_ok hl q
    have hA := allS_ok hP
    have h2 := hA.al
    have h3 := hA.fl
    have h4 := hP.ps
    have h5 := hP.hi
    have h6 := hA.y
    have h7 := hA.m
    have h8 := hA.b
    have h9 := hgtS_bd (B := 1099511627776) (allS l w).f (atP (allS l w).p) (by unfold atP; omega) (fun f hf => by
      have := (hA.fs f hf).y
      have := (hA.fs f hf).h
      omega)
    unfold pall at h4
    simp only [endG, List.length_map]
    omega
  · simp
end Go.Proofs.YtblmebjhhanoaaaGreat
/- CHAPTER 14: flow: the walker: atoms, texts, boxes, floats. -/
/- G -/
/- BOOLS -/
set_option linter.unusedSimpArgs false
set_option linter.unusedVariables false
namespace Go.Proofs.YtblmebjhhanoaaaGreat
open Go.RowKit

abbrev wkO (l : List LNo) (w : Int) (p : LPen) (a f : Nat) (h : Int) : AO := .cells 67 [.hdr a, .hdr f, .raw (.int .i64 h), .raw (.int .i64 p.y), .raw (.int .i64 p.m), .sl 20 (l.map cNo), .sl 2 ((rmsR l w l.length).map cRm)]
theorem rmsR_get {l : List LNo} {w : Int} {k : Nat} (hk : k < l.length) : (rmsR l w l.length)[k]? = some (rmR l w l.length k) := by
  unfold rmsR
  rw [List.getElem?_map, List.getElem?_range hk]
  rfl
set_option maxRecDepth 100000 in
theorem win_ok {l : List LNo} {w : Int} (hP : FlwP l w) (p : LPen) (h : Int) {k : Nat} (hk : k < l.length) : FnOk Tryz.prog 89 [.hdr 0, .raw (.int .i64 k)] [(0, wkO l w p 1 2 h)] (aSpan (spK l w k)) [(0, wkO l w p 1 2 h)] := by
  obtain ⟨r1, r2, r3, r4⟩ := rmR_ok' hP k
  have hlen := hP.len
  have hln := rmsR_len l w l.length
  refine fn_of_awp Tryz.func89 rfl (by kernel_rfl) (by kernel_rfl) (Nat.le_of_ble_eq_true rfl) Tryz.results89 ?_
  simp only [go_sem, Bool.not_eq_true', Bool.not_eq_false', List.length_map, hln]
  refine ⟨by omega, _, rmsR_get hk, by omega, ?_⟩
  (refine ret2 [] (by simp only [go_sem, Bool.not_eq_true', Bool.not_eq_false', spK_a, spK_b]; rfl) ?_; simp only [go_sem, Bool.not_eq_true', Bool.not_eq_false', spK_a, spK_b])
set_option maxRecDepth 100000 in
theorem pput2_ok (p : LPen) (a b : Int) (h : (-4503599627370496 ≤ a ∧ a ≤ 4503599627370496) ∧ (-4503599627370496 ≤ b ∧ b ≤ 4503599627370496)) : FnOk Tryz.prog 43 [aPen p, .raw (.int .i64 a), .raw (.int .i64 b)] [] (.agg [.raw (.int .i64 (a + b)), .raw (.int .i64 0)]) [] := by
  refine fn_of_awp Tryz.func43 rfl (by kernel_rfl) (by kernel_rfl) (Nat.le_of_ble_eq_true rfl) Tryz.results43 ?_
  simp only [go_sem, Bool.not_eq_true', Bool.not_eq_false']
  repeat' first | contradiction | intro _ | refine And.intro ?_ ?_ | refine ex_get (by omega) ?_ | (show drawB _ _ = true; kernel_rfl) | (refine ret2 [] (by simp only [go_sem, Bool.not_eq_true', Bool.not_eq_false']; rfl) ?_; simp only [go_sem, Bool.not_eq_true', Bool.not_eq_false'])
  all_goals omega
set_option maxRecDepth 100000 in
theorem wput_ok (l : List LNo) (w : Int) (s : LGs) (a : LAt) (h : Int) (hl : s.a.length ≤ 4000) (ha : -4611686018427387904 ≤ a.y + a.h ∧ a.y + a.h ≤ 4611686018427387904) (hy : (-4503599627370496 ≤ a.y ∧ a.y ≤ 4503599627370496) ∧ (-4503599627370496 ≤ a.h ∧ a.h ≤ 4503599627370496)) : FnOk Tryz.prog 90 [.hdr 0, aAt a] [(0, wkO l w s.p 1 2 h), (1, rowA s)] (.tup []) [(0, wkO l w ⟨a.y + a.h, 0⟩ 8 2 h), (8, .row 47 8 ((s.a ++ [a]).map cAt))] := by
  have em : List.map cAt s.a ++ [cAt a] = List.map cAt (s.a ++ [a]) := by simp
  simp only [cAt] at em
  refine fn_of_swp Tryz.func90 rfl (by kernel_rfl) (by kernel_rfl) (Nat.le_of_ble_eq_true rfl) Tryz.results90 ?_
  (refine swp_seqW ?_; simp only [go_sem, Bool.not_eq_true', Bool.not_eq_false'])
  (refine swp_seqW ?_; simp only [go_sem, Bool.not_eq_true', Bool.not_eq_false', List.length_map])
  repeat' first | contradiction | intro _ | refine And.intro ?_ ?_ | refine ex_get (by omega) ?_ | (show drawB _ _ = true; kernel_rfl) | (refine ret2 [] (by simp only [go_sem, Bool.not_eq_true', Bool.not_eq_false']; rfl) ?_; simp only [go_sem, Bool.not_eq_true', Bool.not_eq_false'])
  all_goals try omega
  rw [em]
  (refine swp_lastW ?_; simp only [go_sem, Bool.not_eq_true', Bool.not_eq_false'])
  (refine acall2 [] (pput2_ok s.p a.y a.h hy) (by simp only [go_sem, Bool.not_eq_true', Bool.not_eq_false']; rfl) (fit_of (by simp only [go_sem, Bool.not_eq_true', Bool.not_eq_false']) (by simp only [go_sem, Bool.not_eq_true', Bool.not_eq_false']) (by simp only [go_sem, Bool.not_eq_true', Bool.not_eq_false']) (by simp only [go_sem, Bool.not_eq_true', Bool.not_eq_false']) (by simp only [go_sem, Bool.not_eq_true', Bool.not_eq_false']) (by simp only [go_sem, Bool.not_eq_true', Bool.not_eq_false']) (by simp only [go_sem, Bool.not_eq_true', Bool.not_eq_false'])) ?_; simp only [go_sem, Bool.not_eq_true', Bool.not_eq_false'])
  repeat' first | contradiction | intro _ | refine And.intro ?_ ?_ | refine ex_get (by omega) ?_ | (show drawB _ _ = true; kernel_rfl) | (refine ret2 [] (by simp only [go_sem, Bool.not_eq_true', Bool.not_eq_false']; rfl) ?_; simp only [go_sem, Bool.not_eq_true', Bool.not_eq_false'])
  all_goals skip
end Go.Proofs.YtblmebjhhanoaaaGreat
/- CHAPTER 14: flow: the walker lays nodes out. -/
/- G -/
/- BOOLS -/
set_option linter.unusedSimpArgs false
set_option linter.unusedVariables false
namespace Go.Proofs.YtblmebjhhanoaaaGreat
open Go.RowKit

set_option maxRecDepth 100000 in
set_option maxHeartbeats 8000000 in
theorem wtext_ok {l : List LNo} {w : Int} (hP : FlwP l w) {k : Nat} {s : LGs} {B : Int} (hk : k < l.length) (q : (ndN l k).kind = 2) (hs : GsOk l B k s) (hB : B + (hall l - hsN l k) ≤ 1099511627776) :
    FnOk Tryz.prog 61 [.hdr 0, .raw (.int .i64 k)] [(0, wkO l w s.p 1 2 0), (1, rowA s), (2, rowF s)] (.tup []) [(0, wkO l w (txtG (spK l w k) k (ndN l k) s).p 8 9 0), (8, rowA (txtG (spK l w k) k (ndN l k) s)), (9, rowF (txtG (spK l w k) k (ndN l k) s))] := by
  have hnb := nod_at hP.v hk
  have hlen := hP.len
  have hsp := hP.sp k
  have hmono := hs_mono hP.v (show k ≤ l.length by omega) (Nat.le_refl _)
  have hB1 : B ≤ 1099511627776 := by unfold hall at hB; omega
  have hat := hs.at hB1
  have hb := nodB_txt hnb q
  have hln := hb.line
  have hwo := wor_ok hP hk rfl hb q
  have hh1 := hsN_succ hk
  have e1 : hgtN (ndN l k) = (ndN l k).line * (ndN l k).words.length := by unfold hgtN; rw [if_neg (by omega), if_pos q]
  have hmono1 := hs_mono hP.v (show k + 1 ≤ l.length by omega) (Nat.le_refl _)
  have hta := tex_all (ws := (ndN l k).words) (sp := (ndN l k).space) (s := spK l w k) hln.1 (fun g hg => (hs.fs g hg).y.2) (ndN l k).words.length 0 (atP s.p) B (Nat.zero_le _) hs.b (Int.le_refl _)
  have e0 : ((ndN l k).words.length : Int) - (0 : Nat) = (ndN l k).words.length := by omega
  rw [e0, ← e1] at hta
  unfold hall at hB
  have hal := hs.al
  have hps := ps_mono (l := l) (show k ≤ l.length by omega) (Nat.le_refl _)
  have hpa := hP.ps
  have hwl := hwo.len
  unfold pall at hpa
  have htl : (texF s.f (ndN l k).words (ndN l k).space (ndN l k).line (atP s.p) (spK l w k)).length ≤ (ndN l k).words.length := tex_len _ _ _
  have htx := text12_ok s.f (ndN l k).words (ndN l k).space (ndN l k).line (atP s.p) (spK l w k) (hs.lin hB1 (by omega) ⟨by omega, by omega⟩ hsp) hwo ⟨by omega, by omega⟩ ⟨by omega, by omega⟩
  have etx : txtG (spK l w k) k (ndN l k) s = (texF s.f (ndN l k).words (ndN l k).space (ndN l k).line (atP s.p) (spK l w k)).foldl (setG k (ndN l k).line) s := rfl
  rw [etx]
  have hta : ∀ z ∈ texF s.f (ndN l k).words (ndN l k).space (ndN l k).line (atP s.p) (spK l w k), atP s.p ≤ z.y ∧ z.y + (ndN l k).line ≤ B + hgtN (ndN l k) := hta
  have hpy := hs.y
  have hpm := hs.m
  have hpb := hs.b
  have hpn := tex_pen (l := s.f) (ws := (ndN l k).words) (sp := (ndN l k).space) (s := spK l w k) (k := k) hln.1 (fun g hg => (hs.fs g hg).y.2)
  generalize texF s.f (ndN l k).words (ndN l k).space (ndN l k).line (atP s.p) (spK l w k) = T at *
  clear hpn
  refine fn_of_swp Tryz.func61 rfl (by kernel_rfl) (by kernel_rfl) (Nat.le_of_ble_eq_true rfl) Tryz.results61 ?_
  (refine swp_seqW ?_; simp only [go_sem, Bool.not_eq_true', Bool.not_eq_false'])
  refine ⟨by omega, ex_get hk ?_⟩
  rw [← ndN_get hk]
  (refine swp_seqW ?_; simp only [go_sem, Bool.not_eq_true', Bool.not_eq_false'])
  (refine acall2 [] (pat_ok s.p ⟨by omega, by omega, by omega, by omega⟩) (by simp only [go_sem, Bool.not_eq_true', Bool.not_eq_false']; rfl) (fit_of (by simp only [go_sem, Bool.not_eq_true', Bool.not_eq_false']) (by simp only [go_sem, Bool.not_eq_true', Bool.not_eq_false']) (by simp only [go_sem, Bool.not_eq_true', Bool.not_eq_false']) (by simp only [go_sem, Bool.not_eq_true', Bool.not_eq_false']) (by simp only [go_sem, Bool.not_eq_true', Bool.not_eq_false']) (by simp only [go_sem, Bool.not_eq_true', Bool.not_eq_false']) (by simp only [go_sem, Bool.not_eq_true', Bool.not_eq_false'])) ?_; simp only [go_sem, Bool.not_eq_true', Bool.not_eq_false'])
  (refine acallR2 [0 ] [] ( win_ok hP s.p 0 hk) (by simp only [go_sem, Bool.not_eq_true', Bool.not_eq_false']; rfl) (fit_of (by simp only [go_sem, Bool.not_eq_true', Bool.not_eq_false']) (by simp only [go_sem, Bool.not_eq_true', Bool.not_eq_false']) (by simp only [go_sem, Bool.not_eq_true', Bool.not_eq_false']) (by simp only [go_sem, Bool.not_eq_true', Bool.not_eq_false']) (by simp only [go_sem, Bool.not_eq_true', Bool.not_eq_false']) (by simp only [go_sem, Bool.not_eq_true', Bool.not_eq_false']) (by simp only [go_sem, Bool.not_eq_true', Bool.not_eq_false'])) (by simp only [go_sem, Bool.not_eq_true', Bool.not_eq_false', callEff]; first | done | kernel_rfl) ?_; simp only [go_sem, Bool.not_eq_true', Bool.not_eq_false'])
  rw [show atP s.p = s.p.y + s.p.m from rfl] at htx
  (refine acall2 [2 ] ( htx) (by simp only [go_sem, Bool.not_eq_true', Bool.not_eq_false']; rfl) (fit_of (by simp only [go_sem, Bool.not_eq_true', Bool.not_eq_false']) (by simp only [go_sem, Bool.not_eq_true', Bool.not_eq_false']) (by simp only [go_sem, Bool.not_eq_true', Bool.not_eq_false']) (by simp only [go_sem, Bool.not_eq_true', Bool.not_eq_false']) (by simp only [go_sem, Bool.not_eq_true', Bool.not_eq_false']) (by simp only [go_sem, Bool.not_eq_true', Bool.not_eq_false']) (by simp only [go_sem, Bool.not_eq_true', Bool.not_eq_false'])) ?_; simp only [go_sem, Bool.not_eq_true', Bool.not_eq_false'])
  (refine ⟨(show drawB _ _ = true by kernel_rfl), ?_⟩)
  refine swp_block ?_
  refine swp_loop2 [] (fun i : Nat => ⟨[(0, .hdr 0), (1, .raw (.int .i64 k)), (4, .hdr 800), (33, .hdr 801), (34, .raw (.int .i64 T.length)), (35, .raw (.int .i64 i))], [(0, some (wkO l w ((T.take i).foldl (setG k (ndN l k).line) s).p 802 803 0)), (802, some (rowA ((T.take i).foldl (setG k (ndN l k).line) s))), (803, some (rowF ((T.take i).foldl (setG k (ndN l k).line) s))), (800, some (.cells 56 (lNo (ndN l k)))), (801, some (.row 116 5 (T.map cSet)))], none⟩) (fun i => i ≤ T.length) (fun i => T.length - i) 120 0 (by simp only [go_sem, Bool.not_eq_true', Bool.not_eq_false']; rfl) (by simp only [go_sem, Bool.not_eq_true', Bool.not_eq_false', List.length_map, List.take_zero, List.foldl_nil]) ?_ ?_
  · exact Nat.zero_le _
  intro i hi
  have hfo := setG_fold k (ndN l k).line (T.take i) s
  (refine swp_seqW ?_; simp only [go_sem, Bool.not_eq_true', Bool.not_eq_false'])
  (refine swp_seqW ?_; simp only [go_sem, Bool.not_eq_true', Bool.not_eq_false'])
  refine ⟨fun h5 => ?_, fun h5 => ?_⟩
  · have hit : i < T.length := by omega
    have hst := take_setG (k := k) (H := (ndN l k).line) (s := s) hit
    have hti := hta T[i] (List.getElem_mem hit)
    generalize hZ : T[i] = z at hst hti
    have hal2 : ((T.take i).foldl (setG k (ndN l k).line) s).a.length ≤ 4000 := by rw [hfo.1, List.length_append, List.length_map, List.length_take]; omega
    generalize (T.take i).foldl (setG k (ndN l k).line) s = s2 at hst hal2 ⊢
    have hput := wput_ok l w s2 ⟨1, k, z.f, z.t, z.x, z.y, z.w, (ndN l k).line⟩ 0 hal2 ⟨by simp only; omega, by simp only; omega⟩ ⟨⟨by simp only; omega, by simp only; omega⟩, ⟨by simp only; omega, by simp only; omega⟩⟩
    dsimp only at hput
    have hst : List.foldl (setG k (ndN l k).line) s (List.take (i + 1) T) = ⟨s2.a ++ [⟨1, k, z.f, z.t, z.x, z.y, z.w, (ndN l k).line⟩], s2.f, ⟨z.y + (ndN l k).line, 0⟩⟩ := hst
    refine swp_seqS ?_
    refine swp_block ?_
    (refine swp_seqW ?_; simp only [go_sem, Bool.not_eq_true', Bool.not_eq_false', List.length_map])
    refine ⟨by omega, ex_get hit ?_⟩
    rw [hZ]
    (refine swp_lastW ?_; simp only [go_sem, Bool.not_eq_true', Bool.not_eq_false'])
    (refine acall2 [] (hput) (by simp only [go_sem, Bool.not_eq_true', Bool.not_eq_false']; rfl) (fit_of (by simp only [go_sem, Bool.not_eq_true', Bool.not_eq_false']) (by simp only [go_sem, Bool.not_eq_true', Bool.not_eq_false']) (by simp only [go_sem, Bool.not_eq_true', Bool.not_eq_false']) (by simp only [go_sem, Bool.not_eq_true', Bool.not_eq_false']) (by simp only [go_sem, Bool.not_eq_true', Bool.not_eq_false']) (by simp only [go_sem, Bool.not_eq_true', Bool.not_eq_false']) (by simp only [go_sem, Bool.not_eq_true', Bool.not_eq_false'])) ?_; simp only [go_sem, Bool.not_eq_true', Bool.not_eq_false'])
    (refine swp_lastW ?_; simp only [go_sem, Bool.not_eq_true', Bool.not_eq_false'])
    refine ⟨by omega, ?_⟩
    (refine loop_end [] (i + 1) (by simp only [go_sem, Bool.not_eq_true', Bool.not_eq_false']; rfl) ?_ ?_ ?_; (focus first | omega | (simp only; omega)); (focus (simp only [go_sem, Bool.not_eq_true', Bool.not_eq_false', hst]; done)))
    omega
  · obtain rfl : i = T.length := by omega
    rw [List.take_length]
    (refine ret2 [] (by simp only [go_sem, Bool.not_eq_true', Bool.not_eq_false']; rfl) ?_; simp only [go_sem, Bool.not_eq_true', Bool.not_eq_false'])
set_option maxRecDepth 100000 in
set_option maxHeartbeats 8000000 in
theorem wmono_ok {l : List LNo} {w : Int} (hP : FlwP l w) {k : Nat} {s : LGs} {B : Int} (hk : k < l.length) (q : (ndN l k).kind = 3) (hs : GsOk l B k s) (hB : B + (hall l - hsN l k) ≤ 1099511627776) :
    FnOk Tryz.prog 62 [.hdr 0, .raw (.int .i64 k)] [(0, wkO l w s.p 1 2 0), (1, rowA s), (2, rowF s)] (.tup []) [(0, wkO l w (monG (spK l w k) k (ndN l k) s).p 8 9 0), (8, rowA (monG (spK l w k) k (ndN l k) s)), (9, rowF (monG (spK l w k) k (ndN l k) s))] := by
  have hnb := nod_at hP.v hk
  have hlen := hP.len
  have hsp := hP.sp k
  have hmono := hs_mono hP.v (show k ≤ l.length by omega) (Nat.le_refl _)
  have hB1 : B ≤ 1099511627776 := by unfold hall at hB; omega
  have hat := hs.at hB1
  have hb := nodB_mono hnb q
  have hxh := hb.h
  have hal := hs.al
  have hps := ps_mono (l := l) (show k ≤ l.length by omega) (Nat.le_refl _)
  have hpa := hP.ps
  unfold pall at hpa
  have hpy := hs.y
  have hpm := hs.m
  have hpb := hs.b
  have hro := room12_ok s.f (ndN l k).w (ndN l k).h (atP s.p) (spK l w k) (hs.lin hB1 (by omega) ⟨by omega, by omega⟩ hsp) ⟨by omega, by omega⟩
  have hy1 := rom_ge s.f (ndN l k).w (ndN l k).h (atP s.p) (spK l w k)
  have hy2 := rom_le (w := (ndN l k).w) (H := (ndN l k).h) (s := spK l w k) (y := atP s.p) hs.b (fun g hg => (hs.fs g hg).y.2)
  have emo : monG (spK l w k) k (ndN l k) s = ⟨s.a ++ [⟨2, k, 0, 0, (bandF s.f (romY s.f (ndN l k).w (ndN l k).h (atP s.p) (spK l w k)) (ndN l k).h (spK l w k)).a, romY s.f (ndN l k).w (ndN l k).h (atP s.p) (spK l w k), (ndN l k).w, (ndN l k).h⟩], s.f, ⟨romY s.f (ndN l k).w (ndN l k).h (atP s.p) (spK l w k) + (ndN l k).h, 0⟩⟩ := rfl
  rw [emo]
  unfold aRoo at hro
  generalize romY s.f (ndN l k).w (ndN l k).h (atP s.p) (spK l w k) = Y at *
  generalize bandF s.f Y (ndN l k).h (spK l w k) = bd at *
  rw [show atP s.p = s.p.y + s.p.m from rfl] at hro
  have hput := wput_ok l w s ⟨2, k, 0, 0, bd.a, Y, (ndN l k).w, (ndN l k).h⟩ 0 (by omega) ⟨by simp only; omega, by simp only; omega⟩ ⟨⟨by simp only; omega, by simp only; omega⟩, ⟨by simp only; omega, by simp only; omega⟩⟩
  dsimp only at hput
  refine fn_of_swp Tryz.func62 rfl (by kernel_rfl) (by kernel_rfl) (Nat.le_of_ble_eq_true rfl) Tryz.results62 ?_
  (refine swp_seqW ?_; simp only [go_sem, Bool.not_eq_true', Bool.not_eq_false'])
  refine ⟨by omega, ex_get hk ?_⟩
  rw [← ndN_get hk]
  (refine swp_seqW ?_; simp only [go_sem, Bool.not_eq_true', Bool.not_eq_false'])
  (refine acall2 [] (pat_ok s.p ⟨by omega, by omega, by omega, by omega⟩) (by simp only [go_sem, Bool.not_eq_true', Bool.not_eq_false']; rfl) (fit_of (by simp only [go_sem, Bool.not_eq_true', Bool.not_eq_false']) (by simp only [go_sem, Bool.not_eq_true', Bool.not_eq_false']) (by simp only [go_sem, Bool.not_eq_true', Bool.not_eq_false']) (by simp only [go_sem, Bool.not_eq_true', Bool.not_eq_false']) (by simp only [go_sem, Bool.not_eq_true', Bool.not_eq_false']) (by simp only [go_sem, Bool.not_eq_true', Bool.not_eq_false']) (by simp only [go_sem, Bool.not_eq_true', Bool.not_eq_false'])) ?_; simp only [go_sem, Bool.not_eq_true', Bool.not_eq_false'])
  (refine acallR2 [0 ] [] ( win_ok hP s.p 0 hk) (by simp only [go_sem, Bool.not_eq_true', Bool.not_eq_false']; rfl) (fit_of (by simp only [go_sem, Bool.not_eq_true', Bool.not_eq_false']) (by simp only [go_sem, Bool.not_eq_true', Bool.not_eq_false']) (by simp only [go_sem, Bool.not_eq_true', Bool.not_eq_false']) (by simp only [go_sem, Bool.not_eq_true', Bool.not_eq_false']) (by simp only [go_sem, Bool.not_eq_true', Bool.not_eq_false']) (by simp only [go_sem, Bool.not_eq_true', Bool.not_eq_false']) (by simp only [go_sem, Bool.not_eq_true', Bool.not_eq_false'])) (by simp only [go_sem, Bool.not_eq_true', Bool.not_eq_false', callEff]; first | done | kernel_rfl) ?_; simp only [go_sem, Bool.not_eq_true', Bool.not_eq_false'])
  (refine acall2 [2 ] ( hro) (by simp only [go_sem, Bool.not_eq_true', Bool.not_eq_false']; rfl) (fit_of (by simp only [go_sem, Bool.not_eq_true', Bool.not_eq_false']) (by simp only [go_sem, Bool.not_eq_true', Bool.not_eq_false']) (by simp only [go_sem, Bool.not_eq_true', Bool.not_eq_false']) (by simp only [go_sem, Bool.not_eq_true', Bool.not_eq_false']) (by simp only [go_sem, Bool.not_eq_true', Bool.not_eq_false']) (by simp only [go_sem, Bool.not_eq_true', Bool.not_eq_false']) (by simp only [go_sem, Bool.not_eq_true', Bool.not_eq_false'])) ?_; simp only [go_sem, Bool.not_eq_true', Bool.not_eq_false'])
  (refine ⟨(show drawB _ _ = true by kernel_rfl), ?_⟩)
  (refine swp_lastW ?_; simp only [go_sem, Bool.not_eq_true', Bool.not_eq_false'])
  (refine acall2 [] (hput) (by simp only [go_sem, Bool.not_eq_true', Bool.not_eq_false']; rfl) (fit_of (by simp only [go_sem, Bool.not_eq_true', Bool.not_eq_false']) (by simp only [go_sem, Bool.not_eq_true', Bool.not_eq_false']) (by simp only [go_sem, Bool.not_eq_true', Bool.not_eq_false']) (by simp only [go_sem, Bool.not_eq_true', Bool.not_eq_false']) (by simp only [go_sem, Bool.not_eq_true', Bool.not_eq_false']) (by simp only [go_sem, Bool.not_eq_true', Bool.not_eq_false']) (by simp only [go_sem, Bool.not_eq_true', Bool.not_eq_false'])) ?_; simp only [go_sem, Bool.not_eq_true', Bool.not_eq_false'])
  (refine ret2 [] (by simp only [go_sem, Bool.not_eq_true', Bool.not_eq_false']; rfl) ?_; simp only [go_sem, Bool.not_eq_true', Bool.not_eq_false'])
set_option maxRecDepth 100000 in
set_option maxHeartbeats 8000000 in
theorem wfloat_ok {l : List LNo} {w : Int} (hP : FlwP l w) {k : Nat} {s : LGs} {B : Int} (hk : k < l.length) (q : (ndN l k).kind = 4) (hs : GsOk l B k s) (hB : B + (hall l - hsN l k) ≤ 1099511627776) :
    FnOk Tryz.prog 63 [.hdr 0, .raw (.int .i64 k)] [(0, wkO l w s.p 1 2 0), (1, rowA s), (2, rowF s)] (.tup []) [(0, wkO l w (fltG (spK l w k) k (ndN l k) s).p 8 9 0), (8, rowA (fltG (spK l w k) k (ndN l k) s)), (9, rowF (fltG (spK l w k) k (ndN l k) s))] := by
  have hnb := nod_at hP.v hk
  have hlen := hP.len
  have hsp := hP.sp k
  have hmono := hs_mono hP.v (show k ≤ l.length by omega) (Nat.le_refl _)
  have hB1 : B ≤ 1099511627776 := by unfold hall at hB; omega
  have hat := hs.at hB1
  obtain ⟨hb, hsd⟩ := nodB_flt hnb q
  have hal := hs.al
  have hps := ps_mono (l := l) (show k ≤ l.length by omega) (Nat.le_refl _)
  have hpa := hP.ps
  unfold pall at hpa
  have hpy := hs.y
  have hpm := hs.m
  have hpb := hs.b
  have hpu := put11_ok s.f (newF k (ndN l k) s) (atP s.p) (spK l w k) (hs.pla hB1 (by omega) hb hsp)
  have efl : fltG (spK l w k) k (ndN l k) s = ⟨s.a, putP s.f (newF k (ndN l k) s) (atP s.p) (spK l w k), s.p⟩ := rfl
  rw [efl]
  generalize putP s.f (newF k (ndN l k) s) (atP s.p) (spK l w k) = f2 at hpu ⊢
  have enf : newF k (ndN l k) s = ⟨k, (ndN l k).side, s.a.length, 0, 0, (ndN l k).w, (ndN l k).h⟩ := rfl
  rw [enf, show atP s.p = s.p.y + s.p.m from rfl] at hpu
  refine fn_of_swp Tryz.func63 rfl (by kernel_rfl) (by kernel_rfl) (Nat.le_of_ble_eq_true rfl) Tryz.results63 ?_
  (refine swp_seqW ?_; simp only [go_sem, Bool.not_eq_true', Bool.not_eq_false'])
  refine ⟨by omega, ex_get hk ?_⟩
  rw [← ndN_get hk]
  (refine swp_seqW ?_; simp only [go_sem, Bool.not_eq_true', Bool.not_eq_false', List.length_map])
  repeat' first | contradiction | intro _ | refine And.intro ?_ ?_ | refine ex_get (by omega) ?_ | (show drawB _ _ = true; kernel_rfl) | (refine ret2 [] (by simp only [go_sem, Bool.not_eq_true', Bool.not_eq_false']; rfl) ?_; simp only [go_sem, Bool.not_eq_true', Bool.not_eq_false'])
  all_goals try omega
  (refine swp_lastW ?_; simp only [go_sem, Bool.not_eq_true', Bool.not_eq_false'])
  (refine acall2 [] (pat_ok s.p ⟨by omega, by omega, by omega, by omega⟩) (by simp only [go_sem, Bool.not_eq_true', Bool.not_eq_false']; rfl) (fit_of (by simp only [go_sem, Bool.not_eq_true', Bool.not_eq_false']) (by simp only [go_sem, Bool.not_eq_true', Bool.not_eq_false']) (by simp only [go_sem, Bool.not_eq_true', Bool.not_eq_false']) (by simp only [go_sem, Bool.not_eq_true', Bool.not_eq_false']) (by simp only [go_sem, Bool.not_eq_true', Bool.not_eq_false']) (by simp only [go_sem, Bool.not_eq_true', Bool.not_eq_false']) (by simp only [go_sem, Bool.not_eq_true', Bool.not_eq_false'])) ?_; simp only [go_sem, Bool.not_eq_true', Bool.not_eq_false'])
  (refine acallR2 [0 ] [] ( win_ok hP s.p 0 hk) (by simp only [go_sem, Bool.not_eq_true', Bool.not_eq_false']; rfl) (fit_of (by simp only [go_sem, Bool.not_eq_true', Bool.not_eq_false']) (by simp only [go_sem, Bool.not_eq_true', Bool.not_eq_false']) (by simp only [go_sem, Bool.not_eq_true', Bool.not_eq_false']) (by simp only [go_sem, Bool.not_eq_true', Bool.not_eq_false']) (by simp only [go_sem, Bool.not_eq_true', Bool.not_eq_false']) (by simp only [go_sem, Bool.not_eq_true', Bool.not_eq_false']) (by simp only [go_sem, Bool.not_eq_true', Bool.not_eq_false'])) (by simp only [go_sem, Bool.not_eq_true', Bool.not_eq_false', callEff]; first | done | kernel_rfl) ?_; simp only [go_sem, Bool.not_eq_true', Bool.not_eq_false'])
  (refine acall2 [2 ] ( hpu) (by simp only [go_sem, Bool.not_eq_true', Bool.not_eq_false']; rfl) (fit_of (by simp only [go_sem, Bool.not_eq_true', Bool.not_eq_false']) (by simp only [go_sem, Bool.not_eq_true', Bool.not_eq_false']) (by simp only [go_sem, Bool.not_eq_true', Bool.not_eq_false']) (by simp only [go_sem, Bool.not_eq_true', Bool.not_eq_false']) (by simp only [go_sem, Bool.not_eq_true', Bool.not_eq_false']) (by simp only [go_sem, Bool.not_eq_true', Bool.not_eq_false']) (by simp only [go_sem, Bool.not_eq_true', Bool.not_eq_false'])) ?_; simp only [go_sem, Bool.not_eq_true', Bool.not_eq_false'])
  (refine ⟨(show drawB _ _ = true by kernel_rfl), ?_⟩)
  (refine ret2 [] (by simp only [go_sem, Bool.not_eq_true', Bool.not_eq_false']; rfl) ?_; simp only [go_sem, Bool.not_eq_true', Bool.not_eq_false'])
end Go.Proofs.YtblmebjhhanoaaaGreat
/- CHAPTER 14: flow: the walker lays rows of nodes out. -/
/- G -/
/- BOOLS -/
set_option linter.unusedSimpArgs false
set_option linter.unusedVariables false
namespace Go.Proofs.YtblmebjhhanoaaaGreat
open Go.RowKit

abbrev wkS (l : List LNo) (w : Int) (s : LGs) (a f : Nat) : List (Nat × AO) := [(0, wkO l w s.p a f 0), (a, rowA s), (f, rowF s)]
set_option maxRecDepth 100000 in
set_option maxHeartbeats 8000000 in
theorem wblock_ok {l : List LNo} {w : Int} (hP : FlwP l w) {k : Nat} {s : LGs} {B : Int} (hk : k < l.length) (q : (ndN l k).kind = 1) (hs : GsOk l B k s) (hB : B + (hall l - hsN l k) ≤ 1099511627776) {g : Nat} (hn : nst l g (k + 1) (k + (ndN l k).size))
    (hrow : ∀ s', GsOk l (B + (ndN l k).st.top + (ndN l k).st.padTop) (k + 1) s' → FnOk Tryz.prog 26 [.hdr 0, .raw (.int .i64 ((k : Int) + 1)), .raw (.int .i64 (k + (ndN l k).size))] (wkS l w s' 1 2) (.tup []) (wkS l w (rowG l w g (k + 1) (k + (ndN l k).size) s') 8 9)) :
    FnOk Tryz.prog 60 [.hdr 0, .raw (.int .i64 k)] (wkS l w s 1 2) (.tup []) (wkS l w (lvG (ndN l k) (rowG l w g (k + 1) (k + (ndN l k).size) (entG (ndN l k) s))) 8 9) := by
  have hnb := nod_at hP.v hk
  have hlen := hP.len
  have hmono := hs_mono hP.v (show k ≤ l.length by omega) (Nat.le_refl _)
  have hB1 : B ≤ 1099511627776 := by unfold hall at hB; omega
  have hat := hs.at hB1
  have hb := nodB_blk hnb q
  have hclr := clr_bd (ndN l k) hs
  have hent := ent_ok hk hb hs
  have hh1 := hsN_succ hk
  have e1 : hgtN (ndN l k) = (ndN l k).st.top + (ndN l k).st.bottom + (ndN l k).st.padTop + (ndN l k).st.padBottom + (ndN l k).st.head := by unfold hgtN; rw [if_pos q]
  have hclt : (lowO (ndN l k).st.clear s.f).is = true → clrG (ndN l k) s = penC s.p (lowO (ndN l k).st.clear s.f).n := fun w => if_pos w
  have hclf : ¬ (lowO (ndN l k).st.clear s.f).is = true → clrG (ndN l k) s = s.p := fun w => if_neg w
  have hlo : (lowO (ndN l k).st.clear s.f).is = true → 0 ≤ (lowO (ndN l k).st.clear s.f).n ∧ (lowO (ndN l k).st.clear s.f).n ≤ B := fun w => by
    obtain ⟨f, hf, e⟩ := most_at w
    have e : (lowO (ndN l k).st.clear s.f).n = f.y + f.h := e
    have h4 := (hs.fs f hf).y
    have h5 := (hs.fs f hf).h
    omega
  have hne := hs.near hB1 (show k ≤ 60 by omega)
  have hfl := hs.fl
  have hy := hs.y
  have hm := hs.m
  have hbb := hs.b
  have ersz := isS_lam hP.v
  have hL1 := ersz.pos k hk
  have hL2 := ersz.fin k hk
  rw [← ndN_siz] at hL1 hL2
  have hlc : FnOk Tryz.prog 64 [.sl 7 (s.f.map cFl), .raw (.int .i64 (ndN l k).st.clear)] [] (aIs (lowO (ndN l k).st.clear s.f)) [] := blow_ok s.f (ndN l k).st.clear (by omega) hne
  refine fn_of_swp Tryz.func60 rfl (by kernel_rfl) (by kernel_rfl) (Nat.le_of_ble_eq_true rfl) Tryz.results60 ?_
  (refine swp_seqW ?_; simp only [go_sem, Bool.not_eq_true', Bool.not_eq_false'])
  refine ⟨by omega, ex_get hk ?_⟩
  rw [← ndN_get hk]
  refine swp_cutS (fun _ : Unit => ⟨[(0, .hdr 0), (1, .raw (.int .i64 k)), (4, .hdr 800)], [(0, some (wkO l w (clrG (ndN l k) s) 1 2 0)), (1, some (rowA s)), (2, some (rowF s)), (800, some (.cells 54 (lSty (ndN l k).st)))], none⟩) (fun _ => True) 120 ?_ ?_
  · (refine swp_seqW ?_; simp only [go_sem, Bool.not_eq_true', Bool.not_eq_false'])
    (refine acall2 [2 ] ( hlc) (by simp only [go_sem, Bool.not_eq_true', Bool.not_eq_false']; rfl) (fit_of (by simp only [go_sem, Bool.not_eq_true', Bool.not_eq_false']) (by simp only [go_sem, Bool.not_eq_true', Bool.not_eq_false']) (by simp only [go_sem, Bool.not_eq_true', Bool.not_eq_false']) (by simp only [go_sem, Bool.not_eq_true', Bool.not_eq_false']) (by simp only [go_sem, Bool.not_eq_true', Bool.not_eq_false']) (by simp only [go_sem, Bool.not_eq_true', Bool.not_eq_false']) (by simp only [go_sem, Bool.not_eq_true', Bool.not_eq_false'])) ?_; simp only [go_sem, Bool.not_eq_true', Bool.not_eq_false'])
    (refine ⟨(show drawB _ _ = true by kernel_rfl), ?_⟩)
    (refine swp_seqW ?_; simp only [go_sem, Bool.not_eq_true', Bool.not_eq_false'])
    (refine swp_condW ?_; simp only [go_sem, Bool.not_eq_true', Bool.not_eq_false'])
    refine ⟨fun hi => ?_, fun hi => ?_⟩
    · rw [hclt hi]
      have := hlo hi
      (refine swp_lastW ?_; simp only [go_sem, Bool.not_eq_true', Bool.not_eq_false'])
      (refine acall2 [] (pclear_ok s.p (lowO (ndN l k).st.clear s.f).n ⟨by omega, by omega, by omega, by omega⟩) (by simp only [go_sem, Bool.not_eq_true', Bool.not_eq_false']; rfl) (fit_of (by simp only [go_sem, Bool.not_eq_true', Bool.not_eq_false']) (by simp only [go_sem, Bool.not_eq_true', Bool.not_eq_false']) (by simp only [go_sem, Bool.not_eq_true', Bool.not_eq_false']) (by simp only [go_sem, Bool.not_eq_true', Bool.not_eq_false']) (by simp only [go_sem, Bool.not_eq_true', Bool.not_eq_false']) (by simp only [go_sem, Bool.not_eq_true', Bool.not_eq_false']) (by simp only [go_sem, Bool.not_eq_true', Bool.not_eq_false'])) ?_; simp only [go_sem, Bool.not_eq_true', Bool.not_eq_false'])
      repeat' first | contradiction | intro _ | refine And.intro ?_ ?_ | refine ex_get (by omega) ?_ | (show drawB _ _ = true; kernel_rfl) | (refine ret2 [] (by simp only [go_sem, Bool.not_eq_true', Bool.not_eq_false']; rfl) ?_; simp only [go_sem, Bool.not_eq_true', Bool.not_eq_false'])
      all_goals
        (refine cut_end [] (()) (by simp only [go_sem, Bool.not_eq_true', Bool.not_eq_false']; rfl) ?_ ?_; (focus (simp only [go_sem, Bool.not_eq_true', Bool.not_eq_false']; done)))
        trivial
    · have hi : (lowO (ndN l k).st.clear s.f).is = false := hi
      rw [hclf (by rw [hi]; decide)]
      (refine swp_lastW ?_; simp only [go_sem, Bool.not_eq_true', Bool.not_eq_false'])
      (refine cut_end [] (()) (by simp only [go_sem, Bool.not_eq_true', Bool.not_eq_false']; rfl) ?_ ?_; (focus (simp only [go_sem, Bool.not_eq_true', Bool.not_eq_false']; done)))
      trivial
  rintro - -
  have eent : entG (ndN l k) s = ⟨s.a, s.f, penE (clrG (ndN l k) s) (ndN l k).st.top (ndN l k).st.padTop⟩ := rfl
  have hrow := hrow _ hent
  have hrw := rowG_ok hP g (k + 1) (k + (ndN l k).size) _ _ hn (by omega) hent
  have e3 : ((k : Int) + (ndN l k).size).toNat = k + (ndN l k).size.toNat := by omega
  rw [e3] at hrw
  have hmono2 := hs_mono hP.v (show k + (ndN l k).size.toNat ≤ l.length by omega) (Nat.le_refl _)
  have hmono0 := hs_mono hP.v (show k + 1 ≤ k + (ndN l k).size.toNat by omega) (by omega)
  have hhd := hb.head
  have hbo := hb.bottom
  have hpb := hb.padBottom
  have htp := hb.top
  have hpt := hb.padTop
  unfold hall at hB
  rw [eent] at hrow hrw ⊢
  have elv : ∀ z : LGs, lvG (ndN l k) z = ⟨z.a, z.f, penL z.p (ndN l k).st.bottom (ndN l k).st.padBottom⟩ := fun z => rfl
  rw [elv]
  generalize rowG l w g (k + 1) (k + (ndN l k).size) _ = z at hrow hrw ⊢
  have y1 := hrw.y
  have y2 := hrw.m
  have y3 := hrw.b
  (refine swp_seqW ?_; simp only [go_sem, Bool.not_eq_true', Bool.not_eq_false'])
  (refine acall2 [] (penter_ok (clrG (ndN l k) s) (ndN l k).st.top (ndN l k).st.padTop ⟨by omega, by omega, by omega, by omega⟩) (by simp only [go_sem, Bool.not_eq_true', Bool.not_eq_false']; rfl) (fit_of (by simp only [go_sem, Bool.not_eq_true', Bool.not_eq_false']) (by simp only [go_sem, Bool.not_eq_true', Bool.not_eq_false']) (by simp only [go_sem, Bool.not_eq_true', Bool.not_eq_false']) (by simp only [go_sem, Bool.not_eq_true', Bool.not_eq_false']) (by simp only [go_sem, Bool.not_eq_true', Bool.not_eq_false']) (by simp only [go_sem, Bool.not_eq_true', Bool.not_eq_false']) (by simp only [go_sem, Bool.not_eq_true', Bool.not_eq_false'])) ?_; simp only [go_sem, Bool.not_eq_true', Bool.not_eq_false'])
  (refine ⟨(show drawB _ _ = true by kernel_rfl), ?_⟩)
  (refine swp_seqW ?_; simp only [go_sem, Bool.not_eq_true', Bool.not_eq_false'])
  repeat' first | contradiction | intro _ | refine And.intro ?_ ?_ | refine ex_get (by omega) ?_ | (show drawB _ _ = true; kernel_rfl) | (refine ret2 [] (by simp only [go_sem, Bool.not_eq_true', Bool.not_eq_false']; rfl) ?_; simp only [go_sem, Bool.not_eq_true', Bool.not_eq_false'])
  all_goals try omega
  all_goals rw [← ndN_get hk]
  all_goals try omega
  (refine acall2 [] (hrow) (by simp only [go_sem, Bool.not_eq_true', Bool.not_eq_false']; rfl) (fit_of (by simp only [go_sem, Bool.not_eq_true', Bool.not_eq_false']) (by simp only [go_sem, Bool.not_eq_true', Bool.not_eq_false']) (by simp only [go_sem, Bool.not_eq_true', Bool.not_eq_false']) (by simp only [go_sem, Bool.not_eq_true', Bool.not_eq_false']) (by simp only [go_sem, Bool.not_eq_true', Bool.not_eq_false']) (by simp only [go_sem, Bool.not_eq_true', Bool.not_eq_false']) (by simp only [go_sem, Bool.not_eq_true', Bool.not_eq_false'])) ?_; simp only [go_sem, Bool.not_eq_true', Bool.not_eq_false'])
  (refine swp_lastW ?_; simp only [go_sem, Bool.not_eq_true', Bool.not_eq_false'])
  (refine acall2 [] (pleave_ok z.p (ndN l k).st.bottom (ndN l k).st.padBottom ⟨by omega, by omega, by omega, by omega⟩) (by simp only [go_sem, Bool.not_eq_true', Bool.not_eq_false']; rfl) (fit_of (by simp only [go_sem, Bool.not_eq_true', Bool.not_eq_false']) (by simp only [go_sem, Bool.not_eq_true', Bool.not_eq_false']) (by simp only [go_sem, Bool.not_eq_true', Bool.not_eq_false']) (by simp only [go_sem, Bool.not_eq_true', Bool.not_eq_false']) (by simp only [go_sem, Bool.not_eq_true', Bool.not_eq_false']) (by simp only [go_sem, Bool.not_eq_true', Bool.not_eq_false']) (by simp only [go_sem, Bool.not_eq_true', Bool.not_eq_false'])) ?_; simp only [go_sem, Bool.not_eq_true', Bool.not_eq_false'])
  (refine ⟨(show drawB _ _ = true by kernel_rfl), ?_⟩)
  (refine ret2 [] (by simp only [go_sem, Bool.not_eq_true', Bool.not_eq_false']; rfl) ?_; simp only [go_sem, Bool.not_eq_true', Bool.not_eq_false'])
set_option maxRecDepth 100000 in
set_option maxHeartbeats 8000000 in
theorem wrow_ok {l : List LNo} {w : Int} (hP : FlwP l w) : ∀ (F g : Nat), g ≤ F → ∀ (k : Nat) (e : Int) (s : LGs) (B : Int), nst l g k e → e ≤ l.length → GsOk l B k s → B + (hall l - hsN l k) ≤ 1099511627776 →
    FnOk Tryz.prog 26 [.hdr 0, .raw (.int .i64 k), .raw (.int .i64 e)] (wkS l w s 1 2) (.tup []) (wkS l w (rowG l w g k e s) 8 9)
  | 0, g, hg, k, e, s, B, hn, he, hs, hB => by
    obtain rfl : g = 0 := by omega
    exact absurd hn (by simp [nst])
  | F + 1, g, hg, k, e, s, B, hn, he, hs, hB => by
    have hlen := hP.len
    refine fn_of_swp Tryz.func26 rfl (by kernel_rfl) (by kernel_rfl) (Nat.le_of_ble_eq_true rfl) Tryz.results26 ?_
    (refine swp_seqW ?_; simp only [go_sem, Bool.not_eq_true', Bool.not_eq_false'])
    refine swp_block ?_
    refine swp_loop2 [] (fun z : KY LGs => ⟨[(0, .hdr 0), (1, .raw (.int .i64 z.k)), (2, .raw (.int .i64 e)), (6, .hdr 800)], [(0, some (wkO l w z.o.p 802 803 0)), (802, some (rowA z.o)), (803, some (rowF z.o)), (800, some (.cells 107 [.raw Value.nilFunc, .bnd (.func 60) [.hdr 0], .bnd (.func 61) [.hdr 0], .bnd (.func 62) [.hdr 0], .bnd (.func 63) [.hdr 0]]))], none⟩) (fun z => ∃ B' g', g' ≤ g ∧ nst l g' z.k e ∧ GsOk l B' z.k z.o ∧ B' + (hall l - hsN l z.k) ≤ 1099511627776 ∧ rowG l w g' z.k e z.o = rowG l w g k e s) (fun z => l.length - z.k) 120 ⟨k, s⟩ (by simp only [go_sem, Bool.not_eq_true', Bool.not_eq_false']; rfl) (by simp only [go_sem, Bool.not_eq_true', Bool.not_eq_false']) ?_ ?_
    · exact ⟨B, g, Nat.le_refl _, hn, hs, hB, rfl⟩
    rintro ⟨kk, z⟩ ⟨B', g', z1, z2, z3, z4, z5⟩
    simp only at z1 z2 z3 z4 z5
    (refine swp_seqW ?_; simp only [go_sem, Bool.not_eq_true', Bool.not_eq_false'])
    refine ⟨fun h5 => ?_, fun h5 => ?_⟩
    rotate_left
    · have e5 : rowG l w g' kk e z = z := by
        cases g' with
        | zero => rfl
        | succ m => rw [rowG, if_neg h5]
      rw [← z5, e5]
      (refine ret2 [] (by simp only [go_sem, Bool.not_eq_true', Bool.not_eq_false']; rfl) ?_; simp only [go_sem, Bool.not_eq_true', Bool.not_eq_false'])
    obtain ⟨m, rfl⟩ : ∃ m, g' = m + 1 := by
      cases g' with
      | zero => exact absurd z2 (by simp [nst])
      | succ m => exact ⟨m, rfl⟩
    obtain ⟨u1, u2, u3, u4⟩ := z2.2 h5
    rw [← ndN_siz] at u1 u2 u3 u4
    have hkk : kk < l.length := by omega
    rw [rowG, if_pos h5] at z5
    have hnb := nod_at hP.v hkk
    have hnx := nod_next hP hkk u3 z3
    have hm1 := hs_mono hP.v (show kk + (ndN l kk).size.toNat ≤ l.length by omega) (Nat.le_refl _)
    have hm0 := hs_mono hP.v (show kk ≤ kk + (ndN l kk).size.toNat by omega) (by omega)
    have hcl : FnOk Tryz.prog (if (ndN l kk).kind = 1 then 60 else if (ndN l kk).kind = 2 then 61 else if (ndN l kk).kind = 3 then 62 else 63) [.hdr 0, .raw (.int .i64 kk)] (wkS l w z 1 2) (.tup []) (wkS l w (nodG l w (rowG l w m) kk z) 8 9) := by
      unfold nodG
      rcases nodB_kind hnb with q | q | q | q
      · rw [if_pos q, if_pos q]
        have hb := nodB_blk hnb q
        have hhd := hb.head
        have hbo := hb.bottom
        have hpb := hb.padBottom
        have hh1 := hsN_succ hkk
        have e1 : hgtN (ndN l kk) = (ndN l kk).st.top + (ndN l kk).st.bottom + (ndN l kk).st.padTop + (ndN l kk).st.padBottom + (ndN l kk).st.head := by unfold hgtN; rw [if_pos q]
        exact wblock_ok hP hkk q z3 z4 u3 fun s' hs' => wrow_ok hP F m (by omega) (kk + 1) _ s' _ u3 (by omega) hs' (by omega)
      · rw [if_neg (by omega), if_pos q, if_neg (by omega), if_pos q]
        exact wtext_ok hP hkk q z3 z4
      · rw [if_neg (by omega), if_neg (by omega), if_pos q, if_neg (by omega), if_neg (by omega), if_pos q]
        exact wmono_ok hP hkk q z3 z4
      · rw [if_neg (by omega), if_neg (by omega), if_neg (by omega), if_neg (by omega), if_neg (by omega), if_neg (by omega)]
        exact wfloat_ok hP hkk q z3 z4
    generalize nodG l w (rowG l w m) kk z = z' at hcl hnx z5
    obtain ⟨sz, hsz2⟩ : ∃ sz : Nat, (ndN l kk).size = sz := ⟨(ndN l kk).size.toNat, by omega⟩
    rw [hsz2] at u1 u2 u3 u4 z5 hnx hm1 hm0
    rw [Int.toNat_natCast] at u4 z5 hnx hm1 hm0
    refine swp_seqS ?_
    refine swp_block ?_
    (refine swp_lastW ?_; simp only [go_sem, Bool.not_eq_true', Bool.not_eq_false'])
    refine ⟨by omega, ex_get hkk ?_⟩
    rw [← ndN_get hkk]
    rcases nodB_kind hnb with q | q | q | q
    all_goals
      rw [q]
      rw [q] at hcl
      simp only [if_true, Int.reduceEq, if_false] at hcl
      refine ⟨⟨by omega, by omega⟩, by omega, ?_⟩
      simp only [go_sem, Bool.not_eq_true', Bool.not_eq_false', Int.reduceToNat, Int.reduceLT, Int.reduceLE, Int.reduceEq, Int.reduceAdd, Int.reduceSub, Int.reduceMul, Int.reduceNeg, Int.reduceNe, decide_false, Int.cast_ofNat_Int, kSet, List.getElem?_cons_succ, List.getElem?_cons_zero, List.set_cons_succ, List.set_cons_zero, exists_eq_left', forall_const, true_implies, List.drop_zero, List.drop_succ_cons, List.take_succ_cons, List.take_zero, List.headD_cons]
      (refine acallM2 [] (hcl) (by simp only [go_sem, Bool.not_eq_true', Bool.not_eq_false']; rfl) (fit_of (by simp only [go_sem, Bool.not_eq_true', Bool.not_eq_false']) (by simp only [go_sem, Bool.not_eq_true', Bool.not_eq_false']) (by simp only [go_sem, Bool.not_eq_true', Bool.not_eq_false']) (by simp only [go_sem, Bool.not_eq_true', Bool.not_eq_false']) (by simp only [go_sem, Bool.not_eq_true', Bool.not_eq_false']) (by simp only [go_sem, Bool.not_eq_true', Bool.not_eq_false']) (by simp only [go_sem, Bool.not_eq_true', Bool.not_eq_false'])) ?_; simp only [go_sem, Bool.not_eq_true', Bool.not_eq_false'])
      (refine swp_lastW ?_; simp only [go_sem, Bool.not_eq_true', Bool.not_eq_false'])
      refine ⟨by omega, ex_get hkk ?_⟩
      rw [← ndN_get hkk, hsz2]
      refine ⟨⟨by omega, by omega⟩, ?_⟩
      (refine loop_end [] (⟨kk + sz, z'⟩) (by simp only [go_sem, Bool.not_eq_true', Bool.not_eq_false']; rfl) ?_ ?_ ?_; (focus first | omega | (simp only; omega)); (focus (simp only [go_sem, Bool.not_eq_true', Bool.not_eq_false']; done)))
      exact ⟨_, m, by omega, u4, hnx, by show _ + (hall l - hsN l (kk + sz)) ≤ _; omega, z5⟩
end Go.Proofs.YtblmebjhhanoaaaGreat
/- CHAPTER 14: flow.Of. -/
/- G -/
/- BOOLS -/
set_option linter.unusedSimpArgs false
set_option linter.unusedVariables false
namespace Go.Proofs.YtblmebjhhanoaaaGreat
open Go.RowKit

theorem low3 {f : LFl} (h : f.side = 1 ∨ f.side = 2) : lowF 3 f = ⟨f.y + f.h, true⟩ := by
  unfold lowF
  have : decide (andI f.side 3 ≠ 0) = true := by rcases h with e | e <;> (rw [e]; decide)
  rw [this]
theorem hgt_fold : ∀ (fs : List LFl) (b : Int) (o : LIs), (∀ f ∈ fs, f.side = 1 ∨ f.side = 2) → o.is = true → (fs.foldl (mostT (lowF 3)) o).is = true ∧ hgtS (max b o.n) fs = max b (fs.foldl (mostT (lowF 3)) o).n
  | [], b, o, _, ho => ⟨ho, rfl⟩
  | f :: fs, b, o, hf, ho => by
    have hl := low3 (hf f List.mem_cons_self)
    have e : mostT (lowF 3) o f = ⟨max o.n (f.y + f.h), true⟩ := by
      unfold mostT
      rw [hl]
      simp only [true_and]
      split
      · next h => have := h ho; congr 1; omega
      · next h =>
        have h1 : ¬ o.n < f.y + f.h := fun w => h fun _ => w
        cases o with
        | mk n is =>
          simp only at ho h1 ⊢
          rw [ho]
          congr 1
          omega
    obtain ⟨i1, i2⟩ := hgt_fold fs b ⟨max o.n (f.y + f.h), true⟩ (fun g hg => hf g (List.mem_cons_of_mem _ hg)) rfl
    rw [List.foldl_cons, e]
    refine ⟨i1, ?_⟩
    rw [← i2]
    show hgtS (max (max b o.n) (f.y + f.h)) fs = _
    congr 1
    simp only
    omega
theorem hgt_low {fs : List LFl} {b : Int} (hf : ∀ f ∈ fs, f.side = 1 ∨ f.side = 2) : hgtS b fs = if (lowO 3 fs).is = true then max b (lowO 3 fs).n else b := by
  cases fs with
  | nil => rfl
  | cons f fs =>
    have hl := low3 (hf f List.mem_cons_self)
    have e : lowO 3 (f :: fs) = fs.foldl (mostT (lowF 3)) ⟨f.y + f.h, true⟩ := by
      show fs.foldl (mostT (lowF 3)) (mostT (lowF 3) ⟨0, false⟩ f) = _
      congr 1
      unfold mostT
      rw [hl]
      simp
    obtain ⟨i1, i2⟩ := hgt_fold fs b ⟨f.y + f.h, true⟩ (fun g hg => hf g (List.mem_cons_of_mem _ hg)) rfl
    rw [e, if_pos i1, ← i2]
    rfl
abbrev wkH (l : List LNo) (w : Int) (p : LPen) (a f : Nat) (h : Int) : AO := wkO l w p a f h
set_option maxRecDepth 100000 in
set_option maxHeartbeats 8000000 in
theorem wend_ok {l : List LNo} {w : Int} (hP : FlwP l w) {s : LGs} (hA : GsOk l (hall l) l.length s) (hc : AncP l.length s) :
    FnOk Tryz.prog 27 [.hdr 0] (wkS l w s 1 2) (.tup []) [(0, wkO l w s.p 1 9 (hgtS (atP s.p) s.f)), (1, rowA s), (9, .row 62 7 ((s.f.map (endF s.a.length)).map cFl))] := by
  have hlen := hP.len
  have hH := hP.hi
  have hpp := hP.ps
  unfold pall at hpp
  have hy := hA.y
  have hm := hA.m
  have hb := hA.b
  have hfl := hA.fl
  have hal := hA.al
  have hne := hA.near hH hlen
  have hfs2 : ∀ f ∈ s.f, 0 ≤ f.y + f.h ∧ f.y + f.h ≤ 1099511627776 := fun f hf => by
    have h1 := (hA.fs f hf).y
    have h2 := (hA.fs f hf).h
    omega
  have hgl := hgt_low (b := atP s.p) (fun f hf => (hA.fs f hf).side)
  have hlc : FnOk Tryz.prog 64 [.sl 7 (s.f.map cFl), .raw (.int .i64 3)] [] (aIs (lowO 3 s.f)) [] := blow_ok s.f 3 (by omega) hne
  unfold atP at hgl ⊢
  refine fn_of_swp Tryz.func27 rfl (by kernel_rfl) (by kernel_rfl) (Nat.le_of_ble_eq_true rfl) Tryz.results27 ?_
  (refine swp_seqW ?_; simp only [go_sem, Bool.not_eq_true', Bool.not_eq_false'])
  (refine acall2 [] (pat_ok s.p ⟨by omega, by omega, by omega, by omega⟩) (by simp only [go_sem, Bool.not_eq_true', Bool.not_eq_false']; rfl) (fit_of (by simp only [go_sem, Bool.not_eq_true', Bool.not_eq_false']) (by simp only [go_sem, Bool.not_eq_true', Bool.not_eq_false']) (by simp only [go_sem, Bool.not_eq_true', Bool.not_eq_false']) (by simp only [go_sem, Bool.not_eq_true', Bool.not_eq_false']) (by simp only [go_sem, Bool.not_eq_true', Bool.not_eq_false']) (by simp only [go_sem, Bool.not_eq_true', Bool.not_eq_false']) (by simp only [go_sem, Bool.not_eq_true', Bool.not_eq_false'])) ?_; simp only [go_sem, Bool.not_eq_true', Bool.not_eq_false'])
  refine swp_cutS (fun _ : Unit => ⟨[(0, .hdr 0)], [(0, some (wkO l w s.p 1 2 (hgtS (s.p.y + s.p.m) s.f))), (1, some (rowA s)), (2, some (rowF s))], none⟩) (fun _ => True) 120 ?_ ?_
  · (refine swp_seqW ?_; simp only [go_sem, Bool.not_eq_true', Bool.not_eq_false'])
    (refine acall2 [2 ] ( hlc) (by simp only [go_sem, Bool.not_eq_true', Bool.not_eq_false']; rfl) (fit_of (by simp only [go_sem, Bool.not_eq_true', Bool.not_eq_false']) (by simp only [go_sem, Bool.not_eq_true', Bool.not_eq_false']) (by simp only [go_sem, Bool.not_eq_true', Bool.not_eq_false']) (by simp only [go_sem, Bool.not_eq_true', Bool.not_eq_false']) (by simp only [go_sem, Bool.not_eq_true', Bool.not_eq_false']) (by simp only [go_sem, Bool.not_eq_true', Bool.not_eq_false']) (by simp only [go_sem, Bool.not_eq_true', Bool.not_eq_false'])) ?_; simp only [go_sem, Bool.not_eq_true', Bool.not_eq_false'])
    (refine swp_seqW ?_; simp only [go_sem, Bool.not_eq_true', Bool.not_eq_false'])
    (refine swp_condW ?_; simp only [go_sem, Bool.not_eq_true', Bool.not_eq_false'])
    refine ⟨fun hi => ?_, fun hi => ?_⟩
    · rw [hgl, if_pos hi]
      (refine swp_lastW ?_; simp only [go_sem, Bool.not_eq_true', Bool.not_eq_false'])
      repeat' first | contradiction | intro _ | refine And.intro ?_ ?_ | refine ex_get (by omega) ?_ | (show drawB _ _ = true; kernel_rfl) | (refine ret2 [] (by simp only [go_sem, Bool.not_eq_true', Bool.not_eq_false']; rfl) ?_; simp only [go_sem, Bool.not_eq_true', Bool.not_eq_false'])
      all_goals
        (refine cut_end [] (()) (by simp only [go_sem, Bool.not_eq_true', Bool.not_eq_false']; rfl) ?_ ?_; (focus (simp only [go_sem, Bool.not_eq_true', Bool.not_eq_false']; done)))
        trivial
    · have hi : (lowO 3 s.f).is = false := hi
      rw [hgl, if_neg (by rw [hi]; decide)]
      (refine swp_lastW ?_; simp only [go_sem, Bool.not_eq_true', Bool.not_eq_false'])
      (refine cut_end [] (()) (by simp only [go_sem, Bool.not_eq_true', Bool.not_eq_false']; rfl) ?_ ?_; (focus (simp only [go_sem, Bool.not_eq_true', Bool.not_eq_false']; done)))
      trivial
  rintro - -
  (refine swp_seqW ?_; simp only [go_sem, Bool.not_eq_true', Bool.not_eq_false', List.length_map])
  refine swp_block ?_
  generalize hgtS (s.p.y + s.p.m) s.f = ht
  refine swp_loop2 [] (fun i : Nat => ⟨[(0, .hdr 0), (40, .raw (.int .i64 s.f.length)), (41, .raw (.int .i64 i))], [(0, some (wkO l w s.p 1 802 ht)), (1, some (rowA s)), (802, some (.row 62 7 ((flE s.a.length s.f i).map cFl)))], none⟩) (fun i => i ≤ s.f.length) (fun i => s.f.length - i) 120 0 (by simp only [go_sem, Bool.not_eq_true', Bool.not_eq_false']; rfl) (by simp only [go_sem, Bool.not_eq_true', Bool.not_eq_false', flE_zero]) ?_ ?_
  · exact Nat.zero_le _
  intro i hi
  have hln := @flE_len s.a.length s.f i
  (refine swp_seqW ?_; simp only [go_sem, Bool.not_eq_true', Bool.not_eq_false'])
  (refine swp_seqW ?_; simp only [go_sem, Bool.not_eq_true', Bool.not_eq_false'])
  refine ⟨fun h5 => ?_, fun h5 => ?_⟩
  rotate_left
  · obtain rfl : i = s.f.length := by omega
    rw [flE_all]
    (refine ret2 [] (by simp only [go_sem, Bool.not_eq_true', Bool.not_eq_false']; rfl) ?_; simp only [go_sem, Bool.not_eq_true', Bool.not_eq_false'])
  have hii : i < s.f.length := by omega
  have hg := flE_get (n := s.a.length) hii
  have hst := flE_set (n := s.a.length) hii
  have hfi := hfs2 _ (List.getElem_mem hii)
  have hci := hc _ (List.getElem_mem hii)
  generalize hE : flE s.a.length s.f i = E at *
  have eS : ∀ f', endF s.a.length s.f[i] = f' → (E.map cFl).set i (cFl f') = (flE s.a.length s.f (i + 1)).map cFl := fun f' e => by rw [← e, ← hst, List.map_set]
  generalize s.f[i] = f at *
  have ef : endF s.a.length f = ⟨f.node, f.side, max 0 (min f.anchor ((s.a.length : Int) - 1)), f.x, f.y, f.w, f.h⟩ := by
    unfold endF
    congr 1
    split <;> omega
  have e := eS _ ef
  simp only [cFl] at e
  refine swp_seqS ?_
  refine swp_block ?_
  (refine swp_seqW ?_; simp only [go_sem, Bool.not_eq_true', Bool.not_eq_false'])
  (refine swp_lastW ?_; simp only [go_sem, Bool.not_eq_true', Bool.not_eq_false', List.length_map])
  refine ⟨by omega, f, hg, ?_⟩
  refine ⟨⟨by omega, by omega⟩, ⟨by omega, by omega⟩, f, hg, ?_⟩
  (refine ⟨(show drawB _ _ = true by kernel_rfl), ?_⟩)
  (refine swp_lastW ?_; simp only [go_sem, Bool.not_eq_true', Bool.not_eq_false'])
  refine ⟨by omega, ?_⟩
  (refine loop_end [] (i + 1) (by simp only [go_sem, Bool.not_eq_true', Bool.not_eq_false']; rfl) ?_ ?_ ?_; (focus first | omega | (simp only; omega)); (focus (simp only [go_sem, Bool.not_eq_true', Bool.not_eq_false', e]; done)))
  omega
set_option maxRecDepth 100000 in
theorem umay14_ok (n : Int) : FnOk Tryz.prog 25 [.raw (.int .i64 n)] [] (.raw (.bool (decide (1 ≤ n ∧ n ≤ 1099511627776)))) [] := by
  refine fn_of_awp Tryz.func25 rfl (by kernel_rfl) (by kernel_rfl) (Nat.le_of_ble_eq_true rfl) Tryz.results25 ?_
  simp only [go_sem, Bool.not_eq_true', Bool.not_eq_false']
  repeat' first | contradiction | intro _ | refine And.intro ?_ ?_ | refine ex_get (by omega) ?_ | (show drawB _ _ = true; kernel_rfl) | (refine ret2 [] (by simp only [go_sem, Bool.not_eq_true', Bool.not_eq_false']; rfl) ?_; simp only [go_sem, Bool.not_eq_true', Bool.not_eq_false'])
  all_goals first
    | omega
    | (simp; omega)
set_option maxRecDepth 100000 in
set_option maxHeartbeats 8000000 in
theorem of14_ok (l : List LNo) (w : Int) (hl : l.length ≤ 60) (hw : ∀ x ∈ l, x.words.length ≤ 9223372036854775807) (hp : pall l ≤ 9223372036854775807) :
    FnOk Tryz.prog 8 [.sl 20 (l.map cNo), .raw (.int .i64 w)] [] (.tup [aGal (resG l w) 8 9, .raw (.int .i64 (errG l w))]) [(8, .row 47 8 ((resG l w).a.map cAt)), (9, .row 62 7 ((resG l w).f.map cFl))] := by
  refine fn_of_swp Tryz.func8 rfl (by kernel_rfl) (by kernel_rfl) (Nat.le_of_ble_eq_true rfl) Tryz.results8 ?_
  (refine swp_seqW ?_; simp only [go_sem, Bool.not_eq_true', Bool.not_eq_false'])
  (refine swp_seqW ?_; simp only [go_sem, Bool.not_eq_true', Bool.not_eq_false'])
  (refine acall2 [] (umay14_ok w) (by simp only [go_sem, Bool.not_eq_true', Bool.not_eq_false']; rfl) (fit_of (by simp only [go_sem, Bool.not_eq_true', Bool.not_eq_false']) (by simp only [go_sem, Bool.not_eq_true', Bool.not_eq_false']) (by simp only [go_sem, Bool.not_eq_true', Bool.not_eq_false']) (by simp only [go_sem, Bool.not_eq_true', Bool.not_eq_false']) (by simp only [go_sem, Bool.not_eq_true', Bool.not_eq_false']) (by simp only [go_sem, Bool.not_eq_true', Bool.not_eq_false']) (by simp only [go_sem, Bool.not_eq_true', Bool.not_eq_false'])) ?_; simp only [go_sem, Bool.not_eq_true', Bool.not_eq_false'])
  by_cases hw1 : 1 ≤ w ∧ w ≤ 1099511627776
  rotate_left
  · have e1 : errG l w = 4 := if_neg hw1
    have e2 : resG l w = ⟨[], [], 0⟩ := by unfold resG; rw [e1]; rfl
    rw [e1, e2]
    refine ⟨fun _ => ?_, fun q => absurd q hw1⟩
    (refine ret2 [] (by simp only [go_sem, Bool.not_eq_true', Bool.not_eq_false', List.map_nil]; rfl) ?_; simp only [go_sem, Bool.not_eq_true', Bool.not_eq_false', List.map_nil])
  have e1 : errG l w = chkN l := if_pos hw1
  refine ⟨fun q => absurd hw1 q, fun _ => ?_⟩
  (refine swp_seqW ?_; simp only [go_sem, Bool.not_eq_true', Bool.not_eq_false'])
  (refine acall2 [] (check6_ok l (by omega) hw hp) (by simp only [go_sem, Bool.not_eq_true', Bool.not_eq_false']; rfl) (fit_of (by simp only [go_sem, Bool.not_eq_true', Bool.not_eq_false']) (by simp only [go_sem, Bool.not_eq_true', Bool.not_eq_false']) (by simp only [go_sem, Bool.not_eq_true', Bool.not_eq_false']) (by simp only [go_sem, Bool.not_eq_true', Bool.not_eq_false']) (by simp only [go_sem, Bool.not_eq_true', Bool.not_eq_false']) (by simp only [go_sem, Bool.not_eq_true', Bool.not_eq_false']) (by simp only [go_sem, Bool.not_eq_true', Bool.not_eq_false'])) ?_; simp only [go_sem, Bool.not_eq_true', Bool.not_eq_false'])
  rw [e1]
  refine ⟨fun hc => ?_, fun hc => ?_⟩
  · have e2 : resG l w = ⟨[], [], 0⟩ := by unfold resG; rw [e1, if_neg hc]
    rw [e2]
    (refine ret2 [] (by simp only [go_sem, Bool.not_eq_true', Bool.not_eq_false', List.map_nil]; rfl) ?_; simp only [go_sem, Bool.not_eq_true', Bool.not_eq_false', List.map_nil])
  have hP := errG_ok hl (by rw [e1]; exact hc)
  have e2 : resG l w = endG (allS l w) := by unfold resG; rw [e1, if_pos hc]
  rw [e2, hc]
  have hrm := rooms_eq hP.v w
  have hrs : rmsN l w = rmsR l w l.length := if_pos hw1
  have hdn : docN l = l := by simp [docN, hP.v]
  have hroo := rooms8_ok l w (by omega) hw (isS_ins hP.v) (by rw [hdn]; exact isS_nst hP.v)
  rw [hrm, hrs] at hroo
  (refine swp_seqW ?_; simp only [go_sem, Bool.not_eq_true', Bool.not_eq_false'])
  (refine acall2 [] (hroo) (by simp only [go_sem, Bool.not_eq_true', Bool.not_eq_false']; rfl) (fit_of (by simp only [go_sem, Bool.not_eq_true', Bool.not_eq_false']) (by simp only [go_sem, Bool.not_eq_true', Bool.not_eq_false']) (by simp only [go_sem, Bool.not_eq_true', Bool.not_eq_false']) (by simp only [go_sem, Bool.not_eq_true', Bool.not_eq_false']) (by simp only [go_sem, Bool.not_eq_true', Bool.not_eq_false']) (by simp only [go_sem, Bool.not_eq_true', Bool.not_eq_false']) (by simp only [go_sem, Bool.not_eq_true', Bool.not_eq_false'])) ?_; simp only [go_sem, Bool.not_eq_true', Bool.not_eq_false'])
  have hrow := wrow_ok hP (l.length + 1) (l.length + 1) (Nat.le_refl _) 0 l.length ⟨[], [], ⟨0, 0⟩⟩ 0 (isS_nst hP.v) (Int.le_refl _) (gs_zero l) (by have := hP.hi; rw [hsN_zero]; omega)
  have hend := wend_ok hP (allS_ok hP) (anc_all hP)
  have eall : rowG l w (l.length + 1) 0 l.length ⟨[], [], ⟨0, 0⟩⟩ = allS l w := rfl
  rw [eall] at hrow
  unfold endG
  generalize allS l w = s at *
  (refine swp_seqW ?_; simp only [go_sem, Bool.not_eq_true', Bool.not_eq_false', List.length_map])
  (refine acallF2 [112 ] [] ( hrow) (by simp only [go_sem, Bool.not_eq_true', Bool.not_eq_false']; rfl) (fit_of (by simp only [go_sem, Bool.not_eq_true', Bool.not_eq_false']) (by simp only [go_sem, Bool.not_eq_true', Bool.not_eq_false']) (by simp only [go_sem, Bool.not_eq_true', Bool.not_eq_false']) (by simp only [go_sem, Bool.not_eq_true', Bool.not_eq_false']) (by simp only [go_sem, Bool.not_eq_true', Bool.not_eq_false']) (by simp only [go_sem, Bool.not_eq_true', Bool.not_eq_false']) (by simp only [go_sem, Bool.not_eq_true', Bool.not_eq_false'])) ?_; simp only [go_sem, Bool.not_eq_true', Bool.not_eq_false', List.map_nil])
  (refine swp_seqW ?_; simp only [go_sem, Bool.not_eq_true', Bool.not_eq_false'])
  (refine acall2 [] (hend) (by simp only [go_sem, Bool.not_eq_true', Bool.not_eq_false']; rfl) (fit_of (by simp only [go_sem, Bool.not_eq_true', Bool.not_eq_false']) (by simp only [go_sem, Bool.not_eq_true', Bool.not_eq_false']) (by simp only [go_sem, Bool.not_eq_true', Bool.not_eq_false']) (by simp only [go_sem, Bool.not_eq_true', Bool.not_eq_false']) (by simp only [go_sem, Bool.not_eq_true', Bool.not_eq_false']) (by simp only [go_sem, Bool.not_eq_true', Bool.not_eq_false']) (by simp only [go_sem, Bool.not_eq_true', Bool.not_eq_false'])) ?_; simp only [go_sem, Bool.not_eq_true', Bool.not_eq_false'])
  (refine swp_lastW ?_; simp only [go_sem, Bool.not_eq_true', Bool.not_eq_false'])
  (refine ret2 [] (by simp only [go_sem, Bool.not_eq_true', Bool.not_eq_false']; rfl) ?_; simp only [go_sem, Bool.not_eq_true', Bool.not_eq_false'])
end Go.Proofs.YtblmebjhhanoaaaGreat
/- THE SCRIPT'S READER: blocks, nodes. -/
/- G -/
/- BOOLS -/
/- GET get_tk -/
set_option linter.unusedSimpArgs false
set_option linter.unusedVariables false
namespace Go.Proofs.YtblmebjhhanoaaaGreat
open Go.RowKit

def pushB (t : ByteArray) (c : Int) : ByteArray := t ++ ByteArray.empty.push (UInt8.ofNat c.toNat)
def attrS (l : List LTk) : Nat → Nat → ByteArray → LSty → Option (LSty × Nat)
  | 0, _, _, _ => none
  | f + 1, k, told, st => if letterS l k told = 0 then some (st, k)
    else if k + 1 < l.length ∧ told.size < 100 ∧ (pushB told (letterS l k told)).size < 100 ∧ numB l (k + 1) (limA (letterS l k told)) (limB (letterS l k told)) = true then attrS l f (k + 2) (pushB told (letterS l k told)) (withS st (letterS l k told) (tkAt l (k + 1)).n) else none
def sty2 : LSty := ⟨0, 0, 0, 0, 0, 2, 2, 0, 0, 0, 0, 0⟩
attribute [go_sem] sty2
section
variable (rec : Nat → Option (List LNo × Nat)) (l : List LTk)
def blockS (k : Nat) : Option (List LNo × Nat) :=
  if k < l.length then match attrS l (l.length + 1) (k + 1) ⟨#[]⟩ sty2 with
    | some (st, k1) => match rec k1 with
      | some (ns, k2) => if k1 ≤ l.length ∧ ns.length < 1000 ∧ signB l k2 93 = true then some (⟨1, 1 + ns.length, st, 0, 0, [], 0, 0, 0⟩ :: ns, k2 + 1) else none
      | none => none
    | none => none
  else none
def oneS (k : Nat) : Option (List LNo × Nat) :=
  if signB l k 91 = true then blockS rec l k
  else if signB l k 40 = true then textS l k
  else if signB l k 123 = true then boxS l (k + 1) ⟨3, 1, sty0, 0, 0, [], 0, 0, 0⟩ 125
  else if signB l (k + 1) 76 = true then boxS l (k + 2) ⟨4, 1, sty0, 0, 0, [], 1, 0, 0⟩ 62
  else if signB l (k + 1) 82 = true then boxS l (k + 2) ⟨4, 1, sty0, 0, 0, [], 2, 0, 0⟩ 62
  else none
def startB (k : Nat) : Bool := signB l k 91 || signB l k 40 || signB l k 123 || signB l k 60
def nodesG : Nat → Nat → Option (List LNo × Nat)
  | 0, _ => none
  | g + 1, k => if k ≤ l.length then
      (if startB l k = true then match oneS rec l k with
        | some (ns, k1) => if k < k1 then match nodesG g k1 with
          | some (r, k2) => if ns.length + r.length < 1000 then some (ns ++ r, k2) else none
          | none => none
          else none
        | none => none
      else some ([], k))
    else none
end
def nodesS (l : List LTk) : Nat → Nat → Option (List LNo × Nat)
  | 0, _ => none
  | f + 1, k => nodesG (nodesS l f) l (l.length + 1) k
structure LBl where
  k : Nat
  told : ByteArray
  st : LSty
set_option maxRecDepth 100000 in
set_option maxHeartbeats 8000000 in
theorem block5_ok (rec : Nat → Option (List LNo × Nat)) (l : List LTk) (hrec : ∀ k r, k ≤ l.length → rec k = some r → FnOk Tryz.prog 81 [.sl 4 (l.map cTk), .raw (.int .i64 k)] [] (aGot r) []) (k : Nat) (r : List LNo × Nat) (hl : l.length ≤ 1000) (h : blockS rec l k = some r) : FnOk Tryz.prog 134 [.sl 4 (l.map cTk), .raw (.int .i64 k)] [] (aGot r) [] := by
  refine fn_of_swp Tryz.func134 rfl (by kernel_rfl) (by kernel_rfl) (Nat.le_of_ble_eq_true rfl) Tryz.results134 ?_
  unfold blockS at h
  split at h
  case isFalse => cases h
  next hk =>
  split at h
  case h_2 => cases h
  next st k1 ha =>
  split at h
  case h_2 => cases h
  next ns k2 hr =>
  split at h
  case isFalse => cases h
  next hh =>
  obtain ⟨hk1, hns, h93⟩ := hh
  injection h with h
  subst h
  have hk2 : k2 < l.length := (of_decide_eq_true h93).1
  have hnode := hrec k1 (ns, k2) hk1 hr
  (refine swp_seqW ?_; simp only [go_sem, Bool.not_eq_true', Bool.not_eq_false'])
  (refine swp_seqW ?_; simp only [go_sem, Bool.not_eq_true', Bool.not_eq_false'])
  refine ⟨by omega, ?_⟩
  (refine swp_seqW ?_; simp only [go_sem, Bool.not_eq_true', Bool.not_eq_false'])
  (refine swp_seqW ?_; simp only [go_sem, Bool.not_eq_true', Bool.not_eq_false'])
  refine swp_cutS (fun _ : Unit => ⟨[(0, .sl 4 (l.map cTk)), (1, .raw (.int .i64 k1)), (4, .hdr 8), (5, .hdr 16)], [(8, some (.cells 133 [.hdr 9, .raw (.int .i64 0), .raw (.int .i64 0)])), (9, some (.row 56 20 [])), (16, some (.cells 54 (lSty st)))], none⟩) (fun _ => True) 4 ?_ ?_
  · refine swp_block ?_
    refine swp_loop2 [] (fun z : LBl => ⟨[(0, .sl 4 (l.map cTk)), (1, .raw (.int .i64 z.k)), (4, .hdr 8), (5, .hdr 16), (6, .raw (.string z.told))], [(8, some (.cells 133 [.hdr 9, .raw (.int .i64 0), .raw (.int .i64 0)])), (9, some (.row 56 20 [])), (16, some (.cells 54 (lSty z.st)))], none⟩) (fun z => z.k ≤ l.length ∧ z.told.size < 100 ∧ ∃ f, attrS l f z.k z.told z.st = some (st, k1)) (fun z => l.length - z.k) 30 ⟨k + 1, ⟨#[]⟩, sty2⟩ (by simp only [go_sem, Bool.not_eq_true', Bool.not_eq_false']; rfl) (by simp only [go_sem, Bool.not_eq_true', Bool.not_eq_false']) ?_ ?_
    · exact ⟨hk, by show (0 : Nat) < 100; omega, _, ha⟩
    · rintro ⟨kk, told, s⟩ ⟨q1, q2, f, q3⟩
      simp only at q1 q2 q3
      obtain ⟨g, rfl⟩ : ∃ g, f = g + 1 := by
        cases f with
        | zero => simp [attrS] at q3
        | succ g => exact ⟨g, rfl⟩
      rw [attrS] at q3
      (refine swp_seqW ?_; simp only [go_sem, Bool.not_eq_true', Bool.not_eq_false'])
      (refine acall2 [] (letter5_ok l kk told hl (by omega)) (by simp only [go_sem, Bool.not_eq_true', Bool.not_eq_false']; rfl) (fit_of (by simp only [go_sem, Bool.not_eq_true', Bool.not_eq_false']) (by simp only [go_sem, Bool.not_eq_true', Bool.not_eq_false']) (by simp only [go_sem, Bool.not_eq_true', Bool.not_eq_false']) (by simp only [go_sem, Bool.not_eq_true', Bool.not_eq_false']) (by simp only [go_sem, Bool.not_eq_true', Bool.not_eq_false']) (by simp only [go_sem, Bool.not_eq_true', Bool.not_eq_false']) (by simp only [go_sem, Bool.not_eq_true', Bool.not_eq_false'])) ?_; simp only [go_sem, Bool.not_eq_true', Bool.not_eq_false'])
      refine ⟨fun h7 => ?_, fun h7 => ?_⟩
      · rw [if_neg h7] at q3
        split at q3
        case isFalse => cases q3
        next hh =>
        obtain ⟨w1, w2, w3, w4⟩ := hh
        have e1 : ∀ c : UInt8, (ByteArray.empty.push c).size = 1 := fun c => rfl
        (refine swp_lastW ?_; simp only [go_sem, Bool.not_eq_true', Bool.not_eq_false', List.length_map])
        (refine acall2 [] (letter5_ok l kk told hl (by omega)) (by simp only [go_sem, Bool.not_eq_true', Bool.not_eq_false']; rfl) (fit_of (by simp only [go_sem, Bool.not_eq_true', Bool.not_eq_false']) (by simp only [go_sem, Bool.not_eq_true', Bool.not_eq_false']) (by simp only [go_sem, Bool.not_eq_true', Bool.not_eq_false']) (by simp only [go_sem, Bool.not_eq_true', Bool.not_eq_false']) (by simp only [go_sem, Bool.not_eq_true', Bool.not_eq_false']) (by simp only [go_sem, Bool.not_eq_true', Bool.not_eq_false']) (by simp only [go_sem, Bool.not_eq_true', Bool.not_eq_false'])) ?_; simp only [go_sem, Bool.not_eq_true', Bool.not_eq_false'])
        generalize letterS l kk told = c at w3 w4 q3 h7
        (refine acall2 [] (limits5_ok c) (by simp only [go_sem, Bool.not_eq_true', Bool.not_eq_false']; rfl) (fit_of (by simp only [go_sem, Bool.not_eq_true', Bool.not_eq_false']) (by simp only [go_sem, Bool.not_eq_true', Bool.not_eq_false']) (by simp only [go_sem, Bool.not_eq_true', Bool.not_eq_false']) (by simp only [go_sem, Bool.not_eq_true', Bool.not_eq_false']) (by simp only [go_sem, Bool.not_eq_true', Bool.not_eq_false']) (by simp only [go_sem, Bool.not_eq_true', Bool.not_eq_false']) (by simp only [go_sem, Bool.not_eq_true', Bool.not_eq_false'])) ?_; simp only [go_sem, Bool.not_eq_true', Bool.not_eq_false'])
        refine ⟨by omega, ?_⟩
        (refine acall2 [] (num5_ok l (kk + 1) (limA c) (limB c) hl) (by simp only [go_sem, Bool.not_eq_true', Bool.not_eq_false']; rfl) (fit_of (by simp only [go_sem, Bool.not_eq_true', Bool.not_eq_false']) (by simp only [go_sem, Bool.not_eq_true', Bool.not_eq_false']) (by simp only [go_sem, Bool.not_eq_true', Bool.not_eq_false']) (by simp only [go_sem, Bool.not_eq_true', Bool.not_eq_false']) (by simp only [go_sem, Bool.not_eq_true', Bool.not_eq_false']) (by simp only [go_sem, Bool.not_eq_true', Bool.not_eq_false']) (by simp only [go_sem, Bool.not_eq_true', Bool.not_eq_false'])) ?_; simp only [go_sem, Bool.not_eq_true', Bool.not_eq_false', w4])
        refine ⟨by omega, by omega, get_tk (by omega) ?_⟩
        generalize (tkAt l (kk + 1)).n = n at q3
        (refine acall2 [] (with5_ok s c n) (by simp only [go_sem, Bool.not_eq_true', Bool.not_eq_false']; rfl) (fit_of (by simp only [go_sem, Bool.not_eq_true', Bool.not_eq_false']) (by simp only [go_sem, Bool.not_eq_true', Bool.not_eq_false']) (by simp only [go_sem, Bool.not_eq_true', Bool.not_eq_false']) (by simp only [go_sem, Bool.not_eq_true', Bool.not_eq_false']) (by simp only [go_sem, Bool.not_eq_true', Bool.not_eq_false']) (by simp only [go_sem, Bool.not_eq_true', Bool.not_eq_false']) (by simp only [go_sem, Bool.not_eq_true', Bool.not_eq_false'])) ?_; simp only [go_sem, Bool.not_eq_true', Bool.not_eq_false'])
        refine ⟨(by kernel_rfl), ?_⟩
        repeat' first | refine And.intro ?_ ?_
        all_goals first
          | omega
          | (rw [e1]; omega)
          | ((refine loop_end [] (⟨kk + 2, pushB told c, withS s c n⟩) (by simp only [go_sem, Bool.not_eq_true', Bool.not_eq_false']; rfl) ?_ ?_ ?_; (focus first | omega | (simp only; omega)); (focus (simp only [go_sem, Bool.not_eq_true', Bool.not_eq_false', pushB]; done)))
             exact ⟨by show kk + 2 ≤ l.length; omega, w3, g, q3⟩)
      · rw [if_pos h7] at q3
        injection q3 with q3
        injection q3 with q5 q6
        subst q5; subst q6
        (refine cut_end [] (()) (by simp only [go_sem, Bool.not_eq_true', Bool.not_eq_false']; rfl) ?_ ?_; (focus (simp only [go_sem, Bool.not_eq_true', Bool.not_eq_false']; done)))
        trivial
  rintro - -
  (refine swp_seqW ?_; simp only [go_sem, Bool.not_eq_true', Bool.not_eq_false'])
  (refine acall2 [] (hnode) (by simp only [go_sem, Bool.not_eq_true', Bool.not_eq_false']; rfl) (fit_of (by simp only [go_sem, Bool.not_eq_true', Bool.not_eq_false']) (by simp only [go_sem, Bool.not_eq_true', Bool.not_eq_false']) (by simp only [go_sem, Bool.not_eq_true', Bool.not_eq_false']) (by simp only [go_sem, Bool.not_eq_true', Bool.not_eq_false']) (by simp only [go_sem, Bool.not_eq_true', Bool.not_eq_false']) (by simp only [go_sem, Bool.not_eq_true', Bool.not_eq_false']) (by simp only [go_sem, Bool.not_eq_true', Bool.not_eq_false'])) ?_; simp only [go_sem, Bool.not_eq_true', Bool.not_eq_false'])
  (refine swp_seqW ?_; simp only [go_sem, Bool.not_eq_true', Bool.not_eq_false', Int.reduceToNat, Int.reduceLT, Int.reduceLE, Int.reduceEq, Int.reduceAdd, Int.reduceSub, Int.reduceMul, Int.reduceNeg, Int.reduceNe, decide_false, Int.cast_ofNat_Int, kSet, List.getElem?_cons_succ, List.getElem?_cons_zero, List.set_cons_succ, List.set_cons_zero, exists_eq_left', forall_const, true_implies])
  (refine swp_seqW ?_; simp only [go_sem, Bool.not_eq_true', Bool.not_eq_false'])
  (refine acall2 [] (sign5_ok l k2 93 hl) (by simp only [go_sem, Bool.not_eq_true', Bool.not_eq_false']; rfl) (fit_of (by simp only [go_sem, Bool.not_eq_true', Bool.not_eq_false']) (by simp only [go_sem, Bool.not_eq_true', Bool.not_eq_false']) (by simp only [go_sem, Bool.not_eq_true', Bool.not_eq_false']) (by simp only [go_sem, Bool.not_eq_true', Bool.not_eq_false']) (by simp only [go_sem, Bool.not_eq_true', Bool.not_eq_false']) (by simp only [go_sem, Bool.not_eq_true', Bool.not_eq_false']) (by simp only [go_sem, Bool.not_eq_true', Bool.not_eq_false'])) ?_; simp only [go_sem, Bool.not_eq_true', Bool.not_eq_false', h93])
  (refine swp_lastW ?_; simp only [go_sem, Bool.not_eq_true', Bool.not_eq_false', List.length_map])
  repeat' first | refine And.intro ?_ ?_
  all_goals first
    | omega
    | (show drawB _ _ = true; kernel_rfl)
    | (refine ret2 [232] (by simp only [go_sem, Bool.not_eq_true', Bool.not_eq_false']; rfl) ?_; simp only [go_sem, Bool.not_eq_true', Bool.not_eq_false'])
end Go.Proofs.YtblmebjhhanoaaaGreat
/- THE SCRIPT'S READER: one node, nodes. -/
/- G -/
/- BOOLS -/
/- GET get_tk -/
set_option linter.unusedSimpArgs false
set_option linter.unusedVariables false
namespace Go.Proofs.YtblmebjhhanoaaaGreat
open Go.RowKit

set_option maxRecDepth 100000 in
set_option maxHeartbeats 4000000 in
theorem one5_ok (rec : Nat → Option (List LNo × Nat)) (l : List LTk) (hrec : ∀ k r, k ≤ l.length → rec k = some r → FnOk Tryz.prog 81 [.sl 4 (l.map cTk), .raw (.int .i64 k)] [] (aGot r) []) (k : Nat) (r : List LNo × Nat) (hl : l.length ≤ 1000) (hk : k ≤ l.length) (h : oneS rec l k = some r) : FnOk Tryz.prog 114 [.sl 4 (l.map cTk), .raw (.int .i64 k)] [] (aGot r) [] := by
  refine fn_of_swp Tryz.func114 rfl (by kernel_rfl) (by kernel_rfl) (Nat.le_of_ble_eq_true rfl) Tryz.results114 ?_
  unfold oneS at h
  (refine swp_seqW ?_; simp only [go_sem, Bool.not_eq_true', Bool.not_eq_false'])
  (refine swp_seqW ?_; simp only [go_sem, Bool.not_eq_true', Bool.not_eq_false'])
  (refine acall2 [] (sign5_ok l k 91 hl) (by simp only [go_sem, Bool.not_eq_true', Bool.not_eq_false']; rfl) (fit_of (by simp only [go_sem, Bool.not_eq_true', Bool.not_eq_false']) (by simp only [go_sem, Bool.not_eq_true', Bool.not_eq_false']) (by simp only [go_sem, Bool.not_eq_true', Bool.not_eq_false']) (by simp only [go_sem, Bool.not_eq_true', Bool.not_eq_false']) (by simp only [go_sem, Bool.not_eq_true', Bool.not_eq_false']) (by simp only [go_sem, Bool.not_eq_true', Bool.not_eq_false']) (by simp only [go_sem, Bool.not_eq_true', Bool.not_eq_false'])) ?_; simp only [go_sem, Bool.not_eq_true', Bool.not_eq_false'])
  refine ⟨fun h1 => ?_, fun h1 => ?_⟩
  · rw [if_pos h1] at h
    (refine acall2 [] (block5_ok rec l hrec k r hl h) (by simp only [go_sem, Bool.not_eq_true', Bool.not_eq_false']; rfl) (fit_of (by simp only [go_sem, Bool.not_eq_true', Bool.not_eq_false']) (by simp only [go_sem, Bool.not_eq_true', Bool.not_eq_false']) (by simp only [go_sem, Bool.not_eq_true', Bool.not_eq_false']) (by simp only [go_sem, Bool.not_eq_true', Bool.not_eq_false']) (by simp only [go_sem, Bool.not_eq_true', Bool.not_eq_false']) (by simp only [go_sem, Bool.not_eq_true', Bool.not_eq_false']) (by simp only [go_sem, Bool.not_eq_true', Bool.not_eq_false'])) ?_; simp only [go_sem, Bool.not_eq_true', Bool.not_eq_false'])
    (refine ret2 [] (by simp only [go_sem, Bool.not_eq_true', Bool.not_eq_false']; rfl) ?_; simp only [go_sem, Bool.not_eq_true', Bool.not_eq_false'])
  rw [if_neg (by rw [h1]; decide)] at h
  (refine swp_seqW ?_; simp only [go_sem, Bool.not_eq_true', Bool.not_eq_false'])
  (refine acall2 [] (sign5_ok l k 40 hl) (by simp only [go_sem, Bool.not_eq_true', Bool.not_eq_false']; rfl) (fit_of (by simp only [go_sem, Bool.not_eq_true', Bool.not_eq_false']) (by simp only [go_sem, Bool.not_eq_true', Bool.not_eq_false']) (by simp only [go_sem, Bool.not_eq_true', Bool.not_eq_false']) (by simp only [go_sem, Bool.not_eq_true', Bool.not_eq_false']) (by simp only [go_sem, Bool.not_eq_true', Bool.not_eq_false']) (by simp only [go_sem, Bool.not_eq_true', Bool.not_eq_false']) (by simp only [go_sem, Bool.not_eq_true', Bool.not_eq_false'])) ?_; simp only [go_sem, Bool.not_eq_true', Bool.not_eq_false'])
  refine ⟨fun h2 => ?_, fun h2 => ?_⟩
  · rw [if_pos h2] at h
    (refine acall2 [] (text5_ok l k r hl h) (by simp only [go_sem, Bool.not_eq_true', Bool.not_eq_false']; rfl) (fit_of (by simp only [go_sem, Bool.not_eq_true', Bool.not_eq_false']) (by simp only [go_sem, Bool.not_eq_true', Bool.not_eq_false']) (by simp only [go_sem, Bool.not_eq_true', Bool.not_eq_false']) (by simp only [go_sem, Bool.not_eq_true', Bool.not_eq_false']) (by simp only [go_sem, Bool.not_eq_true', Bool.not_eq_false']) (by simp only [go_sem, Bool.not_eq_true', Bool.not_eq_false']) (by simp only [go_sem, Bool.not_eq_true', Bool.not_eq_false'])) ?_; simp only [go_sem, Bool.not_eq_true', Bool.not_eq_false'])
    (refine ret2 [] (by simp only [go_sem, Bool.not_eq_true', Bool.not_eq_false']; rfl) ?_; simp only [go_sem, Bool.not_eq_true', Bool.not_eq_false'])
  rw [if_neg (by rw [h2]; decide)] at h
  (refine swp_seqW ?_; simp only [go_sem, Bool.not_eq_true', Bool.not_eq_false'])
  (refine acall2 [] (sign5_ok l k 123 hl) (by simp only [go_sem, Bool.not_eq_true', Bool.not_eq_false']; rfl) (fit_of (by simp only [go_sem, Bool.not_eq_true', Bool.not_eq_false']) (by simp only [go_sem, Bool.not_eq_true', Bool.not_eq_false']) (by simp only [go_sem, Bool.not_eq_true', Bool.not_eq_false']) (by simp only [go_sem, Bool.not_eq_true', Bool.not_eq_false']) (by simp only [go_sem, Bool.not_eq_true', Bool.not_eq_false']) (by simp only [go_sem, Bool.not_eq_true', Bool.not_eq_false']) (by simp only [go_sem, Bool.not_eq_true', Bool.not_eq_false'])) ?_; simp only [go_sem, Bool.not_eq_true', Bool.not_eq_false'])
  refine ⟨fun h3 => ?_, fun h3 => ?_⟩
  · rw [if_pos h3] at h
    refine ⟨by omega, ?_⟩
    (refine acallF2 [112 ] [] ( box5_ok l (k + 1) ⟨3, 1, sty0, 0, 0, [], 0, 0, 0⟩ 125 r hl h) (by simp only [go_sem, Bool.not_eq_true', Bool.not_eq_false']; rfl) (fit_of (by simp only [go_sem, Bool.not_eq_true', Bool.not_eq_false']) (by simp only [go_sem, Bool.not_eq_true', Bool.not_eq_false']) (by simp only [go_sem, Bool.not_eq_true', Bool.not_eq_false']) (by simp only [go_sem, Bool.not_eq_true', Bool.not_eq_false']) (by simp only [go_sem, Bool.not_eq_true', Bool.not_eq_false']) (by simp only [go_sem, Bool.not_eq_true', Bool.not_eq_false']) (by simp only [go_sem, Bool.not_eq_true', Bool.not_eq_false'])) ?_; simp only [go_sem, Bool.not_eq_true', Bool.not_eq_false'])
    (refine ret2 [] (by simp only [go_sem, Bool.not_eq_true', Bool.not_eq_false']; rfl) ?_; simp only [go_sem, Bool.not_eq_true', Bool.not_eq_false'])
  rw [if_neg (by rw [h3]; decide)] at h
  (refine swp_seqW ?_; simp only [go_sem, Bool.not_eq_true', Bool.not_eq_false'])
  refine ⟨by omega, ?_⟩
  (refine acall2 [] (sign5_ok l (k + 1) 76 hl) (by simp only [go_sem, Bool.not_eq_true', Bool.not_eq_false']; rfl) (fit_of (by simp only [go_sem, Bool.not_eq_true', Bool.not_eq_false']) (by simp only [go_sem, Bool.not_eq_true', Bool.not_eq_false']) (by simp only [go_sem, Bool.not_eq_true', Bool.not_eq_false']) (by simp only [go_sem, Bool.not_eq_true', Bool.not_eq_false']) (by simp only [go_sem, Bool.not_eq_true', Bool.not_eq_false']) (by simp only [go_sem, Bool.not_eq_true', Bool.not_eq_false']) (by simp only [go_sem, Bool.not_eq_true', Bool.not_eq_false'])) ?_; simp only [go_sem, Bool.not_eq_true', Bool.not_eq_false'])
  refine ⟨fun h4 => ?_, fun h4 => ?_⟩
  · rw [if_pos h4] at h
    refine ⟨by omega, ?_⟩
    (refine acallF2 [144 ] [] ( box5_ok l (k + 2) ⟨4, 1, sty0, 0, 0, [], 1, 0, 0⟩ 62 r hl h) (by simp only [go_sem, Bool.not_eq_true', Bool.not_eq_false']; rfl) (fit_of (by simp only [go_sem, Bool.not_eq_true', Bool.not_eq_false']) (by simp only [go_sem, Bool.not_eq_true', Bool.not_eq_false']) (by simp only [go_sem, Bool.not_eq_true', Bool.not_eq_false']) (by simp only [go_sem, Bool.not_eq_true', Bool.not_eq_false']) (by simp only [go_sem, Bool.not_eq_true', Bool.not_eq_false']) (by simp only [go_sem, Bool.not_eq_true', Bool.not_eq_false']) (by simp only [go_sem, Bool.not_eq_true', Bool.not_eq_false'])) ?_; simp only [go_sem, Bool.not_eq_true', Bool.not_eq_false'])
    (refine ret2 [] (by simp only [go_sem, Bool.not_eq_true', Bool.not_eq_false']; rfl) ?_; simp only [go_sem, Bool.not_eq_true', Bool.not_eq_false'])
  rw [if_neg (by rw [h4]; decide)] at h
  (refine swp_seqW ?_; simp only [go_sem, Bool.not_eq_true', Bool.not_eq_false'])
  refine ⟨by omega, ?_⟩
  (refine acall2 [] (sign5_ok l (k + 1) 82 hl) (by simp only [go_sem, Bool.not_eq_true', Bool.not_eq_false']; rfl) (fit_of (by simp only [go_sem, Bool.not_eq_true', Bool.not_eq_false']) (by simp only [go_sem, Bool.not_eq_true', Bool.not_eq_false']) (by simp only [go_sem, Bool.not_eq_true', Bool.not_eq_false']) (by simp only [go_sem, Bool.not_eq_true', Bool.not_eq_false']) (by simp only [go_sem, Bool.not_eq_true', Bool.not_eq_false']) (by simp only [go_sem, Bool.not_eq_true', Bool.not_eq_false']) (by simp only [go_sem, Bool.not_eq_true', Bool.not_eq_false'])) ?_; simp only [go_sem, Bool.not_eq_true', Bool.not_eq_false'])
  refine ⟨fun h5 => ?_, fun h5 => ?_⟩
  · rw [if_pos h5] at h
    refine ⟨by omega, ?_⟩
    (refine acallF2 [176 ] [] ( box5_ok l (k + 2) ⟨4, 1, sty0, 0, 0, [], 2, 0, 0⟩ 62 r hl h) (by simp only [go_sem, Bool.not_eq_true', Bool.not_eq_false']; rfl) (fit_of (by simp only [go_sem, Bool.not_eq_true', Bool.not_eq_false']) (by simp only [go_sem, Bool.not_eq_true', Bool.not_eq_false']) (by simp only [go_sem, Bool.not_eq_true', Bool.not_eq_false']) (by simp only [go_sem, Bool.not_eq_true', Bool.not_eq_false']) (by simp only [go_sem, Bool.not_eq_true', Bool.not_eq_false']) (by simp only [go_sem, Bool.not_eq_true', Bool.not_eq_false']) (by simp only [go_sem, Bool.not_eq_true', Bool.not_eq_false'])) ?_; simp only [go_sem, Bool.not_eq_true', Bool.not_eq_false'])
    (refine ret2 [] (by simp only [go_sem, Bool.not_eq_true', Bool.not_eq_false']; rfl) ?_; simp only [go_sem, Bool.not_eq_true', Bool.not_eq_false'])
  rw [if_neg (by rw [h5]; decide)] at h
  cases h
theorem nodesG_len (rec : Nat → Option (List LNo × Nat)) (l : List LTk) : ∀ g k r, nodesG rec l g k = some r → r.1.length < 1000
  | 0, k, r, h => by cases h
  | g + 1, k, r, h => by
    rw [nodesG] at h
    split at h
    case isFalse => cases h
    split at h
    case isFalse =>
      injection h with h
      subst h
      exact Nat.zero_lt_succ _
    split at h
    case h_2 => cases h
    split at h
    case isFalse => cases h
    split at h
    case h_2 => cases h
    split at h
    case isFalse => cases h
    next hh =>
    injection h with h
    subst h
    simp only [List.length_append]
    exact hh
structure LNd where
  k : Nat
  acc : List LNo
set_option maxRecDepth 100000 in
set_option maxHeartbeats 4000000 in
theorem nodesG_ok (rec : Nat → Option (List LNo × Nat)) (l : List LTk) (hrec : ∀ k r, k ≤ l.length → rec k = some r → FnOk Tryz.prog 81 [.sl 4 (l.map cTk), .raw (.int .i64 k)] [] (aGot r) []) (g k : Nat) (r : List LNo × Nat) (hl : l.length ≤ 1000) (hk : k ≤ l.length) (h : nodesG rec l g k = some r) : FnOk Tryz.prog 81 [.sl 4 (l.map cTk), .raw (.int .i64 k)] [] (aGot r) [] := by
  have hlen := nodesG_len rec l g k r h
  refine fn_of_swp Tryz.func81 rfl (by kernel_rfl) (by kernel_rfl) (Nat.le_of_ble_eq_true rfl) Tryz.results81 ?_
  (refine swp_seqW ?_; simp only [go_sem, Bool.not_eq_true', Bool.not_eq_false'])
  (refine swp_seqW ?_; simp only [go_sem, Bool.not_eq_true', Bool.not_eq_false'])
  refine swp_cutS (fun z : LNd => ⟨[(4, .hdr 8), (5, .hdr 16)], [(8, some (.cells 133 [.hdr 9, .raw (.int .i64 0), .raw (.int .i64 0)])), (9, some (.row 56 20 [])), (16, some (.cells 133 [.hdr 17, .raw (.int .i64 z.k), .raw (.int .i64 0)])), (17, some (.row 56 20 (z.acc.map cNo)))], none⟩) (fun z => (z.acc, z.k) = r) 4 ?_ ?_
  · refine swp_block ?_
    refine swp_loop2 [] (fun z : LNd => ⟨[(0, .sl 4 (l.map cTk)), (4, .hdr 8), (5, .hdr 16)], [(8, some (.cells 133 [.hdr 9, .raw (.int .i64 0), .raw (.int .i64 0)])), (9, some (.row 56 20 [])), (16, some (.cells 133 [.hdr 17, .raw (.int .i64 z.k), .raw (.int .i64 0)])), (17, some (.row 56 20 (z.acc.map cNo)))], none⟩) (fun z => z.k ≤ l.length ∧ ∃ f q, nodesG rec l f z.k = some q ∧ (z.acc ++ q.1, q.2) = r) (fun z => l.length - z.k) 40 ⟨k, []⟩ (by simp only [go_sem, Bool.not_eq_true', Bool.not_eq_false']; rfl) (by simp only [go_sem, Bool.not_eq_true', Bool.not_eq_false']) ?_ ?_
    · exact ⟨hk, g, r, h, rfl⟩
    · rintro ⟨kk, acc⟩ ⟨q1, f, q, q2, q3⟩
      simp only at q1 q2 q3
      obtain ⟨f, rfl⟩ : ∃ f', f = f' + 1 := by
        cases f with
        | zero => cases q2
        | succ g => exact ⟨g, rfl⟩
      rw [nodesG, if_pos q1] at q2
      (refine swp_seqW ?_; simp only [go_sem, Bool.not_eq_true', Bool.not_eq_false'])
      (refine acall2 [] (sign5_ok l kk 91 hl) (by simp only [go_sem, Bool.not_eq_true', Bool.not_eq_false']; rfl) (fit_of (by simp only [go_sem, Bool.not_eq_true', Bool.not_eq_false']) (by simp only [go_sem, Bool.not_eq_true', Bool.not_eq_false']) (by simp only [go_sem, Bool.not_eq_true', Bool.not_eq_false']) (by simp only [go_sem, Bool.not_eq_true', Bool.not_eq_false']) (by simp only [go_sem, Bool.not_eq_true', Bool.not_eq_false']) (by simp only [go_sem, Bool.not_eq_true', Bool.not_eq_false']) (by simp only [go_sem, Bool.not_eq_true', Bool.not_eq_false'])) ?_; simp only [go_sem, Bool.not_eq_true', Bool.not_eq_false'])
      refine ⟨fun c1 => ?_, fun c1 => ?_⟩
      (refine acall2 [] (sign5_ok l kk 40 hl) (by simp only [go_sem, Bool.not_eq_true', Bool.not_eq_false']; rfl) (fit_of (by simp only [go_sem, Bool.not_eq_true', Bool.not_eq_false']) (by simp only [go_sem, Bool.not_eq_true', Bool.not_eq_false']) (by simp only [go_sem, Bool.not_eq_true', Bool.not_eq_false']) (by simp only [go_sem, Bool.not_eq_true', Bool.not_eq_false']) (by simp only [go_sem, Bool.not_eq_true', Bool.not_eq_false']) (by simp only [go_sem, Bool.not_eq_true', Bool.not_eq_false']) (by simp only [go_sem, Bool.not_eq_true', Bool.not_eq_false'])) ?_; simp only [go_sem, Bool.not_eq_true', Bool.not_eq_false'])
      refine ⟨fun c2 => ?_, fun c2 => ?_⟩
      (refine acall2 [] (sign5_ok l kk 123 hl) (by simp only [go_sem, Bool.not_eq_true', Bool.not_eq_false']; rfl) (fit_of (by simp only [go_sem, Bool.not_eq_true', Bool.not_eq_false']) (by simp only [go_sem, Bool.not_eq_true', Bool.not_eq_false']) (by simp only [go_sem, Bool.not_eq_true', Bool.not_eq_false']) (by simp only [go_sem, Bool.not_eq_true', Bool.not_eq_false']) (by simp only [go_sem, Bool.not_eq_true', Bool.not_eq_false']) (by simp only [go_sem, Bool.not_eq_true', Bool.not_eq_false']) (by simp only [go_sem, Bool.not_eq_true', Bool.not_eq_false'])) ?_; simp only [go_sem, Bool.not_eq_true', Bool.not_eq_false'])
      refine ⟨fun c3 => ?_, fun c3 => ?_⟩
      (refine acall2 [] (sign5_ok l kk 60 hl) (by simp only [go_sem, Bool.not_eq_true', Bool.not_eq_false']; rfl) (fit_of (by simp only [go_sem, Bool.not_eq_true', Bool.not_eq_false']) (by simp only [go_sem, Bool.not_eq_true', Bool.not_eq_false']) (by simp only [go_sem, Bool.not_eq_true', Bool.not_eq_false']) (by simp only [go_sem, Bool.not_eq_true', Bool.not_eq_false']) (by simp only [go_sem, Bool.not_eq_true', Bool.not_eq_false']) (by simp only [go_sem, Bool.not_eq_true', Bool.not_eq_false']) (by simp only [go_sem, Bool.not_eq_true', Bool.not_eq_false'])) ?_; simp only [go_sem, Bool.not_eq_true', Bool.not_eq_false'])
      refine ⟨fun c4 => ?_, fun c4 => ?_⟩
      rotate_left
      · rw [if_neg (by simp [startB, c1, c2, c3, c4])] at q2
        injection q2 with q2
        subst q2
        (refine cut_end [] (⟨kk, acc⟩) (by simp only [go_sem, Bool.not_eq_true', Bool.not_eq_false']; rfl) ?_ ?_; (focus (simp only [go_sem, Bool.not_eq_true', Bool.not_eq_false']; done)))
        rw [← q3]; simp
      all_goals (have hs : startB l kk = true := by simp [startB, *])
      all_goals
        rw [if_pos hs] at q2
        split at q2
        case h_2 => cases q2
        next ns k1 hone =>
        split at q2
        case isFalse => cases q2
        next hk1 =>
        split at q2
        case h_2 => cases q2
        next rr k2 hrest =>
        split at q2
        case isFalse => cases q2
        next hh =>
        injection q2 with q2
        subst q2
        subst q3
        simp only [List.length_append] at hlen
        refine swp_block ?_
        (refine swp_seqW ?_; simp only [go_sem, Bool.not_eq_true', Bool.not_eq_false'])
        (refine acall2 [] (one5_ok rec l hrec kk (ns, k1) hl q1 hone) (by simp only [go_sem, Bool.not_eq_true', Bool.not_eq_false']; rfl) (fit_of (by simp only [go_sem, Bool.not_eq_true', Bool.not_eq_false']) (by simp only [go_sem, Bool.not_eq_true', Bool.not_eq_false']) (by simp only [go_sem, Bool.not_eq_true', Bool.not_eq_false']) (by simp only [go_sem, Bool.not_eq_true', Bool.not_eq_false']) (by simp only [go_sem, Bool.not_eq_true', Bool.not_eq_false']) (by simp only [go_sem, Bool.not_eq_true', Bool.not_eq_false']) (by simp only [go_sem, Bool.not_eq_true', Bool.not_eq_false'])) ?_; simp only [go_sem, Bool.not_eq_true', Bool.not_eq_false'])
        (refine swp_lastW ?_; simp only [go_sem, Bool.not_eq_true', Bool.not_eq_false', Int.reduceToNat, Int.reduceLT, Int.reduceLE, Int.reduceEq, Int.reduceAdd, Int.reduceSub, Int.reduceMul, Int.reduceNeg, Int.reduceNe, decide_false, Int.cast_ofNat_Int, kSet, List.getElem?_cons_succ, List.getElem?_cons_zero, List.set_cons_succ, List.set_cons_zero, exists_eq_left', forall_const, true_implies, List.length_map])
        refine ⟨⟨by omega, by omega⟩, ?_⟩
        have hb : k1 ≤ l.length := by
          cases f with
          | zero => cases hrest
          | succ f =>
            rw [nodesG] at hrest
            split at hrest
            case isFalse => cases hrest
            next hb => exact hb
        (refine loop_end [] (⟨k1, acc ++ ns⟩) (by simp only [go_sem, Bool.not_eq_true', Bool.not_eq_false']; rfl) ?_ ?_ ?_; (focus first | omega | (simp only; omega)); (focus (simp only [go_sem, Bool.not_eq_true', Bool.not_eq_false', List.map_append]; done)))
        exact ⟨hb, f, (rr, k2), hrest, by simp⟩
  rintro ⟨kk, acc⟩ hr
  subst hr
  (refine swp_lastW ?_; simp only [go_sem, Bool.not_eq_true', Bool.not_eq_false'])
  (refine ret2 [17] (by simp only [go_sem, Bool.not_eq_true', Bool.not_eq_false']; rfl) ?_; simp only [go_sem, Bool.not_eq_true', Bool.not_eq_false'])
end Go.Proofs.YtblmebjhhanoaaaGreat
/- THE SCRIPT'S READER: the whole. -/
/- G -/
/- BOOLS -/
set_option linter.unusedSimpArgs false
set_option linter.unusedVariables false
namespace Go.Proofs.YtblmebjhhanoaaaGreat
open Go.RowKit

theorem nodes5_ok (l : List LTk) (hl : l.length ≤ 1000) : ∀ (f k : Nat) (r : List LNo × Nat), k ≤ l.length → nodesS l f k = some r → FnOk Tryz.prog 81 [.sl 4 (l.map cTk), .raw (.int .i64 k)] [] (aGot r) []
  | 0, _, _, _, h => by cases h
  | f + 1, k, r, hk, h => nodesG_ok (nodesS l f) l (nodes5_ok l hl f) (l.length + 1) k r hl hk h
set_option maxRecDepth 100000 in
set_option maxHeartbeats 4000000 in
theorem of5_ok (s : ByteArray) (l : List LTk) (ns : List LNo) (ha : ascii s) (hs : s.size ≤ 1000) (h1 : tokS s (s.size + 1) 0 = some l) (hl : l.length ≤ 1000) (h2 : nodesS l (l.length + 1) 0 = some (ns, l.length)) : FnOk Tryz.prog 45 [.raw (.string s)] [] (.tup [.sl 20 (ns.map cNo), .raw (.int .i64 0), .raw (.int .i64 0)]) [] := by
  have hn : FnOk Tryz.prog 81 [.sl 4 (l.map cTk), .raw (.int .i64 0)] [] (aGot (ns, l.length)) [] := nodes5_ok l hl (l.length + 1) 0 (ns, l.length) (Nat.zero_le _) h2
  refine fn_of_awp Tryz.func45 rfl (by kernel_rfl) (by kernel_rfl) (Nat.le_of_ble_eq_true rfl) Tryz.results45 ?_
  simp only [go_sem, Bool.not_eq_true', Bool.not_eq_false']
  (refine acall2 [] (tok4_ok s l ha hs h1) (by simp only [go_sem, Bool.not_eq_true', Bool.not_eq_false']; rfl) (fit_of (by simp only [go_sem, Bool.not_eq_true', Bool.not_eq_false']) (by simp only [go_sem, Bool.not_eq_true', Bool.not_eq_false']) (by simp only [go_sem, Bool.not_eq_true', Bool.not_eq_false']) (by simp only [go_sem, Bool.not_eq_true', Bool.not_eq_false']) (by simp only [go_sem, Bool.not_eq_true', Bool.not_eq_false']) (by simp only [go_sem, Bool.not_eq_true', Bool.not_eq_false']) (by simp only [go_sem, Bool.not_eq_true', Bool.not_eq_false'])) ?_; simp only [go_sem, Bool.not_eq_true', Bool.not_eq_false', Int.reduceToNat, Int.reduceLT, Int.reduceLE, Int.reduceEq, Int.reduceAdd, Int.reduceSub, Int.reduceMul, Int.reduceNeg, Int.reduceNe, decide_false, Int.cast_ofNat_Int, kSet, List.getElem?_cons_succ, List.getElem?_cons_zero, List.set_cons_succ, List.set_cons_zero, exists_eq_left', forall_const, true_implies])
  (refine acallF2 [40 ] [] ( hn) (by simp only [go_sem, Bool.not_eq_true', Bool.not_eq_false']; rfl) (fit_of (by simp only [go_sem, Bool.not_eq_true', Bool.not_eq_false']) (by simp only [go_sem, Bool.not_eq_true', Bool.not_eq_false']) (by simp only [go_sem, Bool.not_eq_true', Bool.not_eq_false']) (by simp only [go_sem, Bool.not_eq_true', Bool.not_eq_false']) (by simp only [go_sem, Bool.not_eq_true', Bool.not_eq_false']) (by simp only [go_sem, Bool.not_eq_true', Bool.not_eq_false']) (by simp only [go_sem, Bool.not_eq_true', Bool.not_eq_false'])) ?_; simp only [go_sem, Bool.not_eq_true', Bool.not_eq_false', Int.reduceToNat, Int.reduceLT, Int.reduceLE, Int.reduceEq, Int.reduceAdd, Int.reduceSub, Int.reduceMul, Int.reduceNeg, Int.reduceNe, decide_false, Int.cast_ofNat_Int, kSet, List.getElem?_cons_succ, List.getElem?_cons_zero, List.set_cons_succ, List.set_cons_zero, exists_eq_left', forall_const, true_implies, List.length_map])
  refine ⟨fun q => absurd q (by omega), fun _ => ?_⟩
  (refine ret2 [] (by simp only [go_sem, Bool.not_eq_true', Bool.not_eq_false']; rfl) ?_; simp only [go_sem, Bool.not_eq_true', Bool.not_eq_false'])
def asciiB (s : ByteArray) : Bool := (List.range s.size).all (fun q => decide (byteAt s q ≤ 127))
theorem ascii_of (s : ByteArray) (h : asciiB s = true) : ascii s := fun q hq => of_decide_eq_true (List.all_eq_true.1 h q (List.mem_range.2 hq))
def rdS (s : ByteArray) : Option (List LNo) :=
  if asciiB s = true ∧ s.size ≤ 1000 then match tokS s (s.size + 1) 0 with
    | some l => if l.length ≤ 1000 then match nodesS l (l.length + 1) 0 with
      | some (ns, k) => if k = l.length then some ns else none
      | none => none
      else none
    | none => none
  else none
set_option maxRecDepth 100000 in
theorem rdS_ok (s : ByteArray) (ns : List LNo) (h : rdS s = some ns) : FnOk Tryz.prog 45 [.raw (.string s)] [] (.tup [.sl 20 (ns.map cNo), .raw (.int .i64 0), .raw (.int .i64 0)]) [] := by
  unfold rdS at h
  split at h
  case isFalse => cases h
  next ha =>
  split at h
  case h_2 => cases h
  next l h1 =>
  split at h
  case isFalse => cases h
  next hl =>
  split at h
  case h_2 => cases h
  next q k h2 =>
  split at h
  case isFalse => cases h
  next hk =>
  injection h with h
  subst h
  subst hk
  exact of5_ok s l q (ascii_of s ha.1) ha.2 h1 hl h2
def scr08 : ByteArray := { data := #[91, 105, 53, 32, 40, 49, 48, 32, 50, 32, 51, 48, 41, 91, 105, 54, 48, 32, 123, 51, 32, 52, 125, 93, 93, 123, 49, 32, 49, 125] }
def nds08 : List LNo := [⟨1, 4, ⟨0, 0, 0, 0, 5, 2, 2, 0, 0, 0, 0, 0⟩, 0, 0, [], 0, 0, 0⟩, ⟨2, 1, sty0, 10, 2, [30], 0, 0, 0⟩, ⟨1, 2, ⟨0, 0, 0, 0, 60, 2, 2, 0, 0, 0, 0, 0⟩, 0, 0, [], 0, 0, 0⟩, ⟨3, 1, sty0, 0, 0, [], 0, 3, 4⟩, ⟨3, 1, sty0, 0, 0, [], 0, 1, 1⟩]
end Go.Proofs.YtblmebjhhanoaaaGreat
/- CHAPTER 15: atoms: what they are asked; which a node holds. -/
/- G -/
/- BOOLS -/
/- GET ex_atA ex_atA' -/
set_option linter.unusedSimpArgs false
set_option linter.unusedVariables false
namespace Go.Proofs.YtblmebjhhanoaaaGreat
open Go.RowKit

/-- the first place that is so; n: there is none. -/
def firstF (pr : Nat → Bool) : Nat → Nat → Nat
  | 0, k => k
  | n + 1, k => if pr k then k else firstF pr n (k + 1)
def firstP (pr : Nat → Bool) (n : Nat) : Nat := firstF pr n 0
/-- a search under way: ahead of i none is so, from j on all are. -/
structure SrX where
  i : Nat
  j : Nat
def SrInv (pr : Nat → Bool) (n : Nat) (z : SrX) : Prop := z.i ≤ z.j ∧ z.j ≤ n ∧ (∀ k, k < z.i → pr k = false) ∧ (∀ k, z.j ≤ k → k < n → pr k = true)
def geA (l : List LAt) (v : Int) (k : Nat) : Bool := decide (v ≤ (atA l k).node)
/-- the place of the first whose node is not below one. -/
def loA (l : List LAt) (v : Int) : Nat := firstP (geA l v) l.length
def MonoA (l : List LAt) : Prop := ∀ i j : Nat, i ≤ j → j < l.length → (atA l i).node ≤ (atA l j).node
def botA (l : List LAt) (k : Int) : Int := if 0 ≤ k ∧ k < l.length then (atA l k).y + (atA l k).h else 0
def gapA (l : List LAt) (k : Int) : Int := if 0 ≤ k ∧ k < l.length then (atA l k).y - botA l (k - 1) else 0
def ofsA (l : List LAt) (i k : Int) : Int := if (0 ≤ i ∧ i < l.length) ∧ 0 ≤ k ∧ k < l.length then (atA l k).y - (atA l i).y else 0
def higA (l : List LAt) (i k : Int) : Int := if (0 ≤ i ∧ i < l.length) ∧ i < k ∧ k ≤ l.length then (atA l (k - 1)).y + (atA l (k - 1)).h - (atA l i).y else 0
structure WiA where
  a : Nat
  b : Nat
def witA (l : List LAt) (u v : Int) : WiA := if loA l u < loA l v then ⟨loA l u, loA l v⟩ else ⟨0, 0⟩
def winA (ns : List LNo) (l : List LAt) (n : Int) : WiA := if 0 ≤ n ∧ n < ns.length then witA l n (n + (ndN ns n.toNat).size) else ⟨0, 0⟩
def aWi (z : WiA) : AV := .tup [.raw (.int .i64 z.a), .raw (.int .i64 z.b)]
attribute [go_sem] aWi
abbrev wiO (l : List LAt) (v : Int) : List (Nat × AO) := [(1, .cells 25 [.sl 8 (l.map cAt)]), (2, .cells 3 [.raw (.int .i64 v)])]
/-- numbers that may be added. -/
def SmA (l : List LAt) : Prop := ∀ q : Int, 0 ≤ q → q < l.length → (-1125899906842624 ≤ (atA l q).y ∧ (atA l q).y ≤ 1125899906842624) ∧ (-1125899906842624 ≤ (atA l q).h ∧ (atA l q).h ≤ 1125899906842624)
end Go.Proofs.YtblmebjhhanoaaaGreat
/- CHAPTERS 14, 15: the chapters' examples: scripts, and their galleys. -/
/- G -/
/- BOOLS -/
/- GET ex_atA ex_atA' -/
set_option linter.unusedSimpArgs false
set_option linter.unusedVariables false
namespace Go.Proofs.YtblmebjhhanoaaaGreat
open Go.RowKit

theorem hw_of {l : List LNo} (h : l.all (fun x => decide (x.words.length ≤ 100)) = true) : ∀ x ∈ l, x.words.length ≤ 9223372036854775807 := fun x hx => by
  have := of_decide_eq_true (List.all_eq_true.1 h x hx)
  omega
def scr15 : ByteArray := { data := #[91, 109, 53, 32, 110, 55, 40, 49, 48, 32, 50, 32, 51, 48, 32, 51, 48, 32, 53, 48, 41, 93, 91, 109, 51, 123, 50, 48, 32, 56, 125, 93] }
def nds15 : List LNo := [⟨1, 2, ⟨5, 7, 0, 0, 0, 2, 2, 0, 0, 0, 0, 0⟩, 0, 0, [], 0, 0, 0⟩, ⟨2, 1, sty0, 10, 2, [30, 30, 50], 0, 0, 0⟩, ⟨1, 2, ⟨3, 0, 0, 0, 0, 2, 2, 0, 0, 0, 0, 0⟩, 0, 0, [], 0, 0, 0⟩, ⟨3, 1, sty0, 0, 0, [], 0, 20, 8⟩]
theorem rd15 : rdS scr15 = some nds15 := by kernel_rfl
theorem w15 : ∀ x ∈ nds15, x.words.length ≤ 9223372036854775807 := hw_of (by kernel_rfl)
def scr14b : ByteArray := { data := #[60, 76, 32, 51, 48, 32, 50, 53, 62, 40, 49, 48, 32, 50, 32, 51, 48, 32, 51, 48, 32, 53, 48, 41] }
def nds14b : List LNo := [⟨4, 1, sty0, 0, 0, [], 1, 30, 25⟩, ⟨2, 1, sty0, 10, 2, [30, 30, 50], 0, 0, 0⟩]
theorem rd14b : rdS scr14b = some nds14b := by kernel_rfl
theorem w14b : ∀ x ∈ nds14b, x.words.length ≤ 9223372036854775807 := hw_of (by kernel_rfl)
def scr14c : ByteArray := { data := #[60, 82, 32, 51, 48, 32, 50, 53, 62, 91, 99, 51, 32, 105, 49, 48, 123, 50, 48, 32, 56, 125, 93] }
def nds14c : List LNo := [⟨4, 1, sty0, 0, 0, [], 2, 30, 25⟩, ⟨1, 2, ⟨0, 0, 0, 0, 10, 2, 2, 0, 0, 0, 0, 3⟩, 0, 0, [], 0, 0, 0⟩, ⟨3, 1, sty0, 0, 0, [], 0, 20, 8⟩]
theorem rd14c : rdS scr14c = some nds14c := by kernel_rfl
theorem w14c : ∀ x ∈ nds14c, x.words.length ≤ 9223372036854775807 := hw_of (by kernel_rfl)
def ats15 : List LAt := [⟨1, 1, 0, 2, 0, 5, 62, 10⟩, ⟨1, 1, 2, 3, 0, 15, 50, 10⟩, ⟨2, 3, 0, 0, 0, 32, 20, 8⟩]
def ats14b : List LAt := [⟨1, 1, 0, 2, 30, 0, 62, 10⟩, ⟨1, 1, 2, 3, 30, 10, 50, 10⟩]
def fls14b : List LFl := [⟨0, 1, 0, 0, 0, 30, 25⟩]
def ats14c : List LAt := [⟨2, 2, 0, 0, 10, 25, 20, 8⟩]
def fls14c : List LFl := [⟨0, 2, 0, 70, 0, 30, 25⟩]
theorem gal15 : resG nds15 100 = ⟨ats15, [], 40⟩ := by kernel_rfl
theorem gal14b : resG nds14b 100 = ⟨ats14b, fls14b, 25⟩ := by kernel_rfl
theorem gal14c : resG nds14c 100 = ⟨ats14c, fls14c, 33⟩ := by kernel_rfl
end Go.Proofs.YtblmebjhhanoaaaGreat
