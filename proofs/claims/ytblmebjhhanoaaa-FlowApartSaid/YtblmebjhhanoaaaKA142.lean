/- CONTRACTS of the functions, and plain laws, joined out of: GFloB GChkB GChkC GChkD GChkE GFloC GFloD GFloP GOncA GRecD GApaA GFloE GFloF GFloG GFloH GScrD GScrE GScrF GAtoA GFloX GFloL GApaB. -/
import Derived.Test.YtblmebjhhanoaaaKA141
/- CHAPTER 14: flow: what is laid out keeps within its bounds. -/
/- G -/
set_option linter.unusedSimpArgs false
set_option linter.unusedVariables false
namespace Go.Proofs.Ytblmebjhhanoaaa
open Go.RowKit

theorem setG_fold (k : Nat) (H : Int) : ∀ (L : List LSet) (s : LGs), (L.foldl (setG k H) s).a = s.a ++ L.map (atL k H) ∧ (L.foldl (setG k H) s).f = s.f
  | [], s => by simp
  | z :: L, s => by
    obtain ⟨h1, h2⟩ := setG_fold k H L (setG k H s z)
    rw [List.foldl_cons, h1, h2]
    simp [setG]
theorem tex_pen {l : List LFl} {ws : List Int} {sp H B : Int} {s : LSpan} {k : Nat} (hH : 1 ≤ H) (hf : ∀ g ∈ l, g.y + g.h ≤ B) : ∀ (n f : Nat) (y C : Int) (g : LGs), f ≤ ws.length → 0 ≤ y → y ≤ C → B ≤ C → 0 ≤ g.p.y ∧ 0 ≤ g.p.m ∧ g.p.y + g.p.m ≤ C →
    0 ≤ ((texG l ws sp H s n f y).foldl (setG k H) g).p.y ∧ 0 ≤ ((texG l ws sp H s n f y).foldl (setG k H) g).p.m ∧ ((texG l ws sp H s n f y).foldl (setG k H) g).p.y + ((texG l ws sp H s n f y).foldl (setG k H) g).p.m ≤ C + H * ((ws.length : Int) - f)
  | 0, f, y, C, g, h0, h1, h2, h3, h4 => by
    have := Int.mul_nonneg (show 0 ≤ H by omega) (show 0 ≤ (ws.length : Int) - f by omega)
    simp only [texG, List.foldl_nil]
    omega
  | n + 1, f, y, C, g, h0, h1, h2, h3, h4 => by
    have hm := Int.mul_nonneg (show 0 ≤ H by omega) (show 0 ≤ (ws.length : Int) - f by omega)
    rw [texG]
    split
    · next q =>
      obtain ⟨t, e1, e2, e3⟩ := lin_t (l := l) (sp := sp) (H := H) (y := y) (s := s) q
      rw [e1, Int.toNat_natCast, List.foldl_cons]
      have hy : (linN l ws sp H f y s).y = romY l (ws.getD f 0) H y s := rfl
      have hge := rom_ge l (ws.getD f 0) H y s
      have hle := rom_le (w := ws.getD f 0) (H := H) (s := s) (Int.le_trans h2 (Int.le_refl C)) (fun g hg => Int.le_trans (hf g hg) h3)
      have ih := tex_pen (k := k) (ws := ws) (sp := sp) (s := s) hH hf n t ((linN l ws sp H f y s).y + H) (C + H) (setG k H g (linN l ws sp H f y s)) e3 (by omega) (by omega) (by omega) ⟨by simp only [setG]; omega, by simp [setG], by simp only [setG]; omega⟩
      have h5 : H * ((ws.length : Int) - f) = H * ((ws.length : Int) - t) + H * ((t : Int) - f) := by rw [← Int.mul_add]; congr 1; omega
      have h6 : H * 1 ≤ H * ((t : Int) - f) := Int.mul_le_mul_of_nonneg_left (by omega) (by omega)
      omega
    · simp only [List.foldl_nil]
      omega
theorem clr_bd {l : List LNo} {B : Int} {k : Nat} {s : LGs} (x : LNo) (h : GsOk l B k s) : 0 ≤ (clrG x s).y ∧ 0 ≤ (clrG x s).m ∧ (clrG x s).y + (clrG x s).m ≤ B := by
  have h1 := h.y
  have h2 := h.m
  have h3 := h.b
  unfold clrG
  split
  · next q =>
    obtain ⟨f, hf, e⟩ := most_at q
    have e : (lowO x.st.clear s.f).n = f.y + f.h := e
    have h4 := (h.fs f hf).y
    have h5 := (h.fs f hf).h
    unfold penC
    split
    · simp only; omega
    · omega
  · omega
theorem ent_ok {l : List LNo} {B : Int} {k : Nat} {s : LGs} {x : LNo} (hk : k < l.length) (hx : Blk6 x) (h : GsOk l B k s) : GsOk l (B + x.st.top + x.st.padTop) (k + 1) (entG x s) := by
  obtain ⟨c1, c2, c3⟩ := clr_bd x h
  have h1 := hx.top
  have h2 := hx.padTop
  have h3 := h.fl
  have h4 := h.al
  have h5 := ps_mono (l := l) (show k ≤ k + 1 by omega) hk
  have e : 0 ≤ (entG x s).p.y ∧ 0 ≤ (entG x s).p.m ∧ (entG x s).p.y + (entG x s).p.m ≤ B + x.st.top + x.st.padTop := by
    simp only [entG, penE, penP]
    split <;> (first | omega | (simp only; omega))
  exact ⟨e.1, e.2.1, e.2.2, by simp only [entG]; omega, by simp only [entG]; omega, fun f hf => (h.fs f hf).mono (by omega) (Nat.le_refl _)⟩
theorem lv_ok {l : List LNo} {B : Int} {k : Nat} {s : LGs} {x : LNo} (hx : Blk6 x) (h : GsOk l B k s) : GsOk l (B + x.st.bottom + x.st.padBottom) k (lvG x s) := by
  have c1 := h.y
  have c2 := h.m
  have c3 := h.b
  have h1 := hx.bottom
  have h2 := hx.padBottom
  have e : 0 ≤ (lvG x s).p.y ∧ 0 ≤ (lvG x s).p.m ∧ (lvG x s).p.y + (lvG x s).p.m ≤ B + x.st.bottom + x.st.padBottom := by
    simp only [lvG, penL, penP]
    split <;> (first | omega | (simp only; omega))
  exact ⟨e.1, e.2.1, e.2.2, h.fl, h.al, fun f hf => (h.fs f hf).mono (by omega) (Nat.le_refl _)⟩
theorem txt_ok {l : List LNo} {B : Int} {k : Nat} {s : LGs} {x : LNo} {sp : LSpan} (hk : k < l.length) (e : psN l (k + 1) = psN l k + x.words.length) (hx : Txt6 x) (h : GsOk l B k s) : GsOk l (B + x.line * x.words.length) (k + 1) (txtG sp k x s) := by
  obtain ⟨f1, f2⟩ := setG_fold k x.line (texF s.f x.words x.space x.line (atP s.p) sp) s
  have hp := tex_pen (ws := x.words) (sp := x.space) (s := sp) (k := k) hx.line.1 (fun g hg => (h.fs g hg).y.2) x.words.length 0 (atP s.p) B s (Nat.zero_le _) (by have := h.y; have := h.m; unfold atP; omega) h.b (Int.le_refl _) ⟨h.y, h.m, h.b⟩
  have hl := tex_len (l := s.f) (ws := x.words) (sp := x.space) (H := x.line) (s := sp) x.words.length 0 (atP s.p)
  have h3 := h.fl
  have h4 := h.al
  have hm := Int.mul_nonneg (show 0 ≤ x.line by have := hx.line; omega) (show 0 ≤ (x.words.length : Int) by omega)
  have e0 : (x.words.length : Int) - (0 : Nat) = x.words.length := by omega
  rw [e0] at hp
  refine ⟨hp.1, hp.2.1, hp.2.2, ?_, ?_, ?_⟩
  · unfold txtG; rw [f2]; omega
  · unfold txtG; rw [f1, List.length_append, List.length_map]
    have hl2 : (texF s.f x.words x.space x.line (atP s.p) sp).length ≤ x.words.length := hl
    omega
  · unfold txtG; rw [f2]
    exact fun f hf => (h.fs f hf).mono (by omega) (Nat.le_refl _)
theorem mon_ok {l : List LNo} {B : Int} {k : Nat} {s : LGs} {x : LNo} {sp : LSpan} (e : psN l (k + 1) = psN l k + 1) (hx : Box6 x) (h : GsOk l B k s) : GsOk l (B + x.h) (k + 1) (monG sp k x s) := by
  have h0 := hx.h
  have h1 := h.y
  have h2 := h.m
  have h3 := h.fl
  have h4 := h.al
  have h5 := rom_ge s.f x.w x.h (atP s.p) sp
  have h6 := rom_le (w := x.w) (H := x.h) (s := sp) (y := atP s.p) h.b (fun g hg => (h.fs g hg).y.2)
  unfold atP at h5 h6
  refine ⟨?_, by simp [monG], ?_, ?_, ?_, fun f hf => (h.fs f hf).mono (by omega) (Nat.le_refl _)⟩
  · simp only [monG, monY, atP]; omega
  · simp only [monG, monY, atP]; omega
  · simp only [monG]; omega
  · simp only [monG, List.length_append, List.length_cons, List.length_nil]; omega
theorem flt_ok {l : List LNo} {B : Int} {k : Nat} {s : LGs} {x : LNo} {sp : LSpan} (e : psN l (k + 1) = psN l k + 1) (hx : Box6 x) (hd : 1 ≤ x.side ∧ x.side ≤ 2) (hs : SpOk sp) (h : GsOk l B k s) : GsOk l (B + x.h) (k + 1) (fltG sp k x s) := by
  have h0 := hx.h
  have h1 := h.y
  have h2 := h.m
  have h3 := h.fl
  have h4 := h.al
  have h5 := h.b
  refine ⟨h1, h2, by simp only [fltG]; omega, by simp only [fltG, putP, List.length_append, List.length_cons, List.length_nil]; omega, by simp only [fltG]; omega, fun f hf => ?_⟩
  have el : (fltG sp k x s).f.length = s.f.length + 1 := by simp [fltG, putP]
  rw [el]
  rcases List.mem_append.1 hf with hf | hf
  · exact (h.fs f hf).mono (by omega) (by omega)
  · rw [List.mem_singleton] at hf
    subst hf
    exact put_ok' (f := newF k x s) hs (by unfold atP; omega) h.fs hx.w hx.h (by unfold newF; simp only; omega)
/-- what is asked of nodes and a width. -/
structure FlwP (l : List LNo) (w : Int) : Prop where
  v : isS l = true
  len : l.length ≤ 60
  hi : hall l ≤ 1099511627776
  ps : pall l ≤ 2000
  w : 1 ≤ w ∧ w ≤ 1099511627776
theorem FlwP.sp {l : List LNo} {w : Int} (h : FlwP l w) (k : Nat) : SpOk (spK l w k) := spK_ok (isS_ins h.v) h.w k
theorem nodG_ok {l : List LNo} {w : Int} (hP : FlwP l w) {kids : Nat → Int → LGs → LGs} {k : Nat} {B : Int} {s : LGs} (hk : k < l.length) (h : GsOk l B k s)
    (hkids : ∀ B s, GsOk l B (k + 1) s → GsOk l (B + (hsN l (k + (ndN l k).size.toNat) - hsN l (k + 1))) (k + (ndN l k).size.toNat) (kids (k + 1) (k + (ndN l k).size) s)) :
    GsOk l (B + (hsN l (k + (ndN l k).size.toNat) - hsN l k)) (k + (ndN l k).size.toNat) (nodG l w kids k s) := by
  have hn := nod_at hP.v hk
  have hL := isS_lam hP.v
  have h1 := hL.pos k hk
  have h2 := hL.fin k hk
  have hs1 := hsN_succ hk
  have ps1 := psN_succ hk
  rw [← ndN_siz] at h1 h2
  have hm1 := hs_mono hP.v (show k + 1 ≤ k + (ndN l k).size.toNat by omega) (by omega)
  have hm2 := ps_mono (l := l) (show k + 1 ≤ k + (ndN l k).size.toNat by omega) (by omega)
  have up : ∀ {s' : LGs}, GsOk l (B + hgtN (ndN l k)) (k + 1) s' → GsOk l (B + (hsN l (k + (ndN l k).size.toNat) - hsN l k)) (k + (ndN l k).size.toNat) s' := fun q => by
    obtain ⟨a, b, c, d, e, f⟩ := q
    exact ⟨a, b, by omega, by omega, by omega, fun x hx => (f x hx).mono (by omega) (Nat.le_refl _)⟩
  unfold nodG
  rcases nodB_kind hn with q | q | q | q
  · rw [if_pos q]
    have hb := nodB_blk hn q
    have e1 : hgtN (ndN l k) = (ndN l k).st.top + (ndN l k).st.bottom + (ndN l k).st.padTop + (ndN l k).st.padBottom + (ndN l k).st.head := by unfold hgtN; rw [if_pos q]
    have := hb.head
    exact (lv_ok hb (hkids _ _ (ent_ok hk hb h))).mono (by omega)
  · rw [if_neg (by omega), if_pos q]
    have e1 : hgtN (ndN l k) = (ndN l k).line * (ndN l k).words.length := by unfold hgtN; rw [if_neg (by omega), if_pos q]
    have e2 : pcsN (ndN l k) = (ndN l k).words.length := by unfold pcsN; rw [if_neg (by omega), if_pos q]
    have := txt_ok (sp := spK l w k) hk (by rw [ps1, e2]) (nodB_txt hn q) h
    rw [← e1] at this
    exact up this
  · rw [if_neg (by omega), if_neg (by omega), if_pos q]
    have e1 : hgtN (ndN l k) = (ndN l k).h := by unfold hgtN; rw [if_neg (by omega), if_neg (by omega)]
    have e2 : pcsN (ndN l k) = 1 := by unfold pcsN; rw [if_neg (by omega), if_neg (by omega)]
    have := mon_ok (sp := spK l w k) (by rw [ps1, e2]) (nodB_mono hn q) h
    rw [← e1] at this
    exact up this
  · rw [if_neg (by omega), if_neg (by omega), if_neg (by omega)]
    have e1 : hgtN (ndN l k) = (ndN l k).h := by unfold hgtN; rw [if_neg (by omega), if_neg (by omega)]
    have e2 : pcsN (ndN l k) = 1 := by unfold pcsN; rw [if_neg (by omega), if_neg (by omega)]
    obtain ⟨hb, hd⟩ := nodB_flt hn q
    have := flt_ok (sp := spK l w k) (by rw [ps1, e2]) hb hd (hP.sp k) h
    rw [← e1] at this
    exact up this
theorem rowG_ok {l : List LNo} {w : Int} (hP : FlwP l w) : ∀ (n k : Nat) (e : Int) (B : Int) (s : LGs), nst l n k e → e ≤ l.length → GsOk l B k s → GsOk l (B + (hsN l e.toNat - hsN l k)) e.toNat (rowG l w n k e s)
  | 0, k, e, B, s, h, _, _ => absurd h (by simp [nst])
  | n + 1, k, e, B, s, h, he, hg => by
    obtain ⟨h1, h2⟩ := h
    rw [rowG]
    split
    · next q =>
      obtain ⟨u1, u2, u3, u4⟩ := h2 q
      rw [← ndN_siz] at u1 u2 u3 u4
      have hk : k < l.length := by omega
      have e3 : ((k : Int) + (ndN l k).size).toNat = k + (ndN l k).size.toNat := by omega
      have hn := nodG_ok hP hk hg (kids := rowG l w n) fun B s hs => by
        have := rowG_ok hP n (k + 1) (k + (ndN l k).size) B s u3 (by omega) hs
        rw [e3] at this
        exact this
      have := rowG_ok hP n (k + (ndN l k).size.toNat) e _ _ u4 he hn
      exact this.mono (by omega)
    · have e2 : e.toNat = k := by omega
      rw [e2]
      exact hg.mono (by omega)
end Go.Proofs.Ytblmebjhhanoaaa
/- CHAPTER 06: valid: the ends that are still ahead: slices.DeleteFunc. -/
/- G -/
/- BOOLS -/
set_option linter.unusedSimpArgs false
set_option linter.unusedVariables false
namespace Go.Proofs.Ytblmebjhhanoaaa
open Go.RowKit

def offE (i e : Int) : Bool := decide (e ≤ i)
def gtE (i e : Int) : Bool := !offE i e
def gtL (l : List Int) (i : Int) : List Int := l.filter (gtE i)
set_option maxRecDepth 100000 in
theorem node1_ok (e i : Int) : FnOk Try.prog 82 [.raw (.int .i64 e), .hdr 0] [(0, .cells 3 [.raw (.int .i64 i)])] (.raw (.bool (offE i e))) [(0, .cells 3 [.raw (.int .i64 i)])] := by
  refine fn_of_awp Try.func82 rfl (by kernel_rfl) (by kernel_rfl) (Nat.le_of_ble_eq_true rfl) Try.results82 ?_
  unfold offE
  simp only [go_sem, Bool.not_eq_true', Bool.not_eq_false']
  (refine ret2 [] (by simp only [go_sem, Bool.not_eq_true', Bool.not_eq_false']; rfl) ?_; simp only [go_sem, Bool.not_eq_true', Bool.not_eq_false'])
/-- the place of the first that is so; below 0: none is. -/
def idxE (p : Int → Bool) (l : List Int) : Int := if l.findIdx p < l.length then l.findIdx p else -1
theorem idxE_at {p : Int → Bool} {l : List Int} {k : Nat} (hk : k < l.length) (h : ∀ j (hj : j < l.length), j < k → p l[j] = false) (hp : p l[k] = true) : idxE p l = k := by
  have e : l.findIdx p = k := by
    rw [List.findIdx_eq hk]
    exact ⟨hp, fun j hj => by have := h j (by omega) hj; simpa using this⟩
  unfold idxE
  rw [if_pos (by omega), e]
theorem idxE_no {p : Int → Bool} {l : List Int} (h : ∀ j (hj : j < l.length), p l[j] = false) : idxE p l = -1 := by
  unfold idxE
  rw [if_neg]
  intro hlt
  have := List.findIdx_getElem (w := hlt)
  rw [h _ hlt] at this
  cases this
set_option maxRecDepth 100000 in
theorem indexE_ok (l : List Int) (i : Int) (hl : l.length ≤ 1000) : FnOk Try.prog 110 [.sl 1 (l.map cInt), .clo (.func 82) [.hdr 0]] [(0, .cells 3 [.raw (.int .i64 i)])] (.raw (.int .i64 (idxE (offE i) l))) [(0, .cells 3 [.raw (.int .i64 i)])] := by
  refine fn_of_awp Try.func110 rfl (by kernel_rfl) (by kernel_rfl) (Nat.le_of_ble_eq_true rfl) Try.results110 ?_
  simp only [go_sem, Bool.not_eq_true', Bool.not_eq_false', List.length_map]
  refine aloop2 [] (fun k : Nat => ⟨[(0, .sl 1 (l.map cInt)), (1, .clo (.func 82) [.hdr 0]), (7, .raw (.int .i64 l.length)), (8, .raw (.int .i64 k))], [(0, some (.cells 3 [.raw (.int .i64 i)]))], none⟩) (fun k => k ≤ l.length ∧ ∀ j (hj : j < l.length), j < k → offE i l[j] = false) (fun k => l.length - k) 4 0 (by simp only [go_sem, Bool.not_eq_true', Bool.not_eq_false']; rfl) (by simp only [go_sem, Bool.not_eq_true', Bool.not_eq_false']) ?_ ?_
  · exact ⟨Nat.zero_le _, fun j _ h => absurd h (Nat.not_lt_zero j)⟩
  · rintro k ⟨h1, h2⟩
    simp only [go_sem, Bool.not_eq_true', Bool.not_eq_false', List.length_map]
    refine ⟨fun h5 => ?_, fun h5 => ?_⟩
    · have hk : k < l.length := by omega
      refine ⟨by omega, ex_get hk ?_⟩
      (refine acall2 [] (node1_ok l[k] i) (by simp only [go_sem, Bool.not_eq_true', Bool.not_eq_false']; rfl) (fit_of (by simp only [go_sem, Bool.not_eq_true', Bool.not_eq_false']) (by simp only [go_sem, Bool.not_eq_true', Bool.not_eq_false']) (by simp only [go_sem, Bool.not_eq_true', Bool.not_eq_false']) (by simp only [go_sem, Bool.not_eq_true', Bool.not_eq_false']) (by simp only [go_sem, Bool.not_eq_true', Bool.not_eq_false']) (by simp only [go_sem, Bool.not_eq_true', Bool.not_eq_false']) (by simp only [go_sem, Bool.not_eq_true', Bool.not_eq_false'])) ?_; simp only [go_sem, Bool.not_eq_true', Bool.not_eq_false'])
      refine ⟨fun h6 => ?_, fun h6 => ⟨by omega, ?_⟩⟩
      · rw [idxE_at hk h2 h6]
        (refine ret2 [] (by simp only [go_sem, Bool.not_eq_true', Bool.not_eq_false']; rfl) ?_; simp only [go_sem, Bool.not_eq_true', Bool.not_eq_false'])
      · (refine loop_end [] (k + 1) (by simp only [go_sem, Bool.not_eq_true', Bool.not_eq_false']; rfl) ?_ ?_ ?_; (focus first | omega | (simp only; omega)); (focus (simp only [go_sem, Bool.not_eq_true', Bool.not_eq_false']; done)))
        refine ⟨by omega, fun j hj h7 => ?_⟩
        rcases Nat.lt_succ_iff_lt_or_eq.1 h7 with h8 | h8
        · exact h2 j hj h8
        · subst h8; exact h6
    · rw [idxE_no (fun j hj => h2 j hj (by omega))]
      (refine ret2 [] (by simp only [go_sem, Bool.not_eq_true', Bool.not_eq_false']; rfl) ?_; simp only [go_sem, Bool.not_eq_true', Bool.not_eq_false'])
structure LDelE where
  k : Nat
  mid : List Int
def kepE (l : List Int) (i : Int) (k : Nat) : List Int := (l.take k).filter (gtE i)
theorem kepE_len (l : List Int) (i : Int) (k : Nat) : (kepE l i k).length ≤ k := Nat.le_trans (List.length_filter_le _ _) (by simp; omega)
theorem kepE_succ {l : List Int} {i : Int} {k : Nat} (hk : k < l.length) : kepE l i (k + 1) = if gtE i l[k] = true then kepE l i k ++ [l[k]] else kepE l i k := by
  unfold kepE
  rw [List.take_succ_eq_append_getElem hk, List.filter_append]
  split
  · next h => simp [h]
  · next h => simp [h]
def rowE (l : List Int) (i : Int) (z : LDelE) : List Int := kepE l i z.k ++ z.mid ++ l.drop z.k
theorem rowE_get {l : List Int} {i : Int} {k : Nat} {mid : List Int} (hk : k < l.length) (h : (kepE l i k).length + mid.length = k) : (rowE l i ⟨k, mid⟩)[k]? = some l[k] := by
  unfold rowE
  rw [List.getElem?_append_right (by simp; omega), List.length_append, h, Nat.sub_self, List.getElem?_drop]
  simp [hk]
theorem rowE_keep {l : List Int} {i : Int} {k : Nat} {mid : List Int} (hk : k < l.length) (h0 : 0 < mid.length) (h : gtE i l[k] = true) : (rowE l i ⟨k, mid⟩).set (kepE l i k).length l[k] = rowE l i ⟨k + 1, mid.tail ++ [l[k]]⟩ := by
  unfold rowE
  cases mid with
  | nil => simp at h0
  | cons x mid =>
    have e1 : l.drop k = l[k] :: l.drop (k + 1) := List.drop_eq_getElem_cons hk
    rw [kepE_succ hk, if_pos h, e1]
    simp
theorem rowE_skip {l : List Int} {i : Int} {k : Nat} {mid : List Int} (hk : k < l.length) (h : ¬ gtE i l[k] = true) : rowE l i ⟨k, mid⟩ = rowE l i ⟨k + 1, mid ++ [l[k]]⟩ := by
  unfold rowE
  have e1 : l.drop k = l[k] :: l.drop (k + 1) := List.drop_eq_getElem_cons hk
  rw [kepE_succ hk, if_neg h, e1]
  simp
theorem rowE_len {l : List Int} {i : Int} {k : Nat} {mid : List Int} (hk : k ≤ l.length) (h : (kepE l i k).length + mid.length = k) : (rowE l i ⟨k, mid⟩).length = l.length := by
  unfold rowE
  simp
  omega
theorem kepE_pre {l : List Int} {i : Int} {k : Nat} (h : ∀ j (hj : j < l.length), j < k → offE i l[j] = false) : kepE l i k = l.take k := by
  unfold kepE
  rw [List.filter_eq_self]
  intro x hx
  obtain ⟨j, hj, rfl⟩ := List.getElem_of_mem hx
  simp only [List.length_take] at hj
  rw [List.getElem_take]
  unfold gtE
  rw [h j (by omega) (by omega)]
  rfl
theorem idxE_cases (p : Int → Bool) (l : List Int) : (idxE p l = -1 ∧ ∀ j (hj : j < l.length), p l[j] = false) ∨ ∃ k : Nat, idxE p l = k ∧ ∃ hk : k < l.length, p l[k] = true ∧ ∀ j (hj : j < l.length), j < k → p l[j] = false := by
  unfold idxE
  by_cases h : l.findIdx p < l.length
  · right
    rw [if_pos h]
    refine ⟨l.findIdx p, rfl, h, List.findIdx_getElem (w := h), fun j hj hlt => ?_⟩
    have := List.not_of_lt_findIdx hlt
    simpa using this
  · left
    rw [if_neg h]
    refine ⟨rfl, fun j hj => ?_⟩
    have := List.not_of_lt_findIdx (p := p) (xs := l) (i := j) (by omega)
    simpa using this
set_option maxRecDepth 100000 in
set_option maxHeartbeats 4000000 in
theorem deleteE_ok (l : List Int) (i : Int) (hl : l.length ≤ 1000) : FnOk Try.prog 81 [.hdr 0, .clo (.func 82) [.hdr 1]] [(0, .row 3 1 (l.map cInt)), (1, .cells 3 [.raw (.int .i64 i)])] (.hdr 8) [(8, .row 3 1 ((gtL l i).map cInt)), (1, .cells 3 [.raw (.int .i64 i)])] := by
  refine fn_of_swp Try.func81 rfl (by kernel_rfl) (by kernel_rfl) (Nat.le_of_ble_eq_true rfl) Try.results81 ?_
  (refine swp_seqW ?_; simp only [go_sem, Bool.not_eq_true', Bool.not_eq_false'])
  (refine swp_seqW ?_; simp only [go_sem, Bool.not_eq_true', Bool.not_eq_false'])
  (refine acall2 [0 ] ( indexE_ok l i hl) (by simp only [go_sem, Bool.not_eq_true', Bool.not_eq_false']; rfl) (fit_of (by simp only [go_sem, Bool.not_eq_true', Bool.not_eq_false']) (by simp only [go_sem, Bool.not_eq_true', Bool.not_eq_false']) (by simp only [go_sem, Bool.not_eq_true', Bool.not_eq_false']) (by simp only [go_sem, Bool.not_eq_true', Bool.not_eq_false']) (by simp only [go_sem, Bool.not_eq_true', Bool.not_eq_false']) (by simp only [go_sem, Bool.not_eq_true', Bool.not_eq_false']) (by simp only [go_sem, Bool.not_eq_true', Bool.not_eq_false'])) ?_; simp only [go_sem, Bool.not_eq_true', Bool.not_eq_false'])
  rcases idxE_cases (offE i) l with ⟨e0, hno⟩ | ⟨i0, e0, hi0, hp0, hb0⟩
  · rw [e0]
    have e1 : gtL l i = l := by
      have := kepE_pre (l := l) (i := i) (k := l.length) (fun j hj _ => hno j hj)
      unfold kepE at this
      rw [List.take_length] at this
      exact this
    rw [e1]
    (refine swp_lastW ?_; simp only [go_sem, Bool.not_eq_true', Bool.not_eq_false'])
    repeat' first | contradiction | intro _ | refine And.intro ?_ ?_ | refine ex_get (by omega) ?_ | (show drawB _ _ = true; kernel_rfl) | (refine ret2 [] (by simp only [go_sem, Bool.not_eq_true', Bool.not_eq_false']; rfl) ?_; simp only [go_sem, Bool.not_eq_true', Bool.not_eq_false'])
    all_goals skip
  · rw [e0]
    have ek := kepE_pre (l := l) (i := i) (k := i0) hb0
    have eks : kepE l i (i0 + 1) = l.take i0 := by
      rw [kepE_succ hi0, if_neg (by unfold gtE; rw [hp0]; decide), ek]
    have elen : (kepE l i (i0 + 1)).length = i0 := by rw [eks]; simp; omega
    have erow : rowE l i ⟨i0 + 1, [l[i0]]⟩ = l := by
      unfold rowE
      dsimp only
      rw [eks]
      simp
    (refine swp_seqW ?_; simp only [go_sem, Bool.not_eq_true', Bool.not_eq_false', List.length_map])
    refine swp_seqS ?_
    (refine swp_seqW ?_; simp only [go_sem, Bool.not_eq_true', Bool.not_eq_false'])
    refine ⟨by omega, ?_⟩
    refine swp_block ?_
    refine swp_loop2 [] (fun z : LDelE => ⟨[(0, .hdr 0), (1, .clo (.func 82) [.hdr 1]), (5, .raw (.int .i64 (kepE l i z.k).length)), (6, .raw (.int .i64 z.k))], [(0, some (.row 3 1 ((rowE l i z).map cInt))), (1, some (.cells 3 [.raw (.int .i64 i)]))], none⟩) (fun z => z.k ≤ l.length ∧ 0 < z.mid.length ∧ (kepE l i z.k).length + z.mid.length = z.k) (fun z => l.length - z.k) 4 ⟨i0 + 1, [l[i0]]⟩ (by simp only [go_sem, Bool.not_eq_true', Bool.not_eq_false']; rfl) (by simp only [go_sem, Bool.not_eq_true', Bool.not_eq_false', elen, erow]) ?_ ?_
    · exact ⟨hi0, by simp, by rw [elen]; simp⟩
    · rintro ⟨k, mid⟩ ⟨h1, h2, h3⟩
      simp only at h1 h2 h3
      have hlen := rowE_len h1 h3
      (refine swp_seqW ?_; simp only [go_sem, Bool.not_eq_true', Bool.not_eq_false', List.length_map])
      refine ⟨fun h5 => ?_, fun h5 => ?_⟩
      · have hk : k < l.length := by omega
        have hget := rowE_get hk h3
        have hK := kepE_len l i k
        (refine swp_lastW ?_; simp only [go_sem, Bool.not_eq_true', Bool.not_eq_false', List.length_map])
        refine ⟨by omega, l[k], hget, ?_⟩
        (refine acall2 [] (node1_ok l[k] i) (by simp only [go_sem, Bool.not_eq_true', Bool.not_eq_false']; rfl) (fit_of (by simp only [go_sem, Bool.not_eq_true', Bool.not_eq_false']) (by simp only [go_sem, Bool.not_eq_true', Bool.not_eq_false']) (by simp only [go_sem, Bool.not_eq_true', Bool.not_eq_false']) (by simp only [go_sem, Bool.not_eq_true', Bool.not_eq_false']) (by simp only [go_sem, Bool.not_eq_true', Bool.not_eq_false']) (by simp only [go_sem, Bool.not_eq_true', Bool.not_eq_false']) (by simp only [go_sem, Bool.not_eq_true', Bool.not_eq_false'])) ?_; simp only [go_sem, Bool.not_eq_true', Bool.not_eq_false'])
        refine ⟨fun h6 => ?_, fun h6 => ?_⟩
        · have h7 : gtE i l[k] = true := by unfold gtE; rw [h6]; rfl
          have hset := rowE_keep hk h2 h7
          have hs2 : (List.map cInt (rowE l i ⟨k, mid⟩)).set (kepE l i k).length (cInt l[k]) = List.map cInt (rowE l i ⟨k + 1, mid.tail ++ [l[k]]⟩) := by rw [← hset, List.map_set]
          simp only [cInt] at hs2
          have hks : kepE l i (k + 1) = kepE l i k ++ [l[k]] := by rw [kepE_succ hk, if_pos h7]
          have hi2 : (rowE l i ⟨k, mid⟩)[(kepE l i k).length]? = some (rowE l i ⟨k, mid⟩)[(kepE l i k).length] := List.getElem?_eq_getElem (by omega)
          refine ⟨by omega, _, hi2, ?_⟩
          refine ⟨by omega, by omega, ?_⟩
          (refine loop_end [] (⟨k + 1, mid.tail ++ [l[k]]⟩) (by simp only [go_sem, Bool.not_eq_true', Bool.not_eq_false']; rfl) ?_ ?_ ?_; (focus first | omega | (simp only; omega)); (focus (simp only [go_sem, Bool.not_eq_true', Bool.not_eq_false', hks, hs2, List.length_append, List.length_cons, List.length_nil]; done)))
          exact ⟨by show k + 1 ≤ l.length; omega, by simp, by rw [hks]; simp; omega⟩
        · have h7 : ¬ gtE i l[k] = true := by unfold gtE; rw [h6]; decide
          rw [rowE_skip hk h7]
          have hks : kepE l i (k + 1) = kepE l i k := by rw [kepE_succ hk, if_neg h7]
          refine ⟨by omega, ?_⟩
          (refine loop_end [] (⟨k + 1, mid ++ [l[k]]⟩) (by simp only [go_sem, Bool.not_eq_true', Bool.not_eq_false']; rfl) ?_ ?_ ?_; (focus first | omega | (simp only; omega)); (focus (simp only [go_sem, Bool.not_eq_true', Bool.not_eq_false', hks]; done)))
          exact ⟨by show k + 1 ≤ l.length; omega, by simp, by rw [hks]; simp; omega⟩
      · have ekl : k = l.length := by omega
        have eA : kepE l i k = gtL l i := by unfold kepE; rw [ekl, List.take_length]; rfl
        have et : List.take (kepE l i k).length (rowE l i ⟨k, mid⟩) = kepE l i k := by unfold rowE; simp
        (refine swp_lastW ?_; simp only [go_sem, Bool.not_eq_true', Bool.not_eq_false', List.length_map])
        rw [et]
        refine ⟨by omega, by omega, ?_, ?_⟩
        · simp; omega
        · have e9 : ∀ X Y : List (List PV), List.take (kepE l i k).length (List.map cInt (kepE l i k) ++ X ++ Y) = List.map cInt (gtL l i) := fun X Y => by
            rw [List.append_assoc, ← eA]
            exact List.take_left' (by simp)
          rw [e9]
          (refine ret2 [] (by simp only [go_sem, Bool.not_eq_true', Bool.not_eq_false']; rfl) ?_; simp only [go_sem, Bool.not_eq_true', Bool.not_eq_false'])
end Go.Proofs.Ytblmebjhhanoaaa
/- CHAPTER 06: valid: Count: one node. -/
/- G -/
/- BOOLS -/
set_option linter.unusedSimpArgs false
set_option linter.unusedVariables false
namespace Go.Proofs.Ytblmebjhhanoaaa
open Go.RowKit

def hghT (t h n : Int) : Int := cutM (h + cutM (n * t))
structure LCt where
  d : Int
  p : Int
  n : Int
  h : Int
deriving DecidableEq
abbrev cO (c : LCt) (i : Nat) : Nat × AO := (0, .cells 106 [.raw (.int .i64 c.d), .raw (.int .i64 c.p), .raw (.int .i64 c.n), .raw (.int .i64 c.h), .hdr i])
theorem quo_le {t x : Int} (hx : 0 < x) : t ≤ Int.tdiv 1099511627776 x ↔ x * t ≤ 1099511627776 := by
  rw [Int.tdiv_eq_ediv_of_nonneg (by omega), Int.le_ediv_iff_mul_le hx, Int.mul_comm]
theorem hgh_bd {t h n : Int} (hh : 0 ≤ h) (hn : 0 ≤ n) (ht : 0 ≤ t) : 0 ≤ hghT t h n ∧ hghT t h n ≤ 1099511627777 := by
  have := Int.mul_nonneg hn ht
  unfold hghT cutM
  omega
set_option maxRecDepth 100000 in
set_option maxHeartbeats 4000000 in
theorem high6_ok (c : LCt) (t : Int) (es ls : List Int) (ht : 0 ≤ t) (hl : ls.length ≤ 1000) (hn : ∀ x ∈ ls, 0 ≤ x ∧ x ≤ 1099511627776) (hh : 0 ≤ c.h ∧ c.h ≤ 1099511627777) :
    FnOk Try.prog 83 [.hdr 0, .raw (.int .i64 t), .sl 1 (ls.map cInt)] [cO c 1, (1, .row 3 1 (es.map cInt))] (.tup []) [cO ⟨c.d, c.p, c.n, ls.foldl (hghT t) c.h⟩ 8, (8, .row 3 1 (es.map cInt))] := by
  refine fn_of_awp Try.func83 rfl (by kernel_rfl) (by kernel_rfl) (Nat.le_of_ble_eq_true rfl) Try.results83 ?_
  simp only [go_sem, Bool.not_eq_true', Bool.not_eq_false', List.length_map]
  refine aloop2 [] (fun z : KX Int => ⟨[(0, .hdr 0), (1, .raw (.int .i64 t)), (9, .sl 1 (ls.map cInt)), (10, .raw (.int .i64 ls.length)), (11, .raw (.int .i64 z.k))], [((cO ⟨c.d, c.p, c.n, z.o⟩ 1).1, some (cO ⟨c.d, c.p, c.n, z.o⟩ 1).2), (1, some (.row 3 1 (es.map cInt)))], none⟩) (fun z => FInv (hghT t) c.h ls z ∧ 0 ≤ z.o ∧ z.o ≤ 1099511627777) (fun z => ls.length - z.k) 80 ⟨0, c.h⟩ (by simp only [go_sem, Bool.not_eq_true', Bool.not_eq_false']; rfl) (by simp only [go_sem, Bool.not_eq_true', Bool.not_eq_false']) ?_ ?_
  · exact ⟨fInv_first _ _ _, hh⟩
  · rintro ⟨k, o⟩ ⟨h1, h2, h3⟩
    simp only at h2 h3
    simp only [go_sem, Bool.not_eq_true', Bool.not_eq_false', List.length_map]
    refine ⟨fun h5 => ?_, fun h5 => ?_⟩
    · have hk : k < ls.length := by omega
      have hx := hn ls[k] (List.getElem_mem hk)
      have hnx := fun (o' : Int) (e : o' = hghT t o ls[k]) => fInv_next h1 hk e
      have hbd := hgh_bd h2 hx.1 ht
      refine ⟨by omega, ex_get hk ?_⟩
      generalize ls[k] = x at hx hnx hbd ⊢
      have e0 : x = 0 → hghT t o x = min o 1099511627777 := fun q => by subst q; unfold hghT cutM; rw [Int.zero_mul]; omega
      have e1 : x * t ≤ 1099511627776 → hghT t o x = min (o + x * t) 1099511627777 := fun q => by unfold hghT cutM; omega
      have e2 : 1099511627776 < x * t → hghT t o x = min (o + 1099511627777) 1099511627777 := fun q => by unfold hghT cutM; omega
      have hq := fun q : 0 < x => quo_le (t := t) q
      have hm := Int.mul_nonneg hx.1 ht
      have hz : x = 0 → x * t = 0 := fun q => by rw [q, Int.zero_mul]
      have hb1 : 0 ≤ Int.tdiv 1099511627776 x := Int.tdiv_nonneg (by omega) hx.1
      have hb2 : Int.tdiv 1099511627776 x ≤ 1099511627776 := Int.tdiv_le_self x (by omega)
      generalize Int.tdiv 1099511627776 x = v at *
      generalize x * t = y at *
      repeat' first | contradiction | intro _ | refine And.intro ?_ ?_ | refine ex_get (by omega) ?_ | (show drawB _ _ = true; kernel_rfl) | (refine ret2 [] (by simp only [go_sem, Bool.not_eq_true', Bool.not_eq_false']; rfl) ?_; simp only [go_sem, Bool.not_eq_true', Bool.not_eq_false'])
      all_goals first
        | omega
        | ((refine loop_end [] (⟨k + 1, min (o + y) 1099511627777⟩) (by simp only [go_sem, Bool.not_eq_true', Bool.not_eq_false']; rfl) ?_ ?_ ?_; (focus first | omega | (simp only; omega)); (focus (simp only [go_sem, Bool.not_eq_true', Bool.not_eq_false']; done)))
           exact ⟨hnx _ (by omega), by simp only; omega, by simp only; omega⟩)
        | ((refine loop_end [] (⟨k + 1, min (o + 1099511627777) 1099511627777⟩) (by simp only [go_sem, Bool.not_eq_true', Bool.not_eq_false']; rfl) ?_ ?_ ?_; (focus first | omega | (simp only; omega)); (focus (simp only [go_sem, Bool.not_eq_true', Bool.not_eq_false']; done)))
           exact ⟨hnx _ (by omega), by simp only; omega, by simp only; omega⟩)
        | skip
    · have e := fInv_last h1 h5
      rw [← e]
      (refine ret2 [] (by simp only [go_sem, Bool.not_eq_true', Bool.not_eq_false']; rfl) ?_; simp only [go_sem, Bool.not_eq_true', Bool.not_eq_false'])
def endT (es : List Int) (i : Nat) (x : LNo) : List Int := if x.kind = 1 then gtL es i ++ [(i : Int) + x.size] else gtL es i
def cntT (c : LCt) (es : List Int) (i : Nat) (x : LNo) : LCt := ⟨if x.kind = 1 then max c.d (endT es i x).length else c.d, c.p + pcsN x, c.n + 1, cutM (c.h + hgtN x)⟩
set_option maxRecDepth 100000 in
set_option maxHeartbeats 8000000 in
theorem node6_ok (c : LCt) (es : List Int) (i : Nat) (x : LNo) (hx : nodB x = true) (he : es.length ≤ 999) (hi : i ≤ 1000) (hs : 0 ≤ x.size ∧ x.size ≤ 1000) (hw : x.words.length ≤ 9223372036854775807) (hh : 0 ≤ c.h ∧ c.h ≤ 1099511627777) (hp : 0 ≤ c.p ∧ c.p + pcsN x ≤ 9223372036854775807) (hn : 0 ≤ c.n ∧ c.n ≤ 1000) :
    FnOk Try.prog 59 [.hdr 0, .raw (.int .i64 i), aNo x] [cO c 1, (1, .row 3 1 (es.map cInt))] (.tup []) [cO (cntT c es i x) 8, (8, .row 3 1 ((endT es i x).map cInt))] := by
  have hgl : (gtL es i).length ≤ es.length := List.length_filter_le _ _
  refine fn_of_swp Try.func59 rfl (by kernel_rfl) (by kernel_rfl) (Nat.le_of_ble_eq_true rfl) Try.results59 ?_
  (refine swp_seqW ?_; simp only [go_sem, Bool.not_eq_true', Bool.not_eq_false'])
  (refine swp_seqW ?_; simp only [go_sem, Bool.not_eq_true', Bool.not_eq_false'])
  (refine acall2 [] (deleteE_ok es i (by omega)) (by simp only [go_sem, Bool.not_eq_true', Bool.not_eq_false']; rfl) (fit_of (by simp only [go_sem, Bool.not_eq_true', Bool.not_eq_false']) (by simp only [go_sem, Bool.not_eq_true', Bool.not_eq_false']) (by simp only [go_sem, Bool.not_eq_true', Bool.not_eq_false']) (by simp only [go_sem, Bool.not_eq_true', Bool.not_eq_false']) (by simp only [go_sem, Bool.not_eq_true', Bool.not_eq_false']) (by simp only [go_sem, Bool.not_eq_true', Bool.not_eq_false']) (by simp only [go_sem, Bool.not_eq_true', Bool.not_eq_false'])) ?_; simp only [go_sem, Bool.not_eq_true', Bool.not_eq_false'])
  (refine swp_seqW ?_; simp only [go_sem, Bool.not_eq_true', Bool.not_eq_false'])
  repeat' first | contradiction | intro _ | refine And.intro ?_ ?_ | refine ex_get (by omega) ?_ | (show drawB _ _ = true; kernel_rfl) | (refine ret2 [] (by simp only [go_sem, Bool.not_eq_true', Bool.not_eq_false']; rfl) ?_; simp only [go_sem, Bool.not_eq_true', Bool.not_eq_false'])
  all_goals try omega
  (refine swp_seqW ?_; simp only [go_sem, Bool.not_eq_true', Bool.not_eq_false'])
  refine swp_block ?_
  (refine swp_seqW ?_; simp only [go_sem, Bool.not_eq_true', Bool.not_eq_false'])
  (refine swp_condW ?_; simp only [go_sem, Bool.not_eq_true', Bool.not_eq_false'])
  rcases nodB_kind hx with q | q | q | q
  · have hb := nodB_blk hx q
    have e1 : endT es i x = gtL es i ++ [(i : Int) + x.size] := if_pos q
    have e2 : cntT c es i x = ⟨max c.d (endT es i x).length, c.p, c.n + 1, [x.st.top, x.st.bottom, x.st.padTop, x.st.padBottom, x.st.head].foldl (hghT 1) c.h⟩ := by
      obtain ⟨h1, h2, h3, h4, h5, h6, -⟩ := hb
      have e3 : [x.st.top, x.st.bottom, x.st.padTop, x.st.padBottom, x.st.head].foldl (hghT 1) c.h = cutM (c.h + (x.st.top + x.st.bottom + x.st.padTop + x.st.padBottom + x.st.head)) := by
        simp only [List.foldl_cons, List.foldl_nil, hghT, cutM, Int.mul_one]
        omega
      rw [e3]
      unfold cntT pcsN hgtN
      simp only [if_pos q, Int.add_zero]
    refine ⟨fun _ => ?_, fun w => absurd q w⟩
    have el : (gtL es i ++ [(i : Int) + x.size]).length = (gtL es i).length + 1 := by simp
    have em : List.map cInt (gtL es i) ++ [[PV.raw (.int .i64 ((i : Int) + x.size))]] = List.map cInt (gtL es i ++ [(i : Int) + x.size]) := by simp [cInt]
    (refine swp_seqW ?_; simp only [go_sem, Bool.not_eq_true', Bool.not_eq_false'])
    repeat' first | contradiction | intro _ | refine And.intro ?_ ?_ | refine ex_get (by omega) ?_ | (show drawB _ _ = true; kernel_rfl) | (refine ret2 [] (by simp only [go_sem, Bool.not_eq_true', Bool.not_eq_false']; rfl) ?_; simp only [go_sem, Bool.not_eq_true', Bool.not_eq_false'])
    all_goals try omega
    rw [em]
    (refine swp_seqW ?_; simp only [go_sem, Bool.not_eq_true', Bool.not_eq_false', List.length_map])
    repeat' first | contradiction | intro _ | refine And.intro ?_ ?_ | refine ex_get (by omega) ?_ | (show drawB _ _ = true; kernel_rfl) | (refine ret2 [] (by simp only [go_sem, Bool.not_eq_true', Bool.not_eq_false']; rfl) ?_; simp only [go_sem, Bool.not_eq_true', Bool.not_eq_false'])
    all_goals try omega
    (refine swp_seqW ?_; simp only [go_sem, Bool.not_eq_true', Bool.not_eq_false'])
    (refine swp_lastW ?_; simp only [go_sem, Bool.not_eq_true', Bool.not_eq_false'])
    have h5 : ∀ y ∈ [x.st.top, x.st.bottom, x.st.padTop, x.st.padBottom, x.st.head], 0 ≤ y ∧ y ≤ 1099511627776 := by
      obtain ⟨h1, h2, h3, h4, h5, h6, -⟩ := hb
      simp only [List.mem_cons, List.not_mem_nil, or_false]
      rintro y (rfl | rfl | rfl | rfl | rfl) <;> assumption
    rw [e2, e1]
    (refine acallF2 [576 ] [] ( high6_ok ⟨max c.d (gtL es i ++ [(i : Int) + x.size]).length, c.p, c.n + 1, c.h⟩ 1 (gtL es i ++ [(i : Int) + x.size]) [x.st.top, x.st.bottom, x.st.padTop, x.st.padBottom, x.st.head] (by omega) (by simp) h5 hh) (by simp only [go_sem, Bool.not_eq_true', Bool.not_eq_false']; rfl) (fit_of (by simp only [go_sem, Bool.not_eq_true', Bool.not_eq_false']) (by simp only [go_sem, Bool.not_eq_true', Bool.not_eq_false']) (by simp only [go_sem, Bool.not_eq_true', Bool.not_eq_false']) (by simp only [go_sem, Bool.not_eq_true', Bool.not_eq_false']) (by simp only [go_sem, Bool.not_eq_true', Bool.not_eq_false']) (by simp only [go_sem, Bool.not_eq_true', Bool.not_eq_false']) (by simp only [go_sem, Bool.not_eq_true', Bool.not_eq_false'])) ?_; simp only [go_sem, Bool.not_eq_true', Bool.not_eq_false', List.map])

    (refine ret2 [] (by simp only [go_sem, Bool.not_eq_true', Bool.not_eq_false']; rfl) ?_; simp only [go_sem, Bool.not_eq_true', Bool.not_eq_false'])
  · refine ⟨fun w => by omega, fun _ => ?_⟩
    have hb := nodB_txt hx q
    have e1 : endT es i x = gtL es i := if_neg (by omega)
    have e4 : pcsN x = x.words.length := by unfold pcsN; rw [if_neg (by omega), if_pos q]
    have e2 : cntT c es i x = ⟨c.d, c.p + x.words.length, c.n + 1, [x.line].foldl (hghT x.words.length) c.h⟩ := by
      have hm := Int.mul_nonneg (show 0 ≤ x.line by have := hb.line; omega) (show 0 ≤ (x.words.length : Int) by omega)
      have e3 : [x.line].foldl (hghT x.words.length) c.h = cutM (c.h + x.line * x.words.length) := by
        simp only [List.foldl_cons, List.foldl_nil, hghT, cutM]
        omega
      rw [e3]
      unfold cntT pcsN hgtN
      simp only [if_neg (show ¬ x.kind = 1 by omega), if_pos q]
    (refine swp_seqW ?_; simp only [go_sem, Bool.not_eq_true', Bool.not_eq_false'])
    (refine swp_condW ?_; simp only [go_sem, Bool.not_eq_true', Bool.not_eq_false'])
    refine ⟨fun _ => ?_, fun w => absurd q w⟩
    rw [e4] at hp
    (refine swp_seqW ?_; simp only [go_sem, Bool.not_eq_true', Bool.not_eq_false', List.length_map])
    repeat' first | contradiction | intro _ | refine And.intro ?_ ?_ | refine ex_get (by omega) ?_ | (show drawB _ _ = true; kernel_rfl) | (refine ret2 [] (by simp only [go_sem, Bool.not_eq_true', Bool.not_eq_false']; rfl) ?_; simp only [go_sem, Bool.not_eq_true', Bool.not_eq_false'])
    all_goals try omega
    (refine swp_lastW ?_; simp only [go_sem, Bool.not_eq_true', Bool.not_eq_false', List.length_map])
    rw [e2, e1]
    (refine acallF2 [384 ] [] ( high6_ok ⟨c.d, c.p + x.words.length, c.n + 1, c.h⟩ x.words.length (gtL es i) [x.line] (by omega) (by simp) (fun y hy => by rw [List.mem_singleton] at hy; subst hy; have := hb.line; omega) hh) (by simp only [go_sem, Bool.not_eq_true', Bool.not_eq_false']; rfl) (fit_of (by simp only [go_sem, Bool.not_eq_true', Bool.not_eq_false']) (by simp only [go_sem, Bool.not_eq_true', Bool.not_eq_false']) (by simp only [go_sem, Bool.not_eq_true', Bool.not_eq_false']) (by simp only [go_sem, Bool.not_eq_true', Bool.not_eq_false']) (by simp only [go_sem, Bool.not_eq_true', Bool.not_eq_false']) (by simp only [go_sem, Bool.not_eq_true', Bool.not_eq_false']) (by simp only [go_sem, Bool.not_eq_true', Bool.not_eq_false'])) ?_; simp only [go_sem, Bool.not_eq_true', Bool.not_eq_false', List.map])
    (refine ret2 [] (by simp only [go_sem, Bool.not_eq_true', Bool.not_eq_false']; rfl) ?_; simp only [go_sem, Bool.not_eq_true', Bool.not_eq_false'])
  all_goals
    refine ⟨fun w => by omega, fun _ => ?_⟩
    have hb : Box6 x := by first | exact nodB_mono hx q | exact (nodB_flt hx q).1
    have e1 : endT es i x = gtL es i := if_neg (by omega)
    have e4 : pcsN x = 1 := by unfold pcsN; rw [if_neg (by omega), if_neg (by omega)]
    have e2 : cntT c es i x = ⟨c.d, c.p + 1, c.n + 1, [x.h].foldl (hghT 1) c.h⟩ := by
      have e3 : [x.h].foldl (hghT 1) c.h = cutM (c.h + x.h) := by
        have := hb.h
        simp only [List.foldl_cons, List.foldl_nil, hghT, cutM, Int.mul_one]
        omega
      rw [e3]
      unfold cntT pcsN hgtN
      simp only [if_neg (show ¬ x.kind = 1 by omega), if_neg (show ¬ x.kind = 2 by omega)]
    (refine swp_seqW ?_; simp only [go_sem, Bool.not_eq_true', Bool.not_eq_false'])
    (refine swp_condW ?_; simp only [go_sem, Bool.not_eq_true', Bool.not_eq_false'])
    refine ⟨fun w => by omega, fun _ => ?_⟩
    rw [e4] at hp
    (refine swp_seqW ?_; simp only [go_sem, Bool.not_eq_true', Bool.not_eq_false', List.length_map])
    repeat' first | contradiction | intro _ | refine And.intro ?_ ?_ | refine ex_get (by omega) ?_ | (show drawB _ _ = true; kernel_rfl) | (refine ret2 [] (by simp only [go_sem, Bool.not_eq_true', Bool.not_eq_false']; rfl) ?_; simp only [go_sem, Bool.not_eq_true', Bool.not_eq_false'])
    all_goals try omega
    (refine swp_lastW ?_; simp only [go_sem, Bool.not_eq_true', Bool.not_eq_false', List.length_map])
    rw [e2, e1]
    (refine acallF2 [336 ] [] ( high6_ok ⟨c.d, c.p + 1, c.n + 1, c.h⟩ 1 (gtL es i) [x.h] (by omega) (by simp) (fun y hy => by rw [List.mem_singleton] at hy; subst hy; have := hb.h; omega) hh) (by simp only [go_sem, Bool.not_eq_true', Bool.not_eq_false']; rfl) (fit_of (by simp only [go_sem, Bool.not_eq_true', Bool.not_eq_false']) (by simp only [go_sem, Bool.not_eq_true', Bool.not_eq_false']) (by simp only [go_sem, Bool.not_eq_true', Bool.not_eq_false']) (by simp only [go_sem, Bool.not_eq_true', Bool.not_eq_false']) (by simp only [go_sem, Bool.not_eq_true', Bool.not_eq_false']) (by simp only [go_sem, Bool.not_eq_true', Bool.not_eq_false']) (by simp only [go_sem, Bool.not_eq_true', Bool.not_eq_false'])) ?_; simp only [go_sem, Bool.not_eq_true', Bool.not_eq_false', List.map])
    (refine ret2 [] (by simp only [go_sem, Bool.not_eq_true', Bool.not_eq_false']; rfl) ?_; simp only [go_sem, Bool.not_eq_true', Bool.not_eq_false'])
end Go.Proofs.Ytblmebjhhanoaaa
/- CHAPTER 06: valid: Count, Check. -/
/- G -/
/- BOOLS -/
set_option linter.unusedSimpArgs false
set_option linter.unusedVariables false
namespace Go.Proofs.Ytblmebjhhanoaaa
open Go.RowKit

def cntC (l : List LNo) (k : Nat) : LCt := ⟨dpN l k, psN l k, k, cutM (hsN l k)⟩
theorem gtL_eq (l : List Int) (i : Int) : gtL l i = l.filter (fun e => decide (i < e)) := by
  unfold gtL
  congr 1
  funext e
  unfold gtE offE
  rw [Bool.eq_iff_iff, Bool.not_eq_true', decide_eq_false_iff_not, decide_eq_true_iff]
  omega
theorem end_op {l : List LNo} {es : List Int} {k : Nat} (h1 : 1 ≤ (ndN l k).size) (he : gtL es k = opE l k k) : endT es k (ndN l k) = opE l k (k + 1) := by
  unfold endT
  rw [opE, he]
  split
  · next q => rw [if_pos ⟨q, by omega⟩]
  · next q => rw [if_neg (fun w => q w.1), List.append_nil]
theorem cnt_step {l : List LNo} {es : List Int} {k : Nat} (hk : k < l.length) (h0 : 0 ≤ hgtN (ndN l k)) (h1 : 1 ≤ (ndN l k).size) (he : gtL es k = opE l k k) : cntT (cntC l k) es k (ndN l k) = cntC l (k + 1) := by
  unfold cntT
  rw [end_op h1 he]
  unfold cntC
  simp only [dpN, psN_succ hk, hsN_succ hk, LCt.mk.injEq, true_and]
  exact ⟨by omega, by unfold cutM; omega⟩
theorem end_next {l : List LNo} {k : Nat} : gtL (opE l k (k + 1)) (k + 1 : Nat) = opE l (k + 1 : Nat) (k + 1) := by
  rw [gtL_eq, opE_filter]
  congr 1
  omega
theorem cntC_d (l : List LNo) : (cntC l 0).d = 0 := rfl
theorem cntC_p (l : List LNo) : (cntC l 0).p = 0 := rfl
theorem cntC_n (l : List LNo) : (cntC l 0).n = 0 := rfl
theorem cntC_h (l : List LNo) : (cntC l 0).h = 0 := rfl
def sumC (l : List LNo) : LCt := if isS l = true then cntC l l.length else ⟨0, 0, 0, 0⟩
def eC (l : List LNo) : Int := if isS l = true then 0 else 4
def aSum (l : List LNo) : AV := .tup [.agg [.raw (.int .i64 (sumC l).d), .raw (.int .i64 (sumC l).p), .raw (.int .i64 (sumC l).n), .raw (.int .i64 (sumC l).h)], .raw (.int .i64 (eC l))]
attribute [go_sem] aSum
set_option maxRecDepth 100000 in
set_option maxHeartbeats 8000000 in
theorem count6_ok (l : List LNo) (hl : l.length ≤ 900) (hw : ∀ x ∈ l, x.words.length ≤ 9223372036854775807) (hp : pall l ≤ 9223372036854775807) : FnOk Try.prog 30 [.sl 20 (l.map cNo)] [] (aSum l) [] := by
  refine fn_of_swp Try.func30 rfl (by kernel_rfl) (by kernel_rfl) (Nat.le_of_ble_eq_true rfl) Try.results30 ?_
  (refine swp_seqW ?_; simp only [go_sem, Bool.not_eq_true', Bool.not_eq_false'])
  (refine swp_seqW ?_; simp only [go_sem, Bool.not_eq_true', Bool.not_eq_false'])
  (refine acall2 [] (is6_ok l (by omega) hw) (by simp only [go_sem, Bool.not_eq_true', Bool.not_eq_false']; rfl) (fit_of (by simp only [go_sem, Bool.not_eq_true', Bool.not_eq_false']) (by simp only [go_sem, Bool.not_eq_true', Bool.not_eq_false']) (by simp only [go_sem, Bool.not_eq_true', Bool.not_eq_false']) (by simp only [go_sem, Bool.not_eq_true', Bool.not_eq_false']) (by simp only [go_sem, Bool.not_eq_true', Bool.not_eq_false']) (by simp only [go_sem, Bool.not_eq_true', Bool.not_eq_false']) (by simp only [go_sem, Bool.not_eq_true', Bool.not_eq_false'])) ?_; simp only [go_sem, Bool.not_eq_true', Bool.not_eq_false'])
  refine ⟨fun hv => ?_, fun hv => ?_⟩
  · have e1 : sumC l = ⟨0, 0, 0, 0⟩ := by unfold sumC; rw [hv]; rfl
    have e2 : eC l = 4 := by unfold eC; rw [hv]; rfl
    simp only [aSum, e1, e2]
    (refine ret2 [] (by simp only [go_sem, Bool.not_eq_true', Bool.not_eq_false']; rfl) ?_; simp only [go_sem, Bool.not_eq_true', Bool.not_eq_false'])
  have e1 : sumC l = cntC l l.length := by unfold sumC; rw [hv]; rfl
  have e2 : eC l = 0 := by unfold eC; rw [hv]; rfl
  simp only [aSum, e1, e2]
  have hpos := isS_sizes hv
  (refine swp_seqW ?_; simp only [go_sem, Bool.not_eq_true', Bool.not_eq_false'])
  refine swp_cutS (fun _ : Unit => ⟨[(2, .hdr 8), (3, .raw (.int .i64 0)), (4, .hdr 800)], [(8, some (.cells 70 [.raw (.int .i64 0), .raw (.int .i64 0), .raw (.int .i64 0), .raw (.int .i64 0)])), (800, some (cO (cntC l l.length) 801).2)], none⟩) (fun _ => True) 120 ?_ ?_
  · (refine swp_seqW ?_; simp only [go_sem, Bool.not_eq_true', Bool.not_eq_false', List.length_map])
    refine swp_block ?_
    refine swp_loop2 [] (fun z : KY (List Int) => ⟨[(2, .hdr 8), (3, .raw (.int .i64 0)), (4, .hdr 800), (11, .sl 20 (l.map cNo)), (12, .raw (.int .i64 l.length)), (13, .raw (.int .i64 z.k))], [(8, some (.cells 70 [.raw (.int .i64 0), .raw (.int .i64 0), .raw (.int .i64 0), .raw (.int .i64 0)])), (800, some (cO (cntC l z.k) 801).2), (801, some (.row 3 1 (z.o.map cInt)))], none⟩) (fun z => z.k ≤ l.length ∧ gtL z.o z.k = opE l z.k z.k ∧ z.o.length ≤ z.k) (fun z => l.length - z.k) 120 ⟨0, []⟩ (by simp only [go_sem, Bool.not_eq_true', Bool.not_eq_false']; rfl) (by simp only [go_sem, Bool.not_eq_true', Bool.not_eq_false', List.map_nil, cntC_d, cntC_p, cntC_n, cntC_h]) ?_ ?_
    · exact ⟨Nat.zero_le _, rfl, Nat.le_refl _⟩
    rintro ⟨k, o⟩ ⟨h1, h2, h3⟩
    simp only at h1 h2 h3
    (refine swp_seqW ?_; simp only [go_sem, Bool.not_eq_true', Bool.not_eq_false'])
    (refine swp_seqW ?_; simp only [go_sem, Bool.not_eq_true', Bool.not_eq_false'])
    refine ⟨fun h5 => ?_, fun h5 => ?_⟩
    · have hk : k < l.length := by omega
      have hn := nod_at hv hk
      have hsz := hpos l[k] (List.getElem_mem hk)
      have hwk := hw l[k] (List.getElem_mem hk)
      have hst := cnt_step hk (hgt_nn hn) (by rw [ndN_get hk]; exact hsz.1) h2
      have hen := end_op (k := k) (by rw [ndN_get hk]; exact hsz.1) h2
      have hps := ps_mono (l := l) (show k + 1 ≤ l.length by omega) (Nat.le_refl _)
      have hps0 := ps_mono (l := l) (show 0 ≤ k by omega) (show k ≤ l.length by omega)
      have hps1 := psN_succ hk
      have hh0 := hs_mono hv (show 0 ≤ k by omega) (show k ≤ l.length by omega)
      have hol := opE_len l k (k + 1)
      have hnx := end_next (l := l) (k := k)
      have hnod := node6_ok (cntC l k) o k (ndN l k) hn (by omega) (by omega) (by rw [ndN_get hk]; omega) (by rw [ndN_get hk]; exact hwk) (by have : (cntC l k).h = cutM (hsN l k) := rfl; rw [hsN_zero] at hh0; unfold cutM at this; omega) (by have : (cntC l k).p = psN l k := rfl; rw [psN_zero] at hps0; unfold pall at hp; omega) (by have : (cntC l k).n = k := rfl; omega)
      rw [hst, hen, ndN_get hk] at hnod
      generalize opE l k (k + 1) = o2 at *
      generalize hc2 : cntC l (k + 1) = c2 at *
      generalize cntC l k = c1 at *
      refine swp_seqS ?_
      refine swp_block ?_
      (refine swp_seqW ?_; simp only [go_sem, Bool.not_eq_true', Bool.not_eq_false'])
      refine ⟨by omega, ex_get hk ?_⟩
      (refine swp_lastW ?_; simp only [go_sem, Bool.not_eq_true', Bool.not_eq_false'])
      (refine acall2 [] (hnod) (by simp only [go_sem, Bool.not_eq_true', Bool.not_eq_false']; rfl) (fit_of (by simp only [go_sem, Bool.not_eq_true', Bool.not_eq_false']) (by simp only [go_sem, Bool.not_eq_true', Bool.not_eq_false']) (by simp only [go_sem, Bool.not_eq_true', Bool.not_eq_false']) (by simp only [go_sem, Bool.not_eq_true', Bool.not_eq_false']) (by simp only [go_sem, Bool.not_eq_true', Bool.not_eq_false']) (by simp only [go_sem, Bool.not_eq_true', Bool.not_eq_false']) (by simp only [go_sem, Bool.not_eq_true', Bool.not_eq_false'])) ?_; simp only [go_sem, Bool.not_eq_true', Bool.not_eq_false'])
      (refine swp_lastW ?_; simp only [go_sem, Bool.not_eq_true', Bool.not_eq_false'])
      refine ⟨by omega, ?_⟩
      (refine loop_end [] (⟨k + 1, o2⟩) (by simp only [go_sem, Bool.not_eq_true', Bool.not_eq_false']; rfl) ?_ ?_ ?_; (focus first | omega | (simp only; omega)); (focus (simp only [go_sem, Bool.not_eq_true', Bool.not_eq_false', hc2]; done)))
      exact ⟨hk, hnx, hol⟩
    · obtain rfl : k = l.length := by omega
      (refine cut_end [] (()) (by simp only [go_sem, Bool.not_eq_true', Bool.not_eq_false']; rfl) ?_ ?_; (focus (simp only [go_sem, Bool.not_eq_true', Bool.not_eq_false']; done)))
      trivial
  rintro - -
  (refine swp_lastW ?_; simp only [go_sem, Bool.not_eq_true', Bool.not_eq_false'])
  (refine ret2 [] (by simp only [go_sem, Bool.not_eq_true', Bool.not_eq_false']; rfl) ?_; simp only [go_sem, Bool.not_eq_true', Bool.not_eq_false'])
theorem chk_no {l : List LNo} (h : isS l = false) : chkN l = 4 := if_pos h
theorem chk_lim {l : List LNo} (h : isS l = true) : chkN l = if 16 < (cntC l l.length).d ∨ 2000 < (cntC l l.length).p ∨ 2000 < (cntC l l.length).n ∨ 1099511627776 < (cntC l l.length).h then 2 else 0 := by
  unfold chkN
  rw [if_neg (by rw [h]; decide)]
  have e : 1099511627776 < hall l ↔ 1099511627776 < (cntC l l.length).h := by
    show _ ↔ 1099511627776 < cutM (hsN l l.length)
    unfold hall cutM
    omega
  simp only [e]
  rfl
set_option maxRecDepth 100000 in
set_option maxHeartbeats 8000000 in
theorem check6_ok (l : List LNo) (hl : l.length ≤ 900) (hw : ∀ x ∈ l, x.words.length ≤ 9223372036854775807) (hp : pall l ≤ 9223372036854775807) : FnOk Try.prog 10 [.sl 20 (l.map cNo)] [] (.raw (.int .i64 (chkN l))) [] := by
  refine fn_of_swp Try.func10 rfl (by kernel_rfl) (by kernel_rfl) (Nat.le_of_ble_eq_true rfl) Try.results10 ?_
  (refine swp_seqW ?_; simp only [go_sem, Bool.not_eq_true', Bool.not_eq_false'])
  (refine swp_seqW ?_; simp only [go_sem, Bool.not_eq_true', Bool.not_eq_false'])
  (refine acall2 [] (count6_ok l hl hw hp) (by simp only [go_sem, Bool.not_eq_true', Bool.not_eq_false']; rfl) (fit_of (by simp only [go_sem, Bool.not_eq_true', Bool.not_eq_false']) (by simp only [go_sem, Bool.not_eq_true', Bool.not_eq_false']) (by simp only [go_sem, Bool.not_eq_true', Bool.not_eq_false']) (by simp only [go_sem, Bool.not_eq_true', Bool.not_eq_false']) (by simp only [go_sem, Bool.not_eq_true', Bool.not_eq_false']) (by simp only [go_sem, Bool.not_eq_true', Bool.not_eq_false']) (by simp only [go_sem, Bool.not_eq_true', Bool.not_eq_false'])) ?_; simp only [go_sem, Bool.not_eq_true', Bool.not_eq_false'])
  (refine swp_seqW ?_; simp only [go_sem, Bool.not_eq_true', Bool.not_eq_false'])
  rcases hv : isS l with _ | _
  · have e2 : eC l = 4 := by unfold eC; rw [hv]; rfl
    rw [e2, chk_no hv]
    exact ⟨fun _ => rfl, fun w => absurd w (by decide)⟩
  have e1 : sumC l = cntC l l.length := by unfold sumC; rw [hv]; rfl
  have e2 : eC l = 0 := by unfold eC; rw [hv]; rfl
  rw [e1, e2, chk_lim hv]
  generalize cntC l l.length = c
  refine ⟨fun w => absurd rfl w, fun _ => ?_⟩
  (refine swp_seqW ?_; simp only [go_sem, Bool.not_eq_true', Bool.not_eq_false'])
  refine swp_cutS (fun _ : Unit => ⟨[], [], none⟩) (fun _ => ¬ (16 < c.d ∨ 2000 < c.p ∨ 2000 < c.n ∨ 1099511627776 < c.h)) 120 ?_ ?_
  · (refine swp_seqW ?_; simp only [go_sem, Bool.not_eq_true', Bool.not_eq_false'])
    refine swp_block ?_
    refine swp_loop2 [] (fun i : Nat => ⟨[(5, .hdr 96), (25, .agg [.raw (.int .i64 16), .raw (.int .i64 2000), .raw (.int .i64 2000), .raw (.int .i64 1099511627776)]), (26, .raw (.int .i64 i))], [(96, some (.cells 73 [.raw (.int .i64 c.d), .raw (.int .i64 c.p), .raw (.int .i64 c.n), .raw (.int .i64 c.h)]))], none⟩) (fun i => i ≤ 4 ∧ (0 < i → ¬ 16 < c.d) ∧ (1 < i → ¬ 2000 < c.p) ∧ (2 < i → ¬ 2000 < c.n) ∧ (3 < i → ¬ 1099511627776 < c.h)) (fun i => 4 - i) 120 0 (by simp only [go_sem, Bool.not_eq_true', Bool.not_eq_false']; rfl) (by simp only [go_sem, Bool.not_eq_true', Bool.not_eq_false']) ?_ ?_
    · exact ⟨by omega, by omega, by omega, by omega, by omega⟩
    rintro i ⟨h1, h2, h3, h4, h5⟩
    (refine swp_seqW ?_; simp only [go_sem, Bool.not_eq_true', Bool.not_eq_false'])
    (refine swp_seqW ?_; simp only [go_sem, Bool.not_eq_true', Bool.not_eq_false'])
    refine ⟨fun q => ?_, fun q => ?_⟩
    · refine swp_seqS ?_
      refine swp_block ?_
      rcases (by omega : i = 0 ∨ i = 1 ∨ i = 2 ∨ i = 3) with rfl | rfl | rfl | rfl
      all_goals
        (refine swp_seqW ?_; simp only [go_sem, Bool.not_eq_true', Bool.not_eq_false'])
        refine ⟨⟨by omega, by omega⟩, _, rfl, ?_⟩
        (refine swp_seqW ?_; simp only [go_sem, Bool.not_eq_true', Bool.not_eq_false', Int.reduceToNat, Int.reduceLT, Int.reduceLE, Int.reduceEq, Int.reduceAdd, Int.reduceSub, Int.reduceMul, Int.reduceNeg, Int.reduceNe, decide_false, Int.cast_ofNat_Int, kSet, List.getElem?_cons_succ, List.getElem?_cons_zero, List.set_cons_succ, List.set_cons_zero, exists_eq_left', forall_const, true_implies, Int.natCast_zero, Int.natCast_one, List.drop_zero, List.drop_succ_cons, List.take_succ_cons, List.take_zero, List.headD_cons])
        (refine swp_condW ?_; simp only [go_sem, Bool.not_eq_true', Bool.not_eq_false'])
        refine ⟨fun w => ?_, fun w => ?_⟩
        · rw [if_pos (by omega)]
          (refine swp_lastW ?_; simp only [go_sem, Bool.not_eq_true', Bool.not_eq_false'])
        · (refine swp_lastW ?_; simp only [go_sem, Bool.not_eq_true', Bool.not_eq_false'])
          (refine swp_lastW ?_; simp only [go_sem, Bool.not_eq_true', Bool.not_eq_false'])
          first
            | (refine ⟨by omega, loop_end [] (0 + 1) (by simp only [go_sem, Bool.not_eq_true', Bool.not_eq_false']; rfl) (by omega) (by simp only [go_sem, Bool.not_eq_true', Bool.not_eq_false']; omega) (by omega)⟩)
            | (refine ⟨by omega, loop_end [] (1 + 1) (by simp only [go_sem, Bool.not_eq_true', Bool.not_eq_false']; rfl) (by omega) (by simp only [go_sem, Bool.not_eq_true', Bool.not_eq_false']; omega) (by omega)⟩)
            | (refine ⟨by omega, loop_end [] (2 + 1) (by simp only [go_sem, Bool.not_eq_true', Bool.not_eq_false']; rfl) (by omega) (by simp only [go_sem, Bool.not_eq_true', Bool.not_eq_false']; omega) (by omega)⟩)
            | (refine ⟨by omega, loop_end [] (3 + 1) (by simp only [go_sem, Bool.not_eq_true', Bool.not_eq_false']; rfl) (by omega) (by simp only [go_sem, Bool.not_eq_true', Bool.not_eq_false']; omega) (by omega)⟩)
    · obtain rfl : i = 4 := by omega
      (refine cut_end [] (()) (by simp only [go_sem, Bool.not_eq_true', Bool.not_eq_false']; rfl) ?_ ?_; (focus (simp only [go_sem, Bool.not_eq_true', Bool.not_eq_false']; done)))
      omega
  rintro - hF
  rw [if_neg hF]
  (refine swp_lastW ?_; simp only [go_sem, Bool.not_eq_true', Bool.not_eq_false'])
end Go.Proofs.Ytblmebjhhanoaaa
/- CHAPTER 06: the document's answer: Count, Check. -/
/- G -/
/- BOOLS -/
set_option linter.unusedSimpArgs false
set_option linter.unusedVariables false
namespace Go.Proofs.Ytblmebjhhanoaaa
open Go.RowKit

abbrev sO (d p n h : Int) : AO := .cells 70 [.raw (.int .i64 d), .raw (.int .i64 p), .raw (.int .i64 n), .raw (.int .i64 h)]
def stC (l : List LNo) (k : Nat) (more : List (Nat × AV)) (d p h : Int) (ob : List (Nat × Option AO)) : AS := ⟨[(0, .sl 20 (l.map cNo)), (2, .hdr 8), (3, .raw (.int .i64 0)), (4, .hdr 800), (5, .raw (.int .i64 k))] ++ more, [(8, some (sO 0 0 0 0)), (800, some (sO d p l.length h))] ++ ob, none⟩
attribute [go_sem] stC
end Go.Proofs.Ytblmebjhhanoaaa
/- CHAPTER 14: the document's answer: one node. -/
/- G -/
/- BOOLS -/
set_option linter.unusedSimpArgs false
set_option linter.unusedVariables false
namespace Go.Proofs.Ytblmebjhhanoaaa
open Go.RowKit

abbrev rowA (s : LGs) : AO := .row 41 8 (s.a.map cAt)
abbrev rowF (s : LGs) : AO := .row 39 7 (s.f.map cFl)
abbrev stO (p : LPen) (i j : Nat) : AO := .cells 122 [.hdr i, .hdr j, .raw (.int .i64 0), .raw (.int .i64 p.y), .raw (.int .i64 p.m)]
def aGs (s : LGs) (i j : Nat) : AV := .agg [.hdr i, .hdr j, .raw (.int .i64 0), .raw (.int .i64 s.p.y), .raw (.int .i64 s.p.m)]
attribute [go_sem] aGs
theorem GsOk.at {l : List LNo} {B : Int} {k : Nat} {s : LGs} (h : GsOk l B k s) (hB : B ≤ 1099511627776) : 0 ≤ atP s.p ∧ atP s.p ≤ 1099511627776 := by
  have := h.y
  have := h.m
  have := h.b
  unfold atP
  omega
theorem GsOk.lin {l : List LNo} {B : Int} {k : Nat} {s : LGs} (h : GsOk l B k s) (hB : B ≤ 1099511627776) (hk : k ≤ 60) {H : Int} {sp : LSpan} (hH : 0 ≤ H ∧ H ≤ 1099511627776) (hs : SpOk sp) : LinOk s.f H sp :=
  ⟨by have := h.fl; omega, h.near hB hk, by omega, by obtain ⟨a, b⟩ := hs; omega⟩
theorem GsOk.pla {l : List LNo} {B : Int} {k : Nat} {s : LGs} (h : GsOk l B k s) (hB : B ≤ 1099511627776) (hk : k ≤ 60) {x : LNo} {n : Nat} {sp : LSpan} (hx : Box6 x) (hs : SpOk sp) : PlaOk s.f (newF n x s) (atP s.p) sp := by
  have h1 := hx.w
  have h2 := hx.h
  have h3 := h.at hB
  obtain ⟨a, b⟩ := hs
  exact ⟨by have := h.fl; omega, h.near hB hk, nearF_iff.2 ⟨by simp only [newF]; omega, by simp only [newF]; omega, by simp only [newF]; omega, by simp only [newF]; omega⟩, by omega, by omega⟩
theorem wor_ok {l : List LNo} {w : Int} (hP : FlwP l w) {k : Nat} (hk : k < l.length) {x : LNo} (e : ndN l k = x) (hx : Txt6 x) (q : x.kind = 2) : WorOk x.words x.space := by
  have h1 := psN_succ hk
  have h2 := ps_mono (l := l) (show 0 ≤ k by omega) (by omega)
  have h3 := ps_mono (l := l) (show k + 1 ≤ l.length by omega) (Nat.le_refl _)
  have h4 := hP.ps
  have h5 : pcsN x = x.words.length := by unfold pcsN; rw [if_neg (by omega), if_pos q]
  rw [e, h5] at h1
  rw [psN_zero] at h2
  unfold pall at h4
  have h6 := hx.space
  refine ⟨by omega, ?_, by omega⟩
  rw [List.all_eq_true]
  intro y hy
  have := hx.words y hy
  simp only [nr9, decide_eq_true_eq]
  omega
theorem nod_next {l : List LNo} {w : Int} (hP : FlwP l w) {g k : Nat} {B : Int} {s : LGs} (hk : k < l.length) (hn : nst l g (k + 1) (k + (ndN l k).size)) (h : GsOk l B k s) : GsOk l (B + (hsN l (k + (ndN l k).size.toNat) - hsN l k)) (k + (ndN l k).size.toNat) (nodG l w (rowG l w g) k s) := by
  have hL := isS_lam hP.v
  have h1 := hL.pos k hk
  have h2 := hL.fin k hk
  rw [← ndN_siz] at h1 h2
  refine nodG_ok hP hk h fun B s hs => ?_
  have := rowG_ok hP g (k + 1) (k + (ndN l k).size) B s hn (by omega) hs
  have e3 : ((k : Int) + (ndN l k).size).toNat = k + (ndN l k).size.toNat := by omega
  rw [e3] at this
  exact this
theorem rmR_ok' {l : List LNo} {w : Int} (hP : FlwP l w) (k : Nat) : okR (rmR l w l.length k) := rmR_ok (isS_ins hP.v) hP.w l.length k
theorem tex_all {l : List LFl} {ws : List Int} {sp H B : Int} {s : LSpan} (hH : 1 ≤ H) (hf : ∀ g ∈ l, g.y + g.h ≤ B) : ∀ (n f : Nat) (y C : Int), f ≤ ws.length → y ≤ C → B ≤ C → ∀ z ∈ texG l ws sp H s n f y, y ≤ z.y ∧ z.y + H ≤ C + H * ((ws.length : Int) - f)
  | 0, f, y, C, h0, h2, h3, z, hz => by
    rw [texG] at hz
    cases hz
  | n + 1, f, y, C, h0, h2, h3, z, hz => by
    rw [texG] at hz
    split at hz
    · next q =>
      obtain ⟨t, e1, e2, e3⟩ := lin_t (l := l) (sp := sp) (H := H) (y := y) (s := s) q
      rw [e1, Int.toNat_natCast] at hz
      have hy : (linN l ws sp H f y s).y = romY l (ws.getD f 0) H y s := rfl
      have hge := rom_ge l (ws.getD f 0) H y s
      have hle := rom_le (w := ws.getD f 0) (H := H) (s := s) (Int.le_trans h2 (Int.le_refl C)) (fun g hg => Int.le_trans (hf g hg) h3)
      have h5 : H * ((ws.length : Int) - f) = H * ((ws.length : Int) - t) + H * ((t : Int) - f) := by rw [← Int.mul_add]; congr 1; omega
      have h6 : H * 1 ≤ H * ((t : Int) - f) := Int.mul_le_mul_of_nonneg_left (by omega) (by omega)
      have h7 := Int.mul_nonneg (show 0 ≤ H by omega) (show 0 ≤ (ws.length : Int) - t by omega)
      rcases List.mem_cons.1 hz with rfl | hz
      · omega
      · have ih := tex_all (s := s) hH hf n t ((linN l ws sp H f y s).y + H) (C + H) e3 (by omega) (by omega) z hz
        omega
    · cases hz
theorem take_setG {k : Nat} {H : Int} {T : List LSet} {s : LGs} {i : Nat} (hi : i < T.length) : (T.take (i + 1)).foldl (setG k H) s = setG k H ((T.take i).foldl (setG k H) s) T[i] := by
  rw [List.take_succ_eq_append_getElem hi, List.foldl_append]
  rfl
def stR (l : List LNo) (w : Int) (k : Nat) (y : Int) (s : LGs) (more : List (Nat × AV)) (ob : List (Nat × Option AO)) : AS :=
  ⟨[(1, .sl 20 (l.map cNo)), (2, .raw (.int .i64 k)), (3, .raw (.int .i64 w)), (4, .hdr 800), (8, .hdr 801), (9, .hdr 802), (11, .hdr 803), (12, .raw (.int .i64 y))] ++ more,
   [(800, some (stO s.p 804 805)), (804, some (rowA s)), (805, some (rowF s)), (801, some (stO ⟨0, 0⟩ 806 807)), (802, some (.cells 37 (lNo (ndN l k)))), (803, some (.cells 87 [.raw (.int .i64 (spK l w k).a), .raw (.int .i64 (spK l w k).b)]))] ++ ob, none⟩
attribute [go_sem] stR
theorem spK_a (l : List LNo) (w : Int) (k : Nat) : (spK l w k).a = (rmR l w l.length k).x := rfl
theorem spK_b (l : List LNo) (w : Int) (k : Nat) : (spK l w k).b = (rmR l w l.length k).x + (rmR l w l.length k).w := rfl
end Go.Proofs.Ytblmebjhhanoaaa
/- CHAPTER 14: the document's answer: the galley. -/
/- G -/
/- BOOLS -/
set_option linter.unusedSimpArgs false
set_option linter.unusedVariables false
namespace Go.Proofs.Ytblmebjhhanoaaa
open Go.RowKit

structure LGal where
  a : List LAt
  f : List LFl
  h : Int
def endF (n : Nat) (f : LFl) : LFl := ⟨f.node, f.side, if (n : Int) ≤ f.anchor then max ((n : Int) - 1) 0 else f.anchor, f.x, f.y, f.w, f.h⟩
def hgtS (b : Int) (fs : List LFl) : Int := fs.foldl (fun h f => max h (f.y + f.h)) b
def endG (s : LGs) : LGal := ⟨s.a, s.f.map (endF s.a.length), hgtS (atP s.p) s.f⟩
def allS (l : List LNo) (w : Int) : LGs := rowG l w (l.length + 1) 0 l.length ⟨[], [], ⟨0, 0⟩⟩
def errG (l : List LNo) (w : Int) : Int := if 1 ≤ w ∧ w ≤ 1099511627776 then chkN l else 4
def resG (l : List LNo) (w : Int) : LGal := if errG l w = 0 then endG (allS l w) else ⟨[], [], 0⟩
def aGal (g : LGal) (i j : Nat) : AV := .agg [.hdr i, .hdr j, .raw (.int .i64 g.h)]
attribute [go_sem] aGal
theorem errG_ok {l : List LNo} {w : Int} (hl : l.length ≤ 60) (h : errG l w = 0) : FlwP l w := by
  unfold errG at h
  split at h
  · next q =>
    unfold chkN at h
    split at h
    · cases h
    · next hv =>
      split at h
      · cases h
      · next hc => exact ⟨by simpa using hv, hl, by omega, by omega, q⟩
  · cases h
theorem gs_zero (l : List LNo) : GsOk l 0 0 ⟨[], [], ⟨0, 0⟩⟩ := ⟨Int.le_refl _, Int.le_refl _, Int.le_refl _, Nat.le_refl _, Int.le_refl _, fun f hf => by cases hf⟩
theorem allS_ok {l : List LNo} {w : Int} (hP : FlwP l w) : GsOk l (hall l) l.length (allS l w) := by
  have := rowG_ok hP (l.length + 1) 0 l.length 0 ⟨[], [], ⟨0, 0⟩⟩ (isS_nst hP.v) (Int.le_refl _) (gs_zero l)
  rw [Int.toNat_natCast, hsN_zero] at this
  exact this.mono (by unfold hall; omega)
def flE (n : Nat) (fs : List LFl) (i : Nat) : List LFl := (fs.take i).map (endF n) ++ fs.drop i
theorem flE_len {n : Nat} {fs : List LFl} {i : Nat} : (flE n fs i).length = fs.length := by
  unfold flE
  simp
  omega
theorem flE_get {n : Nat} {fs : List LFl} {i : Nat} (hi : i < fs.length) : (flE n fs i)[i]? = some fs[i] := by
  unfold flE
  rw [List.getElem?_append_right (by simp; omega), List.length_map, List.length_take, List.getElem?_drop]
  have : i + (i - min i fs.length) = i := by omega
  rw [this, List.getElem?_eq_getElem hi]
theorem flE_set {n : Nat} {fs : List LFl} {i : Nat} (hi : i < fs.length) : (flE n fs i).set i (endF n fs[i]) = flE n fs (i + 1) := by
  unfold flE
  rw [List.drop_eq_getElem_cons hi, List.take_succ_eq_append_getElem hi, List.set_append_right _ _ (by simp; omega)]
  have : i - (List.map (endF n) (List.take i fs)).length = 0 := by simp; omega
  rw [this, List.set_cons_zero, List.map_append, List.append_assoc]
  rfl
theorem hgtS_bd {B : Int} : ∀ (fs : List LFl) (b : Int), 0 ≤ b ∧ b ≤ B → (∀ f ∈ fs, 0 ≤ f.y + f.h ∧ f.y + f.h ≤ B) → 0 ≤ hgtS b fs ∧ hgtS b fs ≤ B
  | [], b, h, _ => h
  | f :: fs, b, h, hf => by
    have := hf f List.mem_cons_self
    exact hgtS_bd fs (max b (f.y + f.h)) (by omega) fun g hg => hf g (List.mem_cons_of_mem _ hg)
theorem flE_zero (n : Nat) (fs : List LFl) : flE n fs 0 = fs := rfl
theorem flE_all (n : Nat) (fs : List LFl) : flE n fs fs.length = fs.map (endF n) := by
  unfold flE
  rw [List.take_length, List.drop_length, List.append_nil]
abbrev stH (h : Int) (p : LPen) (i j : Nat) : AO := .cells 122 [.hdr i, .hdr j, .raw (.int .i64 h), .raw (.int .i64 p.y), .raw (.int .i64 p.m)]
end Go.Proofs.Ytblmebjhhanoaaa
/- CHAPTER 14: flow: what each node's step keeps, all keep; what stands where, node by node. -/
/- G -/
set_option linter.unusedSimpArgs false
set_option linter.unusedVariables false
namespace Go.Proofs.Ytblmebjhhanoaaa
open Go.RowKit

theorem isG_nodk : ∀ (l : List LNo) (i : Nat) (st : List Int), isG l i st = true → ∀ x ∈ l, nodB x = true ∧ ¬(x.kind ≠ 1 ∧ 1 < x.size)
  | [], _, _, _, x, hx => by cases hx
  | y :: l, i, st, h, x, hx => by
    rw [isG] at h
    simp only [Bool.and_eq_true, Bool.not_eq_true', Bool.and_eq_false_iff, decide_eq_true_eq, decide_eq_false_iff_not] at h
    obtain ⟨⟨⟨⟨u1, u2⟩, u3⟩, u4⟩, u5⟩ := h
    rcases List.mem_cons.1 hx with e | q
    · subst e
      exact ⟨u1, fun w => u4.elim (fun z => z w.1) (fun z => z w.2)⟩
    · exact isG_nodk l _ _ u5 x q
theorem leaf_siz {l : List LNo} (hv : isS l = true) {k : Nat} (hk : k < l.length) (q : (ndN l k).kind ≠ 1) : (ndN l k).size = 1 := by
  have h1 := (isG_nodk l 0 _ hv l[k] (List.getElem_mem hk)).2
  have h2 := isS_sizes hv l[k] (List.getElem_mem hk)
  rw [ndN_get hk] at q ⊢
  have : ¬ 1 < l[k].size := fun w => h1 ⟨q, w⟩
  omega
/-- a property that each node's step hands on. -/
structure StepP (l : List LNo) (w : Int) (P : Nat → LGs → Prop) : Prop where
  ent : ∀ k s B, k < l.length → (ndN l k).kind = 1 → GsOk l B k s → B ≤ 1099511627776 → P k s → P (k + 1) (entG (ndN l k) s)
  lv : ∀ k e s B, k < l.length → (ndN l k).kind = 1 → GsOk l B e s → B ≤ 1099511627776 → P e s → P e (lvG (ndN l k) s)
  txt : ∀ k s B, k < l.length → (ndN l k).kind = 2 → GsOk l B k s → B ≤ 1099511627776 → P k s → P (k + 1) (txtG (spK l w k) k (ndN l k) s)
  mon : ∀ k s B, k < l.length → (ndN l k).kind = 3 → GsOk l B k s → B ≤ 1099511627776 → P k s → P (k + 1) (monG (spK l w k) k (ndN l k) s)
  flt : ∀ k s B, k < l.length → (ndN l k).kind = 4 → GsOk l B k s → B ≤ 1099511627776 → P k s → P (k + 1) (fltG (spK l w k) k (ndN l k) s)
theorem row_ind {l : List LNo} {w : Int} (hP : FlwP l w) {P : Nat → LGs → Prop} (hS : StepP l w P) : ∀ (n k : Nat) (e B : Int) (s : LGs), nst l n k e → e ≤ l.length → GsOk l B k s → B + (hall l - hsN l k) ≤ 1099511627776 → P k s → P e.toNat (rowG l w n k e s)
  | 0, k, e, B, s, h, _, _, _, _ => absurd h (by simp [nst])
  | n + 1, k, e, B, s, h, he, hg, hB, hp => by
    obtain ⟨h1, h2⟩ := h
    rw [rowG]
    split
    · next q =>
      obtain ⟨u1, u2, u3, u4⟩ := h2 q
      rw [← ndN_siz] at u1 u2 u3 u4
      have hk : k < l.length := by omega
      have e3 : ((k : Int) + (ndN l k).size).toNat = k + (ndN l k).size.toNat := by omega
      have hnb := nod_at hP.v hk
      have hs1 := hsN_succ hk
      have hm0 := hs_mono hP.v (show k ≤ l.length by omega) (Nat.le_refl _)
      have hm1 := hs_mono hP.v (show k + 1 ≤ k + (ndN l k).size.toNat by omega) (by omega)
      have hm2 := hs_mono hP.v (show k + (ndN l k).size.toNat ≤ l.length by omega) (Nat.le_refl _)
      unfold hall at hB
      have hB1 : B ≤ 1099511627776 := by omega
      have hnx := nod_next hP hk u3 hg
      have hN : P (k + (ndN l k).size.toNat) (nodG l w (rowG l w n) k s) := by
        unfold nodG
        rcases nodB_kind hnb with q | q | q | q
        · rw [if_pos q]
          have hb := nodB_blk hnb q
          have e1 : hgtN (ndN l k) = (ndN l k).st.top + (ndN l k).st.bottom + (ndN l k).st.padTop + (ndN l k).st.padBottom + (ndN l k).st.head := by unfold hgtN; rw [if_pos q]
          have hhd := hb.head
          have hbo := hb.bottom
          have hpb := hb.padBottom
          have hent := ent_ok hk hb hg
          have hr := row_ind hP hS n (k + 1) (k + (ndN l k).size) _ _ u3 (by omega) hent (by unfold hall; omega) (hS.ent k s B hk q hg hB1 hp)
          have hro := rowG_ok hP n (k + 1) (k + (ndN l k).size) _ _ u3 (by omega) hent
          rw [e3] at hr hro
          exact hS.lv k _ _ _ hk q hro (by omega) hr
        · rw [if_neg (by omega), if_pos q, leaf_siz hP.v hk (by omega)]
          exact hS.txt k s B hk q hg hB1 hp
        · rw [if_neg (by omega), if_neg (by omega), if_pos q, leaf_siz hP.v hk (by omega)]
          exact hS.mon k s B hk q hg hB1 hp
        · rw [if_neg (by omega), if_neg (by omega), if_neg (by omega), leaf_siz hP.v hk (by omega)]
          exact hS.flt k s B hk q hg hB1 hp
      exact row_ind hP hS n (k + (ndN l k).size.toNat) e _ _ u4 he hnx (by unfold hall; omega) hN
    · have e2 : e.toNat = k := by omega
      rw [e2]
      exact hp
theorem all_ind {l : List LNo} {w : Int} (hP : FlwP l w) {P : Nat → LGs → Prop} (hS : StepP l w P) (h0 : P 0 ⟨[], [], ⟨0, 0⟩⟩) : P l.length (allS l w) := by
  have := row_ind hP hS (l.length + 1) 0 l.length 0 ⟨[], [], ⟨0, 0⟩⟩ (isS_nst hP.v) (Int.le_refl _) (gs_zero l) (by have := hP.hi; rw [hsN_zero]; omega) h0
  rw [Int.toNat_natCast] at this
  exact this
/-! the pen never goes up -/
theorem ent_ge (x : LNo) (s : LGs) (hx : Blk6 x) : atP s.p ≤ atP (entG x s).p := by
  have h1 := hx.top
  have h2 := hx.padTop
  have hc : atP s.p ≤ atP (clrG x s) := by
    unfold clrG penC atP
    split
    · split
      · simp only; omega
      · exact Int.le_refl _
    · exact Int.le_refl _
  unfold atP at hc ⊢
  simp only [entG, penE, penP]
  split <;> (first | omega | (simp only; omega))
theorem lv_ge (x : LNo) (s : LGs) (hx : Blk6 x) (hm : 0 ≤ s.p.m) : atP s.p ≤ atP (lvG x s).p := by
  have h1 := hx.bottom
  have h2 := hx.padBottom
  unfold atP
  simp only [lvG, penL, penP]
  split <;> (first | omega | (simp only; omega))
theorem top_ge {l : List LFl} : ∀ (o : LIs), (∀ g ∈ l, g.y ≤ (l.foldl (mostT topF) o).n) ∧ (o.is = true → (l.foldl (mostT topF) o).is = true ∧ o.n ≤ (l.foldl (mostT topF) o).n) ∧ (l ≠ [] → (l.foldl (mostT topF) o).is = true) := by
  induction l with
  | nil => exact fun o => ⟨fun g hg => (by cases hg), fun h => ⟨h, Int.le_refl _⟩, fun h => absurd rfl h⟩
  | cons f l ih =>
    intro o
    rw [List.foldl_cons]
    have key : (mostT topF o f).is = true ∧ f.y ≤ (mostT topF o f).n ∧ (o.is = true → o.n ≤ (mostT topF o f).n) := by
      unfold mostT
      split
      · next h => exact ⟨rfl, Int.le_refl _, fun q => Int.le_of_lt (h.2 q)⟩
      · next h =>
        have h1 : o.is = true := by
          cases q : o.is with
          | true => rfl
          | false => exact absurd ⟨rfl, fun w => by rw [q] at w; cases w⟩ h
        refine ⟨h1, ?_, fun _ => Int.le_refl _⟩
        exact Int.not_lt.1 fun q => h ⟨rfl, fun _ => q⟩
    obtain ⟨i1, i2, -⟩ := ih (mostT topF o f)
    obtain ⟨i3, i4⟩ := i2 key.1
    refine ⟨fun g hg => ?_, fun h => ⟨i3, by have := key.2.2 h; omega⟩, fun _ => i3⟩
    rcases List.mem_cons.1 hg with rfl | hg
    · have := key.2.1; omega
    · exact i1 g hg
theorem spot_tops (l : List LFl) (f : LFl) (y : Int) (s : LSpan) : ∀ g ∈ l, g.y ≤ spotY l f y s := by
  intro g hg
  have h1 := (top_ge (l := l) ⟨0, false⟩).1 g hg
  have h2 := (top_ge (l := l) ⟨0, false⟩).2.2 (by intro e; subst e; cases hg)
  have h3 : fromP l y = max y (mostF topF l).n := from_t h2
  have h4 := dn_ge (l := l) (W := f.w) (H := f.h) (s := s) (l.length + 1) (fromP l y)
  have h5 : g.y ≤ (mostF topF l).n := h1
  unfold spotY
  omega
/-! anchors -/
def AncP (_ : Nat) (s : LGs) : Prop := ∀ f ∈ s.f, 0 ≤ f.anchor ∧ f.anchor ≤ s.a.length
theorem anc_step (l : List LNo) (w : Int) : StepP l w AncP where
  ent := fun _ _ _ _ _ _ _ h => h
  lv := fun _ _ _ _ _ _ _ _ h => h
  txt := fun k s B _ _ _ _ h => by
    obtain ⟨f1, f2⟩ := setG_fold k (ndN l k).line (texF s.f (ndN l k).words (ndN l k).space (ndN l k).line (atP s.p) (spK l w k)) s
    intro f hf
    unfold txtG at hf ⊢
    rw [f2] at hf
    rw [f1, List.length_append]
    have := h f hf
    omega
  mon := fun k s B _ _ _ _ h => fun f hf => by
    have := h f hf
    simp only [monG, List.length_append, List.length_cons, List.length_nil]
    omega
  flt := fun k s B _ _ _ _ h => fun f hf => by
    rcases List.mem_append.1 hf with hf | hf
    · exact h f hf
    · rw [List.mem_singleton] at hf
      subst hf
      simp only [fltG, setP, newF]
      omega
/-! what stands where -/
/-- lines that have a text's words, from one on. -/
def LinC (x : LNo) (k : Nat) : Nat → List LAt → Prop
  | f, [] => f = x.words.length
  | f, a :: L => a.kind = 1 ∧ a.node = k ∧ a.fr = f ∧ a.h = x.line ∧ ∃ t : Nat, a.to = t ∧ f < t ∧ t ≤ x.words.length ∧ a.w = wideN x.space (seg x.words f t) ∧ LinC x k t L
/-- a node's atoms. -/
def SegC (x : LNo) (k : Nat) (L : List LAt) : Prop :=
  if x.kind = 2 then LinC x k 0 L else if x.kind = 3 then ∃ a : LAt, L = [a] ∧ a.kind = 2 ∧ a.node = k ∧ a.w = x.w ∧ a.h = x.h else L = []
/-- atoms one below the other, from one height on, up to another one. -/
def RiseP : Int → List LAt → Int → Prop
  | lo, [], hi => lo ≤ hi
  | lo, a :: L, hi => lo ≤ a.y ∧ 0 ≤ a.h ∧ RiseP (a.y + a.h) L hi
theorem RiseP.up {L : List LAt} : ∀ {lo hi hi' : Int}, RiseP lo L hi → hi ≤ hi' → RiseP lo L hi' := by
  induction L with
  | nil => exact fun h q => Int.le_trans h q
  | cons a L ih => exact fun h q => ⟨h.1, h.2.1, ih h.2.2 q⟩
theorem RiseP.app {L M : List LAt} : ∀ {lo mid hi : Int}, RiseP lo L mid → RiseP mid M hi → RiseP lo (L ++ M) hi := by
  induction L with
  | nil =>
    intro lo mid hi h1 h2
    cases M with
    | nil => exact Int.le_trans h1 h2
    | cons a M => exact ⟨Int.le_trans h1 h2.1, h2.2⟩
  | cons a L ih => exact fun h1 h2 => ⟨h1.1, h1.2.1, ih h1.2.2 h2⟩
theorem RiseP.le {L : List LAt} : ∀ {lo hi : Int}, RiseP lo L hi → lo ≤ hi := by
  induction L with
  | nil => exact fun h => h
  | cons a L ih =>
    intro lo hi h
    have h1 := h.1
    have h2 := h.2.1
    have := ih h.2.2
    omega
theorem tex_once {l : List LFl} {x : LNo} {k : Nat} {sp : LSpan} (hH : 1 ≤ x.line) : ∀ (n f : Nat) (y : Int) (g : LGs), f ≤ x.words.length → x.words.length ≤ f + n → atP g.p = y →
    LinC x k f ((texG l x.words x.space x.line sp n f y).map (atL k x.line)) ∧ RiseP y ((texG l x.words x.space x.line sp n f y).map (atL k x.line)) (atP ((texG l x.words x.space x.line sp n f y).foldl (setG k x.line) g).p)
  | 0, f, y, g, h1, h2, h3 => ⟨show f = _ by omega, show y ≤ _ by rw [texG, List.foldl_nil]; omega⟩
  | n + 1, f, y, g, h1, h2, h3 => by
    rw [texG]
    split
    · next q =>
      obtain ⟨t, e1, e2, e3⟩ := lin_t (l := l) (sp := x.space) (H := x.line) (y := y) (s := sp) q
      have hge := rom_ge l (x.words.getD f 0) x.line y sp
      have hw : (linN l x.words x.space x.line f y sp).w = wideN x.space (seg x.words f t) := by
        have e4 : ((takeT x.words x.space (lenS (bandF l (romY l (x.words.getD f 0) x.line y sp) x.line sp)) f : Nat) : Int) = (t : Int) := e1
        have e5 : takeT x.words x.space (lenS (bandF l (romY l (x.words.getD f 0) x.line y sp) x.line sp)) f = t := by omega
        show wideN x.space (seg x.words f (takeT x.words x.space (lenS (bandF l (romY l (x.words.getD f 0) x.line y sp) x.line sp)) f)) = _
        rw [e5]
      have ih := tex_once (l := l) (x := x) (k := k) (sp := sp) hH n t ((linN l x.words x.space x.line f y sp).y + x.line) (setG k x.line g (linN l x.words x.space x.line f y sp)) e3 (by omega) (by simp [setG, atP])
      rw [e1, Int.toNat_natCast, List.map_cons, List.foldl_cons]
      refine ⟨⟨rfl, rfl, rfl, rfl, t, e1, e2, e3, hw, ih.1⟩, ⟨hge, by show 0 ≤ x.line; omega, ih.2⟩⟩
    · next q => exact ⟨show f = _ by omega, show y ≤ _ by rw [List.foldl_nil]; omega⟩
def nA (ss : List (List LAt)) (j : Nat) : Nat := (ss.take j).flatten.length
def nF (l : List LNo) : Nat → Nat
  | 0 => 0
  | j + 1 => if (ndN l j).kind = 4 then nF l j + 1 else nF l j
structure FltC (x : LNo) (j : Nat) (n : Nat) (f : LFl) : Prop where
  node : f.node = j
  side : f.side = x.side
  w : f.w = x.w
  h : f.h = x.h
  anchor : f.anchor = n
structure OncQ (l : List LNo) (ss : List (List LAt)) (i : Nat) (s : LGs) : Prop where
  len : ss.length = i
  flat : s.a = ss.flatten
  seg : ∀ j (h : j < ss.length), SegC (ndN l j) j ss[j]
  rise : RiseP 0 s.a (atP s.p)
  fl : s.f.length = nF l i
  flt : ∀ j, j < i → (ndN l j).kind = 4 → ∃ f, s.f[nF l j]? = some f ∧ FltC (ndN l j) j (nA ss j) f
  fy : ∀ q a b, s.f[q]? = some a → s.f[q + 1]? = some b → a.y ≤ b.y
def OncP (l : List LNo) (i : Nat) (s : LGs) : Prop := ∃ ss, OncQ l ss i s
theorem nA_app {ss : List (List LAt)} {L : List LAt} {j : Nat} (h : j ≤ ss.length) : nA (ss ++ [L]) j = nA ss j := by
  unfold nA
  rw [List.take_append_of_le_length h]
theorem nF_no {l : List LNo} {k : Nat} (q : (ndN l k).kind ≠ 4) : nF l (k + 1) = nF l k := if_neg q
/-- a node's atoms are added, no float. -/
theorem onc_add {l : List LNo} {k : Nat} {s s' : LGs} {L : List LAt} (h : OncP l k s) (q : (ndN l k).kind ≠ 4) (ha : s'.a = s.a ++ L) (hf : s'.f = s.f) (hseg : SegC (ndN l k) k L) (hr : RiseP (atP s.p) L (atP s'.p)) : OncP l (k + 1) s' := by
  obtain ⟨ss, h⟩ := h
  have hl := h.len
  refine ⟨ss ++ [L], ⟨by simp [hl], by rw [ha, h.flat]; simp, fun j hj => ?_, by rw [ha]; exact h.rise.app hr, by rw [hf, h.fl, nF_no q], fun j hj hk => ?_, by rw [hf]; exact h.fy⟩⟩
  · rw [List.length_append, List.length_cons, List.length_nil] at hj
    by_cases e : j < ss.length
    · rw [List.getElem_append_left e]
      exact h.seg j e
    · obtain rfl : j = ss.length := by omega
      rw [List.getElem_append_right (Nat.le_refl _)]
      simp only [Nat.sub_self, List.getElem_cons_zero]
      rw [hl]
      exact hseg
  · by_cases e : j = k
    · subst e; exact absurd hk q
    · rw [hf, nA_app (by omega)]
      exact h.flt j (by omega) hk
theorem seg_blk {x : LNo} {k : Nat} (q : x.kind = 1 ∨ x.kind = 4) : SegC x k [] := by
  unfold SegC
  rw [if_neg (by omega), if_neg (by omega)]
theorem onc_step {l : List LNo} {w : Int} (hP : FlwP l w) : StepP l w (OncP l) where
  ent := fun k s B hk q hg _ h => by
    have hb := nodB_blk (nod_at hP.v hk) q
    exact onc_add h (by omega) (L := []) (by simp [entG]) rfl (seg_blk (.inl q)) (ent_ge _ s hb)
  lv := fun k e s B hk q hg _ h => by
    have hb := nodB_blk (nod_at hP.v hk) q
    obtain ⟨ss, h⟩ := h
    exact ⟨ss, ⟨h.len, h.flat, h.seg, h.rise.up (lv_ge _ s hb hg.m), h.fl, h.flt, h.fy⟩⟩
  txt := fun k s B hk q hg _ h => by
    have hb := nodB_txt (nod_at hP.v hk) q
    obtain ⟨f1, f2⟩ := setG_fold k (ndN l k).line (texF s.f (ndN l k).words (ndN l k).space (ndN l k).line (atP s.p) (spK l w k)) s
    obtain ⟨t1, t2⟩ := tex_once (l := s.f) (x := ndN l k) (k := k) (sp := spK l w k) hb.line.1 (ndN l k).words.length 0 (atP s.p) s (Nat.zero_le _) (by omega) rfl
    exact onc_add h (by omega) f1 f2 (by unfold SegC; rw [if_pos q]; exact t1) t2
  mon := fun k s B hk q hg _ h => by
    have hb := nodB_mono (nod_at hP.v hk) q
    have h1 := rom_ge s.f (ndN l k).w (ndN l k).h (atP s.p) (spK l w k)
    refine onc_add h (by omega) (L := [monA (spK l w k) k (ndN l k) s]) rfl rfl (by unfold SegC; rw [if_neg (by omega), if_pos q]; exact ⟨_, rfl, rfl, rfl, rfl, rfl⟩) ⟨h1, by show 0 ≤ (ndN l k).h; have := hb.h; omega, ?_⟩
    show monY (spK l w k) (ndN l k) s + (ndN l k).h ≤ atP ⟨monY (spK l w k) (ndN l k) s + (ndN l k).h, 0⟩
    simp [atP]
  flt := fun k s B hk q hg _ h => by
    obtain ⟨ss, h⟩ := h
    have hl := h.len
    have eF : nF l (k + 1) = nF l k + 1 := if_pos q
    have eA : nA ss k = s.a.length := by
      unfold nA
      rw [← hl, List.take_length, ← h.flat]
    refine ⟨ss ++ [[]], ⟨by simp [hl], by show s.a = _; rw [h.flat]; simp, fun j hj => ?_, h.rise, by simp [fltG, putP, eF, h.fl], fun j hj hk => ?_, fun i x y hi hi2 => ?_⟩⟩
    · rw [List.length_append, List.length_cons, List.length_nil] at hj
      by_cases e : j < ss.length
      · rw [List.getElem_append_left e]
        exact h.seg j e
      · obtain rfl : j = ss.length := by omega
        rw [List.getElem_append_right (Nat.le_refl _)]
        simp only [Nat.sub_self, List.getElem_cons_zero]
        rw [hl]
        exact seg_blk (.inr q)
    · rw [nA_app (by omega)]
      by_cases e : j = k
      · subst e
        refine ⟨setP s.f (newF j (ndN l j) s) (atP s.p) (spK l w j), ?_, ⟨rfl, rfl, rfl, rfl, ?_⟩⟩
        · show (putP s.f _ _ _)[nF l j]? = _
          unfold putP
          rw [← h.fl, List.getElem?_append_right (Nat.le_refl _), Nat.sub_self]
          rfl
        · show (s.a.length : Int) = _
          rw [eA]
      · obtain ⟨f, h1, h2⟩ := h.flt j (by omega) hk
        refine ⟨f, ?_, h2⟩
        show (putP s.f _ _ _)[nF l j]? = _
        unfold putP
        rw [List.getElem?_append_left (List.getElem?_eq_some_iff.1 h1).1]
        exact h1
    · have hi : (putP s.f (newF k (ndN l k) s) (atP s.p) (spK l w k))[i]? = some x := hi
      have hi2 : (putP s.f (newF k (ndN l k) s) (atP s.p) (spK l w k))[i + 1]? = some y := hi2
      unfold putP at hi hi2
      by_cases e : i + 1 < s.f.length
      · rw [List.getElem?_append_left (by omega)] at hi
        rw [List.getElem?_append_left e] at hi2
        exact h.fy i x y hi hi2
      · have hlt := (List.getElem?_eq_some_iff.1 hi2).1
        rw [List.length_append, List.length_cons, List.length_nil] at hlt
        rw [List.getElem?_append_left (by omega)] at hi
        rw [List.getElem?_append_right (by omega), show i + 1 - s.f.length = 0 by omega] at hi2
        have hi2 : setP s.f (newF k (ndN l k) s) (atP s.p) (spK l w k) = y := by simpa using hi2
        rw [← hi2]
        exact spot_tops _ _ _ _ _ (List.mem_of_getElem? hi)
theorem onc_zero (l : List LNo) : OncP l 0 ⟨[], [], ⟨0, 0⟩⟩ := ⟨[], ⟨rfl, rfl, fun j h => absurd h (Nat.not_lt_zero _), Int.le_refl _, rfl, fun j h => absurd h (Nat.not_lt_zero _), fun q a b h => by simp at h⟩⟩
theorem anc_all {l : List LNo} {w : Int} (hP : FlwP l w) : AncP l.length (allS l w) := all_ind hP (anc_step l w) fun f hf => by cases hf
end Go.Proofs.Ytblmebjhhanoaaa
/- CHAPTER 14: what a galley holds, node by node. -/
/- G -/
set_option linter.unusedSimpArgs false
set_option linter.unusedVariables false
namespace Go.Proofs.Ytblmebjhhanoaaa
open Go.RowKit

structure OnF (l : List LNo) (j n : Nat) (H : Int) (f : LFl) : Prop where
  node : f.node = j
  side : f.side = (ndN l j).side
  w : f.w = (ndN l j).w
  h : f.h = (ndN l j).h
  anchor : 0 ≤ f.anchor ∧ f.anchor ≤ n
  y : 0 ≤ f.y ∧ f.y + f.h ≤ H
/-- what a galley holds. -/
structure OnG (l : List LNo) (ss : List (List LAt)) (g : LGal) : Prop where
  len : ss.length = l.length
  flat : g.a = ss.flatten
  seg : ∀ j (h : j < ss.length), SegC (ndN l j) j ss[j]
  rise : RiseP 0 g.a g.h
  fl : g.f.length = nF l l.length
  flt : ∀ j, j < l.length → (ndN l j).kind = 4 → ∃ f, g.f[nF l j]? = some f ∧ OnF l j (nA ss j) g.h f
  fy : ∀ q a b, g.f[q]? = some a → g.f[q + 1]? = some b → a.y ≤ b.y
theorem res_len {l : List LNo} {w : Int} (hl : l.length ≤ 60) : (resG l w).a.length ≤ 2000 ∧ (resG l w).f.length ≤ 60 ∧ 0 ≤ (resG l w).h ∧ (resG l w).h ≤ 1099511627776 := by
  unfold resG
  split
  · next q =>
    have hP := errG_ok hl q
    have hA := allS_ok hP
    have h2 := hA.al
    have h3 := hA.fl
    have h4 := hP.ps
    have h5 := hP.hi
    have h6 := hA.y
    have h7 := hA.m
    have h8 := hA.b
    have h9 := hgtS_bd (B := 1099511627776) (allS l w).f (atP (allS l w).p) (by unfold atP; omega) (fun f hf => by
      have := (hA.fs f hf).y
      have := (hA.fs f hf).h
      omega)
    unfold pall at h4
    simp only [endG, List.length_map]
    omega
  · simp
end Go.Proofs.Ytblmebjhhanoaaa
/- CHAPTER 3: rows compared; the chapter's examples; the laws RectRows and RectSlices. -/
/- G -/
set_option linter.unusedSimpArgs false
set_option linter.unusedVariables false
namespace Go.Proofs.Ytblmebjhhanoaaa
open Go.RowKit

def meetR (a b : LRect) : LRect := if noneR a ∨ noneR b then ⟨0, 0, 0, 0⟩ else ofS (meetS (acr a) (acr b)) (meetS (dwn a) (dwn b))
theorem meetS_near {a b : LSpan} (ha : nearS a) (hb : nearS b) : nearS (meetS a b) := by
  unfold meetS nearS at *
  split <;> (simp only; omega)
set_option maxRecDepth 100000 in
theorem rmeet_ok (a b : LRect) (ha : nearR a = true) (hb : nearR b = true) : FnOk Try.prog 13 [aRect a, aRect b] [] (aRect (meetR a b)) [] := by
  refine fn_of_awp Try.func13 rfl (by kernel_rfl) (by kernel_rfl) (Nat.le_of_ble_eq_true rfl) Try.results13 ?_
  simp only [go_sem]
  have hz : noneR a = true ∨ noneR b = true → meetR a b = ⟨0, 0, 0, 0⟩ := fun h => if_pos h
  have hz2 : noneR a = false → noneR b = false → meetR a b = ofS (meetS (acr a) (acr b)) (meetS (dwn a) (dwn b)) := fun h1 h2 => if_neg (by simp [h1, h2])
  (refine acall2 [] (rnone_ok a) (by simp only [go_sem]; rfl) (fit_of (by simp only [go_sem]) (by simp only [go_sem]) (by simp only [go_sem]) (by simp only [go_sem]) (by simp only [go_sem]) (by simp only [go_sem]) (by simp only [go_sem])) ?_; simp only [go_sem])
  refine ⟨fun h1 => ?_, fun h1 => ?_⟩
  · (refine acall2 [] (rnone_ok b) (by simp only [go_sem]; rfl) (fit_of (by simp only [go_sem]) (by simp only [go_sem]) (by simp only [go_sem]) (by simp only [go_sem]) (by simp only [go_sem]) (by simp only [go_sem]) (by simp only [go_sem])) ?_; simp only [go_sem])
    refine ⟨fun h2 => ?_, fun h2 => ?_⟩
    · rw [hz (.inr h2)]; exact ⟨rfl, rfl, rfl, rfl⟩
    · (refine acall2 [] (across_ok a ha) (by simp only [go_sem]; rfl) (fit_of (by simp only [go_sem]) (by simp only [go_sem]) (by simp only [go_sem]) (by simp only [go_sem]) (by simp only [go_sem]) (by simp only [go_sem]) (by simp only [go_sem])) ?_; simp only [go_sem])
      (refine acall2 [] (across_ok b hb) (by simp only [go_sem]; rfl) (fit_of (by simp only [go_sem]) (by simp only [go_sem]) (by simp only [go_sem]) (by simp only [go_sem]) (by simp only [go_sem]) (by simp only [go_sem]) (by simp only [go_sem])) ?_; simp only [go_sem])
      (refine acall2 [] (smeet_ok (acr a) (acr b)) (by simp only [go_sem]; rfl) (fit_of (by simp only [go_sem]) (by simp only [go_sem]) (by simp only [go_sem]) (by simp only [go_sem]) (by simp only [go_sem]) (by simp only [go_sem]) (by simp only [go_sem])) ?_; simp only [go_sem])
      (refine acall2 [] (down_ok a ha) (by simp only [go_sem]; rfl) (fit_of (by simp only [go_sem]) (by simp only [go_sem]) (by simp only [go_sem]) (by simp only [go_sem]) (by simp only [go_sem]) (by simp only [go_sem]) (by simp only [go_sem])) ?_; simp only [go_sem])
      (refine acall2 [] (down_ok b hb) (by simp only [go_sem]; rfl) (fit_of (by simp only [go_sem]) (by simp only [go_sem]) (by simp only [go_sem]) (by simp only [go_sem]) (by simp only [go_sem]) (by simp only [go_sem]) (by simp only [go_sem])) ?_; simp only [go_sem])
      (refine acall2 [] (smeet_ok (dwn a) (dwn b)) (by simp only [go_sem]; rfl) (fit_of (by simp only [go_sem]) (by simp only [go_sem]) (by simp only [go_sem]) (by simp only [go_sem]) (by simp only [go_sem]) (by simp only [go_sem]) (by simp only [go_sem])) ?_; simp only [go_sem])
      (refine acall2 [] (rof_ok _ _ (meetS_near (acr_near ha) (acr_near hb)) (meetS_near (dwn_near ha) (dwn_near hb))) (by simp only [go_sem]; rfl) (fit_of (by simp only [go_sem]) (by simp only [go_sem]) (by simp only [go_sem]) (by simp only [go_sem]) (by simp only [go_sem]) (by simp only [go_sem]) (by simp only [go_sem])) ?_; simp only [go_sem])
      exact ⟨by kernel_rfl, by simp [hz2 h1 h2, acr, dwn]⟩
  · rw [hz (.inl h1)]; exact ⟨rfl, rfl, rfl, rfl⟩
end Go.Proofs.Ytblmebjhhanoaaa
/- CHAPTER 14: the law FlowApart, in plain words: what lies beside what. -/
/- G -/
set_option linter.unusedSimpArgs false
set_option linter.unusedVariables false
namespace Go.Proofs.Ytblmebjhhanoaaa
open Go.RowKit

def ApF (x y w h : Int) (f : LFl) : Prop := x + w ≤ f.x ∨ f.x + f.w ≤ x ∨ y + h ≤ f.y ∨ f.y + f.h ≤ y
theorem meetS_no {a b : LSpan} (h : a.b ≤ b.a ∨ b.b ≤ a.a) : meetS a b = ⟨0, 0⟩ := by
  unfold meetS
  split
  · rfl
  · omega
theorem ap_meet {x y w h : Int} {f : LFl} (q : ApF x y w h f) : meetR ⟨x, y, w, h⟩ ⟨f.x, f.y, f.w, f.h⟩ = ⟨0, 0, 0, 0⟩ := by
  unfold meetR
  split
  · rfl
  · unfold ApF at q
    unfold ofS
    rw [if_pos]
    simp only [acr, dwn]
    rcases q with q | q | q | q
    · left; rw [meetS_no (.inl q)]; decide
    · left; rw [meetS_no (.inr q)]; decide
    · right; rw [meetS_no (.inl q)]; decide
    · right; rw [meetS_no (.inr q)]; decide
theorem dn_fit {l : List LFl} {W H : Int} {s : LSpan} : ∀ (n : Nat) (y : Int), cntP l y ≤ n → fitL l H (dnP l W H s n y) W s
  | 0, y, h => by
    by_cases q : W ≤ lenS (bandF l y H s) ∨ (nextF l y H s).is = false
    · exact q
    · have := dn_lt q
      omega
  | n + 1, y, h => by
    by_cases q : W ≤ lenS (bandF l y H s) ∨ (nextF l y H s).is = false
    · rw [dn_stop q]; exact q
    · have := dn_lt q
      rw [dn_step q]
      exact dn_fit n _ (by omega)
theorem rom_fit (l : List LFl) (w H y : Int) (s : LSpan) : fitL l H (romY l w H y s) w s := dn_fit _ _ (Nat.le_refl _)
theorem spot_fit (l : List LFl) (f : LFl) (y : Int) (s : LSpan) : fitL l f.h (spotY l f y s) f.w s := dn_fit _ _ (Nat.le_succ_of_le (List.length_filter_le _ _))
theorem fit_len {l : List LFl} {H Y w : Int} {s : LSpan} (h : fitL l H Y w s) (hw : w ≤ lenS s) : w ≤ lenS (bandF l Y H s) := by
  rcases h with h | h
  · exact h
  · obtain ⟨e1, e2⟩ := (same_next l Y H s).2 h
    unfold lenS at hw ⊢
    rw [e1, e2]
    exact hw
theorem fold_cut {y H : Int} : ∀ (l : List LFl) (o : LSpan), ∀ f ∈ l, meetF f y H = true → (f.side = 1 → f.x + f.w ≤ (l.foldl (ofT y H) o).a) ∧ (f.side ≠ 1 → (l.foldl (ofT y H) o).b ≤ f.x)
  | [], o, f, hf, _ => by cases hf
  | g :: l, o, f, hf, hm => by
    rw [List.foldl_cons]
    have h1 := fold_mono (y := y) (H := H) l (ofT y H o g)
    rcases List.mem_cons.1 hf with rfl | hf
    · have e : ofT y H o f = cutF f o := by unfold ofT; rw [if_pos hm]
      rw [e] at h1 ⊢
      unfold cutF at h1 ⊢
      constructor
      · intro q
        rw [if_pos q] at h1 ⊢
        simp only at h1
        omega
      · intro q
        rw [if_neg q] at h1 ⊢
        simp only at h1
        omega
    · exact fold_cut l _ f hf hm
/-- what lies in a band meets no float. -/
theorem in_band {l : List LFl} {H Y x w : Int} {s : LSpan} (hx : (bandF l Y H s).a ≤ x) (hb : x + w ≤ (bandF l Y H s).b) (hH : 1 ≤ H) (hf : ∀ f ∈ l, 1 ≤ f.h) : ∀ f ∈ l, ApF x Y w H f := by
  intro f hfl
  unfold ApF
  by_cases q : meetF f Y H = true
  · obtain ⟨h1, h2⟩ := fold_cut l s f hfl q
    have h1 : f.side = 1 → f.x + f.w ≤ (bandF l Y H s).a := h1
    have h2 : f.side ≠ 1 → (bandF l Y H s).b ≤ f.x := h2
    by_cases e : f.side = 1
    · have := h1 e; omega
    · have := h2 e; omega
  · have := hf f hfl
    unfold meetF at q
    rw [decide_eq_true_iff] at q
    omega
theorem wide_ge {ws : List Int} {sp : Int} (hw : ∀ x ∈ ws, 1 ≤ x) (hs : 0 ≤ sp) {f : Nat} : ∀ t, f < t → t ≤ ws.length → 1 ≤ wideN sp (seg ws f t)
  | 0, h, _ => absurd h (Nat.not_lt_zero _)
  | t + 1, h, ht => by
    rw [wide_seg sp ws f t (by omega) (by omega)]
    have h1 := hw ws[t] (List.getElem_mem (by omega))
    by_cases e : f = t
    · subst e
      rw [wide_none]
      omega
    · have := wide_ge hw hs (f := f) t (by omega) (by omega)
      omega
theorem len_le {s : LSpan} {w : Int} (h1 : 1 ≤ w) (h2 : w ≤ lenS s) : s.a + w ≤ s.b := by
  unfold lenS at h2
  split at h2 <;> omega
/-- a line that is not wider than its room. -/
theorem lin_apart {l : List LFl} {ws : List Int} {sp H y : Int} {f : Nat} {s : LSpan} (hf : f < ws.length) (hw : ∀ x ∈ ws, 1 ≤ x) (hs : 0 ≤ sp) (hH : 1 ≤ H) (hl : ∀ g ∈ l, 1 ≤ g.h) (q : (linN l ws sp H f y s).w ≤ lenS s) :
    s.a ≤ (linN l ws sp H f y s).x ∧ (linN l ws sp H f y s).x + (linN l ws sp H f y s).w ≤ s.b ∧ ∀ g ∈ l, ApF (linN l ws sp H f y s).x (linN l ws sp H f y s).y (linN l ws sp H f y s).w H g := by
  have hfit := rom_fit l (ws.getD f 0) H y s
  unfold linN at q ⊢
  simp only at q ⊢
  generalize romY l (ws.getD f 0) H y s = Y at *
  have hlo := band_lo l Y H s
  have htb := takeT_bd ws sp (lenS (bandF l Y H s)) f hf
  have hwd := wide_ge hw hs (f := f) _ htb.1 htb.2
  have key : wideN sp (seg ws f (takeT ws sp (lenS (bandF l Y H s)) f)) ≤ lenS (bandF l Y H s) := by
    rcases takeT_fits ws sp (lenS (bandF l Y H s)) f with e | e
    · rw [e] at q ⊢
      have e2 : wideN sp (seg ws f (f + 1)) = ws.getD f 0 := by
        rw [wide_seg sp ws f f (Nat.le_refl _) hf, wide_none]
        simp [List.getD_eq_getElem?_getD, hf]
        omega
      rw [e2] at q ⊢
      exact fit_len hfit q
    · exact e
  have hb := len_le hwd key
  exact ⟨hlo.1, by omega, in_band (Int.le_refl _) hb hH hl⟩
theorem tex_apart {l : List LFl} {ws : List Int} {sp H : Int} {s : LSpan} (hw : ∀ x ∈ ws, 1 ≤ x) (hs : 0 ≤ sp) (hH : 1 ≤ H) (hl : ∀ g ∈ l, 1 ≤ g.h) : ∀ (n f : Nat) (y : Int), ∀ z ∈ texG l ws sp H s n f y, z.w ≤ lenS s → s.a ≤ z.x ∧ z.x + z.w ≤ s.b ∧ ∀ g ∈ l, ApF z.x z.y z.w H g
  | 0, f, y, z, hz => by cases hz
  | n + 1, f, y, z, hz => by
    rw [texG] at hz
    split at hz
    · next q =>
      rcases List.mem_cons.1 hz with rfl | hz
      · exact lin_apart q hw hs hH hl
      · exact tex_apart hw hs hH hl n _ _ z hz
    · cases hz
theorem tex_pos {l : List LFl} {ws : List Int} {sp H : Int} {s : LSpan} (hw : ∀ x ∈ ws, 1 ≤ x) (hs : 0 ≤ sp) : ∀ (n f : Nat) (y : Int), ∀ z ∈ texG l ws sp H s n f y, 1 ≤ z.w
  | 0, f, y, z, hz => by cases hz
  | n + 1, f, y, z, hz => by
    rw [texG] at hz
    split at hz
    · next q =>
      rcases List.mem_cons.1 hz with rfl | hz
      · have htb := takeT_bd ws sp (lenS (bandF l (romY l (ws.getD f 0) H y s) H s)) f q
        exact wide_ge hw hs (f := f) _ htb.1 htb.2
      · exact tex_pos hw hs n _ _ z hz
    · cases hz
/-- an atom lies in its room and meets no float. -/
structure AtC (l : List LNo) (w : Int) (fs : List LFl) (a : LAt) : Prop where
  ap : ∀ j : Nat, a.node = j → a.w ≤ (rmR l w l.length j).w → (rmR l w l.length j).x ≤ a.x ∧ a.x + a.w ≤ (rmR l w l.length j).x + (rmR l w l.length j).w ∧ ∀ f ∈ fs, ApF a.x a.y a.w a.h f
structure ApQ (l : List LNo) (w : Int) (k : Nat) (s : LGs) : Prop where
  once : OncP l k s
  nd : ∀ a ∈ s.a, ∃ j : Nat, a.node = j ∧ j < k
  wp : ∀ a ∈ s.a, 1 ≤ a.w
  at_ : ∀ a ∈ s.a, AtC l w s.f a
  fn : ∀ f ∈ s.f, ∃ j : Nat, f.node = j ∧ j < k
  fl : ∀ (q p : Nat) a b, q < p → s.f[p]? = some a → s.f[q]? = some b → ∀ j : Nat, a.node = j → a.w ≤ (rmR l w l.length j).w → ApF a.x a.y a.w a.h b
theorem rise_bot {L : List LAt} : ∀ {lo hi : Int}, RiseP lo L hi → ∀ a ∈ L, a.y + a.h ≤ hi := by
  induction L with
  | nil => exact fun _ a ha => (by cases ha)
  | cons b L ih =>
    intro lo hi h a ha
    rcases List.mem_cons.1 ha with rfl | ha
    · exact h.2.2.le
    · exact ih h.2.2 a ha
theorem sp_len {l : List LNo} {w : Int} (hP : FlwP l w) (k : Nat) : lenS (spK l w k) = (rmR l w l.length k).w := by
  have h := (hP.sp k).b.1
  unfold spK at h ⊢
  simp only at h
  unfold lenS
  rw [if_neg (by simp only; omega)]
  simp only
  omega
/-- a node's atoms are added, no float. -/
theorem ap_add {l : List LNo} {w : Int} {k : Nat} {s s' : LGs} {L : List LAt} (h : ApQ l w k s) (ho : OncP l (k + 1) s') (ha : s'.a = s.a ++ L) (hf : s'.f = s.f) (hn : ∀ a ∈ L, a.node = k) (hw1 : ∀ a ∈ L, 1 ≤ a.w) (hL : ∀ a ∈ L, AtC l w s.f a) : ApQ l w (k + 1) s' := by
  refine ⟨ho, fun a q => ?_, fun a q => ?_, fun a q => ?_, fun f q => ?_, by rw [hf]; exact h.fl⟩
  · rw [ha] at q
    rcases List.mem_append.1 q with q | q
    · obtain ⟨j, j1, j2⟩ := h.nd a q
      exact ⟨j, j1, by omega⟩
    · exact ⟨k, hn a q, Nat.lt_succ_self _⟩
  · rw [ha] at q
    rcases List.mem_append.1 q with q | q
    · exact h.wp a q
    · exact hw1 a q
  · rw [ha] at q
    rw [hf]
    rcases List.mem_append.1 q with q | q
    · exact h.at_ a q
    · exact hL a q
  · rw [hf] at q
    obtain ⟨j, j1, j2⟩ := h.fn f q
    exact ⟨j, j1, by omega⟩
theorem ap_step {l : List LNo} {w : Int} (hP : FlwP l w) : StepP l w (ApQ l w) where
  ent := fun k s B hk q hg hB h => ap_add h ((onc_step hP).ent k s B hk q hg hB h.once) (L := []) (by simp [entG]) rfl (fun a ha => by cases ha) (fun a ha => by cases ha) (fun a ha => by cases ha)
  lv := fun k e s B hk q hg hB h => ⟨(onc_step hP).lv k e s B hk q hg hB h.once, h.nd, h.wp, h.at_, h.fn, h.fl⟩
  txt := fun k s B hk q hg hB h => by
    have hb := nodB_txt (nod_at hP.v hk) q
    obtain ⟨f1, f2⟩ := setG_fold k (ndN l k).line (texF s.f (ndN l k).words (ndN l k).space (ndN l k).line (atP s.p) (spK l w k)) s
    refine ap_add h ((onc_step hP).txt k s B hk q hg hB h.once) f1 f2 (fun a ha => ?_) (fun a ha => ?_) (fun a ha => ?_)
    · obtain ⟨z, hz, rfl⟩ := List.mem_map.1 ha
      rfl
    · obtain ⟨z, hz, rfl⟩ := List.mem_map.1 ha
      exact tex_pos (fun x hx => (hb.words x hx).1) hb.space.1 _ _ _ z hz
    · obtain ⟨z, hz, rfl⟩ := List.mem_map.1 ha
      have ht := tex_apart (l := s.f) (s := spK l w k) (fun x hx => (hb.words x hx).1) hb.space.1 hb.line.1 (fun g hg' => (hg.fs g hg').h.1) _ _ _ z hz
      refine ⟨fun j hj hw => ?_⟩
      obtain rfl : k = j := Int.ofNat.inj hj
      rw [← sp_len hP] at hw
      exact ht hw
  mon := fun k s B hk q hg hB h => by
    have hb := nodB_mono (nod_at hP.v hk) q
    refine ap_add h ((onc_step hP).mon k s B hk q hg hB h.once) (L := [monA (spK l w k) k (ndN l k) s]) rfl rfl (fun a ha => ?_) (fun a ha => ?_) (fun a ha => ?_)
    · rw [List.mem_singleton] at ha
      subst ha
      rfl
    · rw [List.mem_singleton] at ha
      subst ha
      exact hb.w.1
    · rw [List.mem_singleton] at ha
      subst ha
      refine ⟨fun j hj hw => ?_⟩
      obtain rfl : k = j := Int.ofNat.inj hj
      rw [← sp_len hP] at hw
      have hfit := rom_fit s.f (ndN l k).w (ndN l k).h (atP s.p) (spK l w k)
      have hlen := fit_len hfit hw
      have hbb := len_le hb.w.1 hlen
      have hlo := band_lo s.f (romY s.f (ndN l k).w (ndN l k).h (atP s.p) (spK l w k)) (ndN l k).h (spK l w k)
      exact ⟨hlo.1, Int.le_trans hbb hlo.2, in_band (Int.le_refl _) hbb hb.h.1 (fun g hg' => (hg.fs g hg').h.1)⟩
  flt := fun k s B hk q hg hB h => by
    have hb := (nodB_flt (nod_at hP.v hk) q).1
    obtain ⟨ss, ho⟩ := h.once
    have hbot := rise_bot ho.rise
    have hsp := spot_ge s.f (newF k (ndN l k) s) (atP s.p) (spK l w k)
    have hnew : (setP s.f (newF k (ndN l k) s) (atP s.p) (spK l w k)).y = spotY s.f (newF k (ndN l k) s) (atP s.p) (spK l w k) := rfl
    refine ⟨(onc_step hP).flt k s B hk q hg hB h.once, fun a ha => ?_, h.wp, fun a ha => ?_, fun f hf => ?_, fun i p a b hip hp hi => ?_⟩
    · obtain ⟨j, j1, j2⟩ := h.nd a ha
      exact ⟨j, j1, by omega⟩
    · refine ⟨fun j hj hw => ?_⟩
      obtain ⟨c1, c2, c3⟩ := (h.at_ a ha).ap j hj hw
      refine ⟨c1, c2, fun f hf => ?_⟩
      rcases List.mem_append.1 hf with hf | hf
      · exact c3 f hf
      · rw [List.mem_singleton] at hf
        have := hbot a ha
        unfold ApF
        rw [hf, hnew]
        omega
    · rcases List.mem_append.1 hf with hf | hf
      · obtain ⟨j, j1, j2⟩ := h.fn f hf
        exact ⟨j, j1, by omega⟩
      · rw [List.mem_singleton] at hf
        subst hf
        exact ⟨k, rfl, Nat.lt_succ_self _⟩
    · have hp : (putP s.f (newF k (ndN l k) s) (atP s.p) (spK l w k))[p]? = some a := hp
      have hi : (putP s.f (newF k (ndN l k) s) (atP s.p) (spK l w k))[i]? = some b := hi
      unfold putP at hp hi
      by_cases e : p < s.f.length
      · rw [List.getElem?_append_left e] at hp
        rw [List.getElem?_append_left (by omega)] at hi
        exact h.fl i p a b hip hp hi
      · have hlt := (List.getElem?_eq_some_iff.1 hp).1
        rw [List.length_append, List.length_cons, List.length_nil] at hlt
        rw [List.getElem?_append_left (by omega)] at hi
        rw [List.getElem?_append_right (by omega), show p - s.f.length = 0 by omega] at hp
        have hp : setP s.f (newF k (ndN l k) s) (atP s.p) (spK l w k) = a := by simpa using hp
        subst hp
        intro j hj hw
        obtain rfl : k = j := Int.ofNat.inj hj
        rw [← sp_len hP] at hw
        have hfit := spot_fit s.f (newF k (ndN l k) s) (atP s.p) (spK l w k)
        have hlen := fit_len hfit hw
        have hw1 : 1 ≤ (newF k (ndN l k) s).w := hb.w.1
        have hh1 : 1 ≤ (newF k (ndN l k) s).h := hb.h.1
        have hbb := len_le hw1 hlen
        have hx : (bandF s.f (spotY s.f (newF k (ndN l k) s) (atP s.p) (spK l w k)) (newF k (ndN l k) s).h (spK l w k)).a ≤ spotX s.f (newF k (ndN l k) s) (atP s.p) (spK l w k) ∧ spotX s.f (newF k (ndN l k) s) (atP s.p) (spK l w k) + (newF k (ndN l k) s).w ≤ (bandF s.f (spotY s.f (newF k (ndN l k) s) (atP s.p) (spK l w k)) (newF k (ndN l k) s).h (spK l w k)).b := by
          unfold spotX
          split
          · exact ⟨Int.le_refl _, hbb⟩
          · omega
        exact in_band hx.1 hx.2 hh1 (fun g hg' => (hg.fs g hg').h.1) b (List.mem_of_getElem? hi)
theorem ap_all {l : List LNo} {w : Int} (hP : FlwP l w) : ApQ l w l.length (allS l w) :=
  all_ind hP (ap_step hP) ⟨onc_zero l, fun a ha => (by cases ha), fun a ha => (by cases ha), fun a ha => (by cases ha), fun a ha => (by cases ha), fun q p a b _ h => by simp at h⟩
/-- what the law FlowApart asks. -/
structure ApR (l : List LNo) (w : Int) (g : LGal) : Prop where
  at_ : ∀ a ∈ g.a, ∃ j : Nat, a.node = j ∧ j < l.length ∧ 1 ≤ a.w ∧ 0 ≤ a.y ∧ 0 ≤ a.h ∧ a.y + a.h ≤ 1099511627776 ∧ (a.w ≤ (rmR l w l.length j).w → (rmR l w l.length j).x ≤ a.x ∧ a.x + a.w ≤ (rmR l w l.length j).x + (rmR l w l.length j).w ∧ ∀ f ∈ g.f, ApF a.x a.y a.w a.h f)
  fn : ∀ f ∈ g.f, ∃ j : Nat, f.node = j ∧ j < l.length ∧ 0 ≤ f.x ∧ f.x + f.w ≤ 68169720922112 ∧ 0 ≤ f.y ∧ f.y + f.h ≤ 1099511627776 ∧ 1 ≤ f.w ∧ 1 ≤ f.h
  fl : ∀ (q p : Nat) a b, q < p → g.f[p]? = some a → g.f[q]? = some b → ∀ j : Nat, a.node = j → a.w ≤ (rmR l w l.length j).w → ApF a.x a.y a.w a.h b
theorem rise_lo {L : List LAt} : ∀ {lo hi : Int}, 0 ≤ lo → RiseP lo L hi → ∀ a ∈ L, 0 ≤ a.y ∧ 0 ≤ a.h := by
  induction L with
  | nil => exact fun _ _ a ha => (by cases ha)
  | cons b L ih =>
    intro lo hi h0 h a ha
    obtain ⟨h1, h2, h3⟩ := h
    rcases List.mem_cons.1 ha with rfl | ha
    · exact ⟨by omega, h2⟩
    · exact ih (by omega) h3 a ha
theorem res_ap {l : List LNo} {w : Int} (hl : l.length ≤ 60) (he : errG l w = 0) : ApR l w (resG l w) := by
  have hP := errG_ok hl he
  have hA := allS_ok hP
  have hQ := ap_all hP
  have hhi := hP.hi
  have e : resG l w = endG (allS l w) := if_pos he
  rw [e]
  obtain ⟨ss, ho⟩ := hQ.once
  have hb := hA.b
  refine ⟨fun a ha => ?_, fun f hf => ?_, fun q p a b hqp hp hq j hj hw => ?_⟩
  · obtain ⟨j, j1, j2⟩ := hQ.nd a ha
    have h1 := rise_bot ho.rise a ha
    have h2 := rise_lo (Int.le_refl _) ho.rise a ha
    unfold atP at h1
    refine ⟨j, j1, j2, hQ.wp a ha, h2.1, h2.2, by omega, fun hw => ?_⟩
    obtain ⟨c1, c2, c3⟩ := (hQ.at_ a ha).ap j j1 hw
    refine ⟨c1, c2, fun f hf => ?_⟩
    obtain ⟨f0, hf0, rfl⟩ := List.mem_map.1 hf
    exact c3 f0 hf0
  · obtain ⟨f0, hf0, rfl⟩ := List.mem_map.1 hf
    obtain ⟨j, j1, j2⟩ := hQ.fn f0 hf0
    obtain ⟨⟨a1, a2⟩, ⟨b1, b2⟩, ⟨c1, c2⟩, ⟨d1, d2⟩, -⟩ := hA.fs f0 hf0
    have hfl := hA.fl
    exact ⟨j, j1, j2, a1, by show f0.x + f0.w ≤ _; omega, b1, by show f0.y + f0.h ≤ _; omega, c1, d1⟩
  · simp only [endG, List.getElem?_map, Option.map_eq_some_iff] at hp hq
    obtain ⟨a0, ha0, rfl⟩ := hp
    obtain ⟨b0, hb0, rfl⟩ := hq
    exact hQ.fl q p a0 b0 hqp ha0 hb0 j hj hw
end Go.Proofs.Ytblmebjhhanoaaa
/- CHAPTER 14: flow: the walker: atoms, texts, boxes, floats. -/
/- G -/
/- BOOLS -/
set_option linter.unusedSimpArgs false
set_option linter.unusedVariables false
namespace Go.Proofs.Ytblmebjhhanoaaa
open Go.RowKit

abbrev wkO (l : List LNo) (w : Int) (p : LPen) (a f : Nat) (h : Int) : AO := .cells 67 [.hdr a, .hdr f, .raw (.int .i64 h), .raw (.int .i64 p.y), .raw (.int .i64 p.m), .sl 20 (l.map cNo), .sl 2 ((rmsR l w l.length).map cRm)]
theorem rmsR_get {l : List LNo} {w : Int} {k : Nat} (hk : k < l.length) : (rmsR l w l.length)[k]? = some (rmR l w l.length k) := by
  unfold rmsR
  rw [List.getElem?_map, List.getElem?_range hk]
  rfl
set_option maxRecDepth 100000 in
theorem win_ok {l : List LNo} {w : Int} (hP : FlwP l w) (p : LPen) (h : Int) {k : Nat} (hk : k < l.length) : FnOk Try.prog 73 [.hdr 0, .raw (.int .i64 k)] [(0, wkO l w p 1 2 h)] (aSpan (spK l w k)) [(0, wkO l w p 1 2 h)] := by
  obtain ⟨r1, r2, r3, r4⟩ := rmR_ok' hP k
  have hlen := hP.len
  have hln := rmsR_len l w l.length
  refine fn_of_awp Try.func73 rfl (by kernel_rfl) (by kernel_rfl) (Nat.le_of_ble_eq_true rfl) Try.results73 ?_
  simp only [go_sem, Bool.not_eq_true', Bool.not_eq_false', List.length_map, hln]
  refine ⟨by omega, _, rmsR_get hk, by omega, ?_⟩
  (refine ret2 [] (by simp only [go_sem, Bool.not_eq_true', Bool.not_eq_false', spK_a, spK_b]; rfl) ?_; simp only [go_sem, Bool.not_eq_true', Bool.not_eq_false', spK_a, spK_b])
set_option maxRecDepth 100000 in
theorem pput2_ok (p : LPen) (a b : Int) (h : (-4503599627370496 ≤ a ∧ a ≤ 4503599627370496) ∧ (-4503599627370496 ≤ b ∧ b ≤ 4503599627370496)) : FnOk Try.prog 101 [aPen p, .raw (.int .i64 a), .raw (.int .i64 b)] [] (.agg [.raw (.int .i64 (a + b)), .raw (.int .i64 0)]) [] := by
  refine fn_of_awp Try.func101 rfl (by kernel_rfl) (by kernel_rfl) (Nat.le_of_ble_eq_true rfl) Try.results101 ?_
  simp only [go_sem, Bool.not_eq_true', Bool.not_eq_false']
  repeat' first | contradiction | intro _ | refine And.intro ?_ ?_ | refine ex_get (by omega) ?_ | (show drawB _ _ = true; kernel_rfl) | (refine ret2 [] (by simp only [go_sem, Bool.not_eq_true', Bool.not_eq_false']; rfl) ?_; simp only [go_sem, Bool.not_eq_true', Bool.not_eq_false'])
  all_goals omega
set_option maxRecDepth 100000 in
theorem wput_ok (l : List LNo) (w : Int) (s : LGs) (a : LAt) (h : Int) (hl : s.a.length ≤ 4000) (ha : -4611686018427387904 ≤ a.y + a.h ∧ a.y + a.h ≤ 4611686018427387904) (hy : (-4503599627370496 ≤ a.y ∧ a.y ≤ 4503599627370496) ∧ (-4503599627370496 ≤ a.h ∧ a.h ≤ 4503599627370496)) : FnOk Try.prog 74 [.hdr 0, aAt a] [(0, wkO l w s.p 1 2 h), (1, rowA s)] (.tup []) [(0, wkO l w ⟨a.y + a.h, 0⟩ 8 2 h), (8, .row 41 8 ((s.a ++ [a]).map cAt))] := by
  have em : List.map cAt s.a ++ [cAt a] = List.map cAt (s.a ++ [a]) := by simp
  simp only [cAt] at em
  refine fn_of_swp Try.func74 rfl (by kernel_rfl) (by kernel_rfl) (Nat.le_of_ble_eq_true rfl) Try.results74 ?_
  (refine swp_seqW ?_; simp only [go_sem, Bool.not_eq_true', Bool.not_eq_false'])
  (refine swp_seqW ?_; simp only [go_sem, Bool.not_eq_true', Bool.not_eq_false', List.length_map])
  repeat' first | contradiction | intro _ | refine And.intro ?_ ?_ | refine ex_get (by omega) ?_ | (show drawB _ _ = true; kernel_rfl) | (refine ret2 [] (by simp only [go_sem, Bool.not_eq_true', Bool.not_eq_false']; rfl) ?_; simp only [go_sem, Bool.not_eq_true', Bool.not_eq_false'])
  all_goals try omega
  rw [em]
  (refine swp_lastW ?_; simp only [go_sem, Bool.not_eq_true', Bool.not_eq_false'])
  (refine acall2 [] (pput2_ok s.p a.y a.h hy) (by simp only [go_sem, Bool.not_eq_true', Bool.not_eq_false']; rfl) (fit_of (by simp only [go_sem, Bool.not_eq_true', Bool.not_eq_false']) (by simp only [go_sem, Bool.not_eq_true', Bool.not_eq_false']) (by simp only [go_sem, Bool.not_eq_true', Bool.not_eq_false']) (by simp only [go_sem, Bool.not_eq_true', Bool.not_eq_false']) (by simp only [go_sem, Bool.not_eq_true', Bool.not_eq_false']) (by simp only [go_sem, Bool.not_eq_true', Bool.not_eq_false']) (by simp only [go_sem, Bool.not_eq_true', Bool.not_eq_false'])) ?_; simp only [go_sem, Bool.not_eq_true', Bool.not_eq_false'])
  repeat' first | contradiction | intro _ | refine And.intro ?_ ?_ | refine ex_get (by omega) ?_ | (show drawB _ _ = true; kernel_rfl) | (refine ret2 [] (by simp only [go_sem, Bool.not_eq_true', Bool.not_eq_false']; rfl) ?_; simp only [go_sem, Bool.not_eq_true', Bool.not_eq_false'])
  all_goals skip
end Go.Proofs.Ytblmebjhhanoaaa
/- CHAPTER 14: flow: the walker lays nodes out. -/
/- G -/
/- BOOLS -/
set_option linter.unusedSimpArgs false
set_option linter.unusedVariables false
namespace Go.Proofs.Ytblmebjhhanoaaa
open Go.RowKit

set_option maxRecDepth 100000 in
set_option maxHeartbeats 8000000 in
theorem wtext_ok {l : List LNo} {w : Int} (hP : FlwP l w) {k : Nat} {s : LGs} {B : Int} (hk : k < l.length) (q : (ndN l k).kind = 2) (hs : GsOk l B k s) (hB : B + (hall l - hsN l k) ≤ 1099511627776) :
    FnOk Try.prog 53 [.hdr 0, .raw (.int .i64 k)] [(0, wkO l w s.p 1 2 0), (1, rowA s), (2, rowF s)] (.tup []) [(0, wkO l w (txtG (spK l w k) k (ndN l k) s).p 8 9 0), (8, rowA (txtG (spK l w k) k (ndN l k) s)), (9, rowF (txtG (spK l w k) k (ndN l k) s))] := by
  have hnb := nod_at hP.v hk
  have hlen := hP.len
  have hsp := hP.sp k
  have hmono := hs_mono hP.v (show k ≤ l.length by omega) (Nat.le_refl _)
  have hB1 : B ≤ 1099511627776 := by unfold hall at hB; omega
  have hat := hs.at hB1
  have hb := nodB_txt hnb q
  have hln := hb.line
  have hwo := wor_ok hP hk rfl hb q
  have hh1 := hsN_succ hk
  have e1 : hgtN (ndN l k) = (ndN l k).line * (ndN l k).words.length := by unfold hgtN; rw [if_neg (by omega), if_pos q]
  have hmono1 := hs_mono hP.v (show k + 1 ≤ l.length by omega) (Nat.le_refl _)
  have hta := tex_all (ws := (ndN l k).words) (sp := (ndN l k).space) (s := spK l w k) hln.1 (fun g hg => (hs.fs g hg).y.2) (ndN l k).words.length 0 (atP s.p) B (Nat.zero_le _) hs.b (Int.le_refl _)
  have e0 : ((ndN l k).words.length : Int) - (0 : Nat) = (ndN l k).words.length := by omega
  rw [e0, ← e1] at hta
  unfold hall at hB
  have hal := hs.al
  have hps := ps_mono (l := l) (show k ≤ l.length by omega) (Nat.le_refl _)
  have hpa := hP.ps
  have hwl := hwo.len
  unfold pall at hpa
  have htl : (texF s.f (ndN l k).words (ndN l k).space (ndN l k).line (atP s.p) (spK l w k)).length ≤ (ndN l k).words.length := tex_len _ _ _
  have htx := text12_ok s.f (ndN l k).words (ndN l k).space (ndN l k).line (atP s.p) (spK l w k) (hs.lin hB1 (by omega) ⟨by omega, by omega⟩ hsp) hwo ⟨by omega, by omega⟩ ⟨by omega, by omega⟩
  have etx : txtG (spK l w k) k (ndN l k) s = (texF s.f (ndN l k).words (ndN l k).space (ndN l k).line (atP s.p) (spK l w k)).foldl (setG k (ndN l k).line) s := rfl
  rw [etx]
  have hta : ∀ z ∈ texF s.f (ndN l k).words (ndN l k).space (ndN l k).line (atP s.p) (spK l w k), atP s.p ≤ z.y ∧ z.y + (ndN l k).line ≤ B + hgtN (ndN l k) := hta
  have hpy := hs.y
  have hpm := hs.m
  have hpb := hs.b
  have hpn := tex_pen (l := s.f) (ws := (ndN l k).words) (sp := (ndN l k).space) (s := spK l w k) (k := k) hln.1 (fun g hg => (hs.fs g hg).y.2)
  generalize texF s.f (ndN l k).words (ndN l k).space (ndN l k).line (atP s.p) (spK l w k) = T at *
  clear hpn
  refine fn_of_swp Try.func53 rfl (by kernel_rfl) (by kernel_rfl) (Nat.le_of_ble_eq_true rfl) Try.results53 ?_
  (refine swp_seqW ?_; simp only [go_sem, Bool.not_eq_true', Bool.not_eq_false'])
  refine ⟨by omega, ex_get hk ?_⟩
  rw [← ndN_get hk]
  (refine swp_seqW ?_; simp only [go_sem, Bool.not_eq_true', Bool.not_eq_false'])
  (refine acall2 [] (pat_ok s.p ⟨by omega, by omega, by omega, by omega⟩) (by simp only [go_sem, Bool.not_eq_true', Bool.not_eq_false']; rfl) (fit_of (by simp only [go_sem, Bool.not_eq_true', Bool.not_eq_false']) (by simp only [go_sem, Bool.not_eq_true', Bool.not_eq_false']) (by simp only [go_sem, Bool.not_eq_true', Bool.not_eq_false']) (by simp only [go_sem, Bool.not_eq_true', Bool.not_eq_false']) (by simp only [go_sem, Bool.not_eq_true', Bool.not_eq_false']) (by simp only [go_sem, Bool.not_eq_true', Bool.not_eq_false']) (by simp only [go_sem, Bool.not_eq_true', Bool.not_eq_false'])) ?_; simp only [go_sem, Bool.not_eq_true', Bool.not_eq_false'])
  (refine acallR2 [0 ] [] ( win_ok hP s.p 0 hk) (by simp only [go_sem, Bool.not_eq_true', Bool.not_eq_false']; rfl) (fit_of (by simp only [go_sem, Bool.not_eq_true', Bool.not_eq_false']) (by simp only [go_sem, Bool.not_eq_true', Bool.not_eq_false']) (by simp only [go_sem, Bool.not_eq_true', Bool.not_eq_false']) (by simp only [go_sem, Bool.not_eq_true', Bool.not_eq_false']) (by simp only [go_sem, Bool.not_eq_true', Bool.not_eq_false']) (by simp only [go_sem, Bool.not_eq_true', Bool.not_eq_false']) (by simp only [go_sem, Bool.not_eq_true', Bool.not_eq_false'])) (by simp only [go_sem, Bool.not_eq_true', Bool.not_eq_false', callEff]; first | done | kernel_rfl) ?_; simp only [go_sem, Bool.not_eq_true', Bool.not_eq_false'])
  rw [show atP s.p = s.p.y + s.p.m from rfl] at htx
  (refine acall2 [2 ] ( htx) (by simp only [go_sem, Bool.not_eq_true', Bool.not_eq_false']; rfl) (fit_of (by simp only [go_sem, Bool.not_eq_true', Bool.not_eq_false']) (by simp only [go_sem, Bool.not_eq_true', Bool.not_eq_false']) (by simp only [go_sem, Bool.not_eq_true', Bool.not_eq_false']) (by simp only [go_sem, Bool.not_eq_true', Bool.not_eq_false']) (by simp only [go_sem, Bool.not_eq_true', Bool.not_eq_false']) (by simp only [go_sem, Bool.not_eq_true', Bool.not_eq_false']) (by simp only [go_sem, Bool.not_eq_true', Bool.not_eq_false'])) ?_; simp only [go_sem, Bool.not_eq_true', Bool.not_eq_false'])
  (refine ⟨(show drawB _ _ = true by kernel_rfl), ?_⟩)
  refine swp_block ?_
  refine swp_loop2 [] (fun i : Nat => ⟨[(0, .hdr 0), (1, .raw (.int .i64 k)), (4, .hdr 800), (33, .hdr 801), (34, .raw (.int .i64 T.length)), (35, .raw (.int .i64 i))], [(0, some (wkO l w ((T.take i).foldl (setG k (ndN l k).line) s).p 802 803 0)), (802, some (rowA ((T.take i).foldl (setG k (ndN l k).line) s))), (803, some (rowF ((T.take i).foldl (setG k (ndN l k).line) s))), (800, some (.cells 37 (lNo (ndN l k)))), (801, some (.row 131 5 (T.map cSet)))], none⟩) (fun i => i ≤ T.length) (fun i => T.length - i) 120 0 (by simp only [go_sem, Bool.not_eq_true', Bool.not_eq_false']; rfl) (by simp only [go_sem, Bool.not_eq_true', Bool.not_eq_false', List.length_map, List.take_zero, List.foldl_nil]) ?_ ?_
  · exact Nat.zero_le _
  intro i hi
  have hfo := setG_fold k (ndN l k).line (T.take i) s
  (refine swp_seqW ?_; simp only [go_sem, Bool.not_eq_true', Bool.not_eq_false'])
  (refine swp_seqW ?_; simp only [go_sem, Bool.not_eq_true', Bool.not_eq_false'])
  refine ⟨fun h5 => ?_, fun h5 => ?_⟩
  · have hit : i < T.length := by omega
    have hst := take_setG (k := k) (H := (ndN l k).line) (s := s) hit
    have hti := hta T[i] (List.getElem_mem hit)
    generalize hZ : T[i] = z at hst hti
    have hal2 : ((T.take i).foldl (setG k (ndN l k).line) s).a.length ≤ 4000 := by rw [hfo.1, List.length_append, List.length_map, List.length_take]; omega
    generalize (T.take i).foldl (setG k (ndN l k).line) s = s2 at hst hal2 ⊢
    have hput := wput_ok l w s2 ⟨1, k, z.f, z.t, z.x, z.y, z.w, (ndN l k).line⟩ 0 hal2 ⟨by simp only; omega, by simp only; omega⟩ ⟨⟨by simp only; omega, by simp only; omega⟩, ⟨by simp only; omega, by simp only; omega⟩⟩
    dsimp only at hput
    have hst : List.foldl (setG k (ndN l k).line) s (List.take (i + 1) T) = ⟨s2.a ++ [⟨1, k, z.f, z.t, z.x, z.y, z.w, (ndN l k).line⟩], s2.f, ⟨z.y + (ndN l k).line, 0⟩⟩ := hst
    refine swp_seqS ?_
    refine swp_block ?_
    (refine swp_seqW ?_; simp only [go_sem, Bool.not_eq_true', Bool.not_eq_false', List.length_map])
    refine ⟨by omega, ex_get hit ?_⟩
    rw [hZ]
    (refine swp_lastW ?_; simp only [go_sem, Bool.not_eq_true', Bool.not_eq_false'])
    (refine acall2 [] (hput) (by simp only [go_sem, Bool.not_eq_true', Bool.not_eq_false']; rfl) (fit_of (by simp only [go_sem, Bool.not_eq_true', Bool.not_eq_false']) (by simp only [go_sem, Bool.not_eq_true', Bool.not_eq_false']) (by simp only [go_sem, Bool.not_eq_true', Bool.not_eq_false']) (by simp only [go_sem, Bool.not_eq_true', Bool.not_eq_false']) (by simp only [go_sem, Bool.not_eq_true', Bool.not_eq_false']) (by simp only [go_sem, Bool.not_eq_true', Bool.not_eq_false']) (by simp only [go_sem, Bool.not_eq_true', Bool.not_eq_false'])) ?_; simp only [go_sem, Bool.not_eq_true', Bool.not_eq_false'])
    (refine swp_lastW ?_; simp only [go_sem, Bool.not_eq_true', Bool.not_eq_false'])
    refine ⟨by omega, ?_⟩
    (refine loop_end [] (i + 1) (by simp only [go_sem, Bool.not_eq_true', Bool.not_eq_false']; rfl) ?_ ?_ ?_; (focus first | omega | (simp only; omega)); (focus (simp only [go_sem, Bool.not_eq_true', Bool.not_eq_false', hst]; done)))
    omega
  · obtain rfl : i = T.length := by omega
    rw [List.take_length]
    (refine ret2 [] (by simp only [go_sem, Bool.not_eq_true', Bool.not_eq_false']; rfl) ?_; simp only [go_sem, Bool.not_eq_true', Bool.not_eq_false'])
set_option maxRecDepth 100000 in
set_option maxHeartbeats 8000000 in
theorem wmono_ok {l : List LNo} {w : Int} (hP : FlwP l w) {k : Nat} {s : LGs} {B : Int} (hk : k < l.length) (q : (ndN l k).kind = 3) (hs : GsOk l B k s) (hB : B + (hall l - hsN l k) ≤ 1099511627776) :
    FnOk Try.prog 54 [.hdr 0, .raw (.int .i64 k)] [(0, wkO l w s.p 1 2 0), (1, rowA s), (2, rowF s)] (.tup []) [(0, wkO l w (monG (spK l w k) k (ndN l k) s).p 8 9 0), (8, rowA (monG (spK l w k) k (ndN l k) s)), (9, rowF (monG (spK l w k) k (ndN l k) s))] := by
  have hnb := nod_at hP.v hk
  have hlen := hP.len
  have hsp := hP.sp k
  have hmono := hs_mono hP.v (show k ≤ l.length by omega) (Nat.le_refl _)
  have hB1 : B ≤ 1099511627776 := by unfold hall at hB; omega
  have hat := hs.at hB1
  have hb := nodB_mono hnb q
  have hxh := hb.h
  have hal := hs.al
  have hps := ps_mono (l := l) (show k ≤ l.length by omega) (Nat.le_refl _)
  have hpa := hP.ps
  unfold pall at hpa
  have hpy := hs.y
  have hpm := hs.m
  have hpb := hs.b
  have hro := room12_ok s.f (ndN l k).w (ndN l k).h (atP s.p) (spK l w k) (hs.lin hB1 (by omega) ⟨by omega, by omega⟩ hsp) ⟨by omega, by omega⟩
  have hy1 := rom_ge s.f (ndN l k).w (ndN l k).h (atP s.p) (spK l w k)
  have hy2 := rom_le (w := (ndN l k).w) (H := (ndN l k).h) (s := spK l w k) (y := atP s.p) hs.b (fun g hg => (hs.fs g hg).y.2)
  have emo : monG (spK l w k) k (ndN l k) s = ⟨s.a ++ [⟨2, k, 0, 0, (bandF s.f (romY s.f (ndN l k).w (ndN l k).h (atP s.p) (spK l w k)) (ndN l k).h (spK l w k)).a, romY s.f (ndN l k).w (ndN l k).h (atP s.p) (spK l w k), (ndN l k).w, (ndN l k).h⟩], s.f, ⟨romY s.f (ndN l k).w (ndN l k).h (atP s.p) (spK l w k) + (ndN l k).h, 0⟩⟩ := rfl
  rw [emo]
  unfold aRoo at hro
  generalize romY s.f (ndN l k).w (ndN l k).h (atP s.p) (spK l w k) = Y at *
  generalize bandF s.f Y (ndN l k).h (spK l w k) = bd at *
  rw [show atP s.p = s.p.y + s.p.m from rfl] at hro
  have hput := wput_ok l w s ⟨2, k, 0, 0, bd.a, Y, (ndN l k).w, (ndN l k).h⟩ 0 (by omega) ⟨by simp only; omega, by simp only; omega⟩ ⟨⟨by simp only; omega, by simp only; omega⟩, ⟨by simp only; omega, by simp only; omega⟩⟩
  dsimp only at hput
  refine fn_of_swp Try.func54 rfl (by kernel_rfl) (by kernel_rfl) (Nat.le_of_ble_eq_true rfl) Try.results54 ?_
  (refine swp_seqW ?_; simp only [go_sem, Bool.not_eq_true', Bool.not_eq_false'])
  refine ⟨by omega, ex_get hk ?_⟩
  rw [← ndN_get hk]
  (refine swp_seqW ?_; simp only [go_sem, Bool.not_eq_true', Bool.not_eq_false'])
  (refine acall2 [] (pat_ok s.p ⟨by omega, by omega, by omega, by omega⟩) (by simp only [go_sem, Bool.not_eq_true', Bool.not_eq_false']; rfl) (fit_of (by simp only [go_sem, Bool.not_eq_true', Bool.not_eq_false']) (by simp only [go_sem, Bool.not_eq_true', Bool.not_eq_false']) (by simp only [go_sem, Bool.not_eq_true', Bool.not_eq_false']) (by simp only [go_sem, Bool.not_eq_true', Bool.not_eq_false']) (by simp only [go_sem, Bool.not_eq_true', Bool.not_eq_false']) (by simp only [go_sem, Bool.not_eq_true', Bool.not_eq_false']) (by simp only [go_sem, Bool.not_eq_true', Bool.not_eq_false'])) ?_; simp only [go_sem, Bool.not_eq_true', Bool.not_eq_false'])
  (refine acallR2 [0 ] [] ( win_ok hP s.p 0 hk) (by simp only [go_sem, Bool.not_eq_true', Bool.not_eq_false']; rfl) (fit_of (by simp only [go_sem, Bool.not_eq_true', Bool.not_eq_false']) (by simp only [go_sem, Bool.not_eq_true', Bool.not_eq_false']) (by simp only [go_sem, Bool.not_eq_true', Bool.not_eq_false']) (by simp only [go_sem, Bool.not_eq_true', Bool.not_eq_false']) (by simp only [go_sem, Bool.not_eq_true', Bool.not_eq_false']) (by simp only [go_sem, Bool.not_eq_true', Bool.not_eq_false']) (by simp only [go_sem, Bool.not_eq_true', Bool.not_eq_false'])) (by simp only [go_sem, Bool.not_eq_true', Bool.not_eq_false', callEff]; first | done | kernel_rfl) ?_; simp only [go_sem, Bool.not_eq_true', Bool.not_eq_false'])
  (refine acall2 [2 ] ( hro) (by simp only [go_sem, Bool.not_eq_true', Bool.not_eq_false']; rfl) (fit_of (by simp only [go_sem, Bool.not_eq_true', Bool.not_eq_false']) (by simp only [go_sem, Bool.not_eq_true', Bool.not_eq_false']) (by simp only [go_sem, Bool.not_eq_true', Bool.not_eq_false']) (by simp only [go_sem, Bool.not_eq_true', Bool.not_eq_false']) (by simp only [go_sem, Bool.not_eq_true', Bool.not_eq_false']) (by simp only [go_sem, Bool.not_eq_true', Bool.not_eq_false']) (by simp only [go_sem, Bool.not_eq_true', Bool.not_eq_false'])) ?_; simp only [go_sem, Bool.not_eq_true', Bool.not_eq_false'])
  (refine ⟨(show drawB _ _ = true by kernel_rfl), ?_⟩)
  (refine swp_lastW ?_; simp only [go_sem, Bool.not_eq_true', Bool.not_eq_false'])
  (refine acall2 [] (hput) (by simp only [go_sem, Bool.not_eq_true', Bool.not_eq_false']; rfl) (fit_of (by simp only [go_sem, Bool.not_eq_true', Bool.not_eq_false']) (by simp only [go_sem, Bool.not_eq_true', Bool.not_eq_false']) (by simp only [go_sem, Bool.not_eq_true', Bool.not_eq_false']) (by simp only [go_sem, Bool.not_eq_true', Bool.not_eq_false']) (by simp only [go_sem, Bool.not_eq_true', Bool.not_eq_false']) (by simp only [go_sem, Bool.not_eq_true', Bool.not_eq_false']) (by simp only [go_sem, Bool.not_eq_true', Bool.not_eq_false'])) ?_; simp only [go_sem, Bool.not_eq_true', Bool.not_eq_false'])
  (refine ret2 [] (by simp only [go_sem, Bool.not_eq_true', Bool.not_eq_false']; rfl) ?_; simp only [go_sem, Bool.not_eq_true', Bool.not_eq_false'])
set_option maxRecDepth 100000 in
set_option maxHeartbeats 8000000 in
theorem wfloat_ok {l : List LNo} {w : Int} (hP : FlwP l w) {k : Nat} {s : LGs} {B : Int} (hk : k < l.length) (q : (ndN l k).kind = 4) (hs : GsOk l B k s) (hB : B + (hall l - hsN l k) ≤ 1099511627776) :
    FnOk Try.prog 55 [.hdr 0, .raw (.int .i64 k)] [(0, wkO l w s.p 1 2 0), (1, rowA s), (2, rowF s)] (.tup []) [(0, wkO l w (fltG (spK l w k) k (ndN l k) s).p 8 9 0), (8, rowA (fltG (spK l w k) k (ndN l k) s)), (9, rowF (fltG (spK l w k) k (ndN l k) s))] := by
  have hnb := nod_at hP.v hk
  have hlen := hP.len
  have hsp := hP.sp k
  have hmono := hs_mono hP.v (show k ≤ l.length by omega) (Nat.le_refl _)
  have hB1 : B ≤ 1099511627776 := by unfold hall at hB; omega
  have hat := hs.at hB1
  obtain ⟨hb, hsd⟩ := nodB_flt hnb q
  have hal := hs.al
  have hps := ps_mono (l := l) (show k ≤ l.length by omega) (Nat.le_refl _)
  have hpa := hP.ps
  unfold pall at hpa
  have hpy := hs.y
  have hpm := hs.m
  have hpb := hs.b
  have hpu := put11_ok s.f (newF k (ndN l k) s) (atP s.p) (spK l w k) (hs.pla hB1 (by omega) hb hsp)
  have efl : fltG (spK l w k) k (ndN l k) s = ⟨s.a, putP s.f (newF k (ndN l k) s) (atP s.p) (spK l w k), s.p⟩ := rfl
  rw [efl]
  generalize putP s.f (newF k (ndN l k) s) (atP s.p) (spK l w k) = f2 at hpu ⊢
  have enf : newF k (ndN l k) s = ⟨k, (ndN l k).side, s.a.length, 0, 0, (ndN l k).w, (ndN l k).h⟩ := rfl
  rw [enf, show atP s.p = s.p.y + s.p.m from rfl] at hpu
  refine fn_of_swp Try.func55 rfl (by kernel_rfl) (by kernel_rfl) (Nat.le_of_ble_eq_true rfl) Try.results55 ?_
  (refine swp_seqW ?_; simp only [go_sem, Bool.not_eq_true', Bool.not_eq_false'])
  refine ⟨by omega, ex_get hk ?_⟩
  rw [← ndN_get hk]
  (refine swp_seqW ?_; simp only [go_sem, Bool.not_eq_true', Bool.not_eq_false', List.length_map])
  repeat' first | contradiction | intro _ | refine And.intro ?_ ?_ | refine ex_get (by omega) ?_ | (show drawB _ _ = true; kernel_rfl) | (refine ret2 [] (by simp only [go_sem, Bool.not_eq_true', Bool.not_eq_false']; rfl) ?_; simp only [go_sem, Bool.not_eq_true', Bool.not_eq_false'])
  all_goals try omega
  (refine swp_lastW ?_; simp only [go_sem, Bool.not_eq_true', Bool.not_eq_false'])
  (refine acall2 [] (pat_ok s.p ⟨by omega, by omega, by omega, by omega⟩) (by simp only [go_sem, Bool.not_eq_true', Bool.not_eq_false']; rfl) (fit_of (by simp only [go_sem, Bool.not_eq_true', Bool.not_eq_false']) (by simp only [go_sem, Bool.not_eq_true', Bool.not_eq_false']) (by simp only [go_sem, Bool.not_eq_true', Bool.not_eq_false']) (by simp only [go_sem, Bool.not_eq_true', Bool.not_eq_false']) (by simp only [go_sem, Bool.not_eq_true', Bool.not_eq_false']) (by simp only [go_sem, Bool.not_eq_true', Bool.not_eq_false']) (by simp only [go_sem, Bool.not_eq_true', Bool.not_eq_false'])) ?_; simp only [go_sem, Bool.not_eq_true', Bool.not_eq_false'])
  (refine acallR2 [0 ] [] ( win_ok hP s.p 0 hk) (by simp only [go_sem, Bool.not_eq_true', Bool.not_eq_false']; rfl) (fit_of (by simp only [go_sem, Bool.not_eq_true', Bool.not_eq_false']) (by simp only [go_sem, Bool.not_eq_true', Bool.not_eq_false']) (by simp only [go_sem, Bool.not_eq_true', Bool.not_eq_false']) (by simp only [go_sem, Bool.not_eq_true', Bool.not_eq_false']) (by simp only [go_sem, Bool.not_eq_true', Bool.not_eq_false']) (by simp only [go_sem, Bool.not_eq_true', Bool.not_eq_false']) (by simp only [go_sem, Bool.not_eq_true', Bool.not_eq_false'])) (by simp only [go_sem, Bool.not_eq_true', Bool.not_eq_false', callEff]; first | done | kernel_rfl) ?_; simp only [go_sem, Bool.not_eq_true', Bool.not_eq_false'])
  (refine acall2 [2 ] ( hpu) (by simp only [go_sem, Bool.not_eq_true', Bool.not_eq_false']; rfl) (fit_of (by simp only [go_sem, Bool.not_eq_true', Bool.not_eq_false']) (by simp only [go_sem, Bool.not_eq_true', Bool.not_eq_false']) (by simp only [go_sem, Bool.not_eq_true', Bool.not_eq_false']) (by simp only [go_sem, Bool.not_eq_true', Bool.not_eq_false']) (by simp only [go_sem, Bool.not_eq_true', Bool.not_eq_false']) (by simp only [go_sem, Bool.not_eq_true', Bool.not_eq_false']) (by simp only [go_sem, Bool.not_eq_true', Bool.not_eq_false'])) ?_; simp only [go_sem, Bool.not_eq_true', Bool.not_eq_false'])
  (refine ⟨(show drawB _ _ = true by kernel_rfl), ?_⟩)
  (refine ret2 [] (by simp only [go_sem, Bool.not_eq_true', Bool.not_eq_false']; rfl) ?_; simp only [go_sem, Bool.not_eq_true', Bool.not_eq_false'])
end Go.Proofs.Ytblmebjhhanoaaa
/- CHAPTER 14: flow: the walker lays rows of nodes out. -/
/- G -/
/- BOOLS -/
set_option linter.unusedSimpArgs false
set_option linter.unusedVariables false
namespace Go.Proofs.Ytblmebjhhanoaaa
open Go.RowKit

abbrev wkS (l : List LNo) (w : Int) (s : LGs) (a f : Nat) : List (Nat × AO) := [(0, wkO l w s.p a f 0), (a, rowA s), (f, rowF s)]
set_option maxRecDepth 100000 in
set_option maxHeartbeats 8000000 in
theorem wblock_ok {l : List LNo} {w : Int} (hP : FlwP l w) {k : Nat} {s : LGs} {B : Int} (hk : k < l.length) (q : (ndN l k).kind = 1) (hs : GsOk l B k s) (hB : B + (hall l - hsN l k) ≤ 1099511627776) {g : Nat} (hn : nst l g (k + 1) (k + (ndN l k).size))
    (hrow : ∀ s', GsOk l (B + (ndN l k).st.top + (ndN l k).st.padTop) (k + 1) s' → FnOk Try.prog 28 [.hdr 0, .raw (.int .i64 ((k : Int) + 1)), .raw (.int .i64 (k + (ndN l k).size))] (wkS l w s' 1 2) (.tup []) (wkS l w (rowG l w g (k + 1) (k + (ndN l k).size) s') 8 9)) :
    FnOk Try.prog 52 [.hdr 0, .raw (.int .i64 k)] (wkS l w s 1 2) (.tup []) (wkS l w (lvG (ndN l k) (rowG l w g (k + 1) (k + (ndN l k).size) (entG (ndN l k) s))) 8 9) := by
  have hnb := nod_at hP.v hk
  have hlen := hP.len
  have hmono := hs_mono hP.v (show k ≤ l.length by omega) (Nat.le_refl _)
  have hB1 : B ≤ 1099511627776 := by unfold hall at hB; omega
  have hat := hs.at hB1
  have hb := nodB_blk hnb q
  have hclr := clr_bd (ndN l k) hs
  have hent := ent_ok hk hb hs
  have hh1 := hsN_succ hk
  have e1 : hgtN (ndN l k) = (ndN l k).st.top + (ndN l k).st.bottom + (ndN l k).st.padTop + (ndN l k).st.padBottom + (ndN l k).st.head := by unfold hgtN; rw [if_pos q]
  have hclt : (lowO (ndN l k).st.clear s.f).is = true → clrG (ndN l k) s = penC s.p (lowO (ndN l k).st.clear s.f).n := fun w => if_pos w
  have hclf : ¬ (lowO (ndN l k).st.clear s.f).is = true → clrG (ndN l k) s = s.p := fun w => if_neg w
  have hlo : (lowO (ndN l k).st.clear s.f).is = true → 0 ≤ (lowO (ndN l k).st.clear s.f).n ∧ (lowO (ndN l k).st.clear s.f).n ≤ B := fun w => by
    obtain ⟨f, hf, e⟩ := most_at w
    have e : (lowO (ndN l k).st.clear s.f).n = f.y + f.h := e
    have h4 := (hs.fs f hf).y
    have h5 := (hs.fs f hf).h
    omega
  have hne := hs.near hB1 (show k ≤ 60 by omega)
  have hfl := hs.fl
  have hy := hs.y
  have hm := hs.m
  have hbb := hs.b
  have ersz := isS_lam hP.v
  have hL1 := ersz.pos k hk
  have hL2 := ersz.fin k hk
  rw [← ndN_siz] at hL1 hL2
  have hlc : FnOk Try.prog 57 [.sl 7 (s.f.map cFl), .raw (.int .i64 (ndN l k).st.clear)] [] (aIs (lowO (ndN l k).st.clear s.f)) [] := blow_ok s.f (ndN l k).st.clear (by omega) hne
  refine fn_of_swp Try.func52 rfl (by kernel_rfl) (by kernel_rfl) (Nat.le_of_ble_eq_true rfl) Try.results52 ?_
  (refine swp_seqW ?_; simp only [go_sem, Bool.not_eq_true', Bool.not_eq_false'])
  refine ⟨by omega, ex_get hk ?_⟩
  rw [← ndN_get hk]
  refine swp_cutS (fun _ : Unit => ⟨[(0, .hdr 0), (1, .raw (.int .i64 k)), (4, .hdr 800)], [(0, some (wkO l w (clrG (ndN l k) s) 1 2 0)), (1, some (rowA s)), (2, some (rowF s)), (800, some (.cells 34 (lSty (ndN l k).st)))], none⟩) (fun _ => True) 120 ?_ ?_
  · (refine swp_seqW ?_; simp only [go_sem, Bool.not_eq_true', Bool.not_eq_false'])
    (refine acall2 [2 ] ( hlc) (by simp only [go_sem, Bool.not_eq_true', Bool.not_eq_false']; rfl) (fit_of (by simp only [go_sem, Bool.not_eq_true', Bool.not_eq_false']) (by simp only [go_sem, Bool.not_eq_true', Bool.not_eq_false']) (by simp only [go_sem, Bool.not_eq_true', Bool.not_eq_false']) (by simp only [go_sem, Bool.not_eq_true', Bool.not_eq_false']) (by simp only [go_sem, Bool.not_eq_true', Bool.not_eq_false']) (by simp only [go_sem, Bool.not_eq_true', Bool.not_eq_false']) (by simp only [go_sem, Bool.not_eq_true', Bool.not_eq_false'])) ?_; simp only [go_sem, Bool.not_eq_true', Bool.not_eq_false'])
    (refine ⟨(show drawB _ _ = true by kernel_rfl), ?_⟩)
    (refine swp_seqW ?_; simp only [go_sem, Bool.not_eq_true', Bool.not_eq_false'])
    (refine swp_condW ?_; simp only [go_sem, Bool.not_eq_true', Bool.not_eq_false'])
    refine ⟨fun hi => ?_, fun hi => ?_⟩
    · rw [hclt hi]
      have := hlo hi
      (refine swp_lastW ?_; simp only [go_sem, Bool.not_eq_true', Bool.not_eq_false'])
      (refine acall2 [] (pclear_ok s.p (lowO (ndN l k).st.clear s.f).n ⟨by omega, by omega, by omega, by omega⟩) (by simp only [go_sem, Bool.not_eq_true', Bool.not_eq_false']; rfl) (fit_of (by simp only [go_sem, Bool.not_eq_true', Bool.not_eq_false']) (by simp only [go_sem, Bool.not_eq_true', Bool.not_eq_false']) (by simp only [go_sem, Bool.not_eq_true', Bool.not_eq_false']) (by simp only [go_sem, Bool.not_eq_true', Bool.not_eq_false']) (by simp only [go_sem, Bool.not_eq_true', Bool.not_eq_false']) (by simp only [go_sem, Bool.not_eq_true', Bool.not_eq_false']) (by simp only [go_sem, Bool.not_eq_true', Bool.not_eq_false'])) ?_; simp only [go_sem, Bool.not_eq_true', Bool.not_eq_false'])
      repeat' first | contradiction | intro _ | refine And.intro ?_ ?_ | refine ex_get (by omega) ?_ | (show drawB _ _ = true; kernel_rfl) | (refine ret2 [] (by simp only [go_sem, Bool.not_eq_true', Bool.not_eq_false']; rfl) ?_; simp only [go_sem, Bool.not_eq_true', Bool.not_eq_false'])
      all_goals
        (refine cut_end [] (()) (by simp only [go_sem, Bool.not_eq_true', Bool.not_eq_false']; rfl) ?_ ?_; (focus (simp only [go_sem, Bool.not_eq_true', Bool.not_eq_false']; done)))
        trivial
    · have hi : (lowO (ndN l k).st.clear s.f).is = false := hi
      rw [hclf (by rw [hi]; decide)]
      (refine swp_lastW ?_; simp only [go_sem, Bool.not_eq_true', Bool.not_eq_false'])
      (refine cut_end [] (()) (by simp only [go_sem, Bool.not_eq_true', Bool.not_eq_false']; rfl) ?_ ?_; (focus (simp only [go_sem, Bool.not_eq_true', Bool.not_eq_false']; done)))
      trivial
  rintro - -
  have eent : entG (ndN l k) s = ⟨s.a, s.f, penE (clrG (ndN l k) s) (ndN l k).st.top (ndN l k).st.padTop⟩ := rfl
  have hrow := hrow _ hent
  have hrw := rowG_ok hP g (k + 1) (k + (ndN l k).size) _ _ hn (by omega) hent
  have e3 : ((k : Int) + (ndN l k).size).toNat = k + (ndN l k).size.toNat := by omega
  rw [e3] at hrw
  have hmono2 := hs_mono hP.v (show k + (ndN l k).size.toNat ≤ l.length by omega) (Nat.le_refl _)
  have hmono0 := hs_mono hP.v (show k + 1 ≤ k + (ndN l k).size.toNat by omega) (by omega)
  have hhd := hb.head
  have hbo := hb.bottom
  have hpb := hb.padBottom
  have htp := hb.top
  have hpt := hb.padTop
  unfold hall at hB
  rw [eent] at hrow hrw ⊢
  have elv : ∀ z : LGs, lvG (ndN l k) z = ⟨z.a, z.f, penL z.p (ndN l k).st.bottom (ndN l k).st.padBottom⟩ := fun z => rfl
  rw [elv]
  generalize rowG l w g (k + 1) (k + (ndN l k).size) _ = z at hrow hrw ⊢
  have y1 := hrw.y
  have y2 := hrw.m
  have y3 := hrw.b
  (refine swp_seqW ?_; simp only [go_sem, Bool.not_eq_true', Bool.not_eq_false'])
  (refine acall2 [] (penter_ok (clrG (ndN l k) s) (ndN l k).st.top (ndN l k).st.padTop ⟨by omega, by omega, by omega, by omega⟩) (by simp only [go_sem, Bool.not_eq_true', Bool.not_eq_false']; rfl) (fit_of (by simp only [go_sem, Bool.not_eq_true', Bool.not_eq_false']) (by simp only [go_sem, Bool.not_eq_true', Bool.not_eq_false']) (by simp only [go_sem, Bool.not_eq_true', Bool.not_eq_false']) (by simp only [go_sem, Bool.not_eq_true', Bool.not_eq_false']) (by simp only [go_sem, Bool.not_eq_true', Bool.not_eq_false']) (by simp only [go_sem, Bool.not_eq_true', Bool.not_eq_false']) (by simp only [go_sem, Bool.not_eq_true', Bool.not_eq_false'])) ?_; simp only [go_sem, Bool.not_eq_true', Bool.not_eq_false'])
  (refine ⟨(show drawB _ _ = true by kernel_rfl), ?_⟩)
  (refine swp_seqW ?_; simp only [go_sem, Bool.not_eq_true', Bool.not_eq_false'])
  repeat' first | contradiction | intro _ | refine And.intro ?_ ?_ | refine ex_get (by omega) ?_ | (show drawB _ _ = true; kernel_rfl) | (refine ret2 [] (by simp only [go_sem, Bool.not_eq_true', Bool.not_eq_false']; rfl) ?_; simp only [go_sem, Bool.not_eq_true', Bool.not_eq_false'])
  all_goals try omega
  all_goals rw [← ndN_get hk]
  all_goals try omega
  (refine acall2 [] (hrow) (by simp only [go_sem, Bool.not_eq_true', Bool.not_eq_false']; rfl) (fit_of (by simp only [go_sem, Bool.not_eq_true', Bool.not_eq_false']) (by simp only [go_sem, Bool.not_eq_true', Bool.not_eq_false']) (by simp only [go_sem, Bool.not_eq_true', Bool.not_eq_false']) (by simp only [go_sem, Bool.not_eq_true', Bool.not_eq_false']) (by simp only [go_sem, Bool.not_eq_true', Bool.not_eq_false']) (by simp only [go_sem, Bool.not_eq_true', Bool.not_eq_false']) (by simp only [go_sem, Bool.not_eq_true', Bool.not_eq_false'])) ?_; simp only [go_sem, Bool.not_eq_true', Bool.not_eq_false'])
  (refine swp_lastW ?_; simp only [go_sem, Bool.not_eq_true', Bool.not_eq_false'])
  (refine acall2 [] (pleave_ok z.p (ndN l k).st.bottom (ndN l k).st.padBottom ⟨by omega, by omega, by omega, by omega⟩) (by simp only [go_sem, Bool.not_eq_true', Bool.not_eq_false']; rfl) (fit_of (by simp only [go_sem, Bool.not_eq_true', Bool.not_eq_false']) (by simp only [go_sem, Bool.not_eq_true', Bool.not_eq_false']) (by simp only [go_sem, Bool.not_eq_true', Bool.not_eq_false']) (by simp only [go_sem, Bool.not_eq_true', Bool.not_eq_false']) (by simp only [go_sem, Bool.not_eq_true', Bool.not_eq_false']) (by simp only [go_sem, Bool.not_eq_true', Bool.not_eq_false']) (by simp only [go_sem, Bool.not_eq_true', Bool.not_eq_false'])) ?_; simp only [go_sem, Bool.not_eq_true', Bool.not_eq_false'])
  (refine ⟨(show drawB _ _ = true by kernel_rfl), ?_⟩)
  (refine ret2 [] (by simp only [go_sem, Bool.not_eq_true', Bool.not_eq_false']; rfl) ?_; simp only [go_sem, Bool.not_eq_true', Bool.not_eq_false'])
set_option maxRecDepth 100000 in
set_option maxHeartbeats 8000000 in
theorem wrow_ok {l : List LNo} {w : Int} (hP : FlwP l w) : ∀ (F g : Nat), g ≤ F → ∀ (k : Nat) (e : Int) (s : LGs) (B : Int), nst l g k e → e ≤ l.length → GsOk l B k s → B + (hall l - hsN l k) ≤ 1099511627776 →
    FnOk Try.prog 28 [.hdr 0, .raw (.int .i64 k), .raw (.int .i64 e)] (wkS l w s 1 2) (.tup []) (wkS l w (rowG l w g k e s) 8 9)
  | 0, g, hg, k, e, s, B, hn, he, hs, hB => by
    obtain rfl : g = 0 := by omega
    exact absurd hn (by simp [nst])
  | F + 1, g, hg, k, e, s, B, hn, he, hs, hB => by
    have hlen := hP.len
    refine fn_of_swp Try.func28 rfl (by kernel_rfl) (by kernel_rfl) (Nat.le_of_ble_eq_true rfl) Try.results28 ?_
    (refine swp_seqW ?_; simp only [go_sem, Bool.not_eq_true', Bool.not_eq_false'])
    refine swp_block ?_
    refine swp_loop2 [] (fun z : KY LGs => ⟨[(0, .hdr 0), (1, .raw (.int .i64 z.k)), (2, .raw (.int .i64 e)), (6, .hdr 800)], [(0, some (wkO l w z.o.p 802 803 0)), (802, some (rowA z.o)), (803, some (rowF z.o)), (800, some (.cells 101 [.raw Value.nilFunc, .bnd (.func 52) [.hdr 0], .bnd (.func 53) [.hdr 0], .bnd (.func 54) [.hdr 0], .bnd (.func 55) [.hdr 0]]))], none⟩) (fun z => ∃ B' g', g' ≤ g ∧ nst l g' z.k e ∧ GsOk l B' z.k z.o ∧ B' + (hall l - hsN l z.k) ≤ 1099511627776 ∧ rowG l w g' z.k e z.o = rowG l w g k e s) (fun z => l.length - z.k) 120 ⟨k, s⟩ (by simp only [go_sem, Bool.not_eq_true', Bool.not_eq_false']; rfl) (by simp only [go_sem, Bool.not_eq_true', Bool.not_eq_false']) ?_ ?_
    · exact ⟨B, g, Nat.le_refl _, hn, hs, hB, rfl⟩
    rintro ⟨kk, z⟩ ⟨B', g', z1, z2, z3, z4, z5⟩
    simp only at z1 z2 z3 z4 z5
    (refine swp_seqW ?_; simp only [go_sem, Bool.not_eq_true', Bool.not_eq_false'])
    refine ⟨fun h5 => ?_, fun h5 => ?_⟩
    rotate_left
    · have e5 : rowG l w g' kk e z = z := by
        cases g' with
        | zero => rfl
        | succ m => rw [rowG, if_neg h5]
      rw [← z5, e5]
      (refine ret2 [] (by simp only [go_sem, Bool.not_eq_true', Bool.not_eq_false']; rfl) ?_; simp only [go_sem, Bool.not_eq_true', Bool.not_eq_false'])
    obtain ⟨m, rfl⟩ : ∃ m, g' = m + 1 := by
      cases g' with
      | zero => exact absurd z2 (by simp [nst])
      | succ m => exact ⟨m, rfl⟩
    obtain ⟨u1, u2, u3, u4⟩ := z2.2 h5
    rw [← ndN_siz] at u1 u2 u3 u4
    have hkk : kk < l.length := by omega
    rw [rowG, if_pos h5] at z5
    have hnb := nod_at hP.v hkk
    have hnx := nod_next hP hkk u3 z3
    have hm1 := hs_mono hP.v (show kk + (ndN l kk).size.toNat ≤ l.length by omega) (Nat.le_refl _)
    have hm0 := hs_mono hP.v (show kk ≤ kk + (ndN l kk).size.toNat by omega) (by omega)
    have hcl : FnOk Try.prog (if (ndN l kk).kind = 1 then 52 else if (ndN l kk).kind = 2 then 53 else if (ndN l kk).kind = 3 then 54 else 55) [.hdr 0, .raw (.int .i64 kk)] (wkS l w z 1 2) (.tup []) (wkS l w (nodG l w (rowG l w m) kk z) 8 9) := by
      unfold nodG
      rcases nodB_kind hnb with q | q | q | q
      · rw [if_pos q, if_pos q]
        have hb := nodB_blk hnb q
        have hhd := hb.head
        have hbo := hb.bottom
        have hpb := hb.padBottom
        have hh1 := hsN_succ hkk
        have e1 : hgtN (ndN l kk) = (ndN l kk).st.top + (ndN l kk).st.bottom + (ndN l kk).st.padTop + (ndN l kk).st.padBottom + (ndN l kk).st.head := by unfold hgtN; rw [if_pos q]
        exact wblock_ok hP hkk q z3 z4 u3 fun s' hs' => wrow_ok hP F m (by omega) (kk + 1) _ s' _ u3 (by omega) hs' (by omega)
      · rw [if_neg (by omega), if_pos q, if_neg (by omega), if_pos q]
        exact wtext_ok hP hkk q z3 z4
      · rw [if_neg (by omega), if_neg (by omega), if_pos q, if_neg (by omega), if_neg (by omega), if_pos q]
        exact wmono_ok hP hkk q z3 z4
      · rw [if_neg (by omega), if_neg (by omega), if_neg (by omega), if_neg (by omega), if_neg (by omega), if_neg (by omega)]
        exact wfloat_ok hP hkk q z3 z4
    generalize nodG l w (rowG l w m) kk z = z' at hcl hnx z5
    obtain ⟨sz, hsz2⟩ : ∃ sz : Nat, (ndN l kk).size = sz := ⟨(ndN l kk).size.toNat, by omega⟩
    rw [hsz2] at u1 u2 u3 u4 z5 hnx hm1 hm0
    rw [Int.toNat_natCast] at u4 z5 hnx hm1 hm0
    refine swp_seqS ?_
    refine swp_block ?_
    (refine swp_lastW ?_; simp only [go_sem, Bool.not_eq_true', Bool.not_eq_false'])
    refine ⟨by omega, ex_get hkk ?_⟩
    rw [← ndN_get hkk]
    rcases nodB_kind hnb with q | q | q | q
    all_goals
      rw [q]
      rw [q] at hcl
      simp only [if_true, Int.reduceEq, if_false] at hcl
      refine ⟨⟨by omega, by omega⟩, by omega, ?_⟩
      simp only [go_sem, Bool.not_eq_true', Bool.not_eq_false', Int.reduceToNat, Int.reduceLT, Int.reduceLE, Int.reduceEq, Int.reduceAdd, Int.reduceSub, Int.reduceMul, Int.reduceNeg, Int.reduceNe, decide_false, Int.cast_ofNat_Int, kSet, List.getElem?_cons_succ, List.getElem?_cons_zero, List.set_cons_succ, List.set_cons_zero, exists_eq_left', forall_const, true_implies, List.drop_zero, List.drop_succ_cons, List.take_succ_cons, List.take_zero, List.headD_cons]
      (refine acallM2 [] (hcl) (by simp only [go_sem, Bool.not_eq_true', Bool.not_eq_false']; rfl) (fit_of (by simp only [go_sem, Bool.not_eq_true', Bool.not_eq_false']) (by simp only [go_sem, Bool.not_eq_true', Bool.not_eq_false']) (by simp only [go_sem, Bool.not_eq_true', Bool.not_eq_false']) (by simp only [go_sem, Bool.not_eq_true', Bool.not_eq_false']) (by simp only [go_sem, Bool.not_eq_true', Bool.not_eq_false']) (by simp only [go_sem, Bool.not_eq_true', Bool.not_eq_false']) (by simp only [go_sem, Bool.not_eq_true', Bool.not_eq_false'])) ?_; simp only [go_sem, Bool.not_eq_true', Bool.not_eq_false'])
      (refine swp_lastW ?_; simp only [go_sem, Bool.not_eq_true', Bool.not_eq_false'])
      refine ⟨by omega, ex_get hkk ?_⟩
      rw [← ndN_get hkk, hsz2]
      refine ⟨⟨by omega, by omega⟩, ?_⟩
      (refine loop_end [] (⟨kk + sz, z'⟩) (by simp only [go_sem, Bool.not_eq_true', Bool.not_eq_false']; rfl) ?_ ?_ ?_; (focus first | omega | (simp only; omega)); (focus (simp only [go_sem, Bool.not_eq_true', Bool.not_eq_false']; done)))
      exact ⟨_, m, by omega, u4, hnx, by show _ + (hall l - hsN l (kk + sz)) ≤ _; omega, z5⟩
end Go.Proofs.Ytblmebjhhanoaaa
/- CHAPTER 14: flow.Of. -/
/- G -/
/- BOOLS -/
set_option linter.unusedSimpArgs false
set_option linter.unusedVariables false
namespace Go.Proofs.Ytblmebjhhanoaaa
open Go.RowKit

theorem low3 {f : LFl} (h : f.side = 1 ∨ f.side = 2) : lowF 3 f = ⟨f.y + f.h, true⟩ := by
  unfold lowF
  have : decide (andI f.side 3 ≠ 0) = true := by rcases h with e | e <;> (rw [e]; decide)
  rw [this]
theorem hgt_fold : ∀ (fs : List LFl) (b : Int) (o : LIs), (∀ f ∈ fs, f.side = 1 ∨ f.side = 2) → o.is = true → (fs.foldl (mostT (lowF 3)) o).is = true ∧ hgtS (max b o.n) fs = max b (fs.foldl (mostT (lowF 3)) o).n
  | [], b, o, _, ho => ⟨ho, rfl⟩
  | f :: fs, b, o, hf, ho => by
    have hl := low3 (hf f List.mem_cons_self)
    have e : mostT (lowF 3) o f = ⟨max o.n (f.y + f.h), true⟩ := by
      unfold mostT
      rw [hl]
      simp only [true_and]
      split
      · next h => have := h ho; congr 1; omega
      · next h =>
        have h1 : ¬ o.n < f.y + f.h := fun w => h fun _ => w
        cases o with
        | mk n is =>
          simp only at ho h1 ⊢
          rw [ho]
          congr 1
          omega
    obtain ⟨i1, i2⟩ := hgt_fold fs b ⟨max o.n (f.y + f.h), true⟩ (fun g hg => hf g (List.mem_cons_of_mem _ hg)) rfl
    rw [List.foldl_cons, e]
    refine ⟨i1, ?_⟩
    rw [← i2]
    show hgtS (max (max b o.n) (f.y + f.h)) fs = _
    congr 1
    simp only
    omega
theorem hgt_low {fs : List LFl} {b : Int} (hf : ∀ f ∈ fs, f.side = 1 ∨ f.side = 2) : hgtS b fs = if (lowO 3 fs).is = true then max b (lowO 3 fs).n else b := by
  cases fs with
  | nil => rfl
  | cons f fs =>
    have hl := low3 (hf f List.mem_cons_self)
    have e : lowO 3 (f :: fs) = fs.foldl (mostT (lowF 3)) ⟨f.y + f.h, true⟩ := by
      show fs.foldl (mostT (lowF 3)) (mostT (lowF 3) ⟨0, false⟩ f) = _
      congr 1
      unfold mostT
      rw [hl]
      simp
    obtain ⟨i1, i2⟩ := hgt_fold fs b ⟨f.y + f.h, true⟩ (fun g hg => hf g (List.mem_cons_of_mem _ hg)) rfl
    rw [e, if_pos i1, ← i2]
    rfl
abbrev wkH (l : List LNo) (w : Int) (p : LPen) (a f : Nat) (h : Int) : AO := wkO l w p a f h
set_option maxRecDepth 100000 in
set_option maxHeartbeats 8000000 in
theorem wend_ok {l : List LNo} {w : Int} (hP : FlwP l w) {s : LGs} (hA : GsOk l (hall l) l.length s) (hc : AncP l.length s) :
    FnOk Try.prog 29 [.hdr 0] (wkS l w s 1 2) (.tup []) [(0, wkO l w s.p 1 9 (hgtS (atP s.p) s.f)), (1, rowA s), (9, .row 39 7 ((s.f.map (endF s.a.length)).map cFl))] := by
  have hlen := hP.len
  have hH := hP.hi
  have hpp := hP.ps
  unfold pall at hpp
  have hy := hA.y
  have hm := hA.m
  have hb := hA.b
  have hfl := hA.fl
  have hal := hA.al
  have hne := hA.near hH hlen
  have hfs2 : ∀ f ∈ s.f, 0 ≤ f.y + f.h ∧ f.y + f.h ≤ 1099511627776 := fun f hf => by
    have h1 := (hA.fs f hf).y
    have h2 := (hA.fs f hf).h
    omega
  have hgl := hgt_low (b := atP s.p) (fun f hf => (hA.fs f hf).side)
  have hlc : FnOk Try.prog 57 [.sl 7 (s.f.map cFl), .raw (.int .i64 3)] [] (aIs (lowO 3 s.f)) [] := blow_ok s.f 3 (by omega) hne
  unfold atP at hgl ⊢
  refine fn_of_swp Try.func29 rfl (by kernel_rfl) (by kernel_rfl) (Nat.le_of_ble_eq_true rfl) Try.results29 ?_
  (refine swp_seqW ?_; simp only [go_sem, Bool.not_eq_true', Bool.not_eq_false'])
  (refine acall2 [] (pat_ok s.p ⟨by omega, by omega, by omega, by omega⟩) (by simp only [go_sem, Bool.not_eq_true', Bool.not_eq_false']; rfl) (fit_of (by simp only [go_sem, Bool.not_eq_true', Bool.not_eq_false']) (by simp only [go_sem, Bool.not_eq_true', Bool.not_eq_false']) (by simp only [go_sem, Bool.not_eq_true', Bool.not_eq_false']) (by simp only [go_sem, Bool.not_eq_true', Bool.not_eq_false']) (by simp only [go_sem, Bool.not_eq_true', Bool.not_eq_false']) (by simp only [go_sem, Bool.not_eq_true', Bool.not_eq_false']) (by simp only [go_sem, Bool.not_eq_true', Bool.not_eq_false'])) ?_; simp only [go_sem, Bool.not_eq_true', Bool.not_eq_false'])
  refine swp_cutS (fun _ : Unit => ⟨[(0, .hdr 0)], [(0, some (wkO l w s.p 1 2 (hgtS (s.p.y + s.p.m) s.f))), (1, some (rowA s)), (2, some (rowF s))], none⟩) (fun _ => True) 120 ?_ ?_
  · (refine swp_seqW ?_; simp only [go_sem, Bool.not_eq_true', Bool.not_eq_false'])
    (refine acall2 [2 ] ( hlc) (by simp only [go_sem, Bool.not_eq_true', Bool.not_eq_false']; rfl) (fit_of (by simp only [go_sem, Bool.not_eq_true', Bool.not_eq_false']) (by simp only [go_sem, Bool.not_eq_true', Bool.not_eq_false']) (by simp only [go_sem, Bool.not_eq_true', Bool.not_eq_false']) (by simp only [go_sem, Bool.not_eq_true', Bool.not_eq_false']) (by simp only [go_sem, Bool.not_eq_true', Bool.not_eq_false']) (by simp only [go_sem, Bool.not_eq_true', Bool.not_eq_false']) (by simp only [go_sem, Bool.not_eq_true', Bool.not_eq_false'])) ?_; simp only [go_sem, Bool.not_eq_true', Bool.not_eq_false'])
    (refine swp_seqW ?_; simp only [go_sem, Bool.not_eq_true', Bool.not_eq_false'])
    (refine swp_condW ?_; simp only [go_sem, Bool.not_eq_true', Bool.not_eq_false'])
    refine ⟨fun hi => ?_, fun hi => ?_⟩
    · rw [hgl, if_pos hi]
      (refine swp_lastW ?_; simp only [go_sem, Bool.not_eq_true', Bool.not_eq_false'])
      repeat' first | contradiction | intro _ | refine And.intro ?_ ?_ | refine ex_get (by omega) ?_ | (show drawB _ _ = true; kernel_rfl) | (refine ret2 [] (by simp only [go_sem, Bool.not_eq_true', Bool.not_eq_false']; rfl) ?_; simp only [go_sem, Bool.not_eq_true', Bool.not_eq_false'])
      all_goals
        (refine cut_end [] (()) (by simp only [go_sem, Bool.not_eq_true', Bool.not_eq_false']; rfl) ?_ ?_; (focus (simp only [go_sem, Bool.not_eq_true', Bool.not_eq_false']; done)))
        trivial
    · have hi : (lowO 3 s.f).is = false := hi
      rw [hgl, if_neg (by rw [hi]; decide)]
      (refine swp_lastW ?_; simp only [go_sem, Bool.not_eq_true', Bool.not_eq_false'])
      (refine cut_end [] (()) (by simp only [go_sem, Bool.not_eq_true', Bool.not_eq_false']; rfl) ?_ ?_; (focus (simp only [go_sem, Bool.not_eq_true', Bool.not_eq_false']; done)))
      trivial
  rintro - -
  (refine swp_seqW ?_; simp only [go_sem, Bool.not_eq_true', Bool.not_eq_false', List.length_map])
  refine swp_block ?_
  generalize hgtS (s.p.y + s.p.m) s.f = ht
  refine swp_loop2 [] (fun i : Nat => ⟨[(0, .hdr 0), (40, .raw (.int .i64 s.f.length)), (41, .raw (.int .i64 i))], [(0, some (wkO l w s.p 1 802 ht)), (1, some (rowA s)), (802, some (.row 39 7 ((flE s.a.length s.f i).map cFl)))], none⟩) (fun i => i ≤ s.f.length) (fun i => s.f.length - i) 120 0 (by simp only [go_sem, Bool.not_eq_true', Bool.not_eq_false']; rfl) (by simp only [go_sem, Bool.not_eq_true', Bool.not_eq_false', flE_zero]) ?_ ?_
  · exact Nat.zero_le _
  intro i hi
  have hln := @flE_len s.a.length s.f i
  (refine swp_seqW ?_; simp only [go_sem, Bool.not_eq_true', Bool.not_eq_false'])
  (refine swp_seqW ?_; simp only [go_sem, Bool.not_eq_true', Bool.not_eq_false'])
  refine ⟨fun h5 => ?_, fun h5 => ?_⟩
  rotate_left
  · obtain rfl : i = s.f.length := by omega
    rw [flE_all]
    (refine ret2 [] (by simp only [go_sem, Bool.not_eq_true', Bool.not_eq_false']; rfl) ?_; simp only [go_sem, Bool.not_eq_true', Bool.not_eq_false'])
  have hii : i < s.f.length := by omega
  have hg := flE_get (n := s.a.length) hii
  have hst := flE_set (n := s.a.length) hii
  have hfi := hfs2 _ (List.getElem_mem hii)
  have hci := hc _ (List.getElem_mem hii)
  generalize hE : flE s.a.length s.f i = E at *
  have eS : ∀ f', endF s.a.length s.f[i] = f' → (E.map cFl).set i (cFl f') = (flE s.a.length s.f (i + 1)).map cFl := fun f' e => by rw [← e, ← hst, List.map_set]
  generalize s.f[i] = f at *
  have ef : endF s.a.length f = ⟨f.node, f.side, max 0 (min f.anchor ((s.a.length : Int) - 1)), f.x, f.y, f.w, f.h⟩ := by
    unfold endF
    congr 1
    split <;> omega
  have e := eS _ ef
  simp only [cFl] at e
  refine swp_seqS ?_
  refine swp_block ?_
  (refine swp_seqW ?_; simp only [go_sem, Bool.not_eq_true', Bool.not_eq_false'])
  (refine swp_lastW ?_; simp only [go_sem, Bool.not_eq_true', Bool.not_eq_false', List.length_map])
  refine ⟨by omega, f, hg, ?_⟩
  refine ⟨⟨by omega, by omega⟩, ⟨by omega, by omega⟩, f, hg, ?_⟩
  (refine ⟨(show drawB _ _ = true by kernel_rfl), ?_⟩)
  (refine swp_lastW ?_; simp only [go_sem, Bool.not_eq_true', Bool.not_eq_false'])
  refine ⟨by omega, ?_⟩
  (refine loop_end [] (i + 1) (by simp only [go_sem, Bool.not_eq_true', Bool.not_eq_false']; rfl) ?_ ?_ ?_; (focus first | omega | (simp only; omega)); (focus (simp only [go_sem, Bool.not_eq_true', Bool.not_eq_false', e]; done)))
  omega
set_option maxRecDepth 100000 in
theorem umay14_ok (n : Int) : FnOk Try.prog 27 [.raw (.int .i64 n)] [] (.raw (.bool (decide (1 ≤ n ∧ n ≤ 1099511627776)))) [] := by
  refine fn_of_awp Try.func27 rfl (by kernel_rfl) (by kernel_rfl) (Nat.le_of_ble_eq_true rfl) Try.results27 ?_
  simp only [go_sem, Bool.not_eq_true', Bool.not_eq_false']
  repeat' first | contradiction | intro _ | refine And.intro ?_ ?_ | refine ex_get (by omega) ?_ | (show drawB _ _ = true; kernel_rfl) | (refine ret2 [] (by simp only [go_sem, Bool.not_eq_true', Bool.not_eq_false']; rfl) ?_; simp only [go_sem, Bool.not_eq_true', Bool.not_eq_false'])
  all_goals first
    | omega
    | (simp; omega)
set_option maxRecDepth 100000 in
set_option maxHeartbeats 8000000 in
theorem of14_ok (l : List LNo) (w : Int) (hl : l.length ≤ 60) (hw : ∀ x ∈ l, x.words.length ≤ 9223372036854775807) (hp : pall l ≤ 9223372036854775807) :
    FnOk Try.prog 9 [.sl 20 (l.map cNo), .raw (.int .i64 w)] [] (.tup [aGal (resG l w) 8 9, .raw (.int .i64 (errG l w))]) [(8, .row 41 8 ((resG l w).a.map cAt)), (9, .row 39 7 ((resG l w).f.map cFl))] := by
  refine fn_of_swp Try.func9 rfl (by kernel_rfl) (by kernel_rfl) (Nat.le_of_ble_eq_true rfl) Try.results9 ?_
  (refine swp_seqW ?_; simp only [go_sem, Bool.not_eq_true', Bool.not_eq_false'])
  (refine swp_seqW ?_; simp only [go_sem, Bool.not_eq_true', Bool.not_eq_false'])
  (refine acall2 [] (umay14_ok w) (by simp only [go_sem, Bool.not_eq_true', Bool.not_eq_false']; rfl) (fit_of (by simp only [go_sem, Bool.not_eq_true', Bool.not_eq_false']) (by simp only [go_sem, Bool.not_eq_true', Bool.not_eq_false']) (by simp only [go_sem, Bool.not_eq_true', Bool.not_eq_false']) (by simp only [go_sem, Bool.not_eq_true', Bool.not_eq_false']) (by simp only [go_sem, Bool.not_eq_true', Bool.not_eq_false']) (by simp only [go_sem, Bool.not_eq_true', Bool.not_eq_false']) (by simp only [go_sem, Bool.not_eq_true', Bool.not_eq_false'])) ?_; simp only [go_sem, Bool.not_eq_true', Bool.not_eq_false'])
  by_cases hw1 : 1 ≤ w ∧ w ≤ 1099511627776
  rotate_left
  · have e1 : errG l w = 4 := if_neg hw1
    have e2 : resG l w = ⟨[], [], 0⟩ := by unfold resG; rw [e1]; rfl
    rw [e1, e2]
    refine ⟨fun _ => ?_, fun q => absurd q hw1⟩
    (refine ret2 [] (by simp only [go_sem, Bool.not_eq_true', Bool.not_eq_false', List.map_nil]; rfl) ?_; simp only [go_sem, Bool.not_eq_true', Bool.not_eq_false', List.map_nil])
  have e1 : errG l w = chkN l := if_pos hw1
  refine ⟨fun q => absurd hw1 q, fun _ => ?_⟩
  (refine swp_seqW ?_; simp only [go_sem, Bool.not_eq_true', Bool.not_eq_false'])
  (refine acall2 [] (check6_ok l (by omega) hw hp) (by simp only [go_sem, Bool.not_eq_true', Bool.not_eq_false']; rfl) (fit_of (by simp only [go_sem, Bool.not_eq_true', Bool.not_eq_false']) (by simp only [go_sem, Bool.not_eq_true', Bool.not_eq_false']) (by simp only [go_sem, Bool.not_eq_true', Bool.not_eq_false']) (by simp only [go_sem, Bool.not_eq_true', Bool.not_eq_false']) (by simp only [go_sem, Bool.not_eq_true', Bool.not_eq_false']) (by simp only [go_sem, Bool.not_eq_true', Bool.not_eq_false']) (by simp only [go_sem, Bool.not_eq_true', Bool.not_eq_false'])) ?_; simp only [go_sem, Bool.not_eq_true', Bool.not_eq_false'])
  rw [e1]
  refine ⟨fun hc => ?_, fun hc => ?_⟩
  · have e2 : resG l w = ⟨[], [], 0⟩ := by unfold resG; rw [e1, if_neg hc]
    rw [e2]
    (refine ret2 [] (by simp only [go_sem, Bool.not_eq_true', Bool.not_eq_false', List.map_nil]; rfl) ?_; simp only [go_sem, Bool.not_eq_true', Bool.not_eq_false', List.map_nil])
  have hP := errG_ok hl (by rw [e1]; exact hc)
  have e2 : resG l w = endG (allS l w) := by unfold resG; rw [e1, if_pos hc]
  rw [e2, hc]
  have hrm := rooms_eq hP.v w
  have hrs : rmsN l w = rmsR l w l.length := if_pos hw1
  have hdn : docN l = l := by simp [docN, hP.v]
  have hroo := rooms8_ok l w (by omega) hw (isS_ins hP.v) (by rw [hdn]; exact isS_nst hP.v)
  rw [hrm, hrs] at hroo
  (refine swp_seqW ?_; simp only [go_sem, Bool.not_eq_true', Bool.not_eq_false'])
  (refine acall2 [] (hroo) (by simp only [go_sem, Bool.not_eq_true', Bool.not_eq_false']; rfl) (fit_of (by simp only [go_sem, Bool.not_eq_true', Bool.not_eq_false']) (by simp only [go_sem, Bool.not_eq_true', Bool.not_eq_false']) (by simp only [go_sem, Bool.not_eq_true', Bool.not_eq_false']) (by simp only [go_sem, Bool.not_eq_true', Bool.not_eq_false']) (by simp only [go_sem, Bool.not_eq_true', Bool.not_eq_false']) (by simp only [go_sem, Bool.not_eq_true', Bool.not_eq_false']) (by simp only [go_sem, Bool.not_eq_true', Bool.not_eq_false'])) ?_; simp only [go_sem, Bool.not_eq_true', Bool.not_eq_false'])
  have hrow := wrow_ok hP (l.length + 1) (l.length + 1) (Nat.le_refl _) 0 l.length ⟨[], [], ⟨0, 0⟩⟩ 0 (isS_nst hP.v) (Int.le_refl _) (gs_zero l) (by have := hP.hi; rw [hsN_zero]; omega)
  have hend := wend_ok hP (allS_ok hP) (anc_all hP)
  have eall : rowG l w (l.length + 1) 0 l.length ⟨[], [], ⟨0, 0⟩⟩ = allS l w := rfl
  rw [eall] at hrow
  unfold endG
  generalize allS l w = s at *
  (refine swp_seqW ?_; simp only [go_sem, Bool.not_eq_true', Bool.not_eq_false', List.length_map])
  (refine acallF2 [112 ] [] ( hrow) (by simp only [go_sem, Bool.not_eq_true', Bool.not_eq_false']; rfl) (fit_of (by simp only [go_sem, Bool.not_eq_true', Bool.not_eq_false']) (by simp only [go_sem, Bool.not_eq_true', Bool.not_eq_false']) (by simp only [go_sem, Bool.not_eq_true', Bool.not_eq_false']) (by simp only [go_sem, Bool.not_eq_true', Bool.not_eq_false']) (by simp only [go_sem, Bool.not_eq_true', Bool.not_eq_false']) (by simp only [go_sem, Bool.not_eq_true', Bool.not_eq_false']) (by simp only [go_sem, Bool.not_eq_true', Bool.not_eq_false'])) ?_; simp only [go_sem, Bool.not_eq_true', Bool.not_eq_false', List.map_nil])
  (refine swp_seqW ?_; simp only [go_sem, Bool.not_eq_true', Bool.not_eq_false'])
  (refine acall2 [] (hend) (by simp only [go_sem, Bool.not_eq_true', Bool.not_eq_false']; rfl) (fit_of (by simp only [go_sem, Bool.not_eq_true', Bool.not_eq_false']) (by simp only [go_sem, Bool.not_eq_true', Bool.not_eq_false']) (by simp only [go_sem, Bool.not_eq_true', Bool.not_eq_false']) (by simp only [go_sem, Bool.not_eq_true', Bool.not_eq_false']) (by simp only [go_sem, Bool.not_eq_true', Bool.not_eq_false']) (by simp only [go_sem, Bool.not_eq_true', Bool.not_eq_false']) (by simp only [go_sem, Bool.not_eq_true', Bool.not_eq_false'])) ?_; simp only [go_sem, Bool.not_eq_true', Bool.not_eq_false'])
  (refine swp_lastW ?_; simp only [go_sem, Bool.not_eq_true', Bool.not_eq_false'])
  (refine ret2 [] (by simp only [go_sem, Bool.not_eq_true', Bool.not_eq_false']; rfl) ?_; simp only [go_sem, Bool.not_eq_true', Bool.not_eq_false'])
end Go.Proofs.Ytblmebjhhanoaaa
/- THE SCRIPT'S READER: blocks, nodes. -/
/- G -/
/- BOOLS -/
/- GET get_tk -/
set_option linter.unusedSimpArgs false
set_option linter.unusedVariables false
namespace Go.Proofs.Ytblmebjhhanoaaa
open Go.RowKit

def pushB (t : ByteArray) (c : Int) : ByteArray := t ++ ByteArray.empty.push (UInt8.ofNat c.toNat)
def attrS (l : List LTk) : Nat → Nat → ByteArray → LSty → Option (LSty × Nat)
  | 0, _, _, _ => none
  | f + 1, k, told, st => if letterS l k told = 0 then some (st, k)
    else if k + 1 < l.length ∧ told.size < 100 ∧ (pushB told (letterS l k told)).size < 100 ∧ numB l (k + 1) (limA (letterS l k told)) (limB (letterS l k told)) = true then attrS l f (k + 2) (pushB told (letterS l k told)) (withS st (letterS l k told) (tkAt l (k + 1)).n) else none
def sty2 : LSty := ⟨0, 0, 0, 0, 0, 2, 2, 0, 0, 0, 0, 0⟩
attribute [go_sem] sty2
section
variable (rec : Nat → Option (List LNo × Nat)) (l : List LTk)
def blockS (k : Nat) : Option (List LNo × Nat) :=
  if k < l.length then match attrS l (l.length + 1) (k + 1) ⟨#[]⟩ sty2 with
    | some (st, k1) => match rec k1 with
      | some (ns, k2) => if k1 ≤ l.length ∧ ns.length < 1000 ∧ signB l k2 93 = true then some (⟨1, 1 + ns.length, st, 0, 0, [], 0, 0, 0⟩ :: ns, k2 + 1) else none
      | none => none
    | none => none
  else none
def oneS (k : Nat) : Option (List LNo × Nat) :=
  if signB l k 91 = true then blockS rec l k
  else if signB l k 40 = true then textS l k
  else if signB l k 123 = true then boxS l (k + 1) ⟨3, 1, sty0, 0, 0, [], 0, 0, 0⟩ 125
  else if signB l (k + 1) 76 = true then boxS l (k + 2) ⟨4, 1, sty0, 0, 0, [], 1, 0, 0⟩ 62
  else if signB l (k + 1) 82 = true then boxS l (k + 2) ⟨4, 1, sty0, 0, 0, [], 2, 0, 0⟩ 62
  else none
def startB (k : Nat) : Bool := signB l k 91 || signB l k 40 || signB l k 123 || signB l k 60
def nodesG : Nat → Nat → Option (List LNo × Nat)
  | 0, _ => none
  | g + 1, k => if k ≤ l.length then
      (if startB l k = true then match oneS rec l k with
        | some (ns, k1) => if k < k1 then match nodesG g k1 with
          | some (r, k2) => if ns.length + r.length < 1000 then some (ns ++ r, k2) else none
          | none => none
          else none
        | none => none
      else some ([], k))
    else none
end
def nodesS (l : List LTk) : Nat → Nat → Option (List LNo × Nat)
  | 0, _ => none
  | f + 1, k => nodesG (nodesS l f) l (l.length + 1) k
structure LBl where
  k : Nat
  told : ByteArray
  st : LSty
set_option maxRecDepth 100000 in
set_option maxHeartbeats 8000000 in
theorem block5_ok (rec : Nat → Option (List LNo × Nat)) (l : List LTk) (hrec : ∀ k r, k ≤ l.length → rec k = some r → FnOk Try.prog 66 [.sl 4 (l.map cTk), .raw (.int .i64 k)] [] (aGot r) []) (k : Nat) (r : List LNo × Nat) (hl : l.length ≤ 1000) (h : blockS rec l k = some r) : FnOk Try.prog 112 [.sl 4 (l.map cTk), .raw (.int .i64 k)] [] (aGot r) [] := by
  refine fn_of_swp Try.func112 rfl (by kernel_rfl) (by kernel_rfl) (Nat.le_of_ble_eq_true rfl) Try.results112 ?_
  unfold blockS at h
  split at h
  case isFalse => cases h
  next hk =>
  split at h
  case h_2 => cases h
  next st k1 ha =>
  split at h
  case h_2 => cases h
  next ns k2 hr =>
  split at h
  case isFalse => cases h
  next hh =>
  obtain ⟨hk1, hns, h93⟩ := hh
  injection h with h
  subst h
  have hk2 : k2 < l.length := (of_decide_eq_true h93).1
  have hnode := hrec k1 (ns, k2) hk1 hr
  (refine swp_seqW ?_; simp only [go_sem, Bool.not_eq_true', Bool.not_eq_false'])
  (refine swp_seqW ?_; simp only [go_sem, Bool.not_eq_true', Bool.not_eq_false'])
  refine ⟨by omega, ?_⟩
  (refine swp_seqW ?_; simp only [go_sem, Bool.not_eq_true', Bool.not_eq_false'])
  (refine swp_seqW ?_; simp only [go_sem, Bool.not_eq_true', Bool.not_eq_false'])
  refine swp_cutS (fun _ : Unit => ⟨[(0, .sl 4 (l.map cTk)), (1, .raw (.int .i64 k1)), (4, .hdr 8), (5, .hdr 16)], [(8, some (.cells 117 [.hdr 9, .raw (.int .i64 0), .raw (.int .i64 0)])), (9, some (.row 37 20 [])), (16, some (.cells 34 (lSty st)))], none⟩) (fun _ => True) 4 ?_ ?_
  · refine swp_block ?_
    refine swp_loop2 [] (fun z : LBl => ⟨[(0, .sl 4 (l.map cTk)), (1, .raw (.int .i64 z.k)), (4, .hdr 8), (5, .hdr 16), (6, .raw (.string z.told))], [(8, some (.cells 117 [.hdr 9, .raw (.int .i64 0), .raw (.int .i64 0)])), (9, some (.row 37 20 [])), (16, some (.cells 34 (lSty z.st)))], none⟩) (fun z => z.k ≤ l.length ∧ z.told.size < 100 ∧ ∃ f, attrS l f z.k z.told z.st = some (st, k1)) (fun z => l.length - z.k) 30 ⟨k + 1, ⟨#[]⟩, sty2⟩ (by simp only [go_sem, Bool.not_eq_true', Bool.not_eq_false']; rfl) (by simp only [go_sem, Bool.not_eq_true', Bool.not_eq_false']) ?_ ?_
    · exact ⟨hk, by show (0 : Nat) < 100; omega, _, ha⟩
    · rintro ⟨kk, told, s⟩ ⟨q1, q2, f, q3⟩
      simp only at q1 q2 q3
      obtain ⟨g, rfl⟩ : ∃ g, f = g + 1 := by
        cases f with
        | zero => simp [attrS] at q3
        | succ g => exact ⟨g, rfl⟩
      rw [attrS] at q3
      (refine swp_seqW ?_; simp only [go_sem, Bool.not_eq_true', Bool.not_eq_false'])
      (refine acall2 [] (letter5_ok l kk told hl (by omega)) (by simp only [go_sem, Bool.not_eq_true', Bool.not_eq_false']; rfl) (fit_of (by simp only [go_sem, Bool.not_eq_true', Bool.not_eq_false']) (by simp only [go_sem, Bool.not_eq_true', Bool.not_eq_false']) (by simp only [go_sem, Bool.not_eq_true', Bool.not_eq_false']) (by simp only [go_sem, Bool.not_eq_true', Bool.not_eq_false']) (by simp only [go_sem, Bool.not_eq_true', Bool.not_eq_false']) (by simp only [go_sem, Bool.not_eq_true', Bool.not_eq_false']) (by simp only [go_sem, Bool.not_eq_true', Bool.not_eq_false'])) ?_; simp only [go_sem, Bool.not_eq_true', Bool.not_eq_false'])
      refine ⟨fun h7 => ?_, fun h7 => ?_⟩
      · rw [if_neg h7] at q3
        split at q3
        case isFalse => cases q3
        next hh =>
        obtain ⟨w1, w2, w3, w4⟩ := hh
        have e1 : ∀ c : UInt8, (ByteArray.empty.push c).size = 1 := fun c => rfl
        (refine swp_lastW ?_; simp only [go_sem, Bool.not_eq_true', Bool.not_eq_false', List.length_map])
        (refine acall2 [] (letter5_ok l kk told hl (by omega)) (by simp only [go_sem, Bool.not_eq_true', Bool.not_eq_false']; rfl) (fit_of (by simp only [go_sem, Bool.not_eq_true', Bool.not_eq_false']) (by simp only [go_sem, Bool.not_eq_true', Bool.not_eq_false']) (by simp only [go_sem, Bool.not_eq_true', Bool.not_eq_false']) (by simp only [go_sem, Bool.not_eq_true', Bool.not_eq_false']) (by simp only [go_sem, Bool.not_eq_true', Bool.not_eq_false']) (by simp only [go_sem, Bool.not_eq_true', Bool.not_eq_false']) (by simp only [go_sem, Bool.not_eq_true', Bool.not_eq_false'])) ?_; simp only [go_sem, Bool.not_eq_true', Bool.not_eq_false'])
        generalize letterS l kk told = c at w3 w4 q3 h7
        (refine acall2 [] (limits5_ok c) (by simp only [go_sem, Bool.not_eq_true', Bool.not_eq_false']; rfl) (fit_of (by simp only [go_sem, Bool.not_eq_true', Bool.not_eq_false']) (by simp only [go_sem, Bool.not_eq_true', Bool.not_eq_false']) (by simp only [go_sem, Bool.not_eq_true', Bool.not_eq_false']) (by simp only [go_sem, Bool.not_eq_true', Bool.not_eq_false']) (by simp only [go_sem, Bool.not_eq_true', Bool.not_eq_false']) (by simp only [go_sem, Bool.not_eq_true', Bool.not_eq_false']) (by simp only [go_sem, Bool.not_eq_true', Bool.not_eq_false'])) ?_; simp only [go_sem, Bool.not_eq_true', Bool.not_eq_false'])
        refine ⟨by omega, ?_⟩
        (refine acall2 [] (num5_ok l (kk + 1) (limA c) (limB c) hl) (by simp only [go_sem, Bool.not_eq_true', Bool.not_eq_false']; rfl) (fit_of (by simp only [go_sem, Bool.not_eq_true', Bool.not_eq_false']) (by simp only [go_sem, Bool.not_eq_true', Bool.not_eq_false']) (by simp only [go_sem, Bool.not_eq_true', Bool.not_eq_false']) (by simp only [go_sem, Bool.not_eq_true', Bool.not_eq_false']) (by simp only [go_sem, Bool.not_eq_true', Bool.not_eq_false']) (by simp only [go_sem, Bool.not_eq_true', Bool.not_eq_false']) (by simp only [go_sem, Bool.not_eq_true', Bool.not_eq_false'])) ?_; simp only [go_sem, Bool.not_eq_true', Bool.not_eq_false', w4])
        refine ⟨by omega, by omega, get_tk (by omega) ?_⟩
        generalize (tkAt l (kk + 1)).n = n at q3
        (refine acall2 [] (with5_ok s c n) (by simp only [go_sem, Bool.not_eq_true', Bool.not_eq_false']; rfl) (fit_of (by simp only [go_sem, Bool.not_eq_true', Bool.not_eq_false']) (by simp only [go_sem, Bool.not_eq_true', Bool.not_eq_false']) (by simp only [go_sem, Bool.not_eq_true', Bool.not_eq_false']) (by simp only [go_sem, Bool.not_eq_true', Bool.not_eq_false']) (by simp only [go_sem, Bool.not_eq_true', Bool.not_eq_false']) (by simp only [go_sem, Bool.not_eq_true', Bool.not_eq_false']) (by simp only [go_sem, Bool.not_eq_true', Bool.not_eq_false'])) ?_; simp only [go_sem, Bool.not_eq_true', Bool.not_eq_false'])
        refine ⟨(by kernel_rfl), ?_⟩
        repeat' first | refine And.intro ?_ ?_
        all_goals first
          | omega
          | (rw [e1]; omega)
          | ((refine loop_end [] (⟨kk + 2, pushB told c, withS s c n⟩) (by simp only [go_sem, Bool.not_eq_true', Bool.not_eq_false']; rfl) ?_ ?_ ?_; (focus first | omega | (simp only; omega)); (focus (simp only [go_sem, Bool.not_eq_true', Bool.not_eq_false', pushB]; done)))
             exact ⟨by show kk + 2 ≤ l.length; omega, w3, g, q3⟩)
      · rw [if_pos h7] at q3
        injection q3 with q3
        injection q3 with q5 q6
        subst q5; subst q6
        (refine cut_end [] (()) (by simp only [go_sem, Bool.not_eq_true', Bool.not_eq_false']; rfl) ?_ ?_; (focus (simp only [go_sem, Bool.not_eq_true', Bool.not_eq_false']; done)))
        trivial
  rintro - -
  (refine swp_seqW ?_; simp only [go_sem, Bool.not_eq_true', Bool.not_eq_false'])
  (refine acall2 [] (hnode) (by simp only [go_sem, Bool.not_eq_true', Bool.not_eq_false']; rfl) (fit_of (by simp only [go_sem, Bool.not_eq_true', Bool.not_eq_false']) (by simp only [go_sem, Bool.not_eq_true', Bool.not_eq_false']) (by simp only [go_sem, Bool.not_eq_true', Bool.not_eq_false']) (by simp only [go_sem, Bool.not_eq_true', Bool.not_eq_false']) (by simp only [go_sem, Bool.not_eq_true', Bool.not_eq_false']) (by simp only [go_sem, Bool.not_eq_true', Bool.not_eq_false']) (by simp only [go_sem, Bool.not_eq_true', Bool.not_eq_false'])) ?_; simp only [go_sem, Bool.not_eq_true', Bool.not_eq_false'])
  (refine swp_seqW ?_; simp only [go_sem, Bool.not_eq_true', Bool.not_eq_false', Int.reduceToNat, Int.reduceLT, Int.reduceLE, Int.reduceEq, Int.reduceAdd, Int.reduceSub, Int.reduceMul, Int.reduceNeg, Int.reduceNe, decide_false, Int.cast_ofNat_Int, kSet, List.getElem?_cons_succ, List.getElem?_cons_zero, List.set_cons_succ, List.set_cons_zero, exists_eq_left', forall_const, true_implies])
  (refine swp_seqW ?_; simp only [go_sem, Bool.not_eq_true', Bool.not_eq_false'])
  (refine acall2 [] (sign5_ok l k2 93 hl) (by simp only [go_sem, Bool.not_eq_true', Bool.not_eq_false']; rfl) (fit_of (by simp only [go_sem, Bool.not_eq_true', Bool.not_eq_false']) (by simp only [go_sem, Bool.not_eq_true', Bool.not_eq_false']) (by simp only [go_sem, Bool.not_eq_true', Bool.not_eq_false']) (by simp only [go_sem, Bool.not_eq_true', Bool.not_eq_false']) (by simp only [go_sem, Bool.not_eq_true', Bool.not_eq_false']) (by simp only [go_sem, Bool.not_eq_true', Bool.not_eq_false']) (by simp only [go_sem, Bool.not_eq_true', Bool.not_eq_false'])) ?_; simp only [go_sem, Bool.not_eq_true', Bool.not_eq_false', h93])
  (refine swp_lastW ?_; simp only [go_sem, Bool.not_eq_true', Bool.not_eq_false', List.length_map])
  repeat' first | refine And.intro ?_ ?_
  all_goals first
    | omega
    | (show drawB _ _ = true; kernel_rfl)
    | (refine ret2 [232] (by simp only [go_sem, Bool.not_eq_true', Bool.not_eq_false']; rfl) ?_; simp only [go_sem, Bool.not_eq_true', Bool.not_eq_false'])
end Go.Proofs.Ytblmebjhhanoaaa
/- THE SCRIPT'S READER: one node, nodes. -/
/- G -/
/- BOOLS -/
/- GET get_tk -/
set_option linter.unusedSimpArgs false
set_option linter.unusedVariables false
namespace Go.Proofs.Ytblmebjhhanoaaa
open Go.RowKit

set_option maxRecDepth 100000 in
set_option maxHeartbeats 4000000 in
theorem one5_ok (rec : Nat → Option (List LNo × Nat)) (l : List LTk) (hrec : ∀ k r, k ≤ l.length → rec k = some r → FnOk Try.prog 66 [.sl 4 (l.map cTk), .raw (.int .i64 k)] [] (aGot r) []) (k : Nat) (r : List LNo × Nat) (hl : l.length ≤ 1000) (hk : k ≤ l.length) (h : oneS rec l k = some r) : FnOk Try.prog 88 [.sl 4 (l.map cTk), .raw (.int .i64 k)] [] (aGot r) [] := by
  refine fn_of_swp Try.func88 rfl (by kernel_rfl) (by kernel_rfl) (Nat.le_of_ble_eq_true rfl) Try.results88 ?_
  unfold oneS at h
  (refine swp_seqW ?_; simp only [go_sem, Bool.not_eq_true', Bool.not_eq_false'])
  (refine swp_seqW ?_; simp only [go_sem, Bool.not_eq_true', Bool.not_eq_false'])
  (refine acall2 [] (sign5_ok l k 91 hl) (by simp only [go_sem, Bool.not_eq_true', Bool.not_eq_false']; rfl) (fit_of (by simp only [go_sem, Bool.not_eq_true', Bool.not_eq_false']) (by simp only [go_sem, Bool.not_eq_true', Bool.not_eq_false']) (by simp only [go_sem, Bool.not_eq_true', Bool.not_eq_false']) (by simp only [go_sem, Bool.not_eq_true', Bool.not_eq_false']) (by simp only [go_sem, Bool.not_eq_true', Bool.not_eq_false']) (by simp only [go_sem, Bool.not_eq_true', Bool.not_eq_false']) (by simp only [go_sem, Bool.not_eq_true', Bool.not_eq_false'])) ?_; simp only [go_sem, Bool.not_eq_true', Bool.not_eq_false'])
  refine ⟨fun h1 => ?_, fun h1 => ?_⟩
  · rw [if_pos h1] at h
    (refine acall2 [] (block5_ok rec l hrec k r hl h) (by simp only [go_sem, Bool.not_eq_true', Bool.not_eq_false']; rfl) (fit_of (by simp only [go_sem, Bool.not_eq_true', Bool.not_eq_false']) (by simp only [go_sem, Bool.not_eq_true', Bool.not_eq_false']) (by simp only [go_sem, Bool.not_eq_true', Bool.not_eq_false']) (by simp only [go_sem, Bool.not_eq_true', Bool.not_eq_false']) (by simp only [go_sem, Bool.not_eq_true', Bool.not_eq_false']) (by simp only [go_sem, Bool.not_eq_true', Bool.not_eq_false']) (by simp only [go_sem, Bool.not_eq_true', Bool.not_eq_false'])) ?_; simp only [go_sem, Bool.not_eq_true', Bool.not_eq_false'])
    (refine ret2 [] (by simp only [go_sem, Bool.not_eq_true', Bool.not_eq_false']; rfl) ?_; simp only [go_sem, Bool.not_eq_true', Bool.not_eq_false'])
  rw [if_neg (by rw [h1]; decide)] at h
  (refine swp_seqW ?_; simp only [go_sem, Bool.not_eq_true', Bool.not_eq_false'])
  (refine acall2 [] (sign5_ok l k 40 hl) (by simp only [go_sem, Bool.not_eq_true', Bool.not_eq_false']; rfl) (fit_of (by simp only [go_sem, Bool.not_eq_true', Bool.not_eq_false']) (by simp only [go_sem, Bool.not_eq_true', Bool.not_eq_false']) (by simp only [go_sem, Bool.not_eq_true', Bool.not_eq_false']) (by simp only [go_sem, Bool.not_eq_true', Bool.not_eq_false']) (by simp only [go_sem, Bool.not_eq_true', Bool.not_eq_false']) (by simp only [go_sem, Bool.not_eq_true', Bool.not_eq_false']) (by simp only [go_sem, Bool.not_eq_true', Bool.not_eq_false'])) ?_; simp only [go_sem, Bool.not_eq_true', Bool.not_eq_false'])
  refine ⟨fun h2 => ?_, fun h2 => ?_⟩
  · rw [if_pos h2] at h
    (refine acall2 [] (text5_ok l k r hl h) (by simp only [go_sem, Bool.not_eq_true', Bool.not_eq_false']; rfl) (fit_of (by simp only [go_sem, Bool.not_eq_true', Bool.not_eq_false']) (by simp only [go_sem, Bool.not_eq_true', Bool.not_eq_false']) (by simp only [go_sem, Bool.not_eq_true', Bool.not_eq_false']) (by simp only [go_sem, Bool.not_eq_true', Bool.not_eq_false']) (by simp only [go_sem, Bool.not_eq_true', Bool.not_eq_false']) (by simp only [go_sem, Bool.not_eq_true', Bool.not_eq_false']) (by simp only [go_sem, Bool.not_eq_true', Bool.not_eq_false'])) ?_; simp only [go_sem, Bool.not_eq_true', Bool.not_eq_false'])
    (refine ret2 [] (by simp only [go_sem, Bool.not_eq_true', Bool.not_eq_false']; rfl) ?_; simp only [go_sem, Bool.not_eq_true', Bool.not_eq_false'])
  rw [if_neg (by rw [h2]; decide)] at h
  (refine swp_seqW ?_; simp only [go_sem, Bool.not_eq_true', Bool.not_eq_false'])
  (refine acall2 [] (sign5_ok l k 123 hl) (by simp only [go_sem, Bool.not_eq_true', Bool.not_eq_false']; rfl) (fit_of (by simp only [go_sem, Bool.not_eq_true', Bool.not_eq_false']) (by simp only [go_sem, Bool.not_eq_true', Bool.not_eq_false']) (by simp only [go_sem, Bool.not_eq_true', Bool.not_eq_false']) (by simp only [go_sem, Bool.not_eq_true', Bool.not_eq_false']) (by simp only [go_sem, Bool.not_eq_true', Bool.not_eq_false']) (by simp only [go_sem, Bool.not_eq_true', Bool.not_eq_false']) (by simp only [go_sem, Bool.not_eq_true', Bool.not_eq_false'])) ?_; simp only [go_sem, Bool.not_eq_true', Bool.not_eq_false'])
  refine ⟨fun h3 => ?_, fun h3 => ?_⟩
  · rw [if_pos h3] at h
    refine ⟨by omega, ?_⟩
    (refine acallF2 [112 ] [] ( box5_ok l (k + 1) ⟨3, 1, sty0, 0, 0, [], 0, 0, 0⟩ 125 r hl h) (by simp only [go_sem, Bool.not_eq_true', Bool.not_eq_false']; rfl) (fit_of (by simp only [go_sem, Bool.not_eq_true', Bool.not_eq_false']) (by simp only [go_sem, Bool.not_eq_true', Bool.not_eq_false']) (by simp only [go_sem, Bool.not_eq_true', Bool.not_eq_false']) (by simp only [go_sem, Bool.not_eq_true', Bool.not_eq_false']) (by simp only [go_sem, Bool.not_eq_true', Bool.not_eq_false']) (by simp only [go_sem, Bool.not_eq_true', Bool.not_eq_false']) (by simp only [go_sem, Bool.not_eq_true', Bool.not_eq_false'])) ?_; simp only [go_sem, Bool.not_eq_true', Bool.not_eq_false'])
    (refine ret2 [] (by simp only [go_sem, Bool.not_eq_true', Bool.not_eq_false']; rfl) ?_; simp only [go_sem, Bool.not_eq_true', Bool.not_eq_false'])
  rw [if_neg (by rw [h3]; decide)] at h
  (refine swp_seqW ?_; simp only [go_sem, Bool.not_eq_true', Bool.not_eq_false'])
  refine ⟨by omega, ?_⟩
  (refine acall2 [] (sign5_ok l (k + 1) 76 hl) (by simp only [go_sem, Bool.not_eq_true', Bool.not_eq_false']; rfl) (fit_of (by simp only [go_sem, Bool.not_eq_true', Bool.not_eq_false']) (by simp only [go_sem, Bool.not_eq_true', Bool.not_eq_false']) (by simp only [go_sem, Bool.not_eq_true', Bool.not_eq_false']) (by simp only [go_sem, Bool.not_eq_true', Bool.not_eq_false']) (by simp only [go_sem, Bool.not_eq_true', Bool.not_eq_false']) (by simp only [go_sem, Bool.not_eq_true', Bool.not_eq_false']) (by simp only [go_sem, Bool.not_eq_true', Bool.not_eq_false'])) ?_; simp only [go_sem, Bool.not_eq_true', Bool.not_eq_false'])
  refine ⟨fun h4 => ?_, fun h4 => ?_⟩
  · rw [if_pos h4] at h
    refine ⟨by omega, ?_⟩
    (refine acallF2 [144 ] [] ( box5_ok l (k + 2) ⟨4, 1, sty0, 0, 0, [], 1, 0, 0⟩ 62 r hl h) (by simp only [go_sem, Bool.not_eq_true', Bool.not_eq_false']; rfl) (fit_of (by simp only [go_sem, Bool.not_eq_true', Bool.not_eq_false']) (by simp only [go_sem, Bool.not_eq_true', Bool.not_eq_false']) (by simp only [go_sem, Bool.not_eq_true', Bool.not_eq_false']) (by simp only [go_sem, Bool.not_eq_true', Bool.not_eq_false']) (by simp only [go_sem, Bool.not_eq_true', Bool.not_eq_false']) (by simp only [go_sem, Bool.not_eq_true', Bool.not_eq_false']) (by simp only [go_sem, Bool.not_eq_true', Bool.not_eq_false'])) ?_; simp only [go_sem, Bool.not_eq_true', Bool.not_eq_false'])
    (refine ret2 [] (by simp only [go_sem, Bool.not_eq_true', Bool.not_eq_false']; rfl) ?_; simp only [go_sem, Bool.not_eq_true', Bool.not_eq_false'])
  rw [if_neg (by rw [h4]; decide)] at h
  (refine swp_seqW ?_; simp only [go_sem, Bool.not_eq_true', Bool.not_eq_false'])
  refine ⟨by omega, ?_⟩
  (refine acall2 [] (sign5_ok l (k + 1) 82 hl) (by simp only [go_sem, Bool.not_eq_true', Bool.not_eq_false']; rfl) (fit_of (by simp only [go_sem, Bool.not_eq_true', Bool.not_eq_false']) (by simp only [go_sem, Bool.not_eq_true', Bool.not_eq_false']) (by simp only [go_sem, Bool.not_eq_true', Bool.not_eq_false']) (by simp only [go_sem, Bool.not_eq_true', Bool.not_eq_false']) (by simp only [go_sem, Bool.not_eq_true', Bool.not_eq_false']) (by simp only [go_sem, Bool.not_eq_true', Bool.not_eq_false']) (by simp only [go_sem, Bool.not_eq_true', Bool.not_eq_false'])) ?_; simp only [go_sem, Bool.not_eq_true', Bool.not_eq_false'])
  refine ⟨fun h5 => ?_, fun h5 => ?_⟩
  · rw [if_pos h5] at h
    refine ⟨by omega, ?_⟩
    (refine acallF2 [176 ] [] ( box5_ok l (k + 2) ⟨4, 1, sty0, 0, 0, [], 2, 0, 0⟩ 62 r hl h) (by simp only [go_sem, Bool.not_eq_true', Bool.not_eq_false']; rfl) (fit_of (by simp only [go_sem, Bool.not_eq_true', Bool.not_eq_false']) (by simp only [go_sem, Bool.not_eq_true', Bool.not_eq_false']) (by simp only [go_sem, Bool.not_eq_true', Bool.not_eq_false']) (by simp only [go_sem, Bool.not_eq_true', Bool.not_eq_false']) (by simp only [go_sem, Bool.not_eq_true', Bool.not_eq_false']) (by simp only [go_sem, Bool.not_eq_true', Bool.not_eq_false']) (by simp only [go_sem, Bool.not_eq_true', Bool.not_eq_false'])) ?_; simp only [go_sem, Bool.not_eq_true', Bool.not_eq_false'])
    (refine ret2 [] (by simp only [go_sem, Bool.not_eq_true', Bool.not_eq_false']; rfl) ?_; simp only [go_sem, Bool.not_eq_true', Bool.not_eq_false'])
  rw [if_neg (by rw [h5]; decide)] at h
  cases h
theorem nodesG_len (rec : Nat → Option (List LNo × Nat)) (l : List LTk) : ∀ g k r, nodesG rec l g k = some r → r.1.length < 1000
  | 0, k, r, h => by cases h
  | g + 1, k, r, h => by
    rw [nodesG] at h
    split at h
    case isFalse => cases h
    split at h
    case isFalse =>
      injection h with h
      subst h
      exact Nat.zero_lt_succ _
    split at h
    case h_2 => cases h
    split at h
    case isFalse => cases h
    split at h
    case h_2 => cases h
    split at h
    case isFalse => cases h
    next hh =>
    injection h with h
    subst h
    simp only [List.length_append]
    exact hh
structure LNd where
  k : Nat
  acc : List LNo
set_option maxRecDepth 100000 in
set_option maxHeartbeats 4000000 in
theorem nodesG_ok (rec : Nat → Option (List LNo × Nat)) (l : List LTk) (hrec : ∀ k r, k ≤ l.length → rec k = some r → FnOk Try.prog 66 [.sl 4 (l.map cTk), .raw (.int .i64 k)] [] (aGot r) []) (g k : Nat) (r : List LNo × Nat) (hl : l.length ≤ 1000) (hk : k ≤ l.length) (h : nodesG rec l g k = some r) : FnOk Try.prog 66 [.sl 4 (l.map cTk), .raw (.int .i64 k)] [] (aGot r) [] := by
  have hlen := nodesG_len rec l g k r h
  refine fn_of_swp Try.func66 rfl (by kernel_rfl) (by kernel_rfl) (Nat.le_of_ble_eq_true rfl) Try.results66 ?_
  (refine swp_seqW ?_; simp only [go_sem, Bool.not_eq_true', Bool.not_eq_false'])
  (refine swp_seqW ?_; simp only [go_sem, Bool.not_eq_true', Bool.not_eq_false'])
  refine swp_cutS (fun z : LNd => ⟨[(4, .hdr 8), (5, .hdr 16)], [(8, some (.cells 117 [.hdr 9, .raw (.int .i64 0), .raw (.int .i64 0)])), (9, some (.row 37 20 [])), (16, some (.cells 117 [.hdr 17, .raw (.int .i64 z.k), .raw (.int .i64 0)])), (17, some (.row 37 20 (z.acc.map cNo)))], none⟩) (fun z => (z.acc, z.k) = r) 4 ?_ ?_
  · refine swp_block ?_
    refine swp_loop2 [] (fun z : LNd => ⟨[(0, .sl 4 (l.map cTk)), (4, .hdr 8), (5, .hdr 16)], [(8, some (.cells 117 [.hdr 9, .raw (.int .i64 0), .raw (.int .i64 0)])), (9, some (.row 37 20 [])), (16, some (.cells 117 [.hdr 17, .raw (.int .i64 z.k), .raw (.int .i64 0)])), (17, some (.row 37 20 (z.acc.map cNo)))], none⟩) (fun z => z.k ≤ l.length ∧ ∃ f q, nodesG rec l f z.k = some q ∧ (z.acc ++ q.1, q.2) = r) (fun z => l.length - z.k) 40 ⟨k, []⟩ (by simp only [go_sem, Bool.not_eq_true', Bool.not_eq_false']; rfl) (by simp only [go_sem, Bool.not_eq_true', Bool.not_eq_false']) ?_ ?_
    · exact ⟨hk, g, r, h, rfl⟩
    · rintro ⟨kk, acc⟩ ⟨q1, f, q, q2, q3⟩
      simp only at q1 q2 q3
      obtain ⟨f, rfl⟩ : ∃ f', f = f' + 1 := by
        cases f with
        | zero => cases q2
        | succ g => exact ⟨g, rfl⟩
      rw [nodesG, if_pos q1] at q2
      (refine swp_seqW ?_; simp only [go_sem, Bool.not_eq_true', Bool.not_eq_false'])
      (refine acall2 [] (sign5_ok l kk 91 hl) (by simp only [go_sem, Bool.not_eq_true', Bool.not_eq_false']; rfl) (fit_of (by simp only [go_sem, Bool.not_eq_true', Bool.not_eq_false']) (by simp only [go_sem, Bool.not_eq_true', Bool.not_eq_false']) (by simp only [go_sem, Bool.not_eq_true', Bool.not_eq_false']) (by simp only [go_sem, Bool.not_eq_true', Bool.not_eq_false']) (by simp only [go_sem, Bool.not_eq_true', Bool.not_eq_false']) (by simp only [go_sem, Bool.not_eq_true', Bool.not_eq_false']) (by simp only [go_sem, Bool.not_eq_true', Bool.not_eq_false'])) ?_; simp only [go_sem, Bool.not_eq_true', Bool.not_eq_false'])
      refine ⟨fun c1 => ?_, fun c1 => ?_⟩
      (refine acall2 [] (sign5_ok l kk 40 hl) (by simp only [go_sem, Bool.not_eq_true', Bool.not_eq_false']; rfl) (fit_of (by simp only [go_sem, Bool.not_eq_true', Bool.not_eq_false']) (by simp only [go_sem, Bool.not_eq_true', Bool.not_eq_false']) (by simp only [go_sem, Bool.not_eq_true', Bool.not_eq_false']) (by simp only [go_sem, Bool.not_eq_true', Bool.not_eq_false']) (by simp only [go_sem, Bool.not_eq_true', Bool.not_eq_false']) (by simp only [go_sem, Bool.not_eq_true', Bool.not_eq_false']) (by simp only [go_sem, Bool.not_eq_true', Bool.not_eq_false'])) ?_; simp only [go_sem, Bool.not_eq_true', Bool.not_eq_false'])
      refine ⟨fun c2 => ?_, fun c2 => ?_⟩
      (refine acall2 [] (sign5_ok l kk 123 hl) (by simp only [go_sem, Bool.not_eq_true', Bool.not_eq_false']; rfl) (fit_of (by simp only [go_sem, Bool.not_eq_true', Bool.not_eq_false']) (by simp only [go_sem, Bool.not_eq_true', Bool.not_eq_false']) (by simp only [go_sem, Bool.not_eq_true', Bool.not_eq_false']) (by simp only [go_sem, Bool.not_eq_true', Bool.not_eq_false']) (by simp only [go_sem, Bool.not_eq_true', Bool.not_eq_false']) (by simp only [go_sem, Bool.not_eq_true', Bool.not_eq_false']) (by simp only [go_sem, Bool.not_eq_true', Bool.not_eq_false'])) ?_; simp only [go_sem, Bool.not_eq_true', Bool.not_eq_false'])
      refine ⟨fun c3 => ?_, fun c3 => ?_⟩
      (refine acall2 [] (sign5_ok l kk 60 hl) (by simp only [go_sem, Bool.not_eq_true', Bool.not_eq_false']; rfl) (fit_of (by simp only [go_sem, Bool.not_eq_true', Bool.not_eq_false']) (by simp only [go_sem, Bool.not_eq_true', Bool.not_eq_false']) (by simp only [go_sem, Bool.not_eq_true', Bool.not_eq_false']) (by simp only [go_sem, Bool.not_eq_true', Bool.not_eq_false']) (by simp only [go_sem, Bool.not_eq_true', Bool.not_eq_false']) (by simp only [go_sem, Bool.not_eq_true', Bool.not_eq_false']) (by simp only [go_sem, Bool.not_eq_true', Bool.not_eq_false'])) ?_; simp only [go_sem, Bool.not_eq_true', Bool.not_eq_false'])
      refine ⟨fun c4 => ?_, fun c4 => ?_⟩
      rotate_left
      · rw [if_neg (by simp [startB, c1, c2, c3, c4])] at q2
        injection q2 with q2
        subst q2
        (refine cut_end [] (⟨kk, acc⟩) (by simp only [go_sem, Bool.not_eq_true', Bool.not_eq_false']; rfl) ?_ ?_; (focus (simp only [go_sem, Bool.not_eq_true', Bool.not_eq_false']; done)))
        rw [← q3]; simp
      all_goals (have hs : startB l kk = true := by simp [startB, *])
      all_goals
        rw [if_pos hs] at q2
        split at q2
        case h_2 => cases q2
        next ns k1 hone =>
        split at q2
        case isFalse => cases q2
        next hk1 =>
        split at q2
        case h_2 => cases q2
        next rr k2 hrest =>
        split at q2
        case isFalse => cases q2
        next hh =>
        injection q2 with q2
        subst q2
        subst q3
        simp only [List.length_append] at hlen
        refine swp_block ?_
        (refine swp_seqW ?_; simp only [go_sem, Bool.not_eq_true', Bool.not_eq_false'])
        (refine acall2 [] (one5_ok rec l hrec kk (ns, k1) hl q1 hone) (by simp only [go_sem, Bool.not_eq_true', Bool.not_eq_false']; rfl) (fit_of (by simp only [go_sem, Bool.not_eq_true', Bool.not_eq_false']) (by simp only [go_sem, Bool.not_eq_true', Bool.not_eq_false']) (by simp only [go_sem, Bool.not_eq_true', Bool.not_eq_false']) (by simp only [go_sem, Bool.not_eq_true', Bool.not_eq_false']) (by simp only [go_sem, Bool.not_eq_true', Bool.not_eq_false']) (by simp only [go_sem, Bool.not_eq_true', Bool.not_eq_false']) (by simp only [go_sem, Bool.not_eq_true', Bool.not_eq_false'])) ?_; simp only [go_sem, Bool.not_eq_true', Bool.not_eq_false'])
        (refine swp_lastW ?_; simp only [go_sem, Bool.not_eq_true', Bool.not_eq_false', Int.reduceToNat, Int.reduceLT, Int.reduceLE, Int.reduceEq, Int.reduceAdd, Int.reduceSub, Int.reduceMul, Int.reduceNeg, Int.reduceNe, decide_false, Int.cast_ofNat_Int, kSet, List.getElem?_cons_succ, List.getElem?_cons_zero, List.set_cons_succ, List.set_cons_zero, exists_eq_left', forall_const, true_implies, List.length_map])
        refine ⟨⟨by omega, by omega⟩, ?_⟩
        have hb : k1 ≤ l.length := by
          cases f with
          | zero => cases hrest
          | succ f =>
            rw [nodesG] at hrest
            split at hrest
            case isFalse => cases hrest
            next hb => exact hb
        (refine loop_end [] (⟨k1, acc ++ ns⟩) (by simp only [go_sem, Bool.not_eq_true', Bool.not_eq_false']; rfl) ?_ ?_ ?_; (focus first | omega | (simp only; omega)); (focus (simp only [go_sem, Bool.not_eq_true', Bool.not_eq_false', List.map_append]; done)))
        exact ⟨hb, f, (rr, k2), hrest, by simp⟩
  rintro ⟨kk, acc⟩ hr
  subst hr
  (refine swp_lastW ?_; simp only [go_sem, Bool.not_eq_true', Bool.not_eq_false'])
  (refine ret2 [17] (by simp only [go_sem, Bool.not_eq_true', Bool.not_eq_false']; rfl) ?_; simp only [go_sem, Bool.not_eq_true', Bool.not_eq_false'])
end Go.Proofs.Ytblmebjhhanoaaa
/- THE SCRIPT'S READER: the whole. -/
/- G -/
/- BOOLS -/
set_option linter.unusedSimpArgs false
set_option linter.unusedVariables false
namespace Go.Proofs.Ytblmebjhhanoaaa
open Go.RowKit

theorem nodes5_ok (l : List LTk) (hl : l.length ≤ 1000) : ∀ (f k : Nat) (r : List LNo × Nat), k ≤ l.length → nodesS l f k = some r → FnOk Try.prog 66 [.sl 4 (l.map cTk), .raw (.int .i64 k)] [] (aGot r) []
  | 0, _, _, _, h => by cases h
  | f + 1, k, r, hk, h => nodesG_ok (nodesS l f) l (nodes5_ok l hl f) (l.length + 1) k r hl hk h
set_option maxRecDepth 100000 in
set_option maxHeartbeats 4000000 in
theorem of5_ok (s : ByteArray) (l : List LTk) (ns : List LNo) (ha : ascii s) (hs : s.size ≤ 1000) (h1 : tokS s (s.size + 1) 0 = some l) (hl : l.length ≤ 1000) (h2 : nodesS l (l.length + 1) 0 = some (ns, l.length)) : FnOk Try.prog 42 [.raw (.string s)] [] (.tup [.sl 20 (ns.map cNo), .raw (.int .i64 0), .raw (.int .i64 0)]) [] := by
  have hn : FnOk Try.prog 66 [.sl 4 (l.map cTk), .raw (.int .i64 0)] [] (aGot (ns, l.length)) [] := nodes5_ok l hl (l.length + 1) 0 (ns, l.length) (Nat.zero_le _) h2
  refine fn_of_awp Try.func42 rfl (by kernel_rfl) (by kernel_rfl) (Nat.le_of_ble_eq_true rfl) Try.results42 ?_
  simp only [go_sem, Bool.not_eq_true', Bool.not_eq_false']
  (refine acall2 [] (tok4_ok s l ha hs h1) (by simp only [go_sem, Bool.not_eq_true', Bool.not_eq_false']; rfl) (fit_of (by simp only [go_sem, Bool.not_eq_true', Bool.not_eq_false']) (by simp only [go_sem, Bool.not_eq_true', Bool.not_eq_false']) (by simp only [go_sem, Bool.not_eq_true', Bool.not_eq_false']) (by simp only [go_sem, Bool.not_eq_true', Bool.not_eq_false']) (by simp only [go_sem, Bool.not_eq_true', Bool.not_eq_false']) (by simp only [go_sem, Bool.not_eq_true', Bool.not_eq_false']) (by simp only [go_sem, Bool.not_eq_true', Bool.not_eq_false'])) ?_; simp only [go_sem, Bool.not_eq_true', Bool.not_eq_false', Int.reduceToNat, Int.reduceLT, Int.reduceLE, Int.reduceEq, Int.reduceAdd, Int.reduceSub, Int.reduceMul, Int.reduceNeg, Int.reduceNe, decide_false, Int.cast_ofNat_Int, kSet, List.getElem?_cons_succ, List.getElem?_cons_zero, List.set_cons_succ, List.set_cons_zero, exists_eq_left', forall_const, true_implies])
  (refine acallF2 [40 ] [] ( hn) (by simp only [go_sem, Bool.not_eq_true', Bool.not_eq_false']; rfl) (fit_of (by simp only [go_sem, Bool.not_eq_true', Bool.not_eq_false']) (by simp only [go_sem, Bool.not_eq_true', Bool.not_eq_false']) (by simp only [go_sem, Bool.not_eq_true', Bool.not_eq_false']) (by simp only [go_sem, Bool.not_eq_true', Bool.not_eq_false']) (by simp only [go_sem, Bool.not_eq_true', Bool.not_eq_false']) (by simp only [go_sem, Bool.not_eq_true', Bool.not_eq_false']) (by simp only [go_sem, Bool.not_eq_true', Bool.not_eq_false'])) ?_; simp only [go_sem, Bool.not_eq_true', Bool.not_eq_false', Int.reduceToNat, Int.reduceLT, Int.reduceLE, Int.reduceEq, Int.reduceAdd, Int.reduceSub, Int.reduceMul, Int.reduceNeg, Int.reduceNe, decide_false, Int.cast_ofNat_Int, kSet, List.getElem?_cons_succ, List.getElem?_cons_zero, List.set_cons_succ, List.set_cons_zero, exists_eq_left', forall_const, true_implies, List.length_map])
  refine ⟨fun q => absurd q (by omega), fun _ => ?_⟩
  (refine ret2 [] (by simp only [go_sem, Bool.not_eq_true', Bool.not_eq_false']; rfl) ?_; simp only [go_sem, Bool.not_eq_true', Bool.not_eq_false'])
def asciiB (s : ByteArray) : Bool := (List.range s.size).all (fun q => decide (byteAt s q ≤ 127))
theorem ascii_of (s : ByteArray) (h : asciiB s = true) : ascii s := fun q hq => of_decide_eq_true (List.all_eq_true.1 h q (List.mem_range.2 hq))
def rdS (s : ByteArray) : Option (List LNo) :=
  if asciiB s = true ∧ s.size ≤ 1000 then match tokS s (s.size + 1) 0 with
    | some l => if l.length ≤ 1000 then match nodesS l (l.length + 1) 0 with
      | some (ns, k) => if k = l.length then some ns else none
      | none => none
      else none
    | none => none
  else none
set_option maxRecDepth 100000 in
theorem rdS_ok (s : ByteArray) (ns : List LNo) (h : rdS s = some ns) : FnOk Try.prog 42 [.raw (.string s)] [] (.tup [.sl 20 (ns.map cNo), .raw (.int .i64 0), .raw (.int .i64 0)]) [] := by
  unfold rdS at h
  split at h
  case isFalse => cases h
  next ha =>
  split at h
  case h_2 => cases h
  next l h1 =>
  split at h
  case isFalse => cases h
  next hl =>
  split at h
  case h_2 => cases h
  next q k h2 =>
  split at h
  case isFalse => cases h
  next hk =>
  injection h with h
  subst h
  subst hk
  exact of5_ok s l q (ascii_of s ha.1) ha.2 h1 hl h2
def scr08 : ByteArray := { data := #[91, 105, 53, 32, 40, 49, 48, 32, 50, 32, 51, 48, 41, 91, 105, 54, 48, 32, 123, 51, 32, 52, 125, 93, 93, 123, 49, 32, 49, 125] }
def nds08 : List LNo := [⟨1, 4, ⟨0, 0, 0, 0, 5, 2, 2, 0, 0, 0, 0, 0⟩, 0, 0, [], 0, 0, 0⟩, ⟨2, 1, sty0, 10, 2, [30], 0, 0, 0⟩, ⟨1, 2, ⟨0, 0, 0, 0, 60, 2, 2, 0, 0, 0, 0, 0⟩, 0, 0, [], 0, 0, 0⟩, ⟨3, 1, sty0, 0, 0, [], 0, 3, 4⟩, ⟨3, 1, sty0, 0, 0, [], 0, 1, 1⟩]
end Go.Proofs.Ytblmebjhhanoaaa
/- CHAPTER 15: atoms: what they are asked; which a node holds. -/
/- G -/
/- BOOLS -/
/- GET ex_atA ex_atA' -/
set_option linter.unusedSimpArgs false
set_option linter.unusedVariables false
namespace Go.Proofs.Ytblmebjhhanoaaa
open Go.RowKit

/-- the first place that is so; n: there is none. -/
def firstF (pr : Nat → Bool) : Nat → Nat → Nat
  | 0, k => k
  | n + 1, k => if pr k then k else firstF pr n (k + 1)
def firstP (pr : Nat → Bool) (n : Nat) : Nat := firstF pr n 0
/-- a search under way: ahead of i none is so, from j on all are. -/
structure SrX where
  i : Nat
  j : Nat
def SrInv (pr : Nat → Bool) (n : Nat) (z : SrX) : Prop := z.i ≤ z.j ∧ z.j ≤ n ∧ (∀ k, k < z.i → pr k = false) ∧ (∀ k, z.j ≤ k → k < n → pr k = true)
def geA (l : List LAt) (v : Int) (k : Nat) : Bool := decide (v ≤ (atA l k).node)
/-- the place of the first whose node is not below one. -/
def loA (l : List LAt) (v : Int) : Nat := firstP (geA l v) l.length
def MonoA (l : List LAt) : Prop := ∀ i j : Nat, i ≤ j → j < l.length → (atA l i).node ≤ (atA l j).node
def botA (l : List LAt) (k : Int) : Int := if 0 ≤ k ∧ k < l.length then (atA l k).y + (atA l k).h else 0
def gapA (l : List LAt) (k : Int) : Int := if 0 ≤ k ∧ k < l.length then (atA l k).y - botA l (k - 1) else 0
def ofsA (l : List LAt) (i k : Int) : Int := if (0 ≤ i ∧ i < l.length) ∧ 0 ≤ k ∧ k < l.length then (atA l k).y - (atA l i).y else 0
def higA (l : List LAt) (i k : Int) : Int := if (0 ≤ i ∧ i < l.length) ∧ i < k ∧ k ≤ l.length then (atA l (k - 1)).y + (atA l (k - 1)).h - (atA l i).y else 0
structure WiA where
  a : Nat
  b : Nat
def witA (l : List LAt) (u v : Int) : WiA := if loA l u < loA l v then ⟨loA l u, loA l v⟩ else ⟨0, 0⟩
def winA (ns : List LNo) (l : List LAt) (n : Int) : WiA := if 0 ≤ n ∧ n < ns.length then witA l n (n + (ndN ns n.toNat).size) else ⟨0, 0⟩
def aWi (z : WiA) : AV := .tup [.raw (.int .i64 z.a), .raw (.int .i64 z.b)]
attribute [go_sem] aWi
abbrev wiO (l : List LAt) (v : Int) : List (Nat × AO) := [(1, .cells 25 [.sl 8 (l.map cAt)]), (2, .cells 3 [.raw (.int .i64 v)])]
/-- numbers that may be added. -/
def SmA (l : List LAt) : Prop := ∀ q : Int, 0 ≤ q → q < l.length → (-1125899906842624 ≤ (atA l q).y ∧ (atA l q).y ≤ 1125899906842624) ∧ (-1125899906842624 ≤ (atA l q).h ∧ (atA l q).h ≤ 1125899906842624)
end Go.Proofs.Ytblmebjhhanoaaa
/- CHAPTERS 14, 15: the chapters' examples: scripts, and their galleys. -/
/- G -/
/- BOOLS -/
/- GET ex_atA ex_atA' -/
set_option linter.unusedSimpArgs false
set_option linter.unusedVariables false
namespace Go.Proofs.Ytblmebjhhanoaaa
open Go.RowKit

theorem hw_of {l : List LNo} (h : l.all (fun x => decide (x.words.length ≤ 100)) = true) : ∀ x ∈ l, x.words.length ≤ 9223372036854775807 := fun x hx => by
  have := of_decide_eq_true (List.all_eq_true.1 h x hx)
  omega
def scr15 : ByteArray := { data := #[91, 109, 53, 32, 110, 55, 40, 49, 48, 32, 50, 32, 51, 48, 32, 51, 48, 32, 53, 48, 41, 93, 91, 109, 51, 123, 50, 48, 32, 56, 125, 93] }
def nds15 : List LNo := [⟨1, 2, ⟨5, 7, 0, 0, 0, 2, 2, 0, 0, 0, 0, 0⟩, 0, 0, [], 0, 0, 0⟩, ⟨2, 1, sty0, 10, 2, [30, 30, 50], 0, 0, 0⟩, ⟨1, 2, ⟨3, 0, 0, 0, 0, 2, 2, 0, 0, 0, 0, 0⟩, 0, 0, [], 0, 0, 0⟩, ⟨3, 1, sty0, 0, 0, [], 0, 20, 8⟩]
theorem rd15 : rdS scr15 = some nds15 := by kernel_rfl
theorem w15 : ∀ x ∈ nds15, x.words.length ≤ 9223372036854775807 := hw_of (by kernel_rfl)
def scr14b : ByteArray := { data := #[60, 76, 32, 51, 48, 32, 50, 53, 62, 40, 49, 48, 32, 50, 32, 51, 48, 32, 51, 48, 32, 53, 48, 41] }
def nds14b : List LNo := [⟨4, 1, sty0, 0, 0, [], 1, 30, 25⟩, ⟨2, 1, sty0, 10, 2, [30, 30, 50], 0, 0, 0⟩]
theorem rd14b : rdS scr14b = some nds14b := by kernel_rfl
theorem w14b : ∀ x ∈ nds14b, x.words.length ≤ 9223372036854775807 := hw_of (by kernel_rfl)
def scr14c : ByteArray := { data := #[60, 82, 32, 51, 48, 32, 50, 53, 62, 91, 99, 51, 32, 105, 49, 48, 123, 50, 48, 32, 56, 125, 93] }
def nds14c : List LNo := [⟨4, 1, sty0, 0, 0, [], 2, 30, 25⟩, ⟨1, 2, ⟨0, 0, 0, 0, 10, 2, 2, 0, 0, 0, 0, 3⟩, 0, 0, [], 0, 0, 0⟩, ⟨3, 1, sty0, 0, 0, [], 0, 20, 8⟩]
theorem rd14c : rdS scr14c = some nds14c := by kernel_rfl
theorem w14c : ∀ x ∈ nds14c, x.words.length ≤ 9223372036854775807 := hw_of (by kernel_rfl)
def ats15 : List LAt := [⟨1, 1, 0, 2, 0, 5, 62, 10⟩, ⟨1, 1, 2, 3, 0, 15, 50, 10⟩, ⟨2, 3, 0, 0, 0, 32, 20, 8⟩]
def ats14b : List LAt := [⟨1, 1, 0, 2, 30, 0, 62, 10⟩, ⟨1, 1, 2, 3, 30, 10, 50, 10⟩]
def fls14b : List LFl := [⟨0, 1, 0, 0, 0, 30, 25⟩]
def ats14c : List LAt := [⟨2, 2, 0, 0, 10, 25, 20, 8⟩]
def fls14c : List LFl := [⟨0, 2, 0, 70, 0, 30, 25⟩]
theorem gal15 : resG nds15 100 = ⟨ats15, [], 40⟩ := by kernel_rfl
theorem gal14b : resG nds14b 100 = ⟨ats14b, fls14b, 25⟩ := by kernel_rfl
theorem gal14c : resG nds14c 100 = ⟨ats14c, fls14c, 33⟩ := by kernel_rfl
end Go.Proofs.Ytblmebjhhanoaaa
/- CHAPTER 14: the law FlowGalleys. -/
/- G -/
/- BOOLS -/
set_option linter.unusedSimpArgs false
set_option linter.unusedVariables false
namespace Go.Proofs.Ytblmebjhhanoaaa
open Go.RowKit

def lonB (l : List LNo) : Bool := decide (60 < l.length) || l.any (fun x => decide (60 < x.words.length))
theorem lon_no {l : List LNo} (h : lonB l = false) : l.length ≤ 60 ∧ ∀ x ∈ l, x.words.length ≤ 60 := by
  unfold lonB at h
  rw [Bool.or_eq_false_iff, decide_eq_false_iff_not, List.any_eq_false] at h
  exact ⟨by omega, fun x hx => by have := h.2 x hx; simp only [decide_eq_true_eq] at this; omega⟩
theorem lon_pcs {l : List LNo} (h : ∀ x ∈ l, x.words.length ≤ 60) : ∀ k : Nat, k ≤ l.length → psN l k ≤ 60 * (k : Int)
  | 0, _ => by rw [psN_zero]; omega
  | k + 1, hk => by
    have h1 := lon_pcs h k (by omega)
    have h2 := psN_succ (l := l) (k := k) (by omega)
    have h3 := h l[k] (List.getElem_mem (by omega))
    have h4 : pcsN (ndN l k) ≤ 60 := by
      rw [ndN_get (by omega)]
      unfold pcsN
      split
      · omega
      · split <;> omega
    omega
theorem lon_pall {l : List LNo} (h : l.length ≤ 60 ∧ ∀ x ∈ l, x.words.length ≤ 60) : pall l ≤ 9223372036854775807 := by
  have := lon_pcs h.2 l.length (Nat.le_refl _)
  unfold pall
  omega
set_option maxRecDepth 100000 in
set_option maxHeartbeats 4000000 in
theorem long_ok (l : List LNo) (hw : ∀ x ∈ l, x.words.length ≤ 9223372036854775807) : FnOk Try.prog 7 [.sl 20 (l.map cNo)] [] (.raw (.bool (lonB l))) [] := by
  refine fn_of_swp Try.func7 rfl (by kernel_rfl) (by kernel_rfl) (Nat.le_of_ble_eq_true rfl) Try.results7 ?_
  (refine swp_seqW ?_; simp only [go_sem, Bool.not_eq_true', Bool.not_eq_false'])
  (refine swp_seqW ?_; simp only [go_sem, Bool.not_eq_true', Bool.not_eq_false', List.length_map])
  refine ⟨fun h1 => ?_, fun h1 => ?_⟩
  · have e : lonB l = true := by unfold lonB; rw [decide_eq_true (by omega)]; rfl
    rw [e]
  have e0 : decide (60 < l.length) = false := decide_eq_false (by omega)
  refine swp_cutS (fun _ : Unit => ⟨[], [], none⟩) (fun _ => lonB l = false) 120 ?_ ?_
  · (refine swp_seqW ?_; simp only [go_sem, Bool.not_eq_true', Bool.not_eq_false'])
    refine swp_block ?_
    refine swp_loop2 [] (fun k : Nat => ⟨[(0, .sl 20 (l.map cNo)), (3, .raw (.int .i64 k))], [], none⟩) (fun k => k ≤ l.length ∧ ∀ i (h : i < l.length), i < k → l[i].words.length ≤ 60) (fun k => l.length - k) 120 0 (by simp only [go_sem, Bool.not_eq_true', Bool.not_eq_false']; rfl) (by simp only [go_sem, Bool.not_eq_true', Bool.not_eq_false']) ?_ ?_
    · exact ⟨Nat.zero_le _, fun i _ h => absurd h (Nat.not_lt_zero _)⟩
    rintro k ⟨h2, h3⟩
    (refine swp_seqW ?_; simp only [go_sem, Bool.not_eq_true', Bool.not_eq_false', List.length_map])
    refine ⟨fun h5 => ?_, fun h5 => ?_⟩
    · have hk : k < l.length := by omega
      refine swp_seqS ?_
      refine swp_block ?_
      (refine swp_seqW ?_; simp only [go_sem, Bool.not_eq_true', Bool.not_eq_false', List.length_map])
      refine ⟨by omega, ex_get hk ?_⟩
      (refine swp_condW ?_; simp only [go_sem, Bool.not_eq_true', Bool.not_eq_false'])
      refine ⟨fun h6 => ?_, fun h6 => ?_⟩
      · have e : lonB l = true := by
          unfold lonB
          rw [e0, Bool.false_or, List.any_eq_true]
          exact ⟨_, List.getElem_mem hk, by rw [decide_eq_true_eq]; omega⟩
        rw [e]
        (refine swp_lastW ?_; simp only [go_sem, Bool.not_eq_true', Bool.not_eq_false'])
      · (refine swp_lastW ?_; simp only [go_sem, Bool.not_eq_true', Bool.not_eq_false'])
        (refine swp_lastW ?_; simp only [go_sem, Bool.not_eq_true', Bool.not_eq_false'])
        refine ⟨by omega, ?_⟩
        (refine loop_end [] (k + 1) (by simp only [go_sem, Bool.not_eq_true', Bool.not_eq_false']; rfl) ?_ ?_ ?_; (focus first | omega | (simp only; omega)); (focus (simp only [go_sem, Bool.not_eq_true', Bool.not_eq_false']; done)))
        refine ⟨hk, fun i hi h7 => ?_⟩
        rcases Nat.lt_succ_iff_lt_or_eq.1 h7 with h8 | h8
        · exact h3 i hi h8
        · subst h8; omega
    · (refine cut_end [] (()) (by simp only [go_sem, Bool.not_eq_true', Bool.not_eq_false']; rfl) ?_ ?_; (focus (simp only [go_sem, Bool.not_eq_true', Bool.not_eq_false']; done)))
      unfold lonB
      rw [e0, Bool.false_or, List.any_eq_false]
      intro x hx
      obtain ⟨i, hi, rfl⟩ := List.getElem_of_mem hx
      have := h3 i hi (by omega)
      simp only [decide_eq_true_eq]
      omega
  rintro - h
  rw [h]
  (refine swp_lastW ?_; simp only [go_sem, Bool.not_eq_true', Bool.not_eq_false'])
def aGl (g : LGal) : AV := .agg [.sl 8 (g.a.map cAt), .sl 7 (g.f.map cFl), .raw (.int .i64 g.h)]
attribute [go_sem] aGl
set_option maxRecDepth 100000 in
theorem gsame_ok (g : LGal) (ha : g.a.length ≤ 4000) (hf : g.f.length ≤ 4000) : FnOk Try.prog 25 [aGl g, aGl g] [] (.raw (.bool true)) [] := by
  refine fn_of_awp Try.func25 rfl (by kernel_rfl) (by kernel_rfl) (Nat.le_of_ble_eq_true rfl) Try.results25 ?_
  simp only [go_sem, Bool.not_eq_true', Bool.not_eq_false']
  (refine acall2 [] (same14_ok g.a g.a ha ha) (by simp only [go_sem, Bool.not_eq_true', Bool.not_eq_false']; rfl) (fit_of (by simp only [go_sem, Bool.not_eq_true', Bool.not_eq_false']) (by simp only [go_sem, Bool.not_eq_true', Bool.not_eq_false']) (by simp only [go_sem, Bool.not_eq_true', Bool.not_eq_false']) (by simp only [go_sem, Bool.not_eq_true', Bool.not_eq_false']) (by simp only [go_sem, Bool.not_eq_true', Bool.not_eq_false']) (by simp only [go_sem, Bool.not_eq_true', Bool.not_eq_false']) (by simp only [go_sem, Bool.not_eq_true', Bool.not_eq_false'])) ?_; simp only [go_sem, Bool.not_eq_true', Bool.not_eq_false'])
  (refine acall2 [] (fsame_ok g.f g.f hf hf) (by simp only [go_sem, Bool.not_eq_true', Bool.not_eq_false']; rfl) (fit_of (by simp only [go_sem, Bool.not_eq_true', Bool.not_eq_false']) (by simp only [go_sem, Bool.not_eq_true', Bool.not_eq_false']) (by simp only [go_sem, Bool.not_eq_true', Bool.not_eq_false']) (by simp only [go_sem, Bool.not_eq_true', Bool.not_eq_false']) (by simp only [go_sem, Bool.not_eq_true', Bool.not_eq_false']) (by simp only [go_sem, Bool.not_eq_true', Bool.not_eq_false']) (by simp only [go_sem, Bool.not_eq_true', Bool.not_eq_false'])) ?_; simp only [go_sem, Bool.not_eq_true', Bool.not_eq_false'])
set_option maxRecDepth 100000 in
theorem laid_ok (s : ByteArray) (l : List LNo) (g : LGal) (hr : rdS s = some l) (hl : l.length ≤ 60) (hw : ∀ x ∈ l, x.words.length ≤ 9223372036854775807) (hp : pall l ≤ 9223372036854775807) (hg : resG l 100 = g) : FnOk Try.prog 26 [.raw (.string s)] [] (aGal g 8 9) [(8, .row 41 8 (g.a.map cAt)), (9, .row 39 7 (g.f.map cFl))] := by
  have h := of14_ok l 100 hl hw hp
  rw [hg] at h
  refine fn_of_awp Try.func26 rfl (by kernel_rfl) (by kernel_rfl) (Nat.le_of_ble_eq_true rfl) Try.results26 ?_
  simp only [go_sem, Bool.not_eq_true', Bool.not_eq_false']
  (refine acall2 [] (rdS_ok s l hr) (by simp only [go_sem, Bool.not_eq_true', Bool.not_eq_false']; rfl) (fit_of (by simp only [go_sem, Bool.not_eq_true', Bool.not_eq_false']) (by simp only [go_sem, Bool.not_eq_true', Bool.not_eq_false']) (by simp only [go_sem, Bool.not_eq_true', Bool.not_eq_false']) (by simp only [go_sem, Bool.not_eq_true', Bool.not_eq_false']) (by simp only [go_sem, Bool.not_eq_true', Bool.not_eq_false']) (by simp only [go_sem, Bool.not_eq_true', Bool.not_eq_false']) (by simp only [go_sem, Bool.not_eq_true', Bool.not_eq_false'])) ?_; simp only [go_sem, Bool.not_eq_true', Bool.not_eq_false'])
  (refine acall2 [] (h) (by simp only [go_sem, Bool.not_eq_true', Bool.not_eq_false']; rfl) (fit_of (by simp only [go_sem, Bool.not_eq_true', Bool.not_eq_false']) (by simp only [go_sem, Bool.not_eq_true', Bool.not_eq_false']) (by simp only [go_sem, Bool.not_eq_true', Bool.not_eq_false']) (by simp only [go_sem, Bool.not_eq_true', Bool.not_eq_false']) (by simp only [go_sem, Bool.not_eq_true', Bool.not_eq_false']) (by simp only [go_sem, Bool.not_eq_true', Bool.not_eq_false']) (by simp only [go_sem, Bool.not_eq_true', Bool.not_eq_false'])) ?_; simp only [go_sem, Bool.not_eq_true', Bool.not_eq_false'])
  (refine ret2 [] (by simp only [go_sem, Bool.not_eq_true', Bool.not_eq_false']; rfl) ?_; simp only [go_sem, Bool.not_eq_true', Bool.not_eq_false'])
set_option maxRecDepth 100000 in
theorem line_ok (n f t x y w : Int) : FnOk Try.prog 23 [.raw (.int .i64 n), .raw (.int .i64 f), .raw (.int .i64 t), .raw (.int .i64 x), .raw (.int .i64 y), .raw (.int .i64 w)] [] (aAt ⟨1, n, f, t, x, y, w, 10⟩) [] := by
  refine fn_of_awp Try.func23 rfl (by kernel_rfl) (by kernel_rfl) (Nat.le_of_ble_eq_true rfl) Try.results23 ?_
  simp only [go_sem, Bool.not_eq_true', Bool.not_eq_false']
set_option maxRecDepth 100000 in
theorem box_ok (n x y : Int) : FnOk Try.prog 24 [.raw (.int .i64 n), .raw (.int .i64 x), .raw (.int .i64 y)] [] (aAt ⟨2, n, 0, 0, x, y, 20, 8⟩) [] := by
  refine fn_of_awp Try.func24 rfl (by kernel_rfl) (by kernel_rfl) (Nat.le_of_ble_eq_true rfl) Try.results24 ?_
  simp only [go_sem, Bool.not_eq_true', Bool.not_eq_false']
set_option maxRecDepth 100000 in
set_option maxHeartbeats 8000000 in
theorem awake14_ok : FnOk Try.prog 8 [] [] (.raw (.bool true)) [] := by
  have l15 := laid_ok scr15 nds15 _ rd15 (Nat.le_of_ble_eq_true rfl) w15 (of_decide_eq_true (by kernel_rfl)) gal15
  have l14b := laid_ok scr14b nds14b _ rd14b (Nat.le_of_ble_eq_true rfl) w14b (of_decide_eq_true (by kernel_rfl)) gal14b
  have l14c := laid_ok scr14c nds14c _ rd14c (Nat.le_of_ble_eq_true rfl) w14c (of_decide_eq_true (by kernel_rfl)) gal14c
  have g15 := gsame_ok ⟨ats15, [], 40⟩ (Nat.le_of_ble_eq_true rfl) (Nat.le_of_ble_eq_true rfl)
  have g14b := gsame_ok ⟨ats14b, fls14b, 25⟩ (Nat.le_of_ble_eq_true rfl) (Nat.le_of_ble_eq_true rfl)
  have g14c := gsame_ok ⟨ats14c, fls14c, 33⟩ (Nat.le_of_ble_eq_true rfl) (Nat.le_of_ble_eq_true rfl)
  unfold scr15 at l15
  unfold scr14b at l14b
  unfold scr14c at l14c
  simp only [aGl, aGal, ats15, ats14b, ats14c, fls14b, fls14c, List.map_cons, List.map_nil, cAt, cFl] at l15 l14b l14c g15 g14b g14c
  refine fn_of_swp Try.func8 rfl (by kernel_rfl) (by kernel_rfl) (Nat.le_of_ble_eq_true rfl) Try.results8 ?_
  (refine swp_seqW ?_; simp only [go_sem, Bool.not_eq_true', Bool.not_eq_false'])
  (refine swp_seqW ?_; simp only [go_sem, Bool.not_eq_true', Bool.not_eq_false'])
  (refine acall2 [] (line_ok 1 0 2 0 5 62) (by simp only [go_sem, Bool.not_eq_true', Bool.not_eq_false']; rfl) (fit_of (by simp only [go_sem, Bool.not_eq_true', Bool.not_eq_false']) (by simp only [go_sem, Bool.not_eq_true', Bool.not_eq_false']) (by simp only [go_sem, Bool.not_eq_true', Bool.not_eq_false']) (by simp only [go_sem, Bool.not_eq_true', Bool.not_eq_false']) (by simp only [go_sem, Bool.not_eq_true', Bool.not_eq_false']) (by simp only [go_sem, Bool.not_eq_true', Bool.not_eq_false']) (by simp only [go_sem, Bool.not_eq_true', Bool.not_eq_false'])) ?_; simp only [go_sem, Bool.not_eq_true', Bool.not_eq_false'])
  (refine acall2 [] (line_ok 1 2 3 0 15 50) (by simp only [go_sem, Bool.not_eq_true', Bool.not_eq_false']; rfl) (fit_of (by simp only [go_sem, Bool.not_eq_true', Bool.not_eq_false']) (by simp only [go_sem, Bool.not_eq_true', Bool.not_eq_false']) (by simp only [go_sem, Bool.not_eq_true', Bool.not_eq_false']) (by simp only [go_sem, Bool.not_eq_true', Bool.not_eq_false']) (by simp only [go_sem, Bool.not_eq_true', Bool.not_eq_false']) (by simp only [go_sem, Bool.not_eq_true', Bool.not_eq_false']) (by simp only [go_sem, Bool.not_eq_true', Bool.not_eq_false'])) ?_; simp only [go_sem, Bool.not_eq_true', Bool.not_eq_false'])
  (refine acall2 [] (box_ok 3 0 32) (by simp only [go_sem, Bool.not_eq_true', Bool.not_eq_false']; rfl) (fit_of (by simp only [go_sem, Bool.not_eq_true', Bool.not_eq_false']) (by simp only [go_sem, Bool.not_eq_true', Bool.not_eq_false']) (by simp only [go_sem, Bool.not_eq_true', Bool.not_eq_false']) (by simp only [go_sem, Bool.not_eq_true', Bool.not_eq_false']) (by simp only [go_sem, Bool.not_eq_true', Bool.not_eq_false']) (by simp only [go_sem, Bool.not_eq_true', Bool.not_eq_false']) (by simp only [go_sem, Bool.not_eq_true', Bool.not_eq_false'])) ?_; simp only [go_sem, Bool.not_eq_true', Bool.not_eq_false'])
  (refine swp_seqW ?_; simp only [go_sem, Bool.not_eq_true', Bool.not_eq_false'])
  (refine acall2 [] (line_ok 1 0 2 30 0 62) (by simp only [go_sem, Bool.not_eq_true', Bool.not_eq_false']; rfl) (fit_of (by simp only [go_sem, Bool.not_eq_true', Bool.not_eq_false']) (by simp only [go_sem, Bool.not_eq_true', Bool.not_eq_false']) (by simp only [go_sem, Bool.not_eq_true', Bool.not_eq_false']) (by simp only [go_sem, Bool.not_eq_true', Bool.not_eq_false']) (by simp only [go_sem, Bool.not_eq_true', Bool.not_eq_false']) (by simp only [go_sem, Bool.not_eq_true', Bool.not_eq_false']) (by simp only [go_sem, Bool.not_eq_true', Bool.not_eq_false'])) ?_; simp only [go_sem, Bool.not_eq_true', Bool.not_eq_false'])
  (refine acall2 [] (line_ok 1 2 3 30 10 50) (by simp only [go_sem, Bool.not_eq_true', Bool.not_eq_false']; rfl) (fit_of (by simp only [go_sem, Bool.not_eq_true', Bool.not_eq_false']) (by simp only [go_sem, Bool.not_eq_true', Bool.not_eq_false']) (by simp only [go_sem, Bool.not_eq_true', Bool.not_eq_false']) (by simp only [go_sem, Bool.not_eq_true', Bool.not_eq_false']) (by simp only [go_sem, Bool.not_eq_true', Bool.not_eq_false']) (by simp only [go_sem, Bool.not_eq_true', Bool.not_eq_false']) (by simp only [go_sem, Bool.not_eq_true', Bool.not_eq_false'])) ?_; simp only [go_sem, Bool.not_eq_true', Bool.not_eq_false'])
  (refine swp_seqW ?_; simp only [go_sem, Bool.not_eq_true', Bool.not_eq_false'])
  (refine acall2 [] (box_ok 2 10 25) (by simp only [go_sem, Bool.not_eq_true', Bool.not_eq_false']; rfl) (fit_of (by simp only [go_sem, Bool.not_eq_true', Bool.not_eq_false']) (by simp only [go_sem, Bool.not_eq_true', Bool.not_eq_false']) (by simp only [go_sem, Bool.not_eq_true', Bool.not_eq_false']) (by simp only [go_sem, Bool.not_eq_true', Bool.not_eq_false']) (by simp only [go_sem, Bool.not_eq_true', Bool.not_eq_false']) (by simp only [go_sem, Bool.not_eq_true', Bool.not_eq_false']) (by simp only [go_sem, Bool.not_eq_true', Bool.not_eq_false'])) ?_; simp only [go_sem, Bool.not_eq_true', Bool.not_eq_false'])
  (refine swp_lastW ?_; simp only [go_sem, Bool.not_eq_true', Bool.not_eq_false'])
  (refine acall2 [] (l15) (by simp only [go_sem, Bool.not_eq_true', Bool.not_eq_false']; rfl) (fit_of (by simp only [go_sem, Bool.not_eq_true', Bool.not_eq_false']) (by simp only [go_sem, Bool.not_eq_true', Bool.not_eq_false']) (by simp only [go_sem, Bool.not_eq_true', Bool.not_eq_false']) (by simp only [go_sem, Bool.not_eq_true', Bool.not_eq_false']) (by simp only [go_sem, Bool.not_eq_true', Bool.not_eq_false']) (by simp only [go_sem, Bool.not_eq_true', Bool.not_eq_false']) (by simp only [go_sem, Bool.not_eq_true', Bool.not_eq_false'])) ?_; simp only [go_sem, Bool.not_eq_true', Bool.not_eq_false'])
  (refine acallF2 [192, 193, 40, 48 ] [] ( g15) (by simp only [go_sem, Bool.not_eq_true', Bool.not_eq_false']; rfl) (fit_of (by simp only [go_sem, Bool.not_eq_true', Bool.not_eq_false']) (by simp only [go_sem, Bool.not_eq_true', Bool.not_eq_false']) (by simp only [go_sem, Bool.not_eq_true', Bool.not_eq_false']) (by simp only [go_sem, Bool.not_eq_true', Bool.not_eq_false']) (by simp only [go_sem, Bool.not_eq_true', Bool.not_eq_false']) (by simp only [go_sem, Bool.not_eq_true', Bool.not_eq_false']) (by simp only [go_sem, Bool.not_eq_true', Bool.not_eq_false'])) ?_; simp only [go_sem, Bool.not_eq_true', Bool.not_eq_false'])
  (refine acall2 [] (l14b) (by simp only [go_sem, Bool.not_eq_true', Bool.not_eq_false']; rfl) (fit_of (by simp only [go_sem, Bool.not_eq_true', Bool.not_eq_false']) (by simp only [go_sem, Bool.not_eq_true', Bool.not_eq_false']) (by simp only [go_sem, Bool.not_eq_true', Bool.not_eq_false']) (by simp only [go_sem, Bool.not_eq_true', Bool.not_eq_false']) (by simp only [go_sem, Bool.not_eq_true', Bool.not_eq_false']) (by simp only [go_sem, Bool.not_eq_true', Bool.not_eq_false']) (by simp only [go_sem, Bool.not_eq_true', Bool.not_eq_false'])) ?_; simp only [go_sem, Bool.not_eq_true', Bool.not_eq_false'])
  (refine acallF2 [224, 225, 88, 104 ] [] ( g14b) (by simp only [go_sem, Bool.not_eq_true', Bool.not_eq_false']; rfl) (fit_of (by simp only [go_sem, Bool.not_eq_true', Bool.not_eq_false']) (by simp only [go_sem, Bool.not_eq_true', Bool.not_eq_false']) (by simp only [go_sem, Bool.not_eq_true', Bool.not_eq_false']) (by simp only [go_sem, Bool.not_eq_true', Bool.not_eq_false']) (by simp only [go_sem, Bool.not_eq_true', Bool.not_eq_false']) (by simp only [go_sem, Bool.not_eq_true', Bool.not_eq_false']) (by simp only [go_sem, Bool.not_eq_true', Bool.not_eq_false'])) ?_; simp only [go_sem, Bool.not_eq_true', Bool.not_eq_false'])
  (refine acall2 [] (l14c) (by simp only [go_sem, Bool.not_eq_true', Bool.not_eq_false']; rfl) (fit_of (by simp only [go_sem, Bool.not_eq_true', Bool.not_eq_false']) (by simp only [go_sem, Bool.not_eq_true', Bool.not_eq_false']) (by simp only [go_sem, Bool.not_eq_true', Bool.not_eq_false']) (by simp only [go_sem, Bool.not_eq_true', Bool.not_eq_false']) (by simp only [go_sem, Bool.not_eq_true', Bool.not_eq_false']) (by simp only [go_sem, Bool.not_eq_true', Bool.not_eq_false']) (by simp only [go_sem, Bool.not_eq_true', Bool.not_eq_false'])) ?_; simp only [go_sem, Bool.not_eq_true', Bool.not_eq_false'])
  (refine acallF2 [264, 265, 144, 160 ] [] ( g14c) (by simp only [go_sem, Bool.not_eq_true', Bool.not_eq_false']; rfl) (fit_of (by simp only [go_sem, Bool.not_eq_true', Bool.not_eq_false']) (by simp only [go_sem, Bool.not_eq_true', Bool.not_eq_false']) (by simp only [go_sem, Bool.not_eq_true', Bool.not_eq_false']) (by simp only [go_sem, Bool.not_eq_true', Bool.not_eq_false']) (by simp only [go_sem, Bool.not_eq_true', Bool.not_eq_false']) (by simp only [go_sem, Bool.not_eq_true', Bool.not_eq_false']) (by simp only [go_sem, Bool.not_eq_true', Bool.not_eq_false'])) ?_; simp only [go_sem, Bool.not_eq_true', Bool.not_eq_false'])
  repeat' first | contradiction | intro _ | refine And.intro ?_ ?_ | refine ex_get (by omega) ?_ | (show drawB _ _ = true; kernel_rfl) | (refine ret2 [] (by simp only [go_sem, Bool.not_eq_true', Bool.not_eq_false']; rfl) ?_; simp only [go_sem, Bool.not_eq_true', Bool.not_eq_false'])
end Go.Proofs.Ytblmebjhhanoaaa
/- CHAPTER 14: the law FlowApart. -/
/- G -/
/- BOOLS -/
set_option linter.unusedSimpArgs false
set_option linter.unusedVariables false
namespace Go.Proofs.Ytblmebjhhanoaaa
open Go.RowKit

def stA (l : List LNo) (w : Int) (g : LGal) (rms : List LRm) (more : List (Nat × AV)) (ob : List (Nat × Option AO)) : AS :=
  ⟨[(0, .sl 20 (l.map cNo)), (1, .raw (.int .i64 w)), (5, .hdr 800), (7, .hdr 801)] ++ more, [(800, some (.cells 28 [.sl 8 (g.a.map cAt), .sl 7 (g.f.map cFl), .raw (.int .i64 g.h)])), (801, some (.row 47 2 (rms.map cRm)))] ++ ob, none⟩
attribute [go_sem] stA
set_option maxRecDepth 100000 in
set_option maxHeartbeats 16000000 in
theorem flowApart_ok (l : List LNo) (w : Int) (hi : l.length ≤ 9223372036854775807 ∧ ∀ x ∈ l, x.words.length ≤ 9223372036854775807) : FnOk Try.prog 4 [.sl 20 (l.map cNo), .raw (.int .i64 w)] [] (.raw (.bool true)) [] := by
  obtain ⟨-, hw⟩ := hi
  refine fn_of_swp Try.func4 rfl (by kernel_rfl) (by kernel_rfl) (Nat.le_of_ble_eq_true rfl) Try.results4 ?_
  (refine swp_seqW ?_; simp only [go_sem, Bool.not_eq_true', Bool.not_eq_false'])
  (refine swp_seqW ?_; simp only [go_sem, Bool.not_eq_true', Bool.not_eq_false'])
  (refine acall2 [] (long_ok l hw) (by simp only [go_sem, Bool.not_eq_true', Bool.not_eq_false']; rfl) (fit_of (by simp only [go_sem, Bool.not_eq_true', Bool.not_eq_false']) (by simp only [go_sem, Bool.not_eq_true', Bool.not_eq_false']) (by simp only [go_sem, Bool.not_eq_true', Bool.not_eq_false']) (by simp only [go_sem, Bool.not_eq_true', Bool.not_eq_false']) (by simp only [go_sem, Bool.not_eq_true', Bool.not_eq_false']) (by simp only [go_sem, Bool.not_eq_true', Bool.not_eq_false']) (by simp only [go_sem, Bool.not_eq_true', Bool.not_eq_false'])) ?_; simp only [go_sem, Bool.not_eq_true', Bool.not_eq_false'])
  refine ⟨fun h1 => ?_, fun h1 => ?_⟩
  · (refine acall2 [] (awake14_ok) (by simp only [go_sem, Bool.not_eq_true', Bool.not_eq_false']; rfl) (fit_of (by simp only [go_sem, Bool.not_eq_true', Bool.not_eq_false']) (by simp only [go_sem, Bool.not_eq_true', Bool.not_eq_false']) (by simp only [go_sem, Bool.not_eq_true', Bool.not_eq_false']) (by simp only [go_sem, Bool.not_eq_true', Bool.not_eq_false']) (by simp only [go_sem, Bool.not_eq_true', Bool.not_eq_false']) (by simp only [go_sem, Bool.not_eq_true', Bool.not_eq_false']) (by simp only [go_sem, Bool.not_eq_true', Bool.not_eq_false'])) ?_; simp only [go_sem, Bool.not_eq_true', Bool.not_eq_false'])
  have hn := lon_no h1
  have hp := lon_pall hn
  have hl := hn.1
  obtain ⟨r1, r2, r3, r4⟩ := res_len (w := w) hl
  (refine swp_seqW ?_; simp only [go_sem, Bool.not_eq_true', Bool.not_eq_false'])
  (refine acall2 [] (of14_ok l w hl hw hp) (by simp only [go_sem, Bool.not_eq_true', Bool.not_eq_false']; rfl) (fit_of (by simp only [go_sem, Bool.not_eq_true', Bool.not_eq_false']) (by simp only [go_sem, Bool.not_eq_true', Bool.not_eq_false']) (by simp only [go_sem, Bool.not_eq_true', Bool.not_eq_false']) (by simp only [go_sem, Bool.not_eq_true', Bool.not_eq_false']) (by simp only [go_sem, Bool.not_eq_true', Bool.not_eq_false']) (by simp only [go_sem, Bool.not_eq_true', Bool.not_eq_false']) (by simp only [go_sem, Bool.not_eq_true', Bool.not_eq_false'])) ?_; simp only [go_sem, Bool.not_eq_true', Bool.not_eq_false'])
  by_cases he : errG l w = 0
  rotate_left
  · (refine swp_seqW ?_; simp only [go_sem, Bool.not_eq_true', Bool.not_eq_false'])
    repeat' first | contradiction | intro _ | refine And.intro ?_ ?_ | refine ex_get (by omega) ?_ | (show drawB _ _ = true; kernel_rfl) | (refine ret2 [] (by simp only [go_sem, Bool.not_eq_true', Bool.not_eq_false']; rfl) ?_; simp only [go_sem, Bool.not_eq_true', Bool.not_eq_false']) | (refine acall2 [] (awake14_ok) (by simp only [go_sem, Bool.not_eq_true', Bool.not_eq_false']; rfl) (fit_of (by simp only [go_sem, Bool.not_eq_true', Bool.not_eq_false']) (by simp only [go_sem, Bool.not_eq_true', Bool.not_eq_false']) (by simp only [go_sem, Bool.not_eq_true', Bool.not_eq_false']) (by simp only [go_sem, Bool.not_eq_true', Bool.not_eq_false']) (by simp only [go_sem, Bool.not_eq_true', Bool.not_eq_false']) (by simp only [go_sem, Bool.not_eq_true', Bool.not_eq_false']) (by simp only [go_sem, Bool.not_eq_true', Bool.not_eq_false'])) ?_; simp only [go_sem, Bool.not_eq_true', Bool.not_eq_false'])
    all_goals first
      | omega
      | skip
  have hR := res_ap hl he
  have hP := errG_ok hl he
  have hrm := rooms_eq hP.v w
  have hrs : rmsN l w = rmsR l w l.length := if_pos hP.w
  have hdn : docN l = l := by simp [docN, hP.v]
  have hroo := rooms8_ok l w (by omega) hw (isS_ins hP.v) (by rw [hdn]; exact isS_nst hP.v)
  rw [hrm, hrs] at hroo
  have hrl : (rmsR l w l.length).length = l.length := by simp [rmsR]
  have hrg : ∀ j : Nat, j < l.length → (rmsR l w l.length)[j]? = some (rmR l w l.length j) := fun j hj => by simp [rmsR, hj]
  have hrb := fun j : Nat => rmR_ok' hP j
  generalize hg : resG l w = g at *
  rw [he]
  (refine swp_seqW ?_; simp only [go_sem, Bool.not_eq_true', Bool.not_eq_false'])
  (refine swp_seqW ?_; simp only [go_sem, Bool.not_eq_true', Bool.not_eq_false'])
  (refine acall2 [] (hroo) (by simp only [go_sem, Bool.not_eq_true', Bool.not_eq_false']; rfl) (fit_of (by simp only [go_sem, Bool.not_eq_true', Bool.not_eq_false']) (by simp only [go_sem, Bool.not_eq_true', Bool.not_eq_false']) (by simp only [go_sem, Bool.not_eq_true', Bool.not_eq_false']) (by simp only [go_sem, Bool.not_eq_true', Bool.not_eq_false']) (by simp only [go_sem, Bool.not_eq_true', Bool.not_eq_false']) (by simp only [go_sem, Bool.not_eq_true', Bool.not_eq_false']) (by simp only [go_sem, Bool.not_eq_true', Bool.not_eq_false'])) ?_; simp only [go_sem, Bool.not_eq_true', Bool.not_eq_false'])
  generalize rmsR l w l.length = rms at *
  (refine swp_seqW ?_; simp only [go_sem, Bool.not_eq_true', Bool.not_eq_false', List.length_map])
  refine ⟨fun q => absurd q (by omega), fun _ => ?_⟩
  refine swp_cutS (fun _ : Unit => stA l w g rms [] []) (fun _ => True) 120 ?_ ?_
  · (refine swp_seqW ?_; simp only [go_sem, Bool.not_eq_true', Bool.not_eq_false'])
    refine swp_block ?_
    refine swp_loop2 [48, 49 ]  (fun i : Nat => stA l w g rms [(8, .raw (.int .i64 i))] []) (fun i => i ≤ g.a.length) (fun i => g.a.length - i) 120 0 (by simp only [go_sem, Bool.not_eq_true', Bool.not_eq_false']; rfl) (by simp only [go_sem, Bool.not_eq_true', Bool.not_eq_false']) ?_ ?_
    · exact Nat.zero_le _
    intro i hi
    (refine swp_seqW ?_; simp only [go_sem, Bool.not_eq_true', Bool.not_eq_false', List.length_map])
    refine ⟨fun h5 => ?_, fun h5 => ?_⟩
    rotate_left
    · (refine cut_end [] (()) (by simp only [go_sem, Bool.not_eq_true', Bool.not_eq_false']; rfl) ?_ ?_; (focus (simp only [go_sem, Bool.not_eq_true', Bool.not_eq_false']; done)))
      trivial
    have hil : i < g.a.length := by omega
    obtain ⟨j, j1, j2, a1, a2, a3, a4, a5⟩ := hR.at_ g.a[i] (List.getElem_mem hil)
    have hrj := hrg j j2
    have hbj := hrb j
    unfold okR at hbj
    have hat : g.a[i]? = some g.a[i] := List.getElem?_eq_getElem hil
    generalize g.a[i] = a at *
    generalize rmR l w l.length j = rm at *
    refine swp_seqS ?_
    refine swp_block ?_
    (refine swp_seqW ?_; simp only [go_sem, Bool.not_eq_true', Bool.not_eq_false', List.length_map])
    refine ⟨⟨by omega, by omega⟩, a, hat, ?_⟩
    refine swp_seqS ?_
    (refine swp_seqW ?_; simp only [go_sem, Bool.not_eq_true', Bool.not_eq_false', j1, List.length_map])
    refine ⟨fun _ => ?_, fun q => absurd q (by omega)⟩
    (refine swp_condW ?_; simp only [go_sem, Bool.not_eq_true', Bool.not_eq_false'])
    refine ⟨fun q => absurd q (by omega), fun _ => ?_⟩
    (refine swp_lastW ?_; simp only [go_sem, Bool.not_eq_true', Bool.not_eq_false'])
    (refine swp_seqW ?_; simp only [go_sem, Bool.not_eq_true', Bool.not_eq_false', j1, List.length_map])
    refine ⟨⟨by omega, by omega⟩, rm, hrj, ?_⟩
    refine swp_seqS ?_
    (refine swp_seqW ?_; simp only [go_sem, Bool.not_eq_true', Bool.not_eq_false'])
    (refine swp_condW ?_; simp only [go_sem, Bool.not_eq_true', Bool.not_eq_false'])
    refine ⟨fun q => ?_, fun q => ?_⟩
    · (refine swp_lastW ?_; simp only [go_sem, Bool.not_eq_true', Bool.not_eq_false'])
      (refine swp_lastW ?_; simp only [go_sem, Bool.not_eq_true', Bool.not_eq_false'])
      refine ⟨by omega, ?_⟩
      (refine loop_end [] (i + 1) (by simp only [go_sem, Bool.not_eq_true', Bool.not_eq_false']; rfl) ?_ ?_ ?_; (focus first | omega | (simp only; omega)); (focus (simp only [go_sem, Bool.not_eq_true', Bool.not_eq_false']; done)))
      omega
    obtain ⟨b1, b2, b3⟩ := a5 (by omega)
    (refine swp_lastW ?_; simp only [go_sem, Bool.not_eq_true', Bool.not_eq_false'])
    refine swp_seqS ?_
    (refine swp_seqW ?_; simp only [go_sem, Bool.not_eq_true', Bool.not_eq_false'])
    refine ⟨fun _ => ⟨⟨by omega, by omega⟩, ⟨by omega, by omega⟩, ?_⟩, fun q => absurd q (by omega)⟩
    (refine swp_condW ?_; simp only [go_sem, Bool.not_eq_true', Bool.not_eq_false'])
    refine ⟨fun q => absurd q (by omega), fun _ => ?_⟩
    (refine swp_lastW ?_; simp only [go_sem, Bool.not_eq_true', Bool.not_eq_false'])
    (refine swp_seqW ?_; simp only [go_sem, Bool.not_eq_true', Bool.not_eq_false'])
    refine swp_block ?_
    refine swp_loop2 [] (fun k : Nat => stA l w g rms [(8, .raw (.int .i64 i)), (9, .hdr 802), (11, .raw (.int .i64 k))] [(802, some (.cells 41 [.raw (.int .i64 a.kind), .raw (.int .i64 j), .raw (.int .i64 a.fr), .raw (.int .i64 a.to), .raw (.int .i64 a.x), .raw (.int .i64 a.y), .raw (.int .i64 a.w), .raw (.int .i64 a.h)]))]) (fun k => k ≤ g.f.length) (fun k => g.f.length - k) 160 0 (by simp only [go_sem, Bool.not_eq_true', Bool.not_eq_false']; rfl) (by simp only [go_sem, Bool.not_eq_true', Bool.not_eq_false']) ?_ ?_
    · exact Nat.zero_le _
    intro k hk
    (refine swp_seqW ?_; simp only [go_sem, Bool.not_eq_true', Bool.not_eq_false', List.length_map])
    refine ⟨fun h6 => ?_, fun h6 => ?_⟩
    rotate_left
    · (refine swp_lastW ?_; simp only [go_sem, Bool.not_eq_true', Bool.not_eq_false'])
      refine ⟨by omega, ?_⟩
      (refine loop_end [] (i + 1) (by simp only [go_sem, Bool.not_eq_true', Bool.not_eq_false']; rfl) ?_ ?_ ?_; (focus first | omega | (simp only; omega)); (focus (simp only [go_sem, Bool.not_eq_true', Bool.not_eq_false']; done)))
      omega
    have hkl : k < g.f.length := by omega
    obtain ⟨m, m1, m2, c1, c2, c3, c4, c5, c6⟩ := hR.fn g.f[k] (List.getElem_mem hkl)
    have hap := ap_meet (b3 g.f[k] (List.getElem_mem hkl))
    have hft : g.f[k]? = some g.f[k] := List.getElem?_eq_getElem hkl
    generalize g.f[k] = f at *
    have hmt := rmeet_ok ⟨a.x, a.y, a.w, a.h⟩ ⟨f.x, f.y, f.w, f.h⟩ (nearR_iff.2 ⟨⟨by simp only; omega, by simp only; omega⟩, ⟨by simp only; omega, by simp only; omega⟩, ⟨by simp only; omega, by simp only; omega⟩, by simp only; omega, by simp only; omega⟩) (nearR_iff.2 ⟨⟨by simp only; omega, by simp only; omega⟩, ⟨by simp only; omega, by simp only; omega⟩, ⟨by simp only; omega, by simp only; omega⟩, by simp only; omega, by simp only; omega⟩)
    rw [hap] at hmt
    refine swp_seqS ?_
    refine swp_block ?_
    (refine swp_seqW ?_; simp only [go_sem, Bool.not_eq_true', Bool.not_eq_false', List.length_map])
    refine ⟨⟨by omega, by omega⟩, f, hft, ?_⟩
    (refine swp_seqW ?_; simp only [go_sem, Bool.not_eq_true', Bool.not_eq_false'])
    (refine acall2 [] (hmt) (by simp only [go_sem, Bool.not_eq_true', Bool.not_eq_false']; rfl) (fit_of (by simp only [go_sem, Bool.not_eq_true', Bool.not_eq_false']) (by simp only [go_sem, Bool.not_eq_true', Bool.not_eq_false']) (by simp only [go_sem, Bool.not_eq_true', Bool.not_eq_false']) (by simp only [go_sem, Bool.not_eq_true', Bool.not_eq_false']) (by simp only [go_sem, Bool.not_eq_true', Bool.not_eq_false']) (by simp only [go_sem, Bool.not_eq_true', Bool.not_eq_false']) (by simp only [go_sem, Bool.not_eq_true', Bool.not_eq_false'])) ?_; simp only [go_sem, Bool.not_eq_true', Bool.not_eq_false'])
    (refine swp_condW ?_; simp only [go_sem, Bool.not_eq_true', Bool.not_eq_false'])
    (refine swp_lastW ?_; simp only [go_sem, Bool.not_eq_true', Bool.not_eq_false'])
    (refine swp_lastW ?_; simp only [go_sem, Bool.not_eq_true', Bool.not_eq_false'])
    refine ⟨by omega, ?_⟩
    (refine loop_end [] (k + 1) (by simp only [go_sem, Bool.not_eq_true', Bool.not_eq_false']; rfl) ?_ ?_ ?_; (focus first | omega | (simp only; omega)); (focus (simp only [go_sem, Bool.not_eq_true', Bool.not_eq_false']; done)))
    omega
  rintro - -
  refine swp_cutS (fun _ : Unit => stA l w g rms [] []) (fun _ => True) 220 ?_ ?_
  · (refine swp_seqW ?_; simp only [go_sem, Bool.not_eq_true', Bool.not_eq_false'])
    refine swp_block ?_
    refine swp_loop2 [] (fun i : Nat => stA l w g rms [(13, .raw (.int .i64 i))] []) (fun i => i ≤ g.f.length) (fun i => g.f.length - i) 220 0 (by simp only [go_sem, Bool.not_eq_true', Bool.not_eq_false']; rfl) (by simp only [go_sem, Bool.not_eq_true', Bool.not_eq_false']) ?_ ?_
    · exact Nat.zero_le _
    intro i hi
    (refine swp_seqW ?_; simp only [go_sem, Bool.not_eq_true', Bool.not_eq_false', List.length_map])
    refine ⟨fun h5 => ?_, fun h5 => ?_⟩
    rotate_left
    · (refine cut_end [] (()) (by simp only [go_sem, Bool.not_eq_true', Bool.not_eq_false']; rfl) ?_ ?_; (focus (simp only [go_sem, Bool.not_eq_true', Bool.not_eq_false']; done)))
      trivial
    have hil : i < g.f.length := by omega
    obtain ⟨j, j1, j2, a1, a2, a3, a4, a5, a6⟩ := hR.fn g.f[i] (List.getElem_mem hil)
    have hrj := hrg j j2
    have hbj := hrb j
    unfold okR at hbj
    have hat : g.f[i]? = some g.f[i] := List.getElem?_eq_getElem hil
    have hfl := fun k (hk : k < i) b (hb : g.f[k]? = some b) => hR.fl k i g.f[i] b hk hat hb j j1
    generalize g.f[i] = a at *
    generalize rmR l w l.length j = rm at *
    refine swp_seqS ?_
    refine swp_block ?_
    (refine swp_seqW ?_; simp only [go_sem, Bool.not_eq_true', Bool.not_eq_false', List.length_map])
    refine ⟨⟨by omega, by omega⟩, a, hat, ?_⟩
    refine swp_seqS ?_
    (refine swp_seqW ?_; simp only [go_sem, Bool.not_eq_true', Bool.not_eq_false', j1, List.length_map])
    refine ⟨fun _ => ?_, fun q => absurd q (by omega)⟩
    (refine swp_condW ?_; simp only [go_sem, Bool.not_eq_true', Bool.not_eq_false'])
    refine ⟨fun q => absurd q (by omega), fun _ => ?_⟩
    (refine swp_lastW ?_; simp only [go_sem, Bool.not_eq_true', Bool.not_eq_false'])
    (refine swp_seqW ?_; simp only [go_sem, Bool.not_eq_true', Bool.not_eq_false'])
    refine swp_block ?_
    refine swp_loop2 [] (fun k : Nat => stA l w g rms [(13, .raw (.int .i64 i)), (14, .hdr 802), (15, .raw (.int .i64 k))] [(802, some (.cells 39 [.raw (.int .i64 j), .raw (.int .i64 a.side), .raw (.int .i64 a.anchor), .raw (.int .i64 a.x), .raw (.int .i64 a.y), .raw (.int .i64 a.w), .raw (.int .i64 a.h)]))]) (fun k => k ≤ i) (fun k => i - k) 260 0 (by simp only [go_sem, Bool.not_eq_true', Bool.not_eq_false']; rfl) (by simp only [go_sem, Bool.not_eq_true', Bool.not_eq_false', j1]) ?_ ?_
    · exact Nat.zero_le _
    intro k hk
    (refine swp_seqW ?_; simp only [go_sem, Bool.not_eq_true', Bool.not_eq_false'])
    refine ⟨fun h6 => ?_, fun h6 => ?_⟩
    rotate_left
    · (refine swp_lastW ?_; simp only [go_sem, Bool.not_eq_true', Bool.not_eq_false'])
      refine ⟨by omega, ?_⟩
      (refine loop_end [] (i + 1) (by simp only [go_sem, Bool.not_eq_true', Bool.not_eq_false']; rfl) ?_ ?_ ?_; (focus first | omega | (simp only; omega)); (focus (simp only [go_sem, Bool.not_eq_true', Bool.not_eq_false']; done)))
      omega
    have hkl : k < g.f.length := by omega
    have hki : k < i := by omega
    obtain ⟨m, m1, m2, c1, c2, c3, c4, c5, c6⟩ := hR.fn g.f[k] (List.getElem_mem hkl)
    have hft : g.f[k]? = some g.f[k] := List.getElem?_eq_getElem hkl
    have hfl2 := hfl k hki _ hft
    have hrm2 := hrg m m2
    have hbm := hrb m
    unfold okR at hbm
    generalize g.f[k] = f at *
    generalize rmR l w l.length m = rn at *
    have hmt := rmeet_ok ⟨a.x, a.y, a.w, a.h⟩ ⟨f.x, f.y, f.w, f.h⟩ (nearR_iff.2 ⟨⟨by simp only; omega, by simp only; omega⟩, ⟨by simp only; omega, by simp only; omega⟩, ⟨by simp only; omega, by simp only; omega⟩, by simp only; omega, by simp only; omega⟩) (nearR_iff.2 ⟨⟨by simp only; omega, by simp only; omega⟩, ⟨by simp only; omega, by simp only; omega⟩, ⟨by simp only; omega, by simp only; omega⟩, by simp only; omega, by simp only; omega⟩)
    refine swp_seqS ?_
    refine swp_block ?_
    (refine swp_seqW ?_; simp only [go_sem, Bool.not_eq_true', Bool.not_eq_false', List.length_map])
    refine ⟨⟨by omega, by omega⟩, f, hft, ?_⟩
    (refine swp_seqW ?_; simp only [go_sem, Bool.not_eq_true', Bool.not_eq_false', m1])
    refine ⟨⟨by omega, by omega⟩, rm, hrj, fun q1 => ⟨⟨by omega, by omega⟩, rn, hrm2, ?_⟩, fun q1 => ?_⟩
    rotate_left
    · (refine swp_seqW ?_; simp only [go_sem, Bool.not_eq_true', Bool.not_eq_false'])
      (refine swp_condW ?_; simp only [go_sem, Bool.not_eq_true', Bool.not_eq_false'])
      (refine swp_lastW ?_; simp only [go_sem, Bool.not_eq_true', Bool.not_eq_false'])
      (refine swp_lastW ?_; simp only [go_sem, Bool.not_eq_true', Bool.not_eq_false'])
      refine ⟨by omega, ?_⟩
      (refine loop_end [] (k + 1) (by simp only [go_sem, Bool.not_eq_true', Bool.not_eq_false']; rfl) ?_ ?_ ?_; (focus first | omega | (simp only; omega)); (focus (simp only [go_sem, Bool.not_eq_true', Bool.not_eq_false']; done)))
      omega
    generalize (decide (rn.x = 0) && decide (rn.w = w)) = b at *
    rw [Bool.and_eq_true, decide_eq_true_iff, decide_eq_true_iff] at q1
    obtain ⟨q2, q3⟩ := q1
    (refine swp_seqW ?_; simp only [go_sem, Bool.not_eq_true', Bool.not_eq_false'])
    refine ⟨fun e1 => ⟨fun e2 => ⟨fun e3 => ?_, fun e3 => ?_⟩, fun e2 => ?_⟩, fun e1 => ?_⟩
    · rw [ap_meet (hfl2 (by omega))] at hmt
      (refine acall2 [] (hmt) (by simp only [go_sem, Bool.not_eq_true', Bool.not_eq_false']; rfl) (fit_of (by simp only [go_sem, Bool.not_eq_true', Bool.not_eq_false']) (by simp only [go_sem, Bool.not_eq_true', Bool.not_eq_false']) (by simp only [go_sem, Bool.not_eq_true', Bool.not_eq_false']) (by simp only [go_sem, Bool.not_eq_true', Bool.not_eq_false']) (by simp only [go_sem, Bool.not_eq_true', Bool.not_eq_false']) (by simp only [go_sem, Bool.not_eq_true', Bool.not_eq_false']) (by simp only [go_sem, Bool.not_eq_true', Bool.not_eq_false'])) ?_; simp only [go_sem, Bool.not_eq_true', Bool.not_eq_false'])
      (refine swp_condW ?_; simp only [go_sem, Bool.not_eq_true', Bool.not_eq_false'])
      (refine swp_lastW ?_; simp only [go_sem, Bool.not_eq_true', Bool.not_eq_false'])
      (refine swp_lastW ?_; simp only [go_sem, Bool.not_eq_true', Bool.not_eq_false'])
      refine ⟨by omega, ?_⟩
      (refine loop_end [] (k + 1) (by simp only [go_sem, Bool.not_eq_true', Bool.not_eq_false']; rfl) ?_ ?_ ?_; (focus first | omega | (simp only; omega)); (focus (simp only [go_sem, Bool.not_eq_true', Bool.not_eq_false']; done)))
      omega
    all_goals
      (refine swp_condW ?_; simp only [go_sem, Bool.not_eq_true', Bool.not_eq_false'])
      (refine swp_lastW ?_; simp only [go_sem, Bool.not_eq_true', Bool.not_eq_false'])
      (refine swp_lastW ?_; simp only [go_sem, Bool.not_eq_true', Bool.not_eq_false'])
      refine ⟨by omega, ?_⟩
      (refine loop_end [] (k + 1) (by simp only [go_sem, Bool.not_eq_true', Bool.not_eq_false']; rfl) ?_ ?_ ?_; (focus first | omega | (simp only; omega)); (focus (simp only [go_sem, Bool.not_eq_true', Bool.not_eq_false']; done)))
      omega
  rintro - -
  (refine swp_lastW ?_; simp only [go_sem, Bool.not_eq_true', Bool.not_eq_false'])
  (refine acall2 [] (awake14_ok) (by simp only [go_sem, Bool.not_eq_true', Bool.not_eq_false']; rfl) (fit_of (by simp only [go_sem, Bool.not_eq_true', Bool.not_eq_false']) (by simp only [go_sem, Bool.not_eq_true', Bool.not_eq_false']) (by simp only [go_sem, Bool.not_eq_true', Bool.not_eq_false']) (by simp only [go_sem, Bool.not_eq_true', Bool.not_eq_false']) (by simp only [go_sem, Bool.not_eq_true', Bool.not_eq_false']) (by simp only [go_sem, Bool.not_eq_true', Bool.not_eq_false']) (by simp only [go_sem, Bool.not_eq_true', Bool.not_eq_false'])) ?_; simp only [go_sem, Bool.not_eq_true', Bool.not_eq_false'])
end Go.Proofs.Ytblmebjhhanoaaa
