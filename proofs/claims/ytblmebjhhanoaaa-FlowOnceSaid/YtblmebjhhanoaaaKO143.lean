/- CONTRACTS of the functions, and plain laws, joined out of: GFloC GFloD GFloP GOncA GFloE GFloF GFloG GFloH GScrD GScrE GScrF GAtoA GFloX GFloL GOncB. -/
import Derived.Test.YtblmebjhhanoaaaKO142
/- CHAPTER 14: the document's answer: one node. -/
/- G -/
/- BOOLS -/
set_option linter.unusedSimpArgs false
set_option linter.unusedVariables false
namespace Go.Proofs.Ytblmebjhhanoaaa
open Go.RowKit

abbrev rowA (s : LGs) : AO := .row 41 8 (s.a.map cAt)
abbrev rowF (s : LGs) : AO := .row 39 7 (s.f.map cFl)
abbrev stO (p : LPen) (i j : Nat) : AO := .cells 122 [.hdr i, .hdr j, .raw (.int .i64 0), .raw (.int .i64 p.y), .raw (.int .i64 p.m)]
def aGs (s : LGs) (i j : Nat) : AV := .agg [.hdr i, .hdr j, .raw (.int .i64 0), .raw (.int .i64 s.p.y), .raw (.int .i64 s.p.m)]
attribute [go_sem] aGs
theorem GsOk.at {l : List LNo} {B : Int} {k : Nat} {s : LGs} (h : GsOk l B k s) (hB : B ≤ 1099511627776) : 0 ≤ atP s.p ∧ atP s.p ≤ 1099511627776 := by
  have := h.y
  have := h.m
  have := h.b
  unfold atP
  omega
theorem GsOk.lin {l : List LNo} {B : Int} {k : Nat} {s : LGs} (h : GsOk l B k s) (hB : B ≤ 1099511627776) (hk : k ≤ 60) {H : Int} {sp : LSpan} (hH : 0 ≤ H ∧ H ≤ 1099511627776) (hs : SpOk sp) : LinOk s.f H sp :=
  ⟨by have := h.fl; omega, h.near hB hk, by omega, by obtain ⟨a, b⟩ := hs; omega⟩
theorem GsOk.pla {l : List LNo} {B : Int} {k : Nat} {s : LGs} (h : GsOk l B k s) (hB : B ≤ 1099511627776) (hk : k ≤ 60) {x : LNo} {n : Nat} {sp : LSpan} (hx : Box6 x) (hs : SpOk sp) : PlaOk s.f (newF n x s) (atP s.p) sp := by
  have h1 := hx.w
  have h2 := hx.h
  have h3 := h.at hB
  obtain ⟨a, b⟩ := hs
  exact ⟨by have := h.fl; omega, h.near hB hk, nearF_iff.2 ⟨by simp only [newF]; omega, by simp only [newF]; omega, by simp only [newF]; omega, by simp only [newF]; omega⟩, by omega, by omega⟩
theorem wor_ok {l : List LNo} {w : Int} (hP : FlwP l w) {k : Nat} (hk : k < l.length) {x : LNo} (e : ndN l k = x) (hx : Txt6 x) (q : x.kind = 2) : WorOk x.words x.space := by
  have h1 := psN_succ hk
  have h2 := ps_mono (l := l) (show 0 ≤ k by omega) (by omega)
  have h3 := ps_mono (l := l) (show k + 1 ≤ l.length by omega) (Nat.le_refl _)
  have h4 := hP.ps
  have h5 : pcsN x = x.words.length := by unfold pcsN; rw [if_neg (by omega), if_pos q]
  rw [e, h5] at h1
  rw [psN_zero] at h2
  unfold pall at h4
  have h6 := hx.space
  refine ⟨by omega, ?_, by omega⟩
  rw [List.all_eq_true]
  intro y hy
  have := hx.words y hy
  simp only [nr9, decide_eq_true_eq]
  omega
theorem nod_next {l : List LNo} {w : Int} (hP : FlwP l w) {g k : Nat} {B : Int} {s : LGs} (hk : k < l.length) (hn : nst l g (k + 1) (k + (ndN l k).size)) (h : GsOk l B k s) : GsOk l (B + (hsN l (k + (ndN l k).size.toNat) - hsN l k)) (k + (ndN l k).size.toNat) (nodG l w (rowG l w g) k s) := by
  have hL := isS_lam hP.v
  have h1 := hL.pos k hk
  have h2 := hL.fin k hk
  rw [← ndN_siz] at h1 h2
  refine nodG_ok hP hk h fun B s hs => ?_
  have := rowG_ok hP g (k + 1) (k + (ndN l k).size) B s hn (by omega) hs
  have e3 : ((k : Int) + (ndN l k).size).toNat = k + (ndN l k).size.toNat := by omega
  rw [e3] at this
  exact this
theorem rmR_ok' {l : List LNo} {w : Int} (hP : FlwP l w) (k : Nat) : okR (rmR l w l.length k) := rmR_ok (isS_ins hP.v) hP.w l.length k
theorem tex_all {l : List LFl} {ws : List Int} {sp H B : Int} {s : LSpan} (hH : 1 ≤ H) (hf : ∀ g ∈ l, g.y + g.h ≤ B) : ∀ (n f : Nat) (y C : Int), f ≤ ws.length → y ≤ C → B ≤ C → ∀ z ∈ texG l ws sp H s n f y, y ≤ z.y ∧ z.y + H ≤ C + H * ((ws.length : Int) - f)
  | 0, f, y, C, h0, h2, h3, z, hz => by
    rw [texG] at hz
    cases hz
  | n + 1, f, y, C, h0, h2, h3, z, hz => by
    rw [texG] at hz
    split at hz
    · next q =>
      obtain ⟨t, e1, e2, e3⟩ := lin_t (l := l) (sp := sp) (H := H) (y := y) (s := s) q
      rw [e1, Int.toNat_natCast] at hz
      have hy : (linN l ws sp H f y s).y = romY l (ws.getD f 0) H y s := rfl
      have hge := rom_ge l (ws.getD f 0) H y s
      have hle := rom_le (w := ws.getD f 0) (H := H) (s := s) (Int.le_trans h2 (Int.le_refl C)) (fun g hg => Int.le_trans (hf g hg) h3)
      have h5 : H * ((ws.length : Int) - f) = H * ((ws.length : Int) - t) + H * ((t : Int) - f) := by rw [← Int.mul_add]; congr 1; omega
      have h6 : H * 1 ≤ H * ((t : Int) - f) := Int.mul_le_mul_of_nonneg_left (by omega) (by omega)
      have h7 := Int.mul_nonneg (show 0 ≤ H by omega) (show 0 ≤ (ws.length : Int) - t by omega)
      rcases List.mem_cons.1 hz with rfl | hz
      · omega
      · have ih := tex_all (s := s) hH hf n t ((linN l ws sp H f y s).y + H) (C + H) e3 (by omega) (by omega) z hz
        omega
    · cases hz
theorem take_setG {k : Nat} {H : Int} {T : List LSet} {s : LGs} {i : Nat} (hi : i < T.length) : (T.take (i + 1)).foldl (setG k H) s = setG k H ((T.take i).foldl (setG k H) s) T[i] := by
  rw [List.take_succ_eq_append_getElem hi, List.foldl_append]
  rfl
def stR (l : List LNo) (w : Int) (k : Nat) (y : Int) (s : LGs) (more : List (Nat × AV)) (ob : List (Nat × Option AO)) : AS :=
  ⟨[(1, .sl 20 (l.map cNo)), (2, .raw (.int .i64 k)), (3, .raw (.int .i64 w)), (4, .hdr 800), (8, .hdr 801), (9, .hdr 802), (11, .hdr 803), (12, .raw (.int .i64 y))] ++ more,
   [(800, some (stO s.p 804 805)), (804, some (rowA s)), (805, some (rowF s)), (801, some (stO ⟨0, 0⟩ 806 807)), (802, some (.cells 37 (lNo (ndN l k)))), (803, some (.cells 87 [.raw (.int .i64 (spK l w k).a), .raw (.int .i64 (spK l w k).b)]))] ++ ob, none⟩
attribute [go_sem] stR
theorem spK_a (l : List LNo) (w : Int) (k : Nat) : (spK l w k).a = (rmR l w l.length k).x := rfl
theorem spK_b (l : List LNo) (w : Int) (k : Nat) : (spK l w k).b = (rmR l w l.length k).x + (rmR l w l.length k).w := rfl
set_option maxRecDepth 100000 in
set_option maxHeartbeats 8000000 in
theorem rone14_ok {l : List LNo} {w : Int} (hP : FlwP l w) : ∀ (F g : Nat), g ≤ F → ∀ (k : Nat) (s : LGs) (B : Int), k < l.length → nst l g (k + 1) (k + (ndN l k).size) → GsOk l B k s → B + (hall l - hsN l k) ≤ 1099511627776 →
    FnOk Try.prog 68 [aGs s 0 1, .sl 20 (l.map cNo), .raw (.int .i64 k), .raw (.int .i64 w)] [(0, rowA s), (1, rowF s)] (aGs (nodG l w (rowG l w g) k s) 8 9) [(8, rowA (nodG l w (rowG l w g) k s)), (9, rowF (nodG l w (rowG l w g) k s))]
  | 0, g, hg, k, s, B, hk, hn, hs, hB => by
    obtain rfl : g = 0 := by omega
    exact absurd hn (by simp [nst])
  | F + 1, g, hg, k, s, B, hk, hn, hs, hB => by
    have hnb := nod_at hP.v hk
    have hlen := hP.len
    have hrm := rmR_ok' hP k
    have hsp := hP.sp k
    have hat := hs.at (show B ≤ 1099511627776 by have := hs_mono hP.v (show k ≤ l.length by omega) (Nat.le_refl _); unfold hall at hB; omega)
    have hB1 : B ≤ 1099511627776 := by have := hs_mono hP.v (show k ≤ l.length by omega) (Nat.le_refl _); unfold hall at hB; omega
    refine fn_of_swp Try.func68 rfl (by kernel_rfl) (by kernel_rfl) (Nat.le_of_ble_eq_true rfl) Try.results68 ?_
    (refine swp_seqW ?_; simp only [go_sem, Bool.not_eq_true', Bool.not_eq_false'])
    (refine swp_seqW ?_; simp only [go_sem, Bool.not_eq_true', Bool.not_eq_false'])
    refine ⟨by omega, ex_get hk ?_⟩
    rw [← ndN_get hk]
    (refine swp_seqW ?_; simp only [go_sem, Bool.not_eq_true', Bool.not_eq_false'])
    (refine acall2 [] (room8r_ok l w (by omega) (isS_ins hP.v) hP.w l.length k hk hk) (by simp only [go_sem, Bool.not_eq_true', Bool.not_eq_false']; rfl) (fit_of (by simp only [go_sem, Bool.not_eq_true', Bool.not_eq_false']) (by simp only [go_sem, Bool.not_eq_true', Bool.not_eq_false']) (by simp only [go_sem, Bool.not_eq_true', Bool.not_eq_false']) (by simp only [go_sem, Bool.not_eq_true', Bool.not_eq_false']) (by simp only [go_sem, Bool.not_eq_true', Bool.not_eq_false']) (by simp only [go_sem, Bool.not_eq_true', Bool.not_eq_false']) (by simp only [go_sem, Bool.not_eq_true', Bool.not_eq_false'])) ?_; simp only [go_sem, Bool.not_eq_true', Bool.not_eq_false'])
    (refine swp_seqW ?_; simp only [go_sem, Bool.not_eq_true', Bool.not_eq_false'])
    obtain ⟨r1, r2, r3, r4⟩ := hrm
    refine ⟨by omega, ?_⟩
    refine swp_cutS (fun _ : Unit => stR l w k (atP s.p) s [] []) (fun _ => True) 120 ?_ ?_
    · (refine swp_lastW ?_; simp only [go_sem, Bool.not_eq_true', Bool.not_eq_false'])
      refine ⟨by have := hs.y; have := hs.m; have := hs.b; omega, ?_⟩
      (refine cut_end [] (()) (by simp only [go_sem, Bool.not_eq_true', Bool.not_eq_false']; rfl) ?_ ?_; (focus (simp only [go_sem, Bool.not_eq_true', Bool.not_eq_false', atP, spK_a, spK_b]; done)))
      trivial
    rintro - -
    have hkd : nodG l w (rowG l w g) k s = if (ndN l k).kind = 1 then lvG (ndN l k) (rowG l w g (k + 1) (k + (ndN l k).size) (entG (ndN l k) s)) else if (ndN l k).kind = 2 then txtG (spK l w k) k (ndN l k) s else if (ndN l k).kind = 3 then monG (spK l w k) k (ndN l k) s else fltG (spK l w k) k (ndN l k) s := rfl
    have hne := hs.near hB1 (show k ≤ 60 by omega)
    have hfl := hs.fl
    rcases nodB_kind hnb with q | q | q | q
    · rw [if_pos q] at hkd
      have hb := nodB_blk hnb q
      have hclr := clr_bd (ndN l k) hs
      have hent := ent_ok hk hb hs
      have hh1 := hsN_succ hk
      have e1 : hgtN (ndN l k) = (ndN l k).st.top + (ndN l k).st.bottom + (ndN l k).st.padTop + (ndN l k).st.padBottom + (ndN l k).st.head := by unfold hgtN; rw [if_pos q]
      have hclt : (lowO (ndN l k).st.clear s.f).is = true → clrG (ndN l k) s = penC s.p (lowO (ndN l k).st.clear s.f).n := fun w => if_pos w
      have hclf : ¬ (lowO (ndN l k).st.clear s.f).is = true → clrG (ndN l k) s = s.p := fun w => if_neg w
      have hlo : (lowO (ndN l k).st.clear s.f).is = true → 0 ≤ (lowO (ndN l k).st.clear s.f).n ∧ (lowO (ndN l k).st.clear s.f).n ≤ B := fun w => by
        obtain ⟨f, hf, e⟩ := most_at w
        have e : (lowO (ndN l k).st.clear s.f).n = f.y + f.h := e
        have h4 := (hs.fs f hf).y
        have h5 := (hs.fs f hf).h
        omega
      refine swp_seqS ?_
      (refine swp_seqW ?_; simp only [go_sem, Bool.not_eq_true', Bool.not_eq_false'])
      (refine swp_condW ?_; simp only [go_sem, Bool.not_eq_true', Bool.not_eq_false'])
      refine ⟨fun _ => ?_, fun w => absurd q w⟩
      (refine swp_seqW ?_; simp only [go_sem, Bool.not_eq_true', Bool.not_eq_false'])
      have hlc : FnOk Try.prog 91 [.sl 7 (s.f.map cFl), .raw (.int .i64 (ndN l k).st.clear)] [] (aIs (lowO (ndN l k).st.clear s.f)) [] := rlow_ok s.f (ndN l k).st.clear (by omega) hne
      (refine acall2 [805 ] ( hlc) (by simp only [go_sem, Bool.not_eq_true', Bool.not_eq_false']; rfl) (fit_of (by simp only [go_sem, Bool.not_eq_true', Bool.not_eq_false']) (by simp only [go_sem, Bool.not_eq_true', Bool.not_eq_false']) (by simp only [go_sem, Bool.not_eq_true', Bool.not_eq_false']) (by simp only [go_sem, Bool.not_eq_true', Bool.not_eq_false']) (by simp only [go_sem, Bool.not_eq_true', Bool.not_eq_false']) (by simp only [go_sem, Bool.not_eq_true', Bool.not_eq_false']) (by simp only [go_sem, Bool.not_eq_true', Bool.not_eq_false'])) ?_; simp only [go_sem, Bool.not_eq_true', Bool.not_eq_false'])
      refine swp_cutS (fun _ : Unit => stR l w k (atP s.p) ⟨s.a, s.f, clrG (ndN l k) s⟩ [] []) (fun _ => True) 120 ?_ ?_
      · (refine swp_seqW ?_; simp only [go_sem, Bool.not_eq_true', Bool.not_eq_false'])
        (refine swp_condW ?_; simp only [go_sem, Bool.not_eq_true', Bool.not_eq_false'])
        refine ⟨fun hi => ?_, fun hi => ?_⟩
        · have hi : (lowO (ndN l k).st.clear s.f).is = true := hi
          rw [hclt hi]
          have := hlo hi
          have hy := hs.y
          have hm := hs.m
          have hb := hs.b
          (refine swp_lastW ?_; simp only [go_sem, Bool.not_eq_true', Bool.not_eq_false'])
          (refine acall2 [] (rpclear_ok s.p (lowO (ndN l k).st.clear s.f).n ⟨by omega, by omega, by omega, by omega⟩) (by simp only [go_sem, Bool.not_eq_true', Bool.not_eq_false']; rfl) (fit_of (by simp only [go_sem, Bool.not_eq_true', Bool.not_eq_false']) (by simp only [go_sem, Bool.not_eq_true', Bool.not_eq_false']) (by simp only [go_sem, Bool.not_eq_true', Bool.not_eq_false']) (by simp only [go_sem, Bool.not_eq_true', Bool.not_eq_false']) (by simp only [go_sem, Bool.not_eq_true', Bool.not_eq_false']) (by simp only [go_sem, Bool.not_eq_true', Bool.not_eq_false']) (by simp only [go_sem, Bool.not_eq_true', Bool.not_eq_false'])) ?_; simp only [go_sem, Bool.not_eq_true', Bool.not_eq_false'])
          (refine cut_end [] (()) (by simp only [go_sem, Bool.not_eq_true', Bool.not_eq_false']; rfl) ?_ ?_; (focus (simp only [go_sem, Bool.not_eq_true', Bool.not_eq_false']; done)))
          trivial
        · have hi : (lowO (ndN l k).st.clear s.f).is = false := hi
          rw [hclf (by rw [hi]; decide)]
          (refine swp_lastW ?_; simp only [go_sem, Bool.not_eq_true', Bool.not_eq_false'])
          (refine cut_end [] (()) (by simp only [go_sem, Bool.not_eq_true', Bool.not_eq_false']; rfl) ?_ ?_; (focus (simp only [go_sem, Bool.not_eq_true', Bool.not_eq_false']; done)))
          trivial
      rintro - -
      (refine swp_seqW ?_; simp only [go_sem, Bool.not_eq_true', Bool.not_eq_false'])
      (refine acall2 [] (rpenter_ok (clrG (ndN l k) s) (ndN l k).st.top (ndN l k).st.padTop ⟨by omega, by omega, by have := hb.top; omega, by have := hb.padTop; omega⟩) (by simp only [go_sem, Bool.not_eq_true', Bool.not_eq_false']; rfl) (fit_of (by simp only [go_sem, Bool.not_eq_true', Bool.not_eq_false']) (by simp only [go_sem, Bool.not_eq_true', Bool.not_eq_false']) (by simp only [go_sem, Bool.not_eq_true', Bool.not_eq_false']) (by simp only [go_sem, Bool.not_eq_true', Bool.not_eq_false']) (by simp only [go_sem, Bool.not_eq_true', Bool.not_eq_false']) (by simp only [go_sem, Bool.not_eq_true', Bool.not_eq_false']) (by simp only [go_sem, Bool.not_eq_true', Bool.not_eq_false'])) ?_; simp only [go_sem, Bool.not_eq_true', Bool.not_eq_false'])
      have eent : entG (ndN l k) s = ⟨s.a, s.f, penE (clrG (ndN l k) s) (ndN l k).st.top (ndN l k).st.padTop⟩ := rfl
      have ersz := isS_lam hP.v
      have hL1 := ersz.pos k hk
      have hL2 := ersz.fin k hk
      rw [← ndN_siz] at hL1 hL2
      have hmono := hs_mono hP.v (show k + (ndN l k).size.toNat ≤ l.length by omega) (Nat.le_refl _)
      have hmono0 := hs_mono hP.v (show k + 1 ≤ k + (ndN l k).size.toNat by omega) (by omega)
      have hhd := hb.head
      have hbo := hb.bottom
      have hpb := hb.padBottom
      unfold hall at hB
      refine swp_cutS (fun _ : Unit => stR l w k (atP s.p) (rowG l w g (k + 1) (k + (ndN l k).size) (entG (ndN l k) s)) [] []) (fun _ => True) 120 ?_ ?_
      · (refine swp_seqW ?_; simp only [go_sem, Bool.not_eq_true', Bool.not_eq_false'])
        refine ⟨by omega, ?_⟩
        refine swp_block ?_
        refine swp_loop2 [] (fun z : KY LGs => stR l w k (atP s.p) z.o [(15, .raw (.int .i64 z.k))] []) (fun z => k < z.k ∧ (z.k : Int) ≤ k + (ndN l k).size ∧ GsOk l (B + (ndN l k).st.top + (ndN l k).st.padTop + (hsN l z.k - hsN l (k + 1))) z.k z.o ∧ ∃ g', g' ≤ g ∧ nst l g' z.k (k + (ndN l k).size) ∧ rowG l w g' z.k (k + (ndN l k).size) z.o = rowG l w g (k + 1) (k + (ndN l k).size) (entG (ndN l k) s)) (fun z => l.length - z.k) 120 ⟨k + 1, entG (ndN l k) s⟩ (by simp only [go_sem, Bool.not_eq_true', Bool.not_eq_false']; rfl) (by simp only [go_sem, Bool.not_eq_true', Bool.not_eq_false', eent]) ?_ ?_
        · exact ⟨by simp only; omega, by simp only; omega, by have := hent.mono (B' := B + (ndN l k).st.top + (ndN l k).st.padTop + (hsN l (k + 1) - hsN l (k + 1))) (by omega); exact this, g, Nat.le_refl _, hn, rfl⟩
        rintro ⟨kk, z⟩ ⟨z1, z2, z3, g', z4, z5, z6⟩
        simp only at z1 z2 z3 z4 z5 z6
        (refine swp_seqW ?_; simp only [go_sem, Bool.not_eq_true', Bool.not_eq_false'])
        refine ⟨⟨by omega, by omega⟩, ?_⟩
        refine ⟨fun h5 => ?_, fun h5 => ?_⟩
        · obtain ⟨m, rfl⟩ : ∃ m, g' = m + 1 := by
            cases g' with
            | zero => exact absurd z5 (by simp [nst])
            | succ m => exact ⟨m, rfl⟩
          obtain ⟨u1, u2, u3, u4⟩ := z5.2 h5
          rw [← ndN_siz] at u1 u2 u3 u4
          have hkk : kk < l.length := by omega
          rw [rowG, if_pos h5] at z6
          have hm1 := hs_mono hP.v (show kk ≤ l.length by omega) (Nat.le_refl _)
          have hih := rone14_ok hP F m (by omega) kk z _ hkk u3 z3 (by unfold hall; omega)
          have hnx := nod_next hP hkk u3 z3
          generalize nodG l w (rowG l w m) kk z = z' at hih hnx z6
          have hsz := ndN_get hkk
          obtain ⟨sz, hsz2⟩ : ∃ sz : Nat, (ndN l kk).size = sz := ⟨(ndN l kk).size.toNat, by omega⟩
          rw [hsz2] at u1 u2 u3 u4 z6 hnx
          rw [Int.toNat_natCast] at u4 z6 hnx
          refine swp_seqS ?_
          refine swp_block ?_
          (refine swp_lastW ?_; simp only [go_sem, Bool.not_eq_true', Bool.not_eq_false'])
          (refine acall2 [] (hih) (by simp only [go_sem, Bool.not_eq_true', Bool.not_eq_false']; rfl) (fit_of (by simp only [go_sem, Bool.not_eq_true', Bool.not_eq_false']) (by simp only [go_sem, Bool.not_eq_true', Bool.not_eq_false']) (by simp only [go_sem, Bool.not_eq_true', Bool.not_eq_false']) (by simp only [go_sem, Bool.not_eq_true', Bool.not_eq_false']) (by simp only [go_sem, Bool.not_eq_true', Bool.not_eq_false']) (by simp only [go_sem, Bool.not_eq_true', Bool.not_eq_false']) (by simp only [go_sem, Bool.not_eq_true', Bool.not_eq_false'])) ?_; simp only [go_sem, Bool.not_eq_true', Bool.not_eq_false'])
          (refine swp_lastW ?_; simp only [go_sem, Bool.not_eq_true', Bool.not_eq_false'])
          refine ⟨by omega, ex_get hkk ?_⟩
          rw [← ndN_get hkk, hsz2]
          refine ⟨⟨by omega, by omega⟩, ?_⟩
          (refine loop_end [] (⟨kk + sz, z'⟩) (by simp only [go_sem, Bool.not_eq_true', Bool.not_eq_false']; rfl) ?_ ?_ ?_; (focus first | omega | (simp only; omega)); (focus (simp only [go_sem, Bool.not_eq_true', Bool.not_eq_false']; done)))
          exact ⟨by simp only; omega, by simp only; omega, hnx.mono (by show _ ≤ B + _ + _ + (hsN l (kk + sz) - hsN l (k + 1)); omega), m, by omega, u4, z6⟩
        · have e5 : rowG l w g' kk (k + (ndN l k).size) z = z := by
            cases g' with
            | zero => rfl
            | succ m => rw [rowG, if_neg h5]
          rw [← z6, e5]
          (refine cut_end [] (()) (by simp only [go_sem, Bool.not_eq_true', Bool.not_eq_false']; rfl) ?_ ?_; (focus (simp only [go_sem, Bool.not_eq_true', Bool.not_eq_false']; done)))
          trivial
      rintro - -
      have hrw := rowG_ok hP g (k + 1) (k + (ndN l k).size) _ _ hn (by omega) hent
      have e3 : ((k : Int) + (ndN l k).size).toNat = k + (ndN l k).size.toNat := by omega
      rw [e3] at hrw
      rw [hkd]
      have elv : lvG (ndN l k) (rowG l w g (k + 1) (k + (ndN l k).size) (entG (ndN l k) s)) = ⟨(rowG l w g (k + 1) (k + (ndN l k).size) (entG (ndN l k) s)).a, (rowG l w g (k + 1) (k + (ndN l k).size) (entG (ndN l k) s)).f, penL (rowG l w g (k + 1) (k + (ndN l k).size) (entG (ndN l k) s)).p (ndN l k).st.bottom (ndN l k).st.padBottom⟩ := rfl
      rw [elv]
      generalize rowG l w g (k + 1) (k + (ndN l k).size) (entG (ndN l k) s) = z at hrw ⊢
      have y1 := hrw.y
      have y2 := hrw.m
      have y3 := hrw.b
      (refine swp_lastW ?_; simp only [go_sem, Bool.not_eq_true', Bool.not_eq_false'])
      (refine acall2 [] (rpleave_ok z.p (ndN l k).st.bottom (ndN l k).st.padBottom ⟨by omega, by omega, by omega, by omega⟩) (by simp only [go_sem, Bool.not_eq_true', Bool.not_eq_false']; rfl) (fit_of (by simp only [go_sem, Bool.not_eq_true', Bool.not_eq_false']) (by simp only [go_sem, Bool.not_eq_true', Bool.not_eq_false']) (by simp only [go_sem, Bool.not_eq_true', Bool.not_eq_false']) (by simp only [go_sem, Bool.not_eq_true', Bool.not_eq_false']) (by simp only [go_sem, Bool.not_eq_true', Bool.not_eq_false']) (by simp only [go_sem, Bool.not_eq_true', Bool.not_eq_false']) (by simp only [go_sem, Bool.not_eq_true', Bool.not_eq_false'])) ?_; simp only [go_sem, Bool.not_eq_true', Bool.not_eq_false'])
      refine swp_seqS ?_
      (refine swp_seqW ?_; simp only [go_sem, Bool.not_eq_true', Bool.not_eq_false'])
      (refine swp_condW ?_; simp only [go_sem, Bool.not_eq_true', Bool.not_eq_false'])
      refine ⟨fun w => by omega, fun _ => ?_⟩
      (refine swp_lastW ?_; simp only [go_sem, Bool.not_eq_true', Bool.not_eq_false'])
      refine swp_seqS ?_
      (refine swp_seqW ?_; simp only [go_sem, Bool.not_eq_true', Bool.not_eq_false'])
      (refine swp_condW ?_; simp only [go_sem, Bool.not_eq_true', Bool.not_eq_false'])
      refine ⟨fun w => by omega, fun _ => ?_⟩
      (refine swp_lastW ?_; simp only [go_sem, Bool.not_eq_true', Bool.not_eq_false'])
      refine swp_seqS ?_
      (refine swp_seqW ?_; simp only [go_sem, Bool.not_eq_true', Bool.not_eq_false'])
      (refine swp_condW ?_; simp only [go_sem, Bool.not_eq_true', Bool.not_eq_false'])
      refine ⟨fun w => by omega, fun _ => ?_⟩
      (refine swp_lastW ?_; simp only [go_sem, Bool.not_eq_true', Bool.not_eq_false'])
      (refine swp_lastW ?_; simp only [go_sem, Bool.not_eq_true', Bool.not_eq_false'])
      (refine ret2 [] (by simp only [go_sem, Bool.not_eq_true', Bool.not_eq_false']; rfl) ?_; simp only [go_sem, Bool.not_eq_true', Bool.not_eq_false'])
    · rw [if_neg (by omega), if_pos q] at hkd
      have hb := nodB_txt hnb q
      have hln := hb.line
      have hwo := wor_ok hP hk rfl hb q
      have hh1 := hsN_succ hk
      have e1 : hgtN (ndN l k) = (ndN l k).line * (ndN l k).words.length := by unfold hgtN; rw [if_neg (by omega), if_pos q]
      have hmono := hs_mono hP.v (show k + 1 ≤ l.length by omega) (Nat.le_refl _)
      have hta := tex_all (ws := (ndN l k).words) (sp := (ndN l k).space) (s := spK l w k) hln.1 (fun g hg => (hs.fs g hg).y.2) (ndN l k).words.length 0 (atP s.p) B (Nat.zero_le _) hs.b (Int.le_refl _)
      have e0 : ((ndN l k).words.length : Int) - (0 : Nat) = (ndN l k).words.length := by omega
      rw [e0, ← e1] at hta
      unfold hall at hB
      have hal := hs.al
      have hps := ps_mono (l := l) (show k ≤ l.length by omega) (Nat.le_refl _)
      have hpa := hP.ps
      have hwl := hwo.len
      unfold pall at hpa
      have htl : (texF s.f (ndN l k).words (ndN l k).space (ndN l k).line (atP s.p) (spK l w k)).length ≤ (ndN l k).words.length := tex_len _ _ _
      have htx := rtext12_ok s.f (ndN l k).words (ndN l k).space (ndN l k).line (atP s.p) (spK l w k) (hs.lin hB1 (by omega) ⟨by omega, by omega⟩ hsp) hwo ⟨by omega, by omega⟩ ⟨by omega, by omega⟩
      have etx : txtG (spK l w k) k (ndN l k) s = (texF s.f (ndN l k).words (ndN l k).space (ndN l k).line (atP s.p) (spK l w k)).foldl (setG k (ndN l k).line) s := rfl
      rw [hkd, etx]
      have hta : ∀ z ∈ texF s.f (ndN l k).words (ndN l k).space (ndN l k).line (atP s.p) (spK l w k), atP s.p ≤ z.y ∧ z.y + (ndN l k).line ≤ B + hgtN (ndN l k) := hta
      generalize texF s.f (ndN l k).words (ndN l k).space (ndN l k).line (atP s.p) (spK l w k) = T at *
      refine swp_seqS ?_
      (refine swp_seqW ?_; simp only [go_sem, Bool.not_eq_true', Bool.not_eq_false'])
      (refine swp_condW ?_; simp only [go_sem, Bool.not_eq_true', Bool.not_eq_false'])
      refine ⟨fun w => by omega, fun _ => ?_⟩
      (refine swp_lastW ?_; simp only [go_sem, Bool.not_eq_true', Bool.not_eq_false'])
      refine swp_cutS (fun _ : Unit => stR l w k (atP s.p) (T.foldl (setG k (ndN l k).line) s) [] []) (fun _ => True) 120 ?_ ?_
      · (refine swp_seqW ?_; simp only [go_sem, Bool.not_eq_true', Bool.not_eq_false'])
        (refine swp_condW ?_; simp only [go_sem, Bool.not_eq_true', Bool.not_eq_false'])
        refine ⟨fun _ => ?_, fun w => absurd q w⟩
        (refine swp_seqW ?_; simp only [go_sem, Bool.not_eq_true', Bool.not_eq_false'])
        (refine acall2 [805 ] ( htx) (by simp only [go_sem, Bool.not_eq_true', Bool.not_eq_false']; rfl) (fit_of (by simp only [go_sem, Bool.not_eq_true', Bool.not_eq_false']) (by simp only [go_sem, Bool.not_eq_true', Bool.not_eq_false']) (by simp only [go_sem, Bool.not_eq_true', Bool.not_eq_false']) (by simp only [go_sem, Bool.not_eq_true', Bool.not_eq_false']) (by simp only [go_sem, Bool.not_eq_true', Bool.not_eq_false']) (by simp only [go_sem, Bool.not_eq_true', Bool.not_eq_false']) (by simp only [go_sem, Bool.not_eq_true', Bool.not_eq_false'])) ?_; simp only [go_sem, Bool.not_eq_true', Bool.not_eq_false'])
        (refine swp_seqW ?_; simp only [go_sem, Bool.not_eq_true', Bool.not_eq_false'])
        refine swp_block ?_
        refine swp_loop2 [] (fun i : Nat => stR l w k (atP s.p) ((T.take i).foldl (setG k (ndN l k).line) s) [(16, .hdr 808), (17, .raw (.int .i64 i))] [(808, some (.row 131 5 (T.map cSet)))]) (fun i => i ≤ T.length) (fun i => T.length - i) 120 0 (by simp only [go_sem, Bool.not_eq_true', Bool.not_eq_false']; rfl) (by simp only [go_sem, Bool.not_eq_true', Bool.not_eq_false', List.take_zero, List.foldl_nil]) ?_ ?_
        · exact Nat.zero_le _
        intro i hi
        have hfo := setG_fold k (ndN l k).line (T.take i) s
        (refine swp_seqW ?_; simp only [go_sem, Bool.not_eq_true', Bool.not_eq_false', List.length_map])
        refine ⟨fun h5 => ?_, fun h5 => ?_⟩
        · have hit : i < T.length := by omega
          have hst := take_setG (k := k) (H := (ndN l k).line) (s := s) hit
          have hti := hta T[i] (List.getElem_mem hit)
          generalize hZ : T[i] = z at hst hti
          have hal2 : ((T.take i).foldl (setG k (ndN l k).line) s).a.length ≤ 4000 := by rw [hfo.1, List.length_append, List.length_map, List.length_take]; omega
          generalize (T.take i).foldl (setG k (ndN l k).line) s = s2 at hst hal2 ⊢
          have em : List.map cAt s2.a ++ [[PV.raw (.int .i64 1), PV.raw (.int .i64 k), PV.raw (.int .i64 z.f), PV.raw (.int .i64 z.t), PV.raw (.int .i64 z.x), PV.raw (.int .i64 z.y), PV.raw (.int .i64 z.w), PV.raw (.int .i64 (ndN l k).line)]] = List.map cAt (s2.a ++ [atL k (ndN l k).line z]) := by simp [cAt, atL]
          refine swp_seqS ?_
          refine swp_block ?_
          (refine swp_seqW ?_; simp only [go_sem, Bool.not_eq_true', Bool.not_eq_false', List.length_map])
          refine ⟨by omega, ex_get hit ?_⟩
          rw [hZ]
          (refine swp_seqW ?_; simp only [go_sem, Bool.not_eq_true', Bool.not_eq_false', List.length_map])
          refine ⟨⟨by omega, by omega⟩, ?_⟩
          rw [em]
          have hst : List.foldl (setG k (ndN l k).line) s (List.take (i + 1) T) = ⟨s2.a ++ [atL k (ndN l k).line z], s2.f, ⟨z.y + (ndN l k).line, 0⟩⟩ := hst
          (refine swp_lastW ?_; simp only [go_sem, Bool.not_eq_true', Bool.not_eq_false'])
          refine ⟨⟨by omega, by omega⟩, ?_⟩
          (refine swp_lastW ?_; simp only [go_sem, Bool.not_eq_true', Bool.not_eq_false'])
          refine ⟨by omega, ?_⟩
          (refine loop_end [] (i + 1) (by simp only [go_sem, Bool.not_eq_true', Bool.not_eq_false']; rfl) ?_ ?_ ?_; (focus first | omega | (simp only; omega)); (focus (simp only [go_sem, Bool.not_eq_true', Bool.not_eq_false', hst]; done)))
          omega
        · obtain rfl : i = T.length := by omega
          rw [List.take_length]
          (refine cut_end [] (()) (by simp only [go_sem, Bool.not_eq_true', Bool.not_eq_false']; rfl) ?_ ?_; (focus (simp only [go_sem, Bool.not_eq_true', Bool.not_eq_false']; done)))
          trivial
      rintro - -
      refine swp_seqS ?_
      (refine swp_seqW ?_; simp only [go_sem, Bool.not_eq_true', Bool.not_eq_false'])
      (refine swp_condW ?_; simp only [go_sem, Bool.not_eq_true', Bool.not_eq_false'])
      refine ⟨fun w => by omega, fun _ => ?_⟩
      (refine swp_lastW ?_; simp only [go_sem, Bool.not_eq_true', Bool.not_eq_false'])
      refine swp_seqS ?_
      (refine swp_seqW ?_; simp only [go_sem, Bool.not_eq_true', Bool.not_eq_false'])
      (refine swp_condW ?_; simp only [go_sem, Bool.not_eq_true', Bool.not_eq_false'])
      refine ⟨fun w => by omega, fun _ => ?_⟩
      (refine swp_lastW ?_; simp only [go_sem, Bool.not_eq_true', Bool.not_eq_false'])
      (refine swp_lastW ?_; simp only [go_sem, Bool.not_eq_true', Bool.not_eq_false'])
      (refine ret2 [] (by simp only [go_sem, Bool.not_eq_true', Bool.not_eq_false']; rfl) ?_; simp only [go_sem, Bool.not_eq_true', Bool.not_eq_false'])
    · rw [if_neg (by omega), if_neg (by omega), if_pos q] at hkd
      have hb := nodB_mono hnb q
      have hxh := hb.h
      have hh1 := hsN_succ hk
      have e1 : hgtN (ndN l k) = (ndN l k).h := by unfold hgtN; rw [if_neg (by omega), if_neg (by omega)]
      have hmono := hs_mono hP.v (show k + 1 ≤ l.length by omega) (Nat.le_refl _)
      unfold hall at hB
      have hal := hs.al
      have hps := ps_mono (l := l) (show k ≤ l.length by omega) (Nat.le_refl _)
      have hpa := hP.ps
      unfold pall at hpa
      have hro := rroom12_ok s.f (ndN l k).w (ndN l k).h (spK l w k) (hs.lin hB1 (by omega) ⟨by omega, by omega⟩ hsp) (cntP s.f (atP s.p) + 1) (atP s.p) (Nat.lt_succ_self _) ⟨by omega, by omega⟩
      have hy1 := rom_ge s.f (ndN l k).w (ndN l k).h (atP s.p) (spK l w k)
      have hy2 := rom_le (w := (ndN l k).w) (H := (ndN l k).h) (s := spK l w k) (y := atP s.p) hs.b (fun g hg => (hs.fs g hg).y.2)
      have emo : monG (spK l w k) k (ndN l k) s = ⟨s.a ++ [⟨2, k, 0, 0, (bandF s.f (romY s.f (ndN l k).w (ndN l k).h (atP s.p) (spK l w k)) (ndN l k).h (spK l w k)).a, romY s.f (ndN l k).w (ndN l k).h (atP s.p) (spK l w k), (ndN l k).w, (ndN l k).h⟩], s.f, ⟨romY s.f (ndN l k).w (ndN l k).h (atP s.p) (spK l w k) + (ndN l k).h, 0⟩⟩ := rfl
      rw [hkd, emo]
      unfold aRoo at hro
      generalize romY s.f (ndN l k).w (ndN l k).h (atP s.p) (spK l w k) = Y at *
      generalize bandF s.f Y (ndN l k).h (spK l w k) = bd at *
      have em : List.map cAt s.a ++ [[PV.raw (.int .i64 2), PV.raw (.int .i64 k), PV.raw (.int .i64 0), PV.raw (.int .i64 0), PV.raw (.int .i64 bd.a), PV.raw (.int .i64 Y), PV.raw (.int .i64 (ndN l k).w), PV.raw (.int .i64 (ndN l k).h)]] = List.map cAt (s.a ++ [⟨2, k, 0, 0, bd.a, Y, (ndN l k).w, (ndN l k).h⟩]) := by simp [cAt]
      refine swp_seqS ?_
      (refine swp_seqW ?_; simp only [go_sem, Bool.not_eq_true', Bool.not_eq_false'])
      (refine swp_condW ?_; simp only [go_sem, Bool.not_eq_true', Bool.not_eq_false'])
      refine ⟨fun w => by omega, fun _ => ?_⟩
      (refine swp_lastW ?_; simp only [go_sem, Bool.not_eq_true', Bool.not_eq_false'])
      refine swp_seqS ?_
      (refine swp_seqW ?_; simp only [go_sem, Bool.not_eq_true', Bool.not_eq_false'])
      (refine swp_condW ?_; simp only [go_sem, Bool.not_eq_true', Bool.not_eq_false'])
      refine ⟨fun w => by omega, fun _ => ?_⟩
      (refine swp_lastW ?_; simp only [go_sem, Bool.not_eq_true', Bool.not_eq_false'])
      refine swp_seqS ?_
      (refine swp_seqW ?_; simp only [go_sem, Bool.not_eq_true', Bool.not_eq_false'])
      (refine swp_condW ?_; simp only [go_sem, Bool.not_eq_true', Bool.not_eq_false'])
      refine ⟨fun _ => ?_, fun w => absurd q w⟩
      (refine swp_seqW ?_; simp only [go_sem, Bool.not_eq_true', Bool.not_eq_false'])
      (refine acall2 [805 ] ( hro) (by simp only [go_sem, Bool.not_eq_true', Bool.not_eq_false']; rfl) (fit_of (by simp only [go_sem, Bool.not_eq_true', Bool.not_eq_false']) (by simp only [go_sem, Bool.not_eq_true', Bool.not_eq_false']) (by simp only [go_sem, Bool.not_eq_true', Bool.not_eq_false']) (by simp only [go_sem, Bool.not_eq_true', Bool.not_eq_false']) (by simp only [go_sem, Bool.not_eq_true', Bool.not_eq_false']) (by simp only [go_sem, Bool.not_eq_true', Bool.not_eq_false']) (by simp only [go_sem, Bool.not_eq_true', Bool.not_eq_false'])) ?_; simp only [go_sem, Bool.not_eq_true', Bool.not_eq_false'])
      (refine swp_seqW ?_; simp only [go_sem, Bool.not_eq_true', Bool.not_eq_false', List.length_map])
      refine ⟨⟨by omega, by omega⟩, ?_⟩
      rw [em]
      (refine swp_lastW ?_; simp only [go_sem, Bool.not_eq_true', Bool.not_eq_false'])
      refine ⟨⟨by omega, by omega⟩, ?_⟩
      refine swp_seqS ?_
      (refine swp_seqW ?_; simp only [go_sem, Bool.not_eq_true', Bool.not_eq_false'])
      (refine swp_condW ?_; simp only [go_sem, Bool.not_eq_true', Bool.not_eq_false'])
      refine ⟨fun w => by omega, fun _ => ?_⟩
      (refine swp_lastW ?_; simp only [go_sem, Bool.not_eq_true', Bool.not_eq_false'])
      (refine swp_lastW ?_; simp only [go_sem, Bool.not_eq_true', Bool.not_eq_false'])
      (refine ret2 [] (by simp only [go_sem, Bool.not_eq_true', Bool.not_eq_false']; rfl) ?_; simp only [go_sem, Bool.not_eq_true', Bool.not_eq_false'])
    · rw [if_neg (by omega), if_neg (by omega), if_neg (by omega)] at hkd
      obtain ⟨hb, hsd⟩ := nodB_flt hnb q
      have hal := hs.al
      have hps := ps_mono (l := l) (show k ≤ l.length by omega) (Nat.le_refl _)
      have hpa := hP.ps
      unfold pall at hpa
      have hpu := rput11_ok s.f (newF k (ndN l k) s) (atP s.p) (spK l w k) (hs.pla hB1 (by omega) hb hsp)
      have efl : fltG (spK l w k) k (ndN l k) s = ⟨s.a, putP s.f (newF k (ndN l k) s) (atP s.p) (spK l w k), s.p⟩ := rfl
      rw [hkd, efl]
      generalize putP s.f (newF k (ndN l k) s) (atP s.p) (spK l w k) = f2 at hpu ⊢
      have enf : newF k (ndN l k) s = ⟨k, (ndN l k).side, s.a.length, 0, 0, (ndN l k).w, (ndN l k).h⟩ := rfl
      rw [enf] at hpu
      refine swp_seqS ?_
      (refine swp_seqW ?_; simp only [go_sem, Bool.not_eq_true', Bool.not_eq_false'])
      (refine swp_condW ?_; simp only [go_sem, Bool.not_eq_true', Bool.not_eq_false'])
      refine ⟨fun w => by omega, fun _ => ?_⟩
      (refine swp_lastW ?_; simp only [go_sem, Bool.not_eq_true', Bool.not_eq_false'])
      refine swp_seqS ?_
      (refine swp_seqW ?_; simp only [go_sem, Bool.not_eq_true', Bool.not_eq_false'])
      (refine swp_condW ?_; simp only [go_sem, Bool.not_eq_true', Bool.not_eq_false'])
      refine ⟨fun w => by omega, fun _ => ?_⟩
      (refine swp_lastW ?_; simp only [go_sem, Bool.not_eq_true', Bool.not_eq_false'])
      refine swp_seqS ?_
      (refine swp_seqW ?_; simp only [go_sem, Bool.not_eq_true', Bool.not_eq_false'])
      (refine swp_condW ?_; simp only [go_sem, Bool.not_eq_true', Bool.not_eq_false'])
      refine ⟨fun w => by omega, fun _ => ?_⟩
      (refine swp_lastW ?_; simp only [go_sem, Bool.not_eq_true', Bool.not_eq_false'])
      refine swp_seqS ?_
      (refine swp_seqW ?_; simp only [go_sem, Bool.not_eq_true', Bool.not_eq_false'])
      (refine swp_condW ?_; simp only [go_sem, Bool.not_eq_true', Bool.not_eq_false'])
      refine ⟨fun _ => ?_, fun w => absurd q w⟩
      (refine swp_seqW ?_; simp only [go_sem, Bool.not_eq_true', Bool.not_eq_false', List.length_map])
      (refine swp_lastW ?_; simp only [go_sem, Bool.not_eq_true', Bool.not_eq_false'])
      (refine acall2 [805 ] ( hpu) (by simp only [go_sem, Bool.not_eq_true', Bool.not_eq_false']; rfl) (fit_of (by simp only [go_sem, Bool.not_eq_true', Bool.not_eq_false']) (by simp only [go_sem, Bool.not_eq_true', Bool.not_eq_false']) (by simp only [go_sem, Bool.not_eq_true', Bool.not_eq_false']) (by simp only [go_sem, Bool.not_eq_true', Bool.not_eq_false']) (by simp only [go_sem, Bool.not_eq_true', Bool.not_eq_false']) (by simp only [go_sem, Bool.not_eq_true', Bool.not_eq_false']) (by simp only [go_sem, Bool.not_eq_true', Bool.not_eq_false'])) ?_; simp only [go_sem, Bool.not_eq_true', Bool.not_eq_false'])
      (refine swp_lastW ?_; simp only [go_sem, Bool.not_eq_true', Bool.not_eq_false'])
      (refine ret2 [] (by simp only [go_sem, Bool.not_eq_true', Bool.not_eq_false']; rfl) ?_; simp only [go_sem, Bool.not_eq_true', Bool.not_eq_false'])
end Go.Proofs.Ytblmebjhhanoaaa
/- CHAPTER 14: the document's answer: the galley. -/
/- G -/
/- BOOLS -/
set_option linter.unusedSimpArgs false
set_option linter.unusedVariables false
namespace Go.Proofs.Ytblmebjhhanoaaa
open Go.RowKit

structure LGal where
  a : List LAt
  f : List LFl
  h : Int
def endF (n : Nat) (f : LFl) : LFl := ⟨f.node, f.side, if (n : Int) ≤ f.anchor then max ((n : Int) - 1) 0 else f.anchor, f.x, f.y, f.w, f.h⟩
def hgtS (b : Int) (fs : List LFl) : Int := fs.foldl (fun h f => max h (f.y + f.h)) b
def endG (s : LGs) : LGal := ⟨s.a, s.f.map (endF s.a.length), hgtS (atP s.p) s.f⟩
def allS (l : List LNo) (w : Int) : LGs := rowG l w (l.length + 1) 0 l.length ⟨[], [], ⟨0, 0⟩⟩
def errG (l : List LNo) (w : Int) : Int := if 1 ≤ w ∧ w ≤ 1099511627776 then chkN l else 4
def resG (l : List LNo) (w : Int) : LGal := if errG l w = 0 then endG (allS l w) else ⟨[], [], 0⟩
def aGal (g : LGal) (i j : Nat) : AV := .agg [.hdr i, .hdr j, .raw (.int .i64 g.h)]
attribute [go_sem] aGal
theorem errG_ok {l : List LNo} {w : Int} (hl : l.length ≤ 60) (h : errG l w = 0) : FlwP l w := by
  unfold errG at h
  split at h
  · next q =>
    unfold chkN at h
    split at h
    · cases h
    · next hv =>
      split at h
      · cases h
      · next hc => exact ⟨by simpa using hv, hl, by omega, by omega, q⟩
  · cases h
theorem gs_zero (l : List LNo) : GsOk l 0 0 ⟨[], [], ⟨0, 0⟩⟩ := ⟨Int.le_refl _, Int.le_refl _, Int.le_refl _, Nat.le_refl _, Int.le_refl _, fun f hf => by cases hf⟩
theorem allS_ok {l : List LNo} {w : Int} (hP : FlwP l w) : GsOk l (hall l) l.length (allS l w) := by
  have := rowG_ok hP (l.length + 1) 0 l.length 0 ⟨[], [], ⟨0, 0⟩⟩ (isS_nst hP.v) (Int.le_refl _) (gs_zero l)
  rw [Int.toNat_natCast, hsN_zero] at this
  exact this.mono (by unfold hall; omega)
def flE (n : Nat) (fs : List LFl) (i : Nat) : List LFl := (fs.take i).map (endF n) ++ fs.drop i
theorem flE_len {n : Nat} {fs : List LFl} {i : Nat} : (flE n fs i).length = fs.length := by
  unfold flE
  simp
  omega
theorem flE_get {n : Nat} {fs : List LFl} {i : Nat} (hi : i < fs.length) : (flE n fs i)[i]? = some fs[i] := by
  unfold flE
  rw [List.getElem?_append_right (by simp; omega), List.length_map, List.length_take, List.getElem?_drop]
  have : i + (i - min i fs.length) = i := by omega
  rw [this, List.getElem?_eq_getElem hi]
theorem flE_set {n : Nat} {fs : List LFl} {i : Nat} (hi : i < fs.length) : (flE n fs i).set i (endF n fs[i]) = flE n fs (i + 1) := by
  unfold flE
  rw [List.drop_eq_getElem_cons hi, List.take_succ_eq_append_getElem hi, List.set_append_right _ _ (by simp; omega)]
  have : i - (List.map (endF n) (List.take i fs)).length = 0 := by simp; omega
  rw [this, List.set_cons_zero, List.map_append, List.append_assoc]
  rfl
theorem hgtS_bd {B : Int} : ∀ (fs : List LFl) (b : Int), 0 ≤ b ∧ b ≤ B → (∀ f ∈ fs, 0 ≤ f.y + f.h ∧ f.y + f.h ≤ B) → 0 ≤ hgtS b fs ∧ hgtS b fs ≤ B
  | [], b, h, _ => h
  | f :: fs, b, h, hf => by
    have := hf f List.mem_cons_self
    exact hgtS_bd fs (max b (f.y + f.h)) (by omega) fun g hg => hf g (List.mem_cons_of_mem _ hg)
theorem hgtS_step {b : Int} {fs : List LFl} {i : Nat} (hi : i < fs.length) : hgtS b (fs.take (i + 1)) = max (hgtS b (fs.take i)) (fs[i].y + fs[i].h) := by
  unfold hgtS
  rw [List.take_succ_eq_append_getElem hi, List.foldl_append]
  rfl
theorem flE_zero (n : Nat) (fs : List LFl) : flE n fs 0 = fs := rfl
theorem hgtS_zero (p : LPen) : hgtS (p.y + p.m) [] = p.y + p.m := rfl
theorem flE_all (n : Nat) (fs : List LFl) : flE n fs fs.length = fs.map (endF n) := by
  unfold flE
  rw [List.take_length, List.drop_length, List.append_nil]
abbrev stH (h : Int) (p : LPen) (i j : Nat) : AO := .cells 122 [.hdr i, .hdr j, .raw (.int .i64 h), .raw (.int .i64 p.y), .raw (.int .i64 p.m)]
set_option maxRecDepth 100000 in
set_option maxHeartbeats 8000000 in
theorem rof14_ok (l : List LNo) (w : Int) (hl : l.length ≤ 60) (hw : ∀ x ∈ l, x.words.length ≤ 9223372036854775807) (hp : pall l ≤ 9223372036854775807) :
    FnOk Try.prog 43 [.sl 20 (l.map cNo), .raw (.int .i64 w)] [] (.tup [aGal (resG l w) 8 9, .raw (.int .i64 (errG l w))]) [(8, .row 41 8 ((resG l w).a.map cAt)), (9, .row 39 7 ((resG l w).f.map cFl))] := by
  refine fn_of_swp Try.func43 rfl (by kernel_rfl) (by kernel_rfl) (Nat.le_of_ble_eq_true rfl) Try.results43 ?_
  (refine swp_seqW ?_; simp only [go_sem, Bool.not_eq_true', Bool.not_eq_false'])
  (refine swp_seqW ?_; simp only [go_sem, Bool.not_eq_true', Bool.not_eq_false'])
  by_cases hw1 : 1 ≤ w ∧ w ≤ 1099511627776
  rotate_left
  · have e1 : errG l w = 4 := if_neg hw1
    have e2 : resG l w = ⟨[], [], 0⟩ := by unfold resG; rw [e1]; rfl
    rw [e1, e2]
    repeat' first | contradiction | intro _ | refine And.intro ?_ ?_ | refine ex_get (by omega) ?_ | (show drawB _ _ = true; kernel_rfl) | (refine ret2 [] (by simp only [go_sem, Bool.not_eq_true', Bool.not_eq_false', List.map_nil]; rfl) ?_; simp only [go_sem, Bool.not_eq_true', Bool.not_eq_false', List.map_nil])
    all_goals first
      | omega
      | skip
  have e1 : errG l w = chkN l := if_pos hw1
  refine ⟨fun _ => ⟨fun q => by omega, fun _ => ?_⟩, fun q => by omega⟩
  (refine swp_seqW ?_; simp only [go_sem, Bool.not_eq_true', Bool.not_eq_false'])
  (refine acall2 [] (rcheck6_ok l (by omega) hw hp) (by simp only [go_sem, Bool.not_eq_true', Bool.not_eq_false']; rfl) (fit_of (by simp only [go_sem, Bool.not_eq_true', Bool.not_eq_false']) (by simp only [go_sem, Bool.not_eq_true', Bool.not_eq_false']) (by simp only [go_sem, Bool.not_eq_true', Bool.not_eq_false']) (by simp only [go_sem, Bool.not_eq_true', Bool.not_eq_false']) (by simp only [go_sem, Bool.not_eq_true', Bool.not_eq_false']) (by simp only [go_sem, Bool.not_eq_true', Bool.not_eq_false']) (by simp only [go_sem, Bool.not_eq_true', Bool.not_eq_false'])) ?_; simp only [go_sem, Bool.not_eq_true', Bool.not_eq_false'])
  rw [e1]
  refine ⟨fun hc => ?_, fun hc => ?_⟩
  · have e2 : resG l w = ⟨[], [], 0⟩ := by unfold resG; rw [e1, if_neg hc]
    rw [e2]
    (refine ret2 [] (by simp only [go_sem, Bool.not_eq_true', Bool.not_eq_false']; rfl) ?_; simp only [go_sem, Bool.not_eq_true', Bool.not_eq_false'])
  have hP := errG_ok hl (by rw [e1]; exact hc)
  have e2 : resG l w = endG (allS l w) := by unfold resG; rw [e1, if_pos hc]
  rw [e2, hc]
  have hA := allS_ok hP
  have hH := hP.hi
  have hpp := hP.ps
  unfold pall at hpp
  (refine swp_seqW ?_; simp only [go_sem, Bool.not_eq_true', Bool.not_eq_false'])
  refine swp_cutS (fun _ : Unit => ⟨[(4, .hdr 800), (5, .raw (.int .i64 0)), (7, .hdr 803)], [(800, some (.cells 28 [.hdr 801, .hdr 802, .raw (.int .i64 0)])), (803, some (stH 0 (allS l w).p 804 805)), (804, some (rowA (allS l w))), (805, some (rowF (allS l w)))], none⟩) (fun _ => True) 120 ?_ ?_
  · (refine swp_seqW ?_; simp only [go_sem, Bool.not_eq_true', Bool.not_eq_false'])
    refine swp_block ?_
    refine swp_loop2 [] (fun z : KY LGs => ⟨[(0, .sl 20 (l.map cNo)), (1, .raw (.int .i64 w)), (4, .hdr 800), (5, .raw (.int .i64 0)), (7, .hdr 803), (8, .raw (.int .i64 z.k))], [(800, some (.cells 28 [.hdr 801, .hdr 802, .raw (.int .i64 0)])), (803, some (stH 0 z.o.p 804 805)), (804, some (rowA z.o)), (805, some (rowF z.o))], none⟩) (fun z => (z.k : Int) ≤ l.length ∧ GsOk l (hsN l z.k) z.k z.o ∧ ∃ g', nst l g' z.k l.length ∧ rowG l w g' z.k l.length z.o = allS l w) (fun z => l.length - z.k) 120 ⟨0, ⟨[], [], ⟨0, 0⟩⟩⟩ (by simp only [go_sem, Bool.not_eq_true', Bool.not_eq_false']; rfl) (by simp only [go_sem, Bool.not_eq_true', Bool.not_eq_false', List.map_nil]) ?_ ?_
    · exact ⟨by simp only; omega, gs_zero l, l.length + 1, isS_nst hP.v, rfl⟩
    rintro ⟨kk, z⟩ ⟨z2, z3, g', z5, z6⟩
    simp only at z2 z3 z5 z6
    (refine swp_seqW ?_; simp only [go_sem, Bool.not_eq_true', Bool.not_eq_false', List.length_map])
    refine ⟨fun h5 => ?_, fun h5 => ?_⟩
    · obtain ⟨m, rfl⟩ : ∃ m, g' = m + 1 := by
        cases g' with
        | zero => exact absurd z5 (by simp [nst])
        | succ m => exact ⟨m, rfl⟩
      obtain ⟨u1, u2, u3, u4⟩ := z5.2 h5
      rw [← ndN_siz] at u1 u2 u3 u4
      have hkk : kk < l.length := by omega
      rw [rowG, if_pos h5] at z6
      have hm1 := hs_mono hP.v (show kk ≤ l.length by omega) (Nat.le_refl _)
      have hih := rone14_ok hP m m (Nat.le_refl _) kk z _ hkk u3 z3 (by omega)
      have hnx := nod_next hP hkk u3 z3
      generalize nodG l w (rowG l w m) kk z = z' at hih hnx z6
      obtain ⟨sz, hsz2⟩ : ∃ sz : Nat, (ndN l kk).size = sz := ⟨(ndN l kk).size.toNat, by omega⟩
      rw [hsz2] at u1 u2 u3 u4 z6 hnx
      rw [Int.toNat_natCast] at u4 z6 hnx
      refine swp_seqS ?_
      refine swp_block ?_
      (refine swp_lastW ?_; simp only [go_sem, Bool.not_eq_true', Bool.not_eq_false'])
      (refine acall2 [] (hih) (by simp only [go_sem, Bool.not_eq_true', Bool.not_eq_false']; rfl) (fit_of (by simp only [go_sem, Bool.not_eq_true', Bool.not_eq_false']) (by simp only [go_sem, Bool.not_eq_true', Bool.not_eq_false']) (by simp only [go_sem, Bool.not_eq_true', Bool.not_eq_false']) (by simp only [go_sem, Bool.not_eq_true', Bool.not_eq_false']) (by simp only [go_sem, Bool.not_eq_true', Bool.not_eq_false']) (by simp only [go_sem, Bool.not_eq_true', Bool.not_eq_false']) (by simp only [go_sem, Bool.not_eq_true', Bool.not_eq_false'])) ?_; simp only [go_sem, Bool.not_eq_true', Bool.not_eq_false'])
      (refine swp_lastW ?_; simp only [go_sem, Bool.not_eq_true', Bool.not_eq_false'])
      refine ⟨by omega, ex_get hkk ?_⟩
      rw [← ndN_get hkk, hsz2]
      refine ⟨⟨by omega, by omega⟩, ?_⟩
      (refine loop_end [] (⟨kk + sz, z'⟩) (by simp only [go_sem, Bool.not_eq_true', Bool.not_eq_false']; rfl) ?_ ?_ ?_; (focus first | omega | (simp only; omega)); (focus (simp only [go_sem, Bool.not_eq_true', Bool.not_eq_false']; done)))
      exact ⟨by simp only; omega, hnx.mono (by show _ ≤ hsN l (kk + sz); omega), m, u4, z6⟩
    · have e5 : rowG l w g' kk l.length z = z := by
        cases g' with
        | zero => rfl
        | succ m => rw [rowG, if_neg h5]
      rw [← z6, e5]
      (refine cut_end [] (()) (by simp only [go_sem, Bool.not_eq_true', Bool.not_eq_false']; rfl) ?_ ?_; (focus (simp only [go_sem, Bool.not_eq_true', Bool.not_eq_false']; done)))
      trivial
  rintro - -
  have hy := hA.y
  have hm := hA.m
  have hb := hA.b
  have hfl := hA.fl
  have hal := hA.al
  have hfs := hA.fs
  unfold endG
  generalize allS l w = s at *
  (refine swp_seqW ?_; simp only [go_sem, Bool.not_eq_true', Bool.not_eq_false'])
  refine ⟨by unfold hall at *; omega, ?_⟩
  unfold atP
  have hfs2 : ∀ f ∈ s.f, 0 ≤ f.y + f.h ∧ f.y + f.h ≤ 1099511627776 := fun f hf => by
    have h1 := (hfs f hf).y
    have h2 := (hfs f hf).h
    omega
  clear hfs
  refine swp_cutS (fun _ : Unit => ⟨[(4, .hdr 800), (5, .raw (.int .i64 0)), (7, .hdr 803)], [(800, some (.cells 28 [.hdr 801, .hdr 802, .raw (.int .i64 0)])), (803, some (stH (hgtS (s.p.y + s.p.m) s.f) s.p 804 805)), (804, some (rowA s)), (805, some (.row 39 7 ((s.f.map (endF s.a.length)).map cFl)))], none⟩) (fun _ => True) 120 ?_ ?_
  · (refine swp_seqW ?_; simp only [go_sem, Bool.not_eq_true', Bool.not_eq_false'])
    refine swp_block ?_
    refine swp_loop2 [] (fun i : Nat => ⟨[(4, .hdr 800), (5, .raw (.int .i64 0)), (7, .hdr 803), (9, .raw (.int .i64 i))], [(800, some (.cells 28 [.hdr 801, .hdr 802, .raw (.int .i64 0)])), (803, some (stH (hgtS (s.p.y + s.p.m) (s.f.take i)) s.p 804 805)), (804, some (rowA s)), (805, some (.row 39 7 ((flE s.a.length s.f i).map cFl)))], none⟩) (fun i => i ≤ s.f.length) (fun i => s.f.length - i) 120 0 (by simp only [go_sem, Bool.not_eq_true', Bool.not_eq_false']; rfl) (by simp only [go_sem, Bool.not_eq_true', Bool.not_eq_false', List.take_zero, flE_zero, hgtS_zero]) ?_ ?_
    · exact Nat.zero_le _
    intro i hi
    have hln := @flE_len s.a.length s.f i
    (refine swp_seqW ?_; simp only [go_sem, Bool.not_eq_true', Bool.not_eq_false', List.length_map])
    refine ⟨fun h5 => ?_, fun h5 => ?_⟩
    · have hii : i < s.f.length := by omega
      have hg := flE_get (n := s.a.length) hii
      have hst := flE_set (n := s.a.length) hii
      have hh := hgtS_step (b := s.p.y + s.p.m) hii
      have hb2 := hgtS_bd (B := 1099511627776) (s.f.take i) (s.p.y + s.p.m) ⟨by omega, by unfold hall at *; omega⟩ (fun f hf => hfs2 f (List.mem_of_mem_take hf))
      have hfi := hfs2 _ (List.getElem_mem hii)
      generalize hE : flE s.a.length s.f i = E at *
      have eS : ∀ f', endF s.a.length s.f[i] = f' → (E.map cFl).set i (cFl f') = (flE s.a.length s.f (i + 1)).map cFl := fun f' e => by rw [← e, ← hst, List.map_set]
      generalize s.f[i] = f at *
      refine swp_seqS ?_
      refine swp_block ?_
      (refine swp_seqW ?_; simp only [go_sem, Bool.not_eq_true', Bool.not_eq_false', List.length_map])
      refine ⟨by omega, f, hg, ?_⟩
      (refine swp_seqW ?_; simp only [go_sem, Bool.not_eq_true', Bool.not_eq_false', List.length_map])
      refine ⟨⟨by omega, by omega⟩, ?_⟩
      rw [← hh]
      (refine swp_seqW ?_; simp only [go_sem, Bool.not_eq_true', Bool.not_eq_false', List.length_map])
      (refine swp_condW ?_; simp only [go_sem, Bool.not_eq_true', Bool.not_eq_false'])
      refine ⟨fun hq => ?_, fun hq => ?_⟩
      · have ef : endF s.a.length f = ⟨f.node, f.side, max ((s.a.length : Int) - 1) 0, f.x, f.y, f.w, f.h⟩ := by unfold endF; rw [if_pos hq]
        have e := eS _ ef
        simp only [cFl] at e
        (refine swp_lastW ?_; simp only [go_sem, Bool.not_eq_true', Bool.not_eq_false', List.length_map])
        refine ⟨⟨by omega, by omega⟩, ⟨by omega, by omega⟩, f, hg, ?_⟩
        (refine swp_lastW ?_; simp only [go_sem, Bool.not_eq_true', Bool.not_eq_false'])
        refine ⟨by omega, ?_⟩
        (refine loop_end [] (i + 1) (by simp only [go_sem, Bool.not_eq_true', Bool.not_eq_false']; rfl) ?_ ?_ ?_; (focus first | omega | (simp only; omega)); (focus (simp only [go_sem, Bool.not_eq_true', Bool.not_eq_false', e]; done)))
        omega
      · have ef : endF s.a.length f = f := by unfold endF; rw [if_neg (by omega)]
        have e := eS _ ef
        have hsm : (E.map cFl).set i (cFl f) = E.map cFl := by
          obtain ⟨hlt, he⟩ := List.getElem?_eq_some_iff.1 hg
          rw [← List.map_set, ← he, List.set_getElem_self hlt]
        rw [hsm] at e
        (refine swp_lastW ?_; simp only [go_sem, Bool.not_eq_true', Bool.not_eq_false'])
        (refine swp_lastW ?_; simp only [go_sem, Bool.not_eq_true', Bool.not_eq_false'])
        refine ⟨by omega, ?_⟩
        (refine loop_end [] (i + 1) (by simp only [go_sem, Bool.not_eq_true', Bool.not_eq_false']; rfl) ?_ ?_ ?_; (focus first | omega | (simp only; omega)); (focus (simp only [go_sem, Bool.not_eq_true', Bool.not_eq_false', e]; done)))
        omega
    · obtain rfl : i = s.f.length := by omega
      rw [List.take_length, flE_all]
      (refine cut_end [] (()) (by simp only [go_sem, Bool.not_eq_true', Bool.not_eq_false']; rfl) ?_ ?_; (focus (simp only [go_sem, Bool.not_eq_true', Bool.not_eq_false']; done)))
      trivial
  rintro - -
  (refine swp_lastW ?_; simp only [go_sem, Bool.not_eq_true', Bool.not_eq_false'])
  (refine ret2 [] (by simp only [go_sem, Bool.not_eq_true', Bool.not_eq_false']; rfl) ?_; simp only [go_sem, Bool.not_eq_true', Bool.not_eq_false'])
end Go.Proofs.Ytblmebjhhanoaaa
/- CHAPTER 14: flow: what each node's step keeps, all keep; what stands where, node by node. -/
/- G -/
set_option linter.unusedSimpArgs false
set_option linter.unusedVariables false
namespace Go.Proofs.Ytblmebjhhanoaaa
open Go.RowKit

theorem isG_nodk : ∀ (l : List LNo) (i : Nat) (st : List Int), isG l i st = true → ∀ x ∈ l, nodB x = true ∧ ¬(x.kind ≠ 1 ∧ 1 < x.size)
  | [], _, _, _, x, hx => by cases hx
  | y :: l, i, st, h, x, hx => by
    rw [isG] at h
    simp only [Bool.and_eq_true, Bool.not_eq_true', Bool.and_eq_false_iff, decide_eq_true_eq, decide_eq_false_iff_not] at h
    obtain ⟨⟨⟨⟨u1, u2⟩, u3⟩, u4⟩, u5⟩ := h
    rcases List.mem_cons.1 hx with e | q
    · subst e
      exact ⟨u1, fun w => u4.elim (fun z => z w.1) (fun z => z w.2)⟩
    · exact isG_nodk l _ _ u5 x q
theorem leaf_siz {l : List LNo} (hv : isS l = true) {k : Nat} (hk : k < l.length) (q : (ndN l k).kind ≠ 1) : (ndN l k).size = 1 := by
  have h1 := (isG_nodk l 0 _ hv l[k] (List.getElem_mem hk)).2
  have h2 := isS_sizes hv l[k] (List.getElem_mem hk)
  rw [ndN_get hk] at q ⊢
  have : ¬ 1 < l[k].size := fun w => h1 ⟨q, w⟩
  omega
/-- a property that each node's step hands on. -/
structure StepP (l : List LNo) (w : Int) (P : Nat → LGs → Prop) : Prop where
  ent : ∀ k s B, k < l.length → (ndN l k).kind = 1 → GsOk l B k s → B ≤ 1099511627776 → P k s → P (k + 1) (entG (ndN l k) s)
  lv : ∀ k e s B, k < l.length → (ndN l k).kind = 1 → GsOk l B e s → B ≤ 1099511627776 → P e s → P e (lvG (ndN l k) s)
  txt : ∀ k s B, k < l.length → (ndN l k).kind = 2 → GsOk l B k s → B ≤ 1099511627776 → P k s → P (k + 1) (txtG (spK l w k) k (ndN l k) s)
  mon : ∀ k s B, k < l.length → (ndN l k).kind = 3 → GsOk l B k s → B ≤ 1099511627776 → P k s → P (k + 1) (monG (spK l w k) k (ndN l k) s)
  flt : ∀ k s B, k < l.length → (ndN l k).kind = 4 → GsOk l B k s → B ≤ 1099511627776 → P k s → P (k + 1) (fltG (spK l w k) k (ndN l k) s)
theorem row_ind {l : List LNo} {w : Int} (hP : FlwP l w) {P : Nat → LGs → Prop} (hS : StepP l w P) : ∀ (n k : Nat) (e B : Int) (s : LGs), nst l n k e → e ≤ l.length → GsOk l B k s → B + (hall l - hsN l k) ≤ 1099511627776 → P k s → P e.toNat (rowG l w n k e s)
  | 0, k, e, B, s, h, _, _, _, _ => absurd h (by simp [nst])
  | n + 1, k, e, B, s, h, he, hg, hB, hp => by
    obtain ⟨h1, h2⟩ := h
    rw [rowG]
    split
    · next q =>
      obtain ⟨u1, u2, u3, u4⟩ := h2 q
      rw [← ndN_siz] at u1 u2 u3 u4
      have hk : k < l.length := by omega
      have e3 : ((k : Int) + (ndN l k).size).toNat = k + (ndN l k).size.toNat := by omega
      have hnb := nod_at hP.v hk
      have hs1 := hsN_succ hk
      have hm0 := hs_mono hP.v (show k ≤ l.length by omega) (Nat.le_refl _)
      have hm1 := hs_mono hP.v (show k + 1 ≤ k + (ndN l k).size.toNat by omega) (by omega)
      have hm2 := hs_mono hP.v (show k + (ndN l k).size.toNat ≤ l.length by omega) (Nat.le_refl _)
      unfold hall at hB
      have hB1 : B ≤ 1099511627776 := by omega
      have hnx := nod_next hP hk u3 hg
      have hN : P (k + (ndN l k).size.toNat) (nodG l w (rowG l w n) k s) := by
        unfold nodG
        rcases nodB_kind hnb with q | q | q | q
        · rw [if_pos q]
          have hb := nodB_blk hnb q
          have e1 : hgtN (ndN l k) = (ndN l k).st.top + (ndN l k).st.bottom + (ndN l k).st.padTop + (ndN l k).st.padBottom + (ndN l k).st.head := by unfold hgtN; rw [if_pos q]
          have hhd := hb.head
          have hbo := hb.bottom
          have hpb := hb.padBottom
          have hent := ent_ok hk hb hg
          have hr := row_ind hP hS n (k + 1) (k + (ndN l k).size) _ _ u3 (by omega) hent (by unfold hall; omega) (hS.ent k s B hk q hg hB1 hp)
          have hro := rowG_ok hP n (k + 1) (k + (ndN l k).size) _ _ u3 (by omega) hent
          rw [e3] at hr hro
          exact hS.lv k _ _ _ hk q hro (by omega) hr
        · rw [if_neg (by omega), if_pos q, leaf_siz hP.v hk (by omega)]
          exact hS.txt k s B hk q hg hB1 hp
        · rw [if_neg (by omega), if_neg (by omega), if_pos q, leaf_siz hP.v hk (by omega)]
          exact hS.mon k s B hk q hg hB1 hp
        · rw [if_neg (by omega), if_neg (by omega), if_neg (by omega), leaf_siz hP.v hk (by omega)]
          exact hS.flt k s B hk q hg hB1 hp
      exact row_ind hP hS n (k + (ndN l k).size.toNat) e _ _ u4 he hnx (by unfold hall; omega) hN
    · have e2 : e.toNat = k := by omega
      rw [e2]
      exact hp
theorem all_ind {l : List LNo} {w : Int} (hP : FlwP l w) {P : Nat → LGs → Prop} (hS : StepP l w P) (h0 : P 0 ⟨[], [], ⟨0, 0⟩⟩) : P l.length (allS l w) := by
  have := row_ind hP hS (l.length + 1) 0 l.length 0 ⟨[], [], ⟨0, 0⟩⟩ (isS_nst hP.v) (Int.le_refl _) (gs_zero l) (by have := hP.hi; rw [hsN_zero]; omega) h0
  rw [Int.toNat_natCast] at this
  exact this
/-! the pen never goes up -/
theorem ent_ge (x : LNo) (s : LGs) (hx : Blk6 x) : atP s.p ≤ atP (entG x s).p := by
  have h1 := hx.top
  have h2 := hx.padTop
  have hc : atP s.p ≤ atP (clrG x s) := by
    unfold clrG penC atP
    split
    · split
      · simp only; omega
      · exact Int.le_refl _
    · exact Int.le_refl _
  unfold atP at hc ⊢
  simp only [entG, penE, penP]
  split <;> (first | omega | (simp only; omega))
theorem lv_ge (x : LNo) (s : LGs) (hx : Blk6 x) (hm : 0 ≤ s.p.m) : atP s.p ≤ atP (lvG x s).p := by
  have h1 := hx.bottom
  have h2 := hx.padBottom
  unfold atP
  simp only [lvG, penL, penP]
  split <;> (first | omega | (simp only; omega))
theorem top_ge {l : List LFl} : ∀ (o : LIs), (∀ g ∈ l, g.y ≤ (l.foldl (mostT topF) o).n) ∧ (o.is = true → (l.foldl (mostT topF) o).is = true ∧ o.n ≤ (l.foldl (mostT topF) o).n) ∧ (l ≠ [] → (l.foldl (mostT topF) o).is = true) := by
  induction l with
  | nil => exact fun o => ⟨fun g hg => (by cases hg), fun h => ⟨h, Int.le_refl _⟩, fun h => absurd rfl h⟩
  | cons f l ih =>
    intro o
    rw [List.foldl_cons]
    have key : (mostT topF o f).is = true ∧ f.y ≤ (mostT topF o f).n ∧ (o.is = true → o.n ≤ (mostT topF o f).n) := by
      unfold mostT
      split
      · next h => exact ⟨rfl, Int.le_refl _, fun q => Int.le_of_lt (h.2 q)⟩
      · next h =>
        have h1 : o.is = true := by
          cases q : o.is with
          | true => rfl
          | false => exact absurd ⟨rfl, fun w => by rw [q] at w; cases w⟩ h
        refine ⟨h1, ?_, fun _ => Int.le_refl _⟩
        exact Int.not_lt.1 fun q => h ⟨rfl, fun _ => q⟩
    obtain ⟨i1, i2, -⟩ := ih (mostT topF o f)
    obtain ⟨i3, i4⟩ := i2 key.1
    refine ⟨fun g hg => ?_, fun h => ⟨i3, by have := key.2.2 h; omega⟩, fun _ => i3⟩
    rcases List.mem_cons.1 hg with rfl | hg
    · have := key.2.1; omega
    · exact i1 g hg
theorem spot_tops (l : List LFl) (f : LFl) (y : Int) (s : LSpan) : ∀ g ∈ l, g.y ≤ spotY l f y s := by
  intro g hg
  have h1 := (top_ge (l := l) ⟨0, false⟩).1 g hg
  have h2 := (top_ge (l := l) ⟨0, false⟩).2.2 (by intro e; subst e; cases hg)
  have h3 : fromP l y = max y (mostF topF l).n := from_t h2
  have h4 := dn_ge (l := l) (W := f.w) (H := f.h) (s := s) (l.length + 1) (fromP l y)
  have h5 : g.y ≤ (mostF topF l).n := h1
  unfold spotY
  omega
/-! anchors -/
def AncP (_ : Nat) (s : LGs) : Prop := ∀ f ∈ s.f, 0 ≤ f.anchor ∧ f.anchor ≤ s.a.length
theorem anc_step (l : List LNo) (w : Int) : StepP l w AncP where
  ent := fun _ _ _ _ _ _ _ h => h
  lv := fun _ _ _ _ _ _ _ _ h => h
  txt := fun k s B _ _ _ _ h => by
    obtain ⟨f1, f2⟩ := setG_fold k (ndN l k).line (texF s.f (ndN l k).words (ndN l k).space (ndN l k).line (atP s.p) (spK l w k)) s
    intro f hf
    unfold txtG at hf ⊢
    rw [f2] at hf
    rw [f1, List.length_append]
    have := h f hf
    omega
  mon := fun k s B _ _ _ _ h => fun f hf => by
    have := h f hf
    simp only [monG, List.length_append, List.length_cons, List.length_nil]
    omega
  flt := fun k s B _ _ _ _ h => fun f hf => by
    rcases List.mem_append.1 hf with hf | hf
    · exact h f hf
    · rw [List.mem_singleton] at hf
      subst hf
      simp only [fltG, setP, newF]
      omega
/-! what stands where -/
/-- lines that have a text's words, from one on. -/
def LinC (x : LNo) (k : Nat) : Nat → List LAt → Prop
  | f, [] => f = x.words.length
  | f, a :: L => a.kind = 1 ∧ a.node = k ∧ a.fr = f ∧ a.h = x.line ∧ ∃ t : Nat, a.to = t ∧ f < t ∧ t ≤ x.words.length ∧ a.w = wideN x.space (seg x.words f t) ∧ LinC x k t L
/-- a node's atoms. -/
def SegC (x : LNo) (k : Nat) (L : List LAt) : Prop :=
  if x.kind = 2 then LinC x k 0 L else if x.kind = 3 then ∃ a : LAt, L = [a] ∧ a.kind = 2 ∧ a.node = k ∧ a.w = x.w ∧ a.h = x.h else L = []
/-- atoms one below the other, from one height on, up to another one. -/
def RiseP : Int → List LAt → Int → Prop
  | lo, [], hi => lo ≤ hi
  | lo, a :: L, hi => lo ≤ a.y ∧ 0 ≤ a.h ∧ RiseP (a.y + a.h) L hi
theorem RiseP.up {L : List LAt} : ∀ {lo hi hi' : Int}, RiseP lo L hi → hi ≤ hi' → RiseP lo L hi' := by
  induction L with
  | nil => exact fun h q => Int.le_trans h q
  | cons a L ih => exact fun h q => ⟨h.1, h.2.1, ih h.2.2 q⟩
theorem RiseP.app {L M : List LAt} : ∀ {lo mid hi : Int}, RiseP lo L mid → RiseP mid M hi → RiseP lo (L ++ M) hi := by
  induction L with
  | nil =>
    intro lo mid hi h1 h2
    cases M with
    | nil => exact Int.le_trans h1 h2
    | cons a M => exact ⟨Int.le_trans h1 h2.1, h2.2⟩
  | cons a L ih => exact fun h1 h2 => ⟨h1.1, h1.2.1, ih h1.2.2 h2⟩
theorem RiseP.le {L : List LAt} : ∀ {lo hi : Int}, RiseP lo L hi → lo ≤ hi := by
  induction L with
  | nil => exact fun h => h
  | cons a L ih =>
    intro lo hi h
    have h1 := h.1
    have h2 := h.2.1
    have := ih h.2.2
    omega
theorem tex_once {l : List LFl} {x : LNo} {k : Nat} {sp : LSpan} (hH : 1 ≤ x.line) : ∀ (n f : Nat) (y : Int) (g : LGs), f ≤ x.words.length → x.words.length ≤ f + n → atP g.p = y →
    LinC x k f ((texG l x.words x.space x.line sp n f y).map (atL k x.line)) ∧ RiseP y ((texG l x.words x.space x.line sp n f y).map (atL k x.line)) (atP ((texG l x.words x.space x.line sp n f y).foldl (setG k x.line) g).p)
  | 0, f, y, g, h1, h2, h3 => ⟨show f = _ by omega, show y ≤ _ by rw [texG, List.foldl_nil]; omega⟩
  | n + 1, f, y, g, h1, h2, h3 => by
    rw [texG]
    split
    · next q =>
      obtain ⟨t, e1, e2, e3⟩ := lin_t (l := l) (sp := x.space) (H := x.line) (y := y) (s := sp) q
      have hge := rom_ge l (x.words.getD f 0) x.line y sp
      have hw : (linN l x.words x.space x.line f y sp).w = wideN x.space (seg x.words f t) := by
        have e4 : ((takeT x.words x.space (lenS (bandF l (romY l (x.words.getD f 0) x.line y sp) x.line sp)) f : Nat) : Int) = (t : Int) := e1
        have e5 : takeT x.words x.space (lenS (bandF l (romY l (x.words.getD f 0) x.line y sp) x.line sp)) f = t := by omega
        show wideN x.space (seg x.words f (takeT x.words x.space (lenS (bandF l (romY l (x.words.getD f 0) x.line y sp) x.line sp)) f)) = _
        rw [e5]
      have ih := tex_once (l := l) (x := x) (k := k) (sp := sp) hH n t ((linN l x.words x.space x.line f y sp).y + x.line) (setG k x.line g (linN l x.words x.space x.line f y sp)) e3 (by omega) (by simp [setG, atP])
      rw [e1, Int.toNat_natCast, List.map_cons, List.foldl_cons]
      refine ⟨⟨rfl, rfl, rfl, rfl, t, e1, e2, e3, hw, ih.1⟩, ⟨hge, by show 0 ≤ x.line; omega, ih.2⟩⟩
    · next q => exact ⟨show f = _ by omega, show y ≤ _ by rw [List.foldl_nil]; omega⟩
def nA (ss : List (List LAt)) (j : Nat) : Nat := (ss.take j).flatten.length
def nF (l : List LNo) : Nat → Nat
  | 0 => 0
  | j + 1 => if (ndN l j).kind = 4 then nF l j + 1 else nF l j
structure FltC (x : LNo) (j : Nat) (n : Nat) (f : LFl) : Prop where
  node : f.node = j
  side : f.side = x.side
  w : f.w = x.w
  h : f.h = x.h
  anchor : f.anchor = n
structure OncQ (l : List LNo) (ss : List (List LAt)) (i : Nat) (s : LGs) : Prop where
  len : ss.length = i
  flat : s.a = ss.flatten
  seg : ∀ j (h : j < ss.length), SegC (ndN l j) j ss[j]
  rise : RiseP 0 s.a (atP s.p)
  fl : s.f.length = nF l i
  flt : ∀ j, j < i → (ndN l j).kind = 4 → ∃ f, s.f[nF l j]? = some f ∧ FltC (ndN l j) j (nA ss j) f
  fy : ∀ q a b, s.f[q]? = some a → s.f[q + 1]? = some b → a.y ≤ b.y
def OncP (l : List LNo) (i : Nat) (s : LGs) : Prop := ∃ ss, OncQ l ss i s
theorem nA_app {ss : List (List LAt)} {L : List LAt} {j : Nat} (h : j ≤ ss.length) : nA (ss ++ [L]) j = nA ss j := by
  unfold nA
  rw [List.take_append_of_le_length h]
theorem nF_no {l : List LNo} {k : Nat} (q : (ndN l k).kind ≠ 4) : nF l (k + 1) = nF l k := if_neg q
theorem nF_lt (l : List LNo) : ∀ {j i : Nat}, j < i → (ndN l j).kind = 4 → nF l j < nF l i := by
  intro j i hji hj
  induction i with
  | zero => omega
  | succ i ih =>
    by_cases e : j = i
    · subst e
      rw [nF, if_pos hj]
      omega
    · have := ih (by omega)
      rw [nF]
      split <;> omega
/-- a node's atoms are added, no float. -/
theorem onc_add {l : List LNo} {k : Nat} {s s' : LGs} {L : List LAt} (h : OncP l k s) (q : (ndN l k).kind ≠ 4) (ha : s'.a = s.a ++ L) (hf : s'.f = s.f) (hseg : SegC (ndN l k) k L) (hr : RiseP (atP s.p) L (atP s'.p)) : OncP l (k + 1) s' := by
  obtain ⟨ss, h⟩ := h
  have hl := h.len
  refine ⟨ss ++ [L], ⟨by simp [hl], by rw [ha, h.flat]; simp, fun j hj => ?_, by rw [ha]; exact h.rise.app hr, by rw [hf, h.fl, nF_no q], fun j hj hk => ?_, by rw [hf]; exact h.fy⟩⟩
  · rw [List.length_append, List.length_cons, List.length_nil] at hj
    by_cases e : j < ss.length
    · rw [List.getElem_append_left e]
      exact h.seg j e
    · obtain rfl : j = ss.length := by omega
      rw [List.getElem_append_right (Nat.le_refl _)]
      simp only [Nat.sub_self, List.getElem_cons_zero]
      rw [hl]
      exact hseg
  · by_cases e : j = k
    · subst e; exact absurd hk q
    · rw [hf, nA_app (by omega)]
      exact h.flt j (by omega) hk
theorem seg_blk {x : LNo} {k : Nat} (q : x.kind = 1 ∨ x.kind = 4) : SegC x k [] := by
  unfold SegC
  rw [if_neg (by omega), if_neg (by omega)]
theorem onc_step {l : List LNo} {w : Int} (hP : FlwP l w) : StepP l w (OncP l) where
  ent := fun k s B hk q hg _ h => by
    have hb := nodB_blk (nod_at hP.v hk) q
    exact onc_add h (by omega) (L := []) (by simp [entG]) rfl (seg_blk (.inl q)) (ent_ge _ s hb)
  lv := fun k e s B hk q hg _ h => by
    have hb := nodB_blk (nod_at hP.v hk) q
    obtain ⟨ss, h⟩ := h
    exact ⟨ss, ⟨h.len, h.flat, h.seg, h.rise.up (lv_ge _ s hb hg.m), h.fl, h.flt, h.fy⟩⟩
  txt := fun k s B hk q hg _ h => by
    have hb := nodB_txt (nod_at hP.v hk) q
    obtain ⟨f1, f2⟩ := setG_fold k (ndN l k).line (texF s.f (ndN l k).words (ndN l k).space (ndN l k).line (atP s.p) (spK l w k)) s
    obtain ⟨t1, t2⟩ := tex_once (l := s.f) (x := ndN l k) (k := k) (sp := spK l w k) hb.line.1 (ndN l k).words.length 0 (atP s.p) s (Nat.zero_le _) (by omega) rfl
    exact onc_add h (by omega) f1 f2 (by unfold SegC; rw [if_pos q]; exact t1) t2
  mon := fun k s B hk q hg _ h => by
    have hb := nodB_mono (nod_at hP.v hk) q
    have h1 := rom_ge s.f (ndN l k).w (ndN l k).h (atP s.p) (spK l w k)
    refine onc_add h (by omega) (L := [monA (spK l w k) k (ndN l k) s]) rfl rfl (by unfold SegC; rw [if_neg (by omega), if_pos q]; exact ⟨_, rfl, rfl, rfl, rfl, rfl⟩) ⟨h1, by show 0 ≤ (ndN l k).h; have := hb.h; omega, ?_⟩
    show monY (spK l w k) (ndN l k) s + (ndN l k).h ≤ atP ⟨monY (spK l w k) (ndN l k) s + (ndN l k).h, 0⟩
    simp [atP]
  flt := fun k s B hk q hg _ h => by
    obtain ⟨ss, h⟩ := h
    have hl := h.len
    have eF : nF l (k + 1) = nF l k + 1 := if_pos q
    have eA : nA ss k = s.a.length := by
      unfold nA
      rw [← hl, List.take_length, ← h.flat]
    refine ⟨ss ++ [[]], ⟨by simp [hl], by show s.a = _; rw [h.flat]; simp, fun j hj => ?_, h.rise, by simp [fltG, putP, eF, h.fl], fun j hj hk => ?_, fun i x y hi hi2 => ?_⟩⟩
    · rw [List.length_append, List.length_cons, List.length_nil] at hj
      by_cases e : j < ss.length
      · rw [List.getElem_append_left e]
        exact h.seg j e
      · obtain rfl : j = ss.length := by omega
        rw [List.getElem_append_right (Nat.le_refl _)]
        simp only [Nat.sub_self, List.getElem_cons_zero]
        rw [hl]
        exact seg_blk (.inr q)
    · rw [nA_app (by omega)]
      by_cases e : j = k
      · subst e
        refine ⟨setP s.f (newF j (ndN l j) s) (atP s.p) (spK l w j), ?_, ⟨rfl, rfl, rfl, rfl, ?_⟩⟩
        · show (putP s.f _ _ _)[nF l j]? = _
          unfold putP
          rw [← h.fl, List.getElem?_append_right (Nat.le_refl _), Nat.sub_self]
          rfl
        · show (s.a.length : Int) = _
          rw [eA]
      · obtain ⟨f, h1, h2⟩ := h.flt j (by omega) hk
        refine ⟨f, ?_, h2⟩
        show (putP s.f _ _ _)[nF l j]? = _
        unfold putP
        rw [List.getElem?_append_left (List.getElem?_eq_some_iff.1 h1).1]
        exact h1
    · have hi : (putP s.f (newF k (ndN l k) s) (atP s.p) (spK l w k))[i]? = some x := hi
      have hi2 : (putP s.f (newF k (ndN l k) s) (atP s.p) (spK l w k))[i + 1]? = some y := hi2
      unfold putP at hi hi2
      by_cases e : i + 1 < s.f.length
      · rw [List.getElem?_append_left (by omega)] at hi
        rw [List.getElem?_append_left e] at hi2
        exact h.fy i x y hi hi2
      · have hlt := (List.getElem?_eq_some_iff.1 hi2).1
        rw [List.length_append, List.length_cons, List.length_nil] at hlt
        rw [List.getElem?_append_left (by omega)] at hi
        rw [List.getElem?_append_right (by omega), show i + 1 - s.f.length = 0 by omega] at hi2
        have hi2 : setP s.f (newF k (ndN l k) s) (atP s.p) (spK l w k) = y := by simpa using hi2
        rw [← hi2]
        exact spot_tops _ _ _ _ _ (List.mem_of_getElem? hi)
theorem onc_zero (l : List LNo) : OncP l 0 ⟨[], [], ⟨0, 0⟩⟩ := ⟨[], ⟨rfl, rfl, fun j h => absurd h (Nat.not_lt_zero _), Int.le_refl _, rfl, fun j h => absurd h (Nat.not_lt_zero _), fun q a b h => by simp at h⟩⟩
theorem onc_all {l : List LNo} {w : Int} (hP : FlwP l w) : OncP l l.length (allS l w) := all_ind hP (onc_step hP) (onc_zero l)
theorem anc_all {l : List LNo} {w : Int} (hP : FlwP l w) : AncP l.length (allS l w) := all_ind hP (anc_step l w) fun f hf => by cases hf
end Go.Proofs.Ytblmebjhhanoaaa
/- CHAPTER 14: what a galley holds, node by node. -/
/- G -/
set_option linter.unusedSimpArgs false
set_option linter.unusedVariables false
namespace Go.Proofs.Ytblmebjhhanoaaa
open Go.RowKit

theorem hgtS_ge : ∀ (fs : List LFl) (b : Int), b ≤ hgtS b fs ∧ ∀ f ∈ fs, f.y + f.h ≤ hgtS b fs
  | [], b => ⟨Int.le_refl _, fun f hf => by cases hf⟩
  | g :: fs, b => by
    obtain ⟨h1, h2⟩ := hgtS_ge fs (max b (g.y + g.h))
    have e : hgtS b (g :: fs) = hgtS (max b (g.y + g.h)) fs := rfl
    rw [e]
    refine ⟨by omega, fun f hf => ?_⟩
    rcases List.mem_cons.1 hf with rfl | hf
    · omega
    · exact h2 f hf
theorem rise_at : ∀ (A : List LAt) (lo hi : Int), RiseP lo A hi → ∀ (k : Nat) (hk : k < A.length), (k = 0 → lo ≤ A[k].y) ∧ (∀ a, 0 < k → A[k - 1]? = some a → a.y + a.h ≤ A[k].y) ∧ A[k].y + A[k].h ≤ hi ∧ 0 ≤ A[k].h ∧ lo ≤ A[k].y
  | [], _, _, _, k, hk => absurd hk (Nat.not_lt_zero _)
  | a :: A, lo, hi, h, 0, _ => ⟨fun _ => h.1, fun b q => absurd q (Nat.lt_irrefl _), h.2.2.le, h.2.1, h.1⟩
  | a :: A, lo, hi, h, k + 1, hk => by
    obtain ⟨h1, h2, h3⟩ := h
    have hk' : k < A.length := by simpa using hk
    obtain ⟨i1, i2, i3, i4, i5⟩ := rise_at A _ hi h3 k hk'
    refine ⟨fun q => absurd q (Nat.succ_ne_zero _), fun b _ hb => ?_, i3, i4, ?_⟩
    · cases k with
      | zero =>
        obtain rfl : a = b := by simpa using hb
        exact i1 rfl
      | succ k => exact i2 b (Nat.zero_lt_succ _) (by simpa using hb)
    · have e : (a :: A)[k + 1] = A[k] := rfl
      rw [e]
      omega
theorem nA_zero (ss : List (List LAt)) : nA ss 0 = 0 := rfl
theorem nA_succ {ss : List (List LAt)} {i : Nat} (h : i < ss.length) : nA ss (i + 1) = nA ss i + ss[i].length := by
  unfold nA
  rw [List.take_succ_eq_append_getElem h, List.flatten_append, List.length_append]
  simp
theorem nA_all (ss : List (List LAt)) : nA ss ss.length = ss.flatten.length := by
  unfold nA
  rw [List.take_length]
theorem flat_at {ss : List (List LAt)} {i q : Nat} (h : i < ss.length) (hq : q < ss[i].length) : ss.flatten[nA ss i + q]? = some ss[i][q] := by
  have e : ss.flatten = (ss.take i).flatten ++ (ss[i] ++ (ss.drop (i + 1)).flatten) := by
    have e0 : ss = ss.take i ++ (ss[i] :: ss.drop (i + 1)) := by rw [← List.drop_eq_getElem_cons h, List.take_append_drop]
    exact (congrArg List.flatten e0).trans (by rw [List.flatten_append, List.flatten_cons])
  unfold nA
  rw [e, List.getElem?_append_right (by omega), Nat.add_sub_cancel_left, List.getElem?_append_left hq, List.getElem?_eq_getElem hq]
structure OnF (l : List LNo) (j n : Nat) (H : Int) (f : LFl) : Prop where
  node : f.node = j
  side : f.side = (ndN l j).side
  w : f.w = (ndN l j).w
  h : f.h = (ndN l j).h
  anchor : 0 ≤ f.anchor ∧ f.anchor ≤ n
  y : 0 ≤ f.y ∧ f.y + f.h ≤ H
/-- what a galley holds. -/
structure OnG (l : List LNo) (ss : List (List LAt)) (g : LGal) : Prop where
  len : ss.length = l.length
  flat : g.a = ss.flatten
  seg : ∀ j (h : j < ss.length), SegC (ndN l j) j ss[j]
  rise : RiseP 0 g.a g.h
  fl : g.f.length = nF l l.length
  flt : ∀ j, j < l.length → (ndN l j).kind = 4 → ∃ f, g.f[nF l j]? = some f ∧ OnF l j (nA ss j) g.h f
  fy : ∀ q a b, g.f[q]? = some a → g.f[q + 1]? = some b → a.y ≤ b.y
theorem nA_mono {ss : List (List LAt)} {i : Nat} : nA ss i ≤ ss.flatten.length := by
  have : ss.flatten = (ss.take i).flatten ++ (ss.drop i).flatten := by rw [← List.flatten_append, List.take_append_drop]
  unfold nA
  rw [this, List.length_append]
  omega
theorem res_once {l : List LNo} {w : Int} (hl : l.length ≤ 60) (h : errG l w = 0) : ∃ ss, OnG l ss (resG l w) := by
  have hP := errG_ok hl h
  obtain ⟨ss, hO⟩ := onc_all hP
  have hA := allS_ok hP
  have e : resG l w = endG (allS l w) := by unfold resG; rw [if_pos h]
  rw [e]
  have hge := hgtS_ge (allS l w).f (atP (allS l w).p)
  refine ⟨ss, ⟨hO.len, hO.flat, hO.seg, hO.rise.up hge.1, by simp [endG, hO.fl], fun j hj hk => ?_, fun q a b ha hb => ?_⟩⟩
  · obtain ⟨f, h1, h2⟩ := hO.flt j hj hk
    have hmem := List.mem_of_getElem? h1
    have hfs := hA.fs f hmem
    refine ⟨endF (allS l w).a.length f, ?_, ⟨h2.node, h2.side, h2.w, h2.h, ?_, hfs.y.1, hge.2 f hmem⟩⟩
    · simp [endG, h1]
    · have := h2.anchor
      simp only [endF]
      split <;> omega
  · simp only [endG, List.getElem?_map, Option.map_eq_some_iff] at ha hb
    obtain ⟨a', h1, rfl⟩ := ha
    obtain ⟨b', h2, rfl⟩ := hb
    exact hO.fy q a' b' h1 h2
theorem res_len {l : List LNo} {w : Int} (hl : l.length ≤ 60) : (resG l w).a.length ≤ 2000 ∧ (resG l w).f.length ≤ 60 ∧ 0 ≤ (resG l w).h ∧ (resG l w).h ≤ 1099511627776 := by
  unfold resG
  split
  · next q =>
    have hP := errG_ok hl q
    have hA := allS_ok hP
    have h2 := hA.al
    have h3 := hA.fl
    have h4 := hP.ps
    have h5 := hP.hi
    have h6 := hA.y
    have h7 := hA.m
    have h8 := hA.b
    have h9 := hgtS_bd (B := 1099511627776) (allS l w).f (atP (allS l w).p) (by unfold atP; omega) (fun f hf => by
      have := (hA.fs f hf).y
      have := (hA.fs f hf).h
      omega)
    unfold pall at h4
    simp only [endG, List.length_map]
    omega
  · simp
end Go.Proofs.Ytblmebjhhanoaaa
/- CHAPTER 14: flow: the walker: atoms, texts, boxes, floats. -/
/- G -/
/- BOOLS -/
set_option linter.unusedSimpArgs false
set_option linter.unusedVariables false
namespace Go.Proofs.Ytblmebjhhanoaaa
open Go.RowKit

abbrev wkO (l : List LNo) (w : Int) (p : LPen) (a f : Nat) (h : Int) : AO := .cells 67 [.hdr a, .hdr f, .raw (.int .i64 h), .raw (.int .i64 p.y), .raw (.int .i64 p.m), .sl 20 (l.map cNo), .sl 2 ((rmsR l w l.length).map cRm)]
theorem rmsR_get {l : List LNo} {w : Int} {k : Nat} (hk : k < l.length) : (rmsR l w l.length)[k]? = some (rmR l w l.length k) := by
  unfold rmsR
  rw [List.getElem?_map, List.getElem?_range hk]
  rfl
set_option maxRecDepth 100000 in
theorem win_ok {l : List LNo} {w : Int} (hP : FlwP l w) (p : LPen) (h : Int) {k : Nat} (hk : k < l.length) : FnOk Try.prog 73 [.hdr 0, .raw (.int .i64 k)] [(0, wkO l w p 1 2 h)] (aSpan (spK l w k)) [(0, wkO l w p 1 2 h)] := by
  obtain ⟨r1, r2, r3, r4⟩ := rmR_ok' hP k
  have hlen := hP.len
  have hln := rmsR_len l w l.length
  refine fn_of_awp Try.func73 rfl (by kernel_rfl) (by kernel_rfl) (Nat.le_of_ble_eq_true rfl) Try.results73 ?_
  simp only [go_sem, Bool.not_eq_true', Bool.not_eq_false', List.length_map, hln]
  refine ⟨by omega, _, rmsR_get hk, by omega, ?_⟩
  (refine ret2 [] (by simp only [go_sem, Bool.not_eq_true', Bool.not_eq_false', spK_a, spK_b]; rfl) ?_; simp only [go_sem, Bool.not_eq_true', Bool.not_eq_false', spK_a, spK_b])
set_option maxRecDepth 100000 in
theorem pput2_ok (p : LPen) (a b : Int) (h : (-4503599627370496 ≤ a ∧ a ≤ 4503599627370496) ∧ (-4503599627370496 ≤ b ∧ b ≤ 4503599627370496)) : FnOk Try.prog 101 [aPen p, .raw (.int .i64 a), .raw (.int .i64 b)] [] (.agg [.raw (.int .i64 (a + b)), .raw (.int .i64 0)]) [] := by
  refine fn_of_awp Try.func101 rfl (by kernel_rfl) (by kernel_rfl) (Nat.le_of_ble_eq_true rfl) Try.results101 ?_
  simp only [go_sem, Bool.not_eq_true', Bool.not_eq_false']
  repeat' first | contradiction | intro _ | refine And.intro ?_ ?_ | refine ex_get (by omega) ?_ | (show drawB _ _ = true; kernel_rfl) | (refine ret2 [] (by simp only [go_sem, Bool.not_eq_true', Bool.not_eq_false']; rfl) ?_; simp only [go_sem, Bool.not_eq_true', Bool.not_eq_false'])
  all_goals omega
set_option maxRecDepth 100000 in
theorem wput_ok (l : List LNo) (w : Int) (s : LGs) (a : LAt) (h : Int) (hl : s.a.length ≤ 4000) (ha : -4611686018427387904 ≤ a.y + a.h ∧ a.y + a.h ≤ 4611686018427387904) (hy : (-4503599627370496 ≤ a.y ∧ a.y ≤ 4503599627370496) ∧ (-4503599627370496 ≤ a.h ∧ a.h ≤ 4503599627370496)) : FnOk Try.prog 74 [.hdr 0, aAt a] [(0, wkO l w s.p 1 2 h), (1, rowA s)] (.tup []) [(0, wkO l w ⟨a.y + a.h, 0⟩ 8 2 h), (8, .row 41 8 ((s.a ++ [a]).map cAt))] := by
  have em : List.map cAt s.a ++ [cAt a] = List.map cAt (s.a ++ [a]) := by simp
  simp only [cAt] at em
  refine fn_of_swp Try.func74 rfl (by kernel_rfl) (by kernel_rfl) (Nat.le_of_ble_eq_true rfl) Try.results74 ?_
  (refine swp_seqW ?_; simp only [go_sem, Bool.not_eq_true', Bool.not_eq_false'])
  (refine swp_seqW ?_; simp only [go_sem, Bool.not_eq_true', Bool.not_eq_false', List.length_map])
  repeat' first | contradiction | intro _ | refine And.intro ?_ ?_ | refine ex_get (by omega) ?_ | (show drawB _ _ = true; kernel_rfl) | (refine ret2 [] (by simp only [go_sem, Bool.not_eq_true', Bool.not_eq_false']; rfl) ?_; simp only [go_sem, Bool.not_eq_true', Bool.not_eq_false'])
  all_goals try omega
  rw [em]
  (refine swp_lastW ?_; simp only [go_sem, Bool.not_eq_true', Bool.not_eq_false'])
  (refine acall2 [] (pput2_ok s.p a.y a.h hy) (by simp only [go_sem, Bool.not_eq_true', Bool.not_eq_false']; rfl) (fit_of (by simp only [go_sem, Bool.not_eq_true', Bool.not_eq_false']) (by simp only [go_sem, Bool.not_eq_true', Bool.not_eq_false']) (by simp only [go_sem, Bool.not_eq_true', Bool.not_eq_false']) (by simp only [go_sem, Bool.not_eq_true', Bool.not_eq_false']) (by simp only [go_sem, Bool.not_eq_true', Bool.not_eq_false']) (by simp only [go_sem, Bool.not_eq_true', Bool.not_eq_false']) (by simp only [go_sem, Bool.not_eq_true', Bool.not_eq_false'])) ?_; simp only [go_sem, Bool.not_eq_true', Bool.not_eq_false'])
  repeat' first | contradiction | intro _ | refine And.intro ?_ ?_ | refine ex_get (by omega) ?_ | (show drawB _ _ = true; kernel_rfl) | (refine ret2 [] (by simp only [go_sem, Bool.not_eq_true', Bool.not_eq_false']; rfl) ?_; simp only [go_sem, Bool.not_eq_true', Bool.not_eq_false'])
  all_goals skip
end Go.Proofs.Ytblmebjhhanoaaa
/- CHAPTER 14: flow: the walker lays nodes out. -/
/- G -/
/- BOOLS -/
set_option linter.unusedSimpArgs false
set_option linter.unusedVariables false
namespace Go.Proofs.Ytblmebjhhanoaaa
open Go.RowKit

set_option maxRecDepth 100000 in
set_option maxHeartbeats 8000000 in
theorem wtext_ok {l : List LNo} {w : Int} (hP : FlwP l w) {k : Nat} {s : LGs} {B : Int} (hk : k < l.length) (q : (ndN l k).kind = 2) (hs : GsOk l B k s) (hB : B + (hall l - hsN l k) ≤ 1099511627776) :
    FnOk Try.prog 53 [.hdr 0, .raw (.int .i64 k)] [(0, wkO l w s.p 1 2 0), (1, rowA s), (2, rowF s)] (.tup []) [(0, wkO l w (txtG (spK l w k) k (ndN l k) s).p 8 9 0), (8, rowA (txtG (spK l w k) k (ndN l k) s)), (9, rowF (txtG (spK l w k) k (ndN l k) s))] := by
  have hnb := nod_at hP.v hk
  have hlen := hP.len
  have hsp := hP.sp k
  have hmono := hs_mono hP.v (show k ≤ l.length by omega) (Nat.le_refl _)
  have hB1 : B ≤ 1099511627776 := by unfold hall at hB; omega
  have hat := hs.at hB1
  have hb := nodB_txt hnb q
  have hln := hb.line
  have hwo := wor_ok hP hk rfl hb q
  have hh1 := hsN_succ hk
  have e1 : hgtN (ndN l k) = (ndN l k).line * (ndN l k).words.length := by unfold hgtN; rw [if_neg (by omega), if_pos q]
  have hmono1 := hs_mono hP.v (show k + 1 ≤ l.length by omega) (Nat.le_refl _)
  have hta := tex_all (ws := (ndN l k).words) (sp := (ndN l k).space) (s := spK l w k) hln.1 (fun g hg => (hs.fs g hg).y.2) (ndN l k).words.length 0 (atP s.p) B (Nat.zero_le _) hs.b (Int.le_refl _)
  have e0 : ((ndN l k).words.length : Int) - (0 : Nat) = (ndN l k).words.length := by omega
  rw [e0, ← e1] at hta
  unfold hall at hB
  have hal := hs.al
  have hps := ps_mono (l := l) (show k ≤ l.length by omega) (Nat.le_refl _)
  have hpa := hP.ps
  have hwl := hwo.len
  unfold pall at hpa
  have htl : (texF s.f (ndN l k).words (ndN l k).space (ndN l k).line (atP s.p) (spK l w k)).length ≤ (ndN l k).words.length := tex_len _ _ _
  have htx := text12_ok s.f (ndN l k).words (ndN l k).space (ndN l k).line (atP s.p) (spK l w k) (hs.lin hB1 (by omega) ⟨by omega, by omega⟩ hsp) hwo ⟨by omega, by omega⟩ ⟨by omega, by omega⟩
  have etx : txtG (spK l w k) k (ndN l k) s = (texF s.f (ndN l k).words (ndN l k).space (ndN l k).line (atP s.p) (spK l w k)).foldl (setG k (ndN l k).line) s := rfl
  rw [etx]
  have hta : ∀ z ∈ texF s.f (ndN l k).words (ndN l k).space (ndN l k).line (atP s.p) (spK l w k), atP s.p ≤ z.y ∧ z.y + (ndN l k).line ≤ B + hgtN (ndN l k) := hta
  have hpy := hs.y
  have hpm := hs.m
  have hpb := hs.b
  have hpn := tex_pen (l := s.f) (ws := (ndN l k).words) (sp := (ndN l k).space) (s := spK l w k) (k := k) hln.1 (fun g hg => (hs.fs g hg).y.2)
  generalize texF s.f (ndN l k).words (ndN l k).space (ndN l k).line (atP s.p) (spK l w k) = T at *
  clear hpn
  refine fn_of_swp Try.func53 rfl (by kernel_rfl) (by kernel_rfl) (Nat.le_of_ble_eq_true rfl) Try.results53 ?_
  (refine swp_seqW ?_; simp only [go_sem, Bool.not_eq_true', Bool.not_eq_false'])
  refine ⟨by omega, ex_get hk ?_⟩
  rw [← ndN_get hk]
  (refine swp_seqW ?_; simp only [go_sem, Bool.not_eq_true', Bool.not_eq_false'])
  (refine acall2 [] (pat_ok s.p ⟨by omega, by omega, by omega, by omega⟩) (by simp only [go_sem, Bool.not_eq_true', Bool.not_eq_false']; rfl) (fit_of (by simp only [go_sem, Bool.not_eq_true', Bool.not_eq_false']) (by simp only [go_sem, Bool.not_eq_true', Bool.not_eq_false']) (by simp only [go_sem, Bool.not_eq_true', Bool.not_eq_false']) (by simp only [go_sem, Bool.not_eq_true', Bool.not_eq_false']) (by simp only [go_sem, Bool.not_eq_true', Bool.not_eq_false']) (by simp only [go_sem, Bool.not_eq_true', Bool.not_eq_false']) (by simp only [go_sem, Bool.not_eq_true', Bool.not_eq_false'])) ?_; simp only [go_sem, Bool.not_eq_true', Bool.not_eq_false'])
  (refine acallR2 [0 ] [] ( win_ok hP s.p 0 hk) (by simp only [go_sem, Bool.not_eq_true', Bool.not_eq_false']; rfl) (fit_of (by simp only [go_sem, Bool.not_eq_true', Bool.not_eq_false']) (by simp only [go_sem, Bool.not_eq_true', Bool.not_eq_false']) (by simp only [go_sem, Bool.not_eq_true', Bool.not_eq_false']) (by simp only [go_sem, Bool.not_eq_true', Bool.not_eq_false']) (by simp only [go_sem, Bool.not_eq_true', Bool.not_eq_false']) (by simp only [go_sem, Bool.not_eq_true', Bool.not_eq_false']) (by simp only [go_sem, Bool.not_eq_true', Bool.not_eq_false'])) (by simp only [go_sem, Bool.not_eq_true', Bool.not_eq_false', callEff]; first | done | kernel_rfl) ?_; simp only [go_sem, Bool.not_eq_true', Bool.not_eq_false'])
  rw [show atP s.p = s.p.y + s.p.m from rfl] at htx
  (refine acall2 [2 ] ( htx) (by simp only [go_sem, Bool.not_eq_true', Bool.not_eq_false']; rfl) (fit_of (by simp only [go_sem, Bool.not_eq_true', Bool.not_eq_false']) (by simp only [go_sem, Bool.not_eq_true', Bool.not_eq_false']) (by simp only [go_sem, Bool.not_eq_true', Bool.not_eq_false']) (by simp only [go_sem, Bool.not_eq_true', Bool.not_eq_false']) (by simp only [go_sem, Bool.not_eq_true', Bool.not_eq_false']) (by simp only [go_sem, Bool.not_eq_true', Bool.not_eq_false']) (by simp only [go_sem, Bool.not_eq_true', Bool.not_eq_false'])) ?_; simp only [go_sem, Bool.not_eq_true', Bool.not_eq_false'])
  (refine ⟨(show drawB _ _ = true by kernel_rfl), ?_⟩)
  refine swp_block ?_
  refine swp_loop2 [] (fun i : Nat => ⟨[(0, .hdr 0), (1, .raw (.int .i64 k)), (4, .hdr 800), (33, .hdr 801), (34, .raw (.int .i64 T.length)), (35, .raw (.int .i64 i))], [(0, some (wkO l w ((T.take i).foldl (setG k (ndN l k).line) s).p 802 803 0)), (802, some (rowA ((T.take i).foldl (setG k (ndN l k).line) s))), (803, some (rowF ((T.take i).foldl (setG k (ndN l k).line) s))), (800, some (.cells 37 (lNo (ndN l k)))), (801, some (.row 131 5 (T.map cSet)))], none⟩) (fun i => i ≤ T.length) (fun i => T.length - i) 120 0 (by simp only [go_sem, Bool.not_eq_true', Bool.not_eq_false']; rfl) (by simp only [go_sem, Bool.not_eq_true', Bool.not_eq_false', List.length_map, List.take_zero, List.foldl_nil]) ?_ ?_
  · exact Nat.zero_le _
  intro i hi
  have hfo := setG_fold k (ndN l k).line (T.take i) s
  (refine swp_seqW ?_; simp only [go_sem, Bool.not_eq_true', Bool.not_eq_false'])
  (refine swp_seqW ?_; simp only [go_sem, Bool.not_eq_true', Bool.not_eq_false'])
  refine ⟨fun h5 => ?_, fun h5 => ?_⟩
  · have hit : i < T.length := by omega
    have hst := take_setG (k := k) (H := (ndN l k).line) (s := s) hit
    have hti := hta T[i] (List.getElem_mem hit)
    generalize hZ : T[i] = z at hst hti
    have hal2 : ((T.take i).foldl (setG k (ndN l k).line) s).a.length ≤ 4000 := by rw [hfo.1, List.length_append, List.length_map, List.length_take]; omega
    generalize (T.take i).foldl (setG k (ndN l k).line) s = s2 at hst hal2 ⊢
    have hput := wput_ok l w s2 ⟨1, k, z.f, z.t, z.x, z.y, z.w, (ndN l k).line⟩ 0 hal2 ⟨by simp only; omega, by simp only; omega⟩ ⟨⟨by simp only; omega, by simp only; omega⟩, ⟨by simp only; omega, by simp only; omega⟩⟩
    dsimp only at hput
    have hst : List.foldl (setG k (ndN l k).line) s (List.take (i + 1) T) = ⟨s2.a ++ [⟨1, k, z.f, z.t, z.x, z.y, z.w, (ndN l k).line⟩], s2.f, ⟨z.y + (ndN l k).line, 0⟩⟩ := hst
    refine swp_seqS ?_
    refine swp_block ?_
    (refine swp_seqW ?_; simp only [go_sem, Bool.not_eq_true', Bool.not_eq_false', List.length_map])
    refine ⟨by omega, ex_get hit ?_⟩
    rw [hZ]
    (refine swp_lastW ?_; simp only [go_sem, Bool.not_eq_true', Bool.not_eq_false'])
    (refine acall2 [] (hput) (by simp only [go_sem, Bool.not_eq_true', Bool.not_eq_false']; rfl) (fit_of (by simp only [go_sem, Bool.not_eq_true', Bool.not_eq_false']) (by simp only [go_sem, Bool.not_eq_true', Bool.not_eq_false']) (by simp only [go_sem, Bool.not_eq_true', Bool.not_eq_false']) (by simp only [go_sem, Bool.not_eq_true', Bool.not_eq_false']) (by simp only [go_sem, Bool.not_eq_true', Bool.not_eq_false']) (by simp only [go_sem, Bool.not_eq_true', Bool.not_eq_false']) (by simp only [go_sem, Bool.not_eq_true', Bool.not_eq_false'])) ?_; simp only [go_sem, Bool.not_eq_true', Bool.not_eq_false'])
    (refine swp_lastW ?_; simp only [go_sem, Bool.not_eq_true', Bool.not_eq_false'])
    refine ⟨by omega, ?_⟩
    (refine loop_end [] (i + 1) (by simp only [go_sem, Bool.not_eq_true', Bool.not_eq_false']; rfl) ?_ ?_ ?_; (focus first | omega | (simp only; omega)); (focus (simp only [go_sem, Bool.not_eq_true', Bool.not_eq_false', hst]; done)))
    omega
  · obtain rfl : i = T.length := by omega
    rw [List.take_length]
    (refine ret2 [] (by simp only [go_sem, Bool.not_eq_true', Bool.not_eq_false']; rfl) ?_; simp only [go_sem, Bool.not_eq_true', Bool.not_eq_false'])
set_option maxRecDepth 100000 in
set_option maxHeartbeats 8000000 in
theorem wmono_ok {l : List LNo} {w : Int} (hP : FlwP l w) {k : Nat} {s : LGs} {B : Int} (hk : k < l.length) (q : (ndN l k).kind = 3) (hs : GsOk l B k s) (hB : B + (hall l - hsN l k) ≤ 1099511627776) :
    FnOk Try.prog 54 [.hdr 0, .raw (.int .i64 k)] [(0, wkO l w s.p 1 2 0), (1, rowA s), (2, rowF s)] (.tup []) [(0, wkO l w (monG (spK l w k) k (ndN l k) s).p 8 9 0), (8, rowA (monG (spK l w k) k (ndN l k) s)), (9, rowF (monG (spK l w k) k (ndN l k) s))] := by
  have hnb := nod_at hP.v hk
  have hlen := hP.len
  have hsp := hP.sp k
  have hmono := hs_mono hP.v (show k ≤ l.length by omega) (Nat.le_refl _)
  have hB1 : B ≤ 1099511627776 := by unfold hall at hB; omega
  have hat := hs.at hB1
  have hb := nodB_mono hnb q
  have hxh := hb.h
  have hal := hs.al
  have hps := ps_mono (l := l) (show k ≤ l.length by omega) (Nat.le_refl _)
  have hpa := hP.ps
  unfold pall at hpa
  have hpy := hs.y
  have hpm := hs.m
  have hpb := hs.b
  have hro := room12_ok s.f (ndN l k).w (ndN l k).h (atP s.p) (spK l w k) (hs.lin hB1 (by omega) ⟨by omega, by omega⟩ hsp) ⟨by omega, by omega⟩
  have hy1 := rom_ge s.f (ndN l k).w (ndN l k).h (atP s.p) (spK l w k)
  have hy2 := rom_le (w := (ndN l k).w) (H := (ndN l k).h) (s := spK l w k) (y := atP s.p) hs.b (fun g hg => (hs.fs g hg).y.2)
  have emo : monG (spK l w k) k (ndN l k) s = ⟨s.a ++ [⟨2, k, 0, 0, (bandF s.f (romY s.f (ndN l k).w (ndN l k).h (atP s.p) (spK l w k)) (ndN l k).h (spK l w k)).a, romY s.f (ndN l k).w (ndN l k).h (atP s.p) (spK l w k), (ndN l k).w, (ndN l k).h⟩], s.f, ⟨romY s.f (ndN l k).w (ndN l k).h (atP s.p) (spK l w k) + (ndN l k).h, 0⟩⟩ := rfl
  rw [emo]
  unfold aRoo at hro
  generalize romY s.f (ndN l k).w (ndN l k).h (atP s.p) (spK l w k) = Y at *
  generalize bandF s.f Y (ndN l k).h (spK l w k) = bd at *
  rw [show atP s.p = s.p.y + s.p.m from rfl] at hro
  have hput := wput_ok l w s ⟨2, k, 0, 0, bd.a, Y, (ndN l k).w, (ndN l k).h⟩ 0 (by omega) ⟨by simp only; omega, by simp only; omega⟩ ⟨⟨by simp only; omega, by simp only; omega⟩, ⟨by simp only; omega, by simp only; omega⟩⟩
  dsimp only at hput
  refine fn_of_swp Try.func54 rfl (by kernel_rfl) (by kernel_rfl) (Nat.le_of_ble_eq_true rfl) Try.results54 ?_
  (refine swp_seqW ?_; simp only [go_sem, Bool.not_eq_true', Bool.not_eq_false'])
  refine ⟨by omega, ex_get hk ?_⟩
  rw [← ndN_get hk]
  (refine swp_seqW ?_; simp only [go_sem, Bool.not_eq_true', Bool.not_eq_false'])
  (refine acall2 [] (pat_ok s.p ⟨by omega, by omega, by omega, by omega⟩) (by simp only [go_sem, Bool.not_eq_true', Bool.not_eq_false']; rfl) (fit_of (by simp only [go_sem, Bool.not_eq_true', Bool.not_eq_false']) (by simp only [go_sem, Bool.not_eq_true', Bool.not_eq_false']) (by simp only [go_sem, Bool.not_eq_true', Bool.not_eq_false']) (by simp only [go_sem, Bool.not_eq_true', Bool.not_eq_false']) (by simp only [go_sem, Bool.not_eq_true', Bool.not_eq_false']) (by simp only [go_sem, Bool.not_eq_true', Bool.not_eq_false']) (by simp only [go_sem, Bool.not_eq_true', Bool.not_eq_false'])) ?_; simp only [go_sem, Bool.not_eq_true', Bool.not_eq_false'])
  (refine acallR2 [0 ] [] ( win_ok hP s.p 0 hk) (by simp only [go_sem, Bool.not_eq_true', Bool.not_eq_false']; rfl) (fit_of (by simp only [go_sem, Bool.not_eq_true', Bool.not_eq_false']) (by simp only [go_sem, Bool.not_eq_true', Bool.not_eq_false']) (by simp only [go_sem, Bool.not_eq_true', Bool.not_eq_false']) (by simp only [go_sem, Bool.not_eq_true', Bool.not_eq_false']) (by simp only [go_sem, Bool.not_eq_true', Bool.not_eq_false']) (by simp only [go_sem, Bool.not_eq_true', Bool.not_eq_false']) (by simp only [go_sem, Bool.not_eq_true', Bool.not_eq_false'])) (by simp only [go_sem, Bool.not_eq_true', Bool.not_eq_false', callEff]; first | done | kernel_rfl) ?_; simp only [go_sem, Bool.not_eq_true', Bool.not_eq_false'])
  (refine acall2 [2 ] ( hro) (by simp only [go_sem, Bool.not_eq_true', Bool.not_eq_false']; rfl) (fit_of (by simp only [go_sem, Bool.not_eq_true', Bool.not_eq_false']) (by simp only [go_sem, Bool.not_eq_true', Bool.not_eq_false']) (by simp only [go_sem, Bool.not_eq_true', Bool.not_eq_false']) (by simp only [go_sem, Bool.not_eq_true', Bool.not_eq_false']) (by simp only [go_sem, Bool.not_eq_true', Bool.not_eq_false']) (by simp only [go_sem, Bool.not_eq_true', Bool.not_eq_false']) (by simp only [go_sem, Bool.not_eq_true', Bool.not_eq_false'])) ?_; simp only [go_sem, Bool.not_eq_true', Bool.not_eq_false'])
  (refine ⟨(show drawB _ _ = true by kernel_rfl), ?_⟩)
  (refine swp_lastW ?_; simp only [go_sem, Bool.not_eq_true', Bool.not_eq_false'])
  (refine acall2 [] (hput) (by simp only [go_sem, Bool.not_eq_true', Bool.not_eq_false']; rfl) (fit_of (by simp only [go_sem, Bool.not_eq_true', Bool.not_eq_false']) (by simp only [go_sem, Bool.not_eq_true', Bool.not_eq_false']) (by simp only [go_sem, Bool.not_eq_true', Bool.not_eq_false']) (by simp only [go_sem, Bool.not_eq_true', Bool.not_eq_false']) (by simp only [go_sem, Bool.not_eq_true', Bool.not_eq_false']) (by simp only [go_sem, Bool.not_eq_true', Bool.not_eq_false']) (by simp only [go_sem, Bool.not_eq_true', Bool.not_eq_false'])) ?_; simp only [go_sem, Bool.not_eq_true', Bool.not_eq_false'])
  (refine ret2 [] (by simp only [go_sem, Bool.not_eq_true', Bool.not_eq_false']; rfl) ?_; simp only [go_sem, Bool.not_eq_true', Bool.not_eq_false'])
set_option maxRecDepth 100000 in
set_option maxHeartbeats 8000000 in
theorem wfloat_ok {l : List LNo} {w : Int} (hP : FlwP l w) {k : Nat} {s : LGs} {B : Int} (hk : k < l.length) (q : (ndN l k).kind = 4) (hs : GsOk l B k s) (hB : B + (hall l - hsN l k) ≤ 1099511627776) :
    FnOk Try.prog 55 [.hdr 0, .raw (.int .i64 k)] [(0, wkO l w s.p 1 2 0), (1, rowA s), (2, rowF s)] (.tup []) [(0, wkO l w (fltG (spK l w k) k (ndN l k) s).p 8 9 0), (8, rowA (fltG (spK l w k) k (ndN l k) s)), (9, rowF (fltG (spK l w k) k (ndN l k) s))] := by
  have hnb := nod_at hP.v hk
  have hlen := hP.len
  have hsp := hP.sp k
  have hmono := hs_mono hP.v (show k ≤ l.length by omega) (Nat.le_refl _)
  have hB1 : B ≤ 1099511627776 := by unfold hall at hB; omega
  have hat := hs.at hB1
  obtain ⟨hb, hsd⟩ := nodB_flt hnb q
  have hal := hs.al
  have hps := ps_mono (l := l) (show k ≤ l.length by omega) (Nat.le_refl _)
  have hpa := hP.ps
  unfold pall at hpa
  have hpy := hs.y
  have hpm := hs.m
  have hpb := hs.b
  have hpu := put11_ok s.f (newF k (ndN l k) s) (atP s.p) (spK l w k) (hs.pla hB1 (by omega) hb hsp)
  have efl : fltG (spK l w k) k (ndN l k) s = ⟨s.a, putP s.f (newF k (ndN l k) s) (atP s.p) (spK l w k), s.p⟩ := rfl
  rw [efl]
  generalize putP s.f (newF k (ndN l k) s) (atP s.p) (spK l w k) = f2 at hpu ⊢
  have enf : newF k (ndN l k) s = ⟨k, (ndN l k).side, s.a.length, 0, 0, (ndN l k).w, (ndN l k).h⟩ := rfl
  rw [enf, show atP s.p = s.p.y + s.p.m from rfl] at hpu
  refine fn_of_swp Try.func55 rfl (by kernel_rfl) (by kernel_rfl) (Nat.le_of_ble_eq_true rfl) Try.results55 ?_
  (refine swp_seqW ?_; simp only [go_sem, Bool.not_eq_true', Bool.not_eq_false'])
  refine ⟨by omega, ex_get hk ?_⟩
  rw [← ndN_get hk]
  (refine swp_seqW ?_; simp only [go_sem, Bool.not_eq_true', Bool.not_eq_false', List.length_map])
  repeat' first | contradiction | intro _ | refine And.intro ?_ ?_ | refine ex_get (by omega) ?_ | (show drawB _ _ = true; kernel_rfl) | (refine ret2 [] (by simp only [go_sem, Bool.not_eq_true', Bool.not_eq_false']; rfl) ?_; simp only [go_sem, Bool.not_eq_true', Bool.not_eq_false'])
  all_goals try omega
  (refine swp_lastW ?_; simp only [go_sem, Bool.not_eq_true', Bool.not_eq_false'])
  (refine acall2 [] (pat_ok s.p ⟨by omega, by omega, by omega, by omega⟩) (by simp only [go_sem, Bool.not_eq_true', Bool.not_eq_false']; rfl) (fit_of (by simp only [go_sem, Bool.not_eq_true', Bool.not_eq_false']) (by simp only [go_sem, Bool.not_eq_true', Bool.not_eq_false']) (by simp only [go_sem, Bool.not_eq_true', Bool.not_eq_false']) (by simp only [go_sem, Bool.not_eq_true', Bool.not_eq_false']) (by simp only [go_sem, Bool.not_eq_true', Bool.not_eq_false']) (by simp only [go_sem, Bool.not_eq_true', Bool.not_eq_false']) (by simp only [go_sem, Bool.not_eq_true', Bool.not_eq_false'])) ?_; simp only [go_sem, Bool.not_eq_true', Bool.not_eq_false'])
  (refine acallR2 [0 ] [] ( win_ok hP s.p 0 hk) (by simp only [go_sem, Bool.not_eq_true', Bool.not_eq_false']; rfl) (fit_of (by simp only [go_sem, Bool.not_eq_true', Bool.not_eq_false']) (by simp only [go_sem, Bool.not_eq_true', Bool.not_eq_false']) (by simp only [go_sem, Bool.not_eq_true', Bool.not_eq_false']) (by simp only [go_sem, Bool.not_eq_true', Bool.not_eq_false']) (by simp only [go_sem, Bool.not_eq_true', Bool.not_eq_false']) (by simp only [go_sem, Bool.not_eq_true', Bool.not_eq_false']) (by simp only [go_sem, Bool.not_eq_true', Bool.not_eq_false'])) (by simp only [go_sem, Bool.not_eq_true', Bool.not_eq_false', callEff]; first | done | kernel_rfl) ?_; simp only [go_sem, Bool.not_eq_true', Bool.not_eq_false'])
  (refine acall2 [2 ] ( hpu) (by simp only [go_sem, Bool.not_eq_true', Bool.not_eq_false']; rfl) (fit_of (by simp only [go_sem, Bool.not_eq_true', Bool.not_eq_false']) (by simp only [go_sem, Bool.not_eq_true', Bool.not_eq_false']) (by simp only [go_sem, Bool.not_eq_true', Bool.not_eq_false']) (by simp only [go_sem, Bool.not_eq_true', Bool.not_eq_false']) (by simp only [go_sem, Bool.not_eq_true', Bool.not_eq_false']) (by simp only [go_sem, Bool.not_eq_true', Bool.not_eq_false']) (by simp only [go_sem, Bool.not_eq_true', Bool.not_eq_false'])) ?_; simp only [go_sem, Bool.not_eq_true', Bool.not_eq_false'])
  (refine ⟨(show drawB _ _ = true by kernel_rfl), ?_⟩)
  (refine ret2 [] (by simp only [go_sem, Bool.not_eq_true', Bool.not_eq_false']; rfl) ?_; simp only [go_sem, Bool.not_eq_true', Bool.not_eq_false'])
end Go.Proofs.Ytblmebjhhanoaaa
/- CHAPTER 14: flow: the walker lays rows of nodes out. -/
/- G -/
/- BOOLS -/
set_option linter.unusedSimpArgs false
set_option linter.unusedVariables false
namespace Go.Proofs.Ytblmebjhhanoaaa
open Go.RowKit

abbrev wkS (l : List LNo) (w : Int) (s : LGs) (a f : Nat) : List (Nat × AO) := [(0, wkO l w s.p a f 0), (a, rowA s), (f, rowF s)]
set_option maxRecDepth 100000 in
set_option maxHeartbeats 8000000 in
theorem wblock_ok {l : List LNo} {w : Int} (hP : FlwP l w) {k : Nat} {s : LGs} {B : Int} (hk : k < l.length) (q : (ndN l k).kind = 1) (hs : GsOk l B k s) (hB : B + (hall l - hsN l k) ≤ 1099511627776) {g : Nat} (hn : nst l g (k + 1) (k + (ndN l k).size))
    (hrow : ∀ s', GsOk l (B + (ndN l k).st.top + (ndN l k).st.padTop) (k + 1) s' → FnOk Try.prog 28 [.hdr 0, .raw (.int .i64 ((k : Int) + 1)), .raw (.int .i64 (k + (ndN l k).size))] (wkS l w s' 1 2) (.tup []) (wkS l w (rowG l w g (k + 1) (k + (ndN l k).size) s') 8 9)) :
    FnOk Try.prog 52 [.hdr 0, .raw (.int .i64 k)] (wkS l w s 1 2) (.tup []) (wkS l w (lvG (ndN l k) (rowG l w g (k + 1) (k + (ndN l k).size) (entG (ndN l k) s))) 8 9) := by
  have hnb := nod_at hP.v hk
  have hlen := hP.len
  have hmono := hs_mono hP.v (show k ≤ l.length by omega) (Nat.le_refl _)
  have hB1 : B ≤ 1099511627776 := by unfold hall at hB; omega
  have hat := hs.at hB1
  have hb := nodB_blk hnb q
  have hclr := clr_bd (ndN l k) hs
  have hent := ent_ok hk hb hs
  have hh1 := hsN_succ hk
  have e1 : hgtN (ndN l k) = (ndN l k).st.top + (ndN l k).st.bottom + (ndN l k).st.padTop + (ndN l k).st.padBottom + (ndN l k).st.head := by unfold hgtN; rw [if_pos q]
  have hclt : (lowO (ndN l k).st.clear s.f).is = true → clrG (ndN l k) s = penC s.p (lowO (ndN l k).st.clear s.f).n := fun w => if_pos w
  have hclf : ¬ (lowO (ndN l k).st.clear s.f).is = true → clrG (ndN l k) s = s.p := fun w => if_neg w
  have hlo : (lowO (ndN l k).st.clear s.f).is = true → 0 ≤ (lowO (ndN l k).st.clear s.f).n ∧ (lowO (ndN l k).st.clear s.f).n ≤ B := fun w => by
    obtain ⟨f, hf, e⟩ := most_at w
    have e : (lowO (ndN l k).st.clear s.f).n = f.y + f.h := e
    have h4 := (hs.fs f hf).y
    have h5 := (hs.fs f hf).h
    omega
  have hne := hs.near hB1 (show k ≤ 60 by omega)
  have hfl := hs.fl
  have hy := hs.y
  have hm := hs.m
  have hbb := hs.b
  have ersz := isS_lam hP.v
  have hL1 := ersz.pos k hk
  have hL2 := ersz.fin k hk
  rw [← ndN_siz] at hL1 hL2
  have hlc : FnOk Try.prog 57 [.sl 7 (s.f.map cFl), .raw (.int .i64 (ndN l k).st.clear)] [] (aIs (lowO (ndN l k).st.clear s.f)) [] := blow_ok s.f (ndN l k).st.clear (by omega) hne
  refine fn_of_swp Try.func52 rfl (by kernel_rfl) (by kernel_rfl) (Nat.le_of_ble_eq_true rfl) Try.results52 ?_
  (refine swp_seqW ?_; simp only [go_sem, Bool.not_eq_true', Bool.not_eq_false'])
  refine ⟨by omega, ex_get hk ?_⟩
  rw [← ndN_get hk]
  refine swp_cutS (fun _ : Unit => ⟨[(0, .hdr 0), (1, .raw (.int .i64 k)), (4, .hdr 800)], [(0, some (wkO l w (clrG (ndN l k) s) 1 2 0)), (1, some (rowA s)), (2, some (rowF s)), (800, some (.cells 34 (lSty (ndN l k).st)))], none⟩) (fun _ => True) 120 ?_ ?_
  · (refine swp_seqW ?_; simp only [go_sem, Bool.not_eq_true', Bool.not_eq_false'])
    (refine acall2 [2 ] ( hlc) (by simp only [go_sem, Bool.not_eq_true', Bool.not_eq_false']; rfl) (fit_of (by simp only [go_sem, Bool.not_eq_true', Bool.not_eq_false']) (by simp only [go_sem, Bool.not_eq_true', Bool.not_eq_false']) (by simp only [go_sem, Bool.not_eq_true', Bool.not_eq_false']) (by simp only [go_sem, Bool.not_eq_true', Bool.not_eq_false']) (by simp only [go_sem, Bool.not_eq_true', Bool.not_eq_false']) (by simp only [go_sem, Bool.not_eq_true', Bool.not_eq_false']) (by simp only [go_sem, Bool.not_eq_true', Bool.not_eq_false'])) ?_; simp only [go_sem, Bool.not_eq_true', Bool.not_eq_false'])
    (refine ⟨(show drawB _ _ = true by kernel_rfl), ?_⟩)
    (refine swp_seqW ?_; simp only [go_sem, Bool.not_eq_true', Bool.not_eq_false'])
    (refine swp_condW ?_; simp only [go_sem, Bool.not_eq_true', Bool.not_eq_false'])
    refine ⟨fun hi => ?_, fun hi => ?_⟩
    · rw [hclt hi]
      have := hlo hi
      (refine swp_lastW ?_; simp only [go_sem, Bool.not_eq_true', Bool.not_eq_false'])
      (refine acall2 [] (pclear_ok s.p (lowO (ndN l k).st.clear s.f).n ⟨by omega, by omega, by omega, by omega⟩) (by simp only [go_sem, Bool.not_eq_true', Bool.not_eq_false']; rfl) (fit_of (by simp only [go_sem, Bool.not_eq_true', Bool.not_eq_false']) (by simp only [go_sem, Bool.not_eq_true', Bool.not_eq_false']) (by simp only [go_sem, Bool.not_eq_true', Bool.not_eq_false']) (by simp only [go_sem, Bool.not_eq_true', Bool.not_eq_false']) (by simp only [go_sem, Bool.not_eq_true', Bool.not_eq_false']) (by simp only [go_sem, Bool.not_eq_true', Bool.not_eq_false']) (by simp only [go_sem, Bool.not_eq_true', Bool.not_eq_false'])) ?_; simp only [go_sem, Bool.not_eq_true', Bool.not_eq_false'])
      repeat' first | contradiction | intro _ | refine And.intro ?_ ?_ | refine ex_get (by omega) ?_ | (show drawB _ _ = true; kernel_rfl) | (refine ret2 [] (by simp only [go_sem, Bool.not_eq_true', Bool.not_eq_false']; rfl) ?_; simp only [go_sem, Bool.not_eq_true', Bool.not_eq_false'])
      all_goals
        (refine cut_end [] (()) (by simp only [go_sem, Bool.not_eq_true', Bool.not_eq_false']; rfl) ?_ ?_; (focus (simp only [go_sem, Bool.not_eq_true', Bool.not_eq_false']; done)))
        trivial
    · have hi : (lowO (ndN l k).st.clear s.f).is = false := hi
      rw [hclf (by rw [hi]; decide)]
      (refine swp_lastW ?_; simp only [go_sem, Bool.not_eq_true', Bool.not_eq_false'])
      (refine cut_end [] (()) (by simp only [go_sem, Bool.not_eq_true', Bool.not_eq_false']; rfl) ?_ ?_; (focus (simp only [go_sem, Bool.not_eq_true', Bool.not_eq_false']; done)))
      trivial
  rintro - -
  have eent : entG (ndN l k) s = ⟨s.a, s.f, penE (clrG (ndN l k) s) (ndN l k).st.top (ndN l k).st.padTop⟩ := rfl
  have hrow := hrow _ hent
  have hrw := rowG_ok hP g (k + 1) (k + (ndN l k).size) _ _ hn (by omega) hent
  have e3 : ((k : Int) + (ndN l k).size).toNat = k + (ndN l k).size.toNat := by omega
  rw [e3] at hrw
  have hmono2 := hs_mono hP.v (show k + (ndN l k).size.toNat ≤ l.length by omega) (Nat.le_refl _)
  have hmono0 := hs_mono hP.v (show k + 1 ≤ k + (ndN l k).size.toNat by omega) (by omega)
  have hhd := hb.head
  have hbo := hb.bottom
  have hpb := hb.padBottom
  have htp := hb.top
  have hpt := hb.padTop
  unfold hall at hB
  rw [eent] at hrow hrw ⊢
  have elv : ∀ z : LGs, lvG (ndN l k) z = ⟨z.a, z.f, penL z.p (ndN l k).st.bottom (ndN l k).st.padBottom⟩ := fun z => rfl
  rw [elv]
  generalize rowG l w g (k + 1) (k + (ndN l k).size) _ = z at hrow hrw ⊢
  have y1 := hrw.y
  have y2 := hrw.m
  have y3 := hrw.b
  (refine swp_seqW ?_; simp only [go_sem, Bool.not_eq_true', Bool.not_eq_false'])
  (refine acall2 [] (penter_ok (clrG (ndN l k) s) (ndN l k).st.top (ndN l k).st.padTop ⟨by omega, by omega, by omega, by omega⟩) (by simp only [go_sem, Bool.not_eq_true', Bool.not_eq_false']; rfl) (fit_of (by simp only [go_sem, Bool.not_eq_true', Bool.not_eq_false']) (by simp only [go_sem, Bool.not_eq_true', Bool.not_eq_false']) (by simp only [go_sem, Bool.not_eq_true', Bool.not_eq_false']) (by simp only [go_sem, Bool.not_eq_true', Bool.not_eq_false']) (by simp only [go_sem, Bool.not_eq_true', Bool.not_eq_false']) (by simp only [go_sem, Bool.not_eq_true', Bool.not_eq_false']) (by simp only [go_sem, Bool.not_eq_true', Bool.not_eq_false'])) ?_; simp only [go_sem, Bool.not_eq_true', Bool.not_eq_false'])
  (refine ⟨(show drawB _ _ = true by kernel_rfl), ?_⟩)
  (refine swp_seqW ?_; simp only [go_sem, Bool.not_eq_true', Bool.not_eq_false'])
  repeat' first | contradiction | intro _ | refine And.intro ?_ ?_ | refine ex_get (by omega) ?_ | (show drawB _ _ = true; kernel_rfl) | (refine ret2 [] (by simp only [go_sem, Bool.not_eq_true', Bool.not_eq_false']; rfl) ?_; simp only [go_sem, Bool.not_eq_true', Bool.not_eq_false'])
  all_goals try omega
  all_goals rw [← ndN_get hk]
  all_goals try omega
  (refine acall2 [] (hrow) (by simp only [go_sem, Bool.not_eq_true', Bool.not_eq_false']; rfl) (fit_of (by simp only [go_sem, Bool.not_eq_true', Bool.not_eq_false']) (by simp only [go_sem, Bool.not_eq_true', Bool.not_eq_false']) (by simp only [go_sem, Bool.not_eq_true', Bool.not_eq_false']) (by simp only [go_sem, Bool.not_eq_true', Bool.not_eq_false']) (by simp only [go_sem, Bool.not_eq_true', Bool.not_eq_false']) (by simp only [go_sem, Bool.not_eq_true', Bool.not_eq_false']) (by simp only [go_sem, Bool.not_eq_true', Bool.not_eq_false'])) ?_; simp only [go_sem, Bool.not_eq_true', Bool.not_eq_false'])
  (refine swp_lastW ?_; simp only [go_sem, Bool.not_eq_true', Bool.not_eq_false'])
  (refine acall2 [] (pleave_ok z.p (ndN l k).st.bottom (ndN l k).st.padBottom ⟨by omega, by omega, by omega, by omega⟩) (by simp only [go_sem, Bool.not_eq_true', Bool.not_eq_false']; rfl) (fit_of (by simp only [go_sem, Bool.not_eq_true', Bool.not_eq_false']) (by simp only [go_sem, Bool.not_eq_true', Bool.not_eq_false']) (by simp only [go_sem, Bool.not_eq_true', Bool.not_eq_false']) (by simp only [go_sem, Bool.not_eq_true', Bool.not_eq_false']) (by simp only [go_sem, Bool.not_eq_true', Bool.not_eq_false']) (by simp only [go_sem, Bool.not_eq_true', Bool.not_eq_false']) (by simp only [go_sem, Bool.not_eq_true', Bool.not_eq_false'])) ?_; simp only [go_sem, Bool.not_eq_true', Bool.not_eq_false'])
  (refine ⟨(show drawB _ _ = true by kernel_rfl), ?_⟩)
  (refine ret2 [] (by simp only [go_sem, Bool.not_eq_true', Bool.not_eq_false']; rfl) ?_; simp only [go_sem, Bool.not_eq_true', Bool.not_eq_false'])
set_option maxRecDepth 100000 in
set_option maxHeartbeats 8000000 in
theorem wrow_ok {l : List LNo} {w : Int} (hP : FlwP l w) : ∀ (F g : Nat), g ≤ F → ∀ (k : Nat) (e : Int) (s : LGs) (B : Int), nst l g k e → e ≤ l.length → GsOk l B k s → B + (hall l - hsN l k) ≤ 1099511627776 →
    FnOk Try.prog 28 [.hdr 0, .raw (.int .i64 k), .raw (.int .i64 e)] (wkS l w s 1 2) (.tup []) (wkS l w (rowG l w g k e s) 8 9)
  | 0, g, hg, k, e, s, B, hn, he, hs, hB => by
    obtain rfl : g = 0 := by omega
    exact absurd hn (by simp [nst])
  | F + 1, g, hg, k, e, s, B, hn, he, hs, hB => by
    have hlen := hP.len
    refine fn_of_swp Try.func28 rfl (by kernel_rfl) (by kernel_rfl) (Nat.le_of_ble_eq_true rfl) Try.results28 ?_
    (refine swp_seqW ?_; simp only [go_sem, Bool.not_eq_true', Bool.not_eq_false'])
    refine swp_block ?_
    refine swp_loop2 [] (fun z : KY LGs => ⟨[(0, .hdr 0), (1, .raw (.int .i64 z.k)), (2, .raw (.int .i64 e)), (6, .hdr 800)], [(0, some (wkO l w z.o.p 802 803 0)), (802, some (rowA z.o)), (803, some (rowF z.o)), (800, some (.cells 101 [.raw Value.nilFunc, .bnd (.func 52) [.hdr 0], .bnd (.func 53) [.hdr 0], .bnd (.func 54) [.hdr 0], .bnd (.func 55) [.hdr 0]]))], none⟩) (fun z => ∃ B' g', g' ≤ g ∧ nst l g' z.k e ∧ GsOk l B' z.k z.o ∧ B' + (hall l - hsN l z.k) ≤ 1099511627776 ∧ rowG l w g' z.k e z.o = rowG l w g k e s) (fun z => l.length - z.k) 120 ⟨k, s⟩ (by simp only [go_sem, Bool.not_eq_true', Bool.not_eq_false']; rfl) (by simp only [go_sem, Bool.not_eq_true', Bool.not_eq_false']) ?_ ?_
    · exact ⟨B, g, Nat.le_refl _, hn, hs, hB, rfl⟩
    rintro ⟨kk, z⟩ ⟨B', g', z1, z2, z3, z4, z5⟩
    simp only at z1 z2 z3 z4 z5
    (refine swp_seqW ?_; simp only [go_sem, Bool.not_eq_true', Bool.not_eq_false'])
    refine ⟨fun h5 => ?_, fun h5 => ?_⟩
    rotate_left
    · have e5 : rowG l w g' kk e z = z := by
        cases g' with
        | zero => rfl
        | succ m => rw [rowG, if_neg h5]
      rw [← z5, e5]
      (refine ret2 [] (by simp only [go_sem, Bool.not_eq_true', Bool.not_eq_false']; rfl) ?_; simp only [go_sem, Bool.not_eq_true', Bool.not_eq_false'])
    obtain ⟨m, rfl⟩ : ∃ m, g' = m + 1 := by
      cases g' with
      | zero => exact absurd z2 (by simp [nst])
      | succ m => exact ⟨m, rfl⟩
    obtain ⟨u1, u2, u3, u4⟩ := z2.2 h5
    rw [← ndN_siz] at u1 u2 u3 u4
    have hkk : kk < l.length := by omega
    rw [rowG, if_pos h5] at z5
    have hnb := nod_at hP.v hkk
    have hnx := nod_next hP hkk u3 z3
    have hm1 := hs_mono hP.v (show kk + (ndN l kk).size.toNat ≤ l.length by omega) (Nat.le_refl _)
    have hm0 := hs_mono hP.v (show kk ≤ kk + (ndN l kk).size.toNat by omega) (by omega)
    have hcl : FnOk Try.prog (if (ndN l kk).kind = 1 then 52 else if (ndN l kk).kind = 2 then 53 else if (ndN l kk).kind = 3 then 54 else 55) [.hdr 0, .raw (.int .i64 kk)] (wkS l w z 1 2) (.tup []) (wkS l w (nodG l w (rowG l w m) kk z) 8 9) := by
      unfold nodG
      rcases nodB_kind hnb with q | q | q | q
      · rw [if_pos q, if_pos q]
        have hb := nodB_blk hnb q
        have hhd := hb.head
        have hbo := hb.bottom
        have hpb := hb.padBottom
        have hh1 := hsN_succ hkk
        have e1 : hgtN (ndN l kk) = (ndN l kk).st.top + (ndN l kk).st.bottom + (ndN l kk).st.padTop + (ndN l kk).st.padBottom + (ndN l kk).st.head := by unfold hgtN; rw [if_pos q]
        exact wblock_ok hP hkk q z3 z4 u3 fun s' hs' => wrow_ok hP F m (by omega) (kk + 1) _ s' _ u3 (by omega) hs' (by omega)
      · rw [if_neg (by omega), if_pos q, if_neg (by omega), if_pos q]
        exact wtext_ok hP hkk q z3 z4
      · rw [if_neg (by omega), if_neg (by omega), if_pos q, if_neg (by omega), if_neg (by omega), if_pos q]
        exact wmono_ok hP hkk q z3 z4
      · rw [if_neg (by omega), if_neg (by omega), if_neg (by omega), if_neg (by omega), if_neg (by omega), if_neg (by omega)]
        exact wfloat_ok hP hkk q z3 z4
    generalize nodG l w (rowG l w m) kk z = z' at hcl hnx z5
    obtain ⟨sz, hsz2⟩ : ∃ sz : Nat, (ndN l kk).size = sz := ⟨(ndN l kk).size.toNat, by omega⟩
    rw [hsz2] at u1 u2 u3 u4 z5 hnx hm1 hm0
    rw [Int.toNat_natCast] at u4 z5 hnx hm1 hm0
    refine swp_seqS ?_
    refine swp_block ?_
    (refine swp_lastW ?_; simp only [go_sem, Bool.not_eq_true', Bool.not_eq_false'])
    refine ⟨by omega, ex_get hkk ?_⟩
    rw [← ndN_get hkk]
    rcases nodB_kind hnb with q | q | q | q
    all_goals
      rw [q]
      rw [q] at hcl
      simp only [if_true, Int.reduceEq, if_false] at hcl
      refine ⟨⟨by omega, by omega⟩, by omega, ?_⟩
      simp only [go_sem, Bool.not_eq_true', Bool.not_eq_false', Int.reduceToNat, Int.reduceLT, Int.reduceLE, Int.reduceEq, Int.reduceAdd, Int.reduceSub, Int.reduceMul, Int.reduceNeg, Int.reduceNe, decide_false, Int.cast_ofNat_Int, kSet, List.getElem?_cons_succ, List.getElem?_cons_zero, List.set_cons_succ, List.set_cons_zero, exists_eq_left', forall_const, true_implies, List.drop_zero, List.drop_succ_cons, List.take_succ_cons, List.take_zero, List.headD_cons]
      (refine acallM2 [] (hcl) (by simp only [go_sem, Bool.not_eq_true', Bool.not_eq_false']; rfl) (fit_of (by simp only [go_sem, Bool.not_eq_true', Bool.not_eq_false']) (by simp only [go_sem, Bool.not_eq_true', Bool.not_eq_false']) (by simp only [go_sem, Bool.not_eq_true', Bool.not_eq_false']) (by simp only [go_sem, Bool.not_eq_true', Bool.not_eq_false']) (by simp only [go_sem, Bool.not_eq_true', Bool.not_eq_false']) (by simp only [go_sem, Bool.not_eq_true', Bool.not_eq_false']) (by simp only [go_sem, Bool.not_eq_true', Bool.not_eq_false'])) ?_; simp only [go_sem, Bool.not_eq_true', Bool.not_eq_false'])
      (refine swp_lastW ?_; simp only [go_sem, Bool.not_eq_true', Bool.not_eq_false'])
      refine ⟨by omega, ex_get hkk ?_⟩
      rw [← ndN_get hkk, hsz2]
      refine ⟨⟨by omega, by omega⟩, ?_⟩
      (refine loop_end [] (⟨kk + sz, z'⟩) (by simp only [go_sem, Bool.not_eq_true', Bool.not_eq_false']; rfl) ?_ ?_ ?_; (focus first | omega | (simp only; omega)); (focus (simp only [go_sem, Bool.not_eq_true', Bool.not_eq_false']; done)))
      exact ⟨_, m, by omega, u4, hnx, by show _ + (hall l - hsN l (kk + sz)) ≤ _; omega, z5⟩
end Go.Proofs.Ytblmebjhhanoaaa
/- CHAPTER 14: flow.Of. -/
/- G -/
/- BOOLS -/
set_option linter.unusedSimpArgs false
set_option linter.unusedVariables false
namespace Go.Proofs.Ytblmebjhhanoaaa
open Go.RowKit

theorem low3 {f : LFl} (h : f.side = 1 ∨ f.side = 2) : lowF 3 f = ⟨f.y + f.h, true⟩ := by
  unfold lowF
  have : decide (andI f.side 3 ≠ 0) = true := by rcases h with e | e <;> (rw [e]; decide)
  rw [this]
theorem hgt_fold : ∀ (fs : List LFl) (b : Int) (o : LIs), (∀ f ∈ fs, f.side = 1 ∨ f.side = 2) → o.is = true → (fs.foldl (mostT (lowF 3)) o).is = true ∧ hgtS (max b o.n) fs = max b (fs.foldl (mostT (lowF 3)) o).n
  | [], b, o, _, ho => ⟨ho, rfl⟩
  | f :: fs, b, o, hf, ho => by
    have hl := low3 (hf f List.mem_cons_self)
    have e : mostT (lowF 3) o f = ⟨max o.n (f.y + f.h), true⟩ := by
      unfold mostT
      rw [hl]
      simp only [true_and]
      split
      · next h => have := h ho; congr 1; omega
      · next h =>
        have h1 : ¬ o.n < f.y + f.h := fun w => h fun _ => w
        cases o with
        | mk n is =>
          simp only at ho h1 ⊢
          rw [ho]
          congr 1
          omega
    obtain ⟨i1, i2⟩ := hgt_fold fs b ⟨max o.n (f.y + f.h), true⟩ (fun g hg => hf g (List.mem_cons_of_mem _ hg)) rfl
    rw [List.foldl_cons, e]
    refine ⟨i1, ?_⟩
    rw [← i2]
    show hgtS (max (max b o.n) (f.y + f.h)) fs = _
    congr 1
    simp only
    omega
theorem hgt_low {fs : List LFl} {b : Int} (hf : ∀ f ∈ fs, f.side = 1 ∨ f.side = 2) : hgtS b fs = if (lowO 3 fs).is = true then max b (lowO 3 fs).n else b := by
  cases fs with
  | nil => rfl
  | cons f fs =>
    have hl := low3 (hf f List.mem_cons_self)
    have e : lowO 3 (f :: fs) = fs.foldl (mostT (lowF 3)) ⟨f.y + f.h, true⟩ := by
      show fs.foldl (mostT (lowF 3)) (mostT (lowF 3) ⟨0, false⟩ f) = _
      congr 1
      unfold mostT
      rw [hl]
      simp
    obtain ⟨i1, i2⟩ := hgt_fold fs b ⟨f.y + f.h, true⟩ (fun g hg => hf g (List.mem_cons_of_mem _ hg)) rfl
    rw [e, if_pos i1, ← i2]
    rfl
abbrev wkH (l : List LNo) (w : Int) (p : LPen) (a f : Nat) (h : Int) : AO := wkO l w p a f h
set_option maxRecDepth 100000 in
set_option maxHeartbeats 8000000 in
theorem wend_ok {l : List LNo} {w : Int} (hP : FlwP l w) {s : LGs} (hA : GsOk l (hall l) l.length s) (hc : AncP l.length s) :
    FnOk Try.prog 29 [.hdr 0] (wkS l w s 1 2) (.tup []) [(0, wkO l w s.p 1 9 (hgtS (atP s.p) s.f)), (1, rowA s), (9, .row 39 7 ((s.f.map (endF s.a.length)).map cFl))] := by
  have hlen := hP.len
  have hH := hP.hi
  have hpp := hP.ps
  unfold pall at hpp
  have hy := hA.y
  have hm := hA.m
  have hb := hA.b
  have hfl := hA.fl
  have hal := hA.al
  have hne := hA.near hH hlen
  have hfs2 : ∀ f ∈ s.f, 0 ≤ f.y + f.h ∧ f.y + f.h ≤ 1099511627776 := fun f hf => by
    have h1 := (hA.fs f hf).y
    have h2 := (hA.fs f hf).h
    omega
  have hgl := hgt_low (b := atP s.p) (fun f hf => (hA.fs f hf).side)
  have hlc : FnOk Try.prog 57 [.sl 7 (s.f.map cFl), .raw (.int .i64 3)] [] (aIs (lowO 3 s.f)) [] := blow_ok s.f 3 (by omega) hne
  unfold atP at hgl ⊢
  refine fn_of_swp Try.func29 rfl (by kernel_rfl) (by kernel_rfl) (Nat.le_of_ble_eq_true rfl) Try.results29 ?_
  (refine swp_seqW ?_; simp only [go_sem, Bool.not_eq_true', Bool.not_eq_false'])
  (refine acall2 [] (pat_ok s.p ⟨by omega, by omega, by omega, by omega⟩) (by simp only [go_sem, Bool.not_eq_true', Bool.not_eq_false']; rfl) (fit_of (by simp only [go_sem, Bool.not_eq_true', Bool.not_eq_false']) (by simp only [go_sem, Bool.not_eq_true', Bool.not_eq_false']) (by simp only [go_sem, Bool.not_eq_true', Bool.not_eq_false']) (by simp only [go_sem, Bool.not_eq_true', Bool.not_eq_false']) (by simp only [go_sem, Bool.not_eq_true', Bool.not_eq_false']) (by simp only [go_sem, Bool.not_eq_true', Bool.not_eq_false']) (by simp only [go_sem, Bool.not_eq_true', Bool.not_eq_false'])) ?_; simp only [go_sem, Bool.not_eq_true', Bool.not_eq_false'])
  refine swp_cutS (fun _ : Unit => ⟨[(0, .hdr 0)], [(0, some (wkO l w s.p 1 2 (hgtS (s.p.y + s.p.m) s.f))), (1, some (rowA s)), (2, some (rowF s))], none⟩) (fun _ => True) 120 ?_ ?_
  · (refine swp_seqW ?_; simp only [go_sem, Bool.not_eq_true', Bool.not_eq_false'])
    (refine acall2 [2 ] ( hlc) (by simp only [go_sem, Bool.not_eq_true', Bool.not_eq_false']; rfl) (fit_of (by simp only [go_sem, Bool.not_eq_true', Bool.not_eq_false']) (by simp only [go_sem, Bool.not_eq_true', Bool.not_eq_false']) (by simp only [go_sem, Bool.not_eq_true', Bool.not_eq_false']) (by simp only [go_sem, Bool.not_eq_true', Bool.not_eq_false']) (by simp only [go_sem, Bool.not_eq_true', Bool.not_eq_false']) (by simp only [go_sem, Bool.not_eq_true', Bool.not_eq_false']) (by simp only [go_sem, Bool.not_eq_true', Bool.not_eq_false'])) ?_; simp only [go_sem, Bool.not_eq_true', Bool.not_eq_false'])
    (refine swp_seqW ?_; simp only [go_sem, Bool.not_eq_true', Bool.not_eq_false'])
    (refine swp_condW ?_; simp only [go_sem, Bool.not_eq_true', Bool.not_eq_false'])
    refine ⟨fun hi => ?_, fun hi => ?_⟩
    · rw [hgl, if_pos hi]
      (refine swp_lastW ?_; simp only [go_sem, Bool.not_eq_true', Bool.not_eq_false'])
      repeat' first | contradiction | intro _ | refine And.intro ?_ ?_ | refine ex_get (by omega) ?_ | (show drawB _ _ = true; kernel_rfl) | (refine ret2 [] (by simp only [go_sem, Bool.not_eq_true', Bool.not_eq_false']; rfl) ?_; simp only [go_sem, Bool.not_eq_true', Bool.not_eq_false'])
      all_goals
        (refine cut_end [] (()) (by simp only [go_sem, Bool.not_eq_true', Bool.not_eq_false']; rfl) ?_ ?_; (focus (simp only [go_sem, Bool.not_eq_true', Bool.not_eq_false']; done)))
        trivial
    · have hi : (lowO 3 s.f).is = false := hi
      rw [hgl, if_neg (by rw [hi]; decide)]
      (refine swp_lastW ?_; simp only [go_sem, Bool.not_eq_true', Bool.not_eq_false'])
      (refine cut_end [] (()) (by simp only [go_sem, Bool.not_eq_true', Bool.not_eq_false']; rfl) ?_ ?_; (focus (simp only [go_sem, Bool.not_eq_true', Bool.not_eq_false']; done)))
      trivial
  rintro - -
  (refine swp_seqW ?_; simp only [go_sem, Bool.not_eq_true', Bool.not_eq_false', List.length_map])
  refine swp_block ?_
  generalize hgtS (s.p.y + s.p.m) s.f = ht
  refine swp_loop2 [] (fun i : Nat => ⟨[(0, .hdr 0), (40, .raw (.int .i64 s.f.length)), (41, .raw (.int .i64 i))], [(0, some (wkO l w s.p 1 802 ht)), (1, some (rowA s)), (802, some (.row 39 7 ((flE s.a.length s.f i).map cFl)))], none⟩) (fun i => i ≤ s.f.length) (fun i => s.f.length - i) 120 0 (by simp only [go_sem, Bool.not_eq_true', Bool.not_eq_false']; rfl) (by simp only [go_sem, Bool.not_eq_true', Bool.not_eq_false', flE_zero]) ?_ ?_
  · exact Nat.zero_le _
  intro i hi
  have hln := @flE_len s.a.length s.f i
  (refine swp_seqW ?_; simp only [go_sem, Bool.not_eq_true', Bool.not_eq_false'])
  (refine swp_seqW ?_; simp only [go_sem, Bool.not_eq_true', Bool.not_eq_false'])
  refine ⟨fun h5 => ?_, fun h5 => ?_⟩
  rotate_left
  · obtain rfl : i = s.f.length := by omega
    rw [flE_all]
    (refine ret2 [] (by simp only [go_sem, Bool.not_eq_true', Bool.not_eq_false']; rfl) ?_; simp only [go_sem, Bool.not_eq_true', Bool.not_eq_false'])
  have hii : i < s.f.length := by omega
  have hg := flE_get (n := s.a.length) hii
  have hst := flE_set (n := s.a.length) hii
  have hfi := hfs2 _ (List.getElem_mem hii)
  have hci := hc _ (List.getElem_mem hii)
  generalize hE : flE s.a.length s.f i = E at *
  have eS : ∀ f', endF s.a.length s.f[i] = f' → (E.map cFl).set i (cFl f') = (flE s.a.length s.f (i + 1)).map cFl := fun f' e => by rw [← e, ← hst, List.map_set]
  generalize s.f[i] = f at *
  have ef : endF s.a.length f = ⟨f.node, f.side, max 0 (min f.anchor ((s.a.length : Int) - 1)), f.x, f.y, f.w, f.h⟩ := by
    unfold endF
    congr 1
    split <;> omega
  have e := eS _ ef
  simp only [cFl] at e
  refine swp_seqS ?_
  refine swp_block ?_
  (refine swp_seqW ?_; simp only [go_sem, Bool.not_eq_true', Bool.not_eq_false'])
  (refine swp_lastW ?_; simp only [go_sem, Bool.not_eq_true', Bool.not_eq_false', List.length_map])
  refine ⟨by omega, f, hg, ?_⟩
  refine ⟨⟨by omega, by omega⟩, ⟨by omega, by omega⟩, f, hg, ?_⟩
  (refine ⟨(show drawB _ _ = true by kernel_rfl), ?_⟩)
  (refine swp_lastW ?_; simp only [go_sem, Bool.not_eq_true', Bool.not_eq_false'])
  refine ⟨by omega, ?_⟩
  (refine loop_end [] (i + 1) (by simp only [go_sem, Bool.not_eq_true', Bool.not_eq_false']; rfl) ?_ ?_ ?_; (focus first | omega | (simp only; omega)); (focus (simp only [go_sem, Bool.not_eq_true', Bool.not_eq_false', e]; done)))
  omega
set_option maxRecDepth 100000 in
theorem umay14_ok (n : Int) : FnOk Try.prog 27 [.raw (.int .i64 n)] [] (.raw (.bool (decide (1 ≤ n ∧ n ≤ 1099511627776)))) [] := by
  refine fn_of_awp Try.func27 rfl (by kernel_rfl) (by kernel_rfl) (Nat.le_of_ble_eq_true rfl) Try.results27 ?_
  simp only [go_sem, Bool.not_eq_true', Bool.not_eq_false']
  repeat' first | contradiction | intro _ | refine And.intro ?_ ?_ | refine ex_get (by omega) ?_ | (show drawB _ _ = true; kernel_rfl) | (refine ret2 [] (by simp only [go_sem, Bool.not_eq_true', Bool.not_eq_false']; rfl) ?_; simp only [go_sem, Bool.not_eq_true', Bool.not_eq_false'])
  all_goals first
    | omega
    | (simp; omega)
set_option maxRecDepth 100000 in
set_option maxHeartbeats 8000000 in
theorem of14_ok (l : List LNo) (w : Int) (hl : l.length ≤ 60) (hw : ∀ x ∈ l, x.words.length ≤ 9223372036854775807) (hp : pall l ≤ 9223372036854775807) :
    FnOk Try.prog 9 [.sl 20 (l.map cNo), .raw (.int .i64 w)] [] (.tup [aGal (resG l w) 8 9, .raw (.int .i64 (errG l w))]) [(8, .row 41 8 ((resG l w).a.map cAt)), (9, .row 39 7 ((resG l w).f.map cFl))] := by
  refine fn_of_swp Try.func9 rfl (by kernel_rfl) (by kernel_rfl) (Nat.le_of_ble_eq_true rfl) Try.results9 ?_
  (refine swp_seqW ?_; simp only [go_sem, Bool.not_eq_true', Bool.not_eq_false'])
  (refine swp_seqW ?_; simp only [go_sem, Bool.not_eq_true', Bool.not_eq_false'])
  (refine acall2 [] (umay14_ok w) (by simp only [go_sem, Bool.not_eq_true', Bool.not_eq_false']; rfl) (fit_of (by simp only [go_sem, Bool.not_eq_true', Bool.not_eq_false']) (by simp only [go_sem, Bool.not_eq_true', Bool.not_eq_false']) (by simp only [go_sem, Bool.not_eq_true', Bool.not_eq_false']) (by simp only [go_sem, Bool.not_eq_true', Bool.not_eq_false']) (by simp only [go_sem, Bool.not_eq_true', Bool.not_eq_false']) (by simp only [go_sem, Bool.not_eq_true', Bool.not_eq_false']) (by simp only [go_sem, Bool.not_eq_true', Bool.not_eq_false'])) ?_; simp only [go_sem, Bool.not_eq_true', Bool.not_eq_false'])
  by_cases hw1 : 1 ≤ w ∧ w ≤ 1099511627776
  rotate_left
  · have e1 : errG l w = 4 := if_neg hw1
    have e2 : resG l w = ⟨[], [], 0⟩ := by unfold resG; rw [e1]; rfl
    rw [e1, e2]
    refine ⟨fun _ => ?_, fun q => absurd q hw1⟩
    (refine ret2 [] (by simp only [go_sem, Bool.not_eq_true', Bool.not_eq_false', List.map_nil]; rfl) ?_; simp only [go_sem, Bool.not_eq_true', Bool.not_eq_false', List.map_nil])
  have e1 : errG l w = chkN l := if_pos hw1
  refine ⟨fun q => absurd hw1 q, fun _ => ?_⟩
  (refine swp_seqW ?_; simp only [go_sem, Bool.not_eq_true', Bool.not_eq_false'])
  (refine acall2 [] (check6_ok l (by omega) hw hp) (by simp only [go_sem, Bool.not_eq_true', Bool.not_eq_false']; rfl) (fit_of (by simp only [go_sem, Bool.not_eq_true', Bool.not_eq_false']) (by simp only [go_sem, Bool.not_eq_true', Bool.not_eq_false']) (by simp only [go_sem, Bool.not_eq_true', Bool.not_eq_false']) (by simp only [go_sem, Bool.not_eq_true', Bool.not_eq_false']) (by simp only [go_sem, Bool.not_eq_true', Bool.not_eq_false']) (by simp only [go_sem, Bool.not_eq_true', Bool.not_eq_false']) (by simp only [go_sem, Bool.not_eq_true', Bool.not_eq_false'])) ?_; simp only [go_sem, Bool.not_eq_true', Bool.not_eq_false'])
  rw [e1]
  refine ⟨fun hc => ?_, fun hc => ?_⟩
  · have e2 : resG l w = ⟨[], [], 0⟩ := by unfold resG; rw [e1, if_neg hc]
    rw [e2]
    (refine ret2 [] (by simp only [go_sem, Bool.not_eq_true', Bool.not_eq_false', List.map_nil]; rfl) ?_; simp only [go_sem, Bool.not_eq_true', Bool.not_eq_false', List.map_nil])
  have hP := errG_ok hl (by rw [e1]; exact hc)
  have e2 : resG l w = endG (allS l w) := by unfold resG; rw [e1, if_pos hc]
  rw [e2, hc]
  have hrm := rooms_eq hP.v w
  have hrs : rmsN l w = rmsR l w l.length := if_pos hw1
  have hdn : docN l = l := by simp [docN, hP.v]
  have hroo := rooms8_ok l w (by omega) hw (isS_ins hP.v) (by rw [hdn]; exact isS_nst hP.v)
  rw [hrm, hrs] at hroo
  (refine swp_seqW ?_; simp only [go_sem, Bool.not_eq_true', Bool.not_eq_false'])
  (refine acall2 [] (hroo) (by simp only [go_sem, Bool.not_eq_true', Bool.not_eq_false']; rfl) (fit_of (by simp only [go_sem, Bool.not_eq_true', Bool.not_eq_false']) (by simp only [go_sem, Bool.not_eq_true', Bool.not_eq_false']) (by simp only [go_sem, Bool.not_eq_true', Bool.not_eq_false']) (by simp only [go_sem, Bool.not_eq_true', Bool.not_eq_false']) (by simp only [go_sem, Bool.not_eq_true', Bool.not_eq_false']) (by simp only [go_sem, Bool.not_eq_true', Bool.not_eq_false']) (by simp only [go_sem, Bool.not_eq_true', Bool.not_eq_false'])) ?_; simp only [go_sem, Bool.not_eq_true', Bool.not_eq_false'])
  have hrow := wrow_ok hP (l.length + 1) (l.length + 1) (Nat.le_refl _) 0 l.length ⟨[], [], ⟨0, 0⟩⟩ 0 (isS_nst hP.v) (Int.le_refl _) (gs_zero l) (by have := hP.hi; rw [hsN_zero]; omega)
  have hend := wend_ok hP (allS_ok hP) (anc_all hP)
  have eall : rowG l w (l.length + 1) 0 l.length ⟨[], [], ⟨0, 0⟩⟩ = allS l w := rfl
  rw [eall] at hrow
  unfold endG
  generalize allS l w = s at *
  (refine swp_seqW ?_; simp only [go_sem, Bool.not_eq_true', Bool.not_eq_false', List.length_map])
  (refine acallF2 [112 ] [] ( hrow) (by simp only [go_sem, Bool.not_eq_true', Bool.not_eq_false']; rfl) (fit_of (by simp only [go_sem, Bool.not_eq_true', Bool.not_eq_false']) (by simp only [go_sem, Bool.not_eq_true', Bool.not_eq_false']) (by simp only [go_sem, Bool.not_eq_true', Bool.not_eq_false']) (by simp only [go_sem, Bool.not_eq_true', Bool.not_eq_false']) (by simp only [go_sem, Bool.not_eq_true', Bool.not_eq_false']) (by simp only [go_sem, Bool.not_eq_true', Bool.not_eq_false']) (by simp only [go_sem, Bool.not_eq_true', Bool.not_eq_false'])) ?_; simp only [go_sem, Bool.not_eq_true', Bool.not_eq_false', List.map_nil])
  (refine swp_seqW ?_; simp only [go_sem, Bool.not_eq_true', Bool.not_eq_false'])
  (refine acall2 [] (hend) (by simp only [go_sem, Bool.not_eq_true', Bool.not_eq_false']; rfl) (fit_of (by simp only [go_sem, Bool.not_eq_true', Bool.not_eq_false']) (by simp only [go_sem, Bool.not_eq_true', Bool.not_eq_false']) (by simp only [go_sem, Bool.not_eq_true', Bool.not_eq_false']) (by simp only [go_sem, Bool.not_eq_true', Bool.not_eq_false']) (by simp only [go_sem, Bool.not_eq_true', Bool.not_eq_false']) (by simp only [go_sem, Bool.not_eq_true', Bool.not_eq_false']) (by simp only [go_sem, Bool.not_eq_true', Bool.not_eq_false'])) ?_; simp only [go_sem, Bool.not_eq_true', Bool.not_eq_false'])
  (refine swp_lastW ?_; simp only [go_sem, Bool.not_eq_true', Bool.not_eq_false'])
  (refine ret2 [] (by simp only [go_sem, Bool.not_eq_true', Bool.not_eq_false']; rfl) ?_; simp only [go_sem, Bool.not_eq_true', Bool.not_eq_false'])
end Go.Proofs.Ytblmebjhhanoaaa
/- THE SCRIPT'S READER: blocks, nodes. -/
/- G -/
/- BOOLS -/
/- GET get_tk -/
set_option linter.unusedSimpArgs false
set_option linter.unusedVariables false
namespace Go.Proofs.Ytblmebjhhanoaaa
open Go.RowKit

def pushB (t : ByteArray) (c : Int) : ByteArray := t ++ ByteArray.empty.push (UInt8.ofNat c.toNat)
def attrS (l : List LTk) : Nat → Nat → ByteArray → LSty → Option (LSty × Nat)
  | 0, _, _, _ => none
  | f + 1, k, told, st => if letterS l k told = 0 then some (st, k)
    else if k + 1 < l.length ∧ told.size < 100 ∧ (pushB told (letterS l k told)).size < 100 ∧ numB l (k + 1) (limA (letterS l k told)) (limB (letterS l k told)) = true then attrS l f (k + 2) (pushB told (letterS l k told)) (withS st (letterS l k told) (tkAt l (k + 1)).n) else none
def sty2 : LSty := ⟨0, 0, 0, 0, 0, 2, 2, 0, 0, 0, 0, 0⟩
attribute [go_sem] sty2
section
variable (rec : Nat → Option (List LNo × Nat)) (l : List LTk)
def blockS (k : Nat) : Option (List LNo × Nat) :=
  if k < l.length then match attrS l (l.length + 1) (k + 1) ⟨#[]⟩ sty2 with
    | some (st, k1) => match rec k1 with
      | some (ns, k2) => if k1 ≤ l.length ∧ ns.length < 1000 ∧ signB l k2 93 = true then some (⟨1, 1 + ns.length, st, 0, 0, [], 0, 0, 0⟩ :: ns, k2 + 1) else none
      | none => none
    | none => none
  else none
def oneS (k : Nat) : Option (List LNo × Nat) :=
  if signB l k 91 = true then blockS rec l k
  else if signB l k 40 = true then textS l k
  else if signB l k 123 = true then boxS l (k + 1) ⟨3, 1, sty0, 0, 0, [], 0, 0, 0⟩ 125
  else if signB l (k + 1) 76 = true then boxS l (k + 2) ⟨4, 1, sty0, 0, 0, [], 1, 0, 0⟩ 62
  else if signB l (k + 1) 82 = true then boxS l (k + 2) ⟨4, 1, sty0, 0, 0, [], 2, 0, 0⟩ 62
  else none
def startB (k : Nat) : Bool := signB l k 91 || signB l k 40 || signB l k 123 || signB l k 60
def nodesG : Nat → Nat → Option (List LNo × Nat)
  | 0, _ => none
  | g + 1, k => if k ≤ l.length then
      (if startB l k = true then match oneS rec l k with
        | some (ns, k1) => if k < k1 then match nodesG g k1 with
          | some (r, k2) => if ns.length + r.length < 1000 then some (ns ++ r, k2) else none
          | none => none
          else none
        | none => none
      else some ([], k))
    else none
end
def nodesS (l : List LTk) : Nat → Nat → Option (List LNo × Nat)
  | 0, _ => none
  | f + 1, k => nodesG (nodesS l f) l (l.length + 1) k
structure LBl where
  k : Nat
  told : ByteArray
  st : LSty
set_option maxRecDepth 100000 in
set_option maxHeartbeats 8000000 in
theorem block5_ok (rec : Nat → Option (List LNo × Nat)) (l : List LTk) (hrec : ∀ k r, k ≤ l.length → rec k = some r → FnOk Try.prog 66 [.sl 4 (l.map cTk), .raw (.int .i64 k)] [] (aGot r) []) (k : Nat) (r : List LNo × Nat) (hl : l.length ≤ 1000) (h : blockS rec l k = some r) : FnOk Try.prog 112 [.sl 4 (l.map cTk), .raw (.int .i64 k)] [] (aGot r) [] := by
  refine fn_of_swp Try.func112 rfl (by kernel_rfl) (by kernel_rfl) (Nat.le_of_ble_eq_true rfl) Try.results112 ?_
  unfold blockS at h
  split at h
  case isFalse => cases h
  next hk =>
  split at h
  case h_2 => cases h
  next st k1 ha =>
  split at h
  case h_2 => cases h
  next ns k2 hr =>
  split at h
  case isFalse => cases h
  next hh =>
  obtain ⟨hk1, hns, h93⟩ := hh
  injection h with h
  subst h
  have hk2 : k2 < l.length := (of_decide_eq_true h93).1
  have hnode := hrec k1 (ns, k2) hk1 hr
  (refine swp_seqW ?_; simp only [go_sem, Bool.not_eq_true', Bool.not_eq_false'])
  (refine swp_seqW ?_; simp only [go_sem, Bool.not_eq_true', Bool.not_eq_false'])
  refine ⟨by omega, ?_⟩
  (refine swp_seqW ?_; simp only [go_sem, Bool.not_eq_true', Bool.not_eq_false'])
  (refine swp_seqW ?_; simp only [go_sem, Bool.not_eq_true', Bool.not_eq_false'])
  refine swp_cutS (fun _ : Unit => ⟨[(0, .sl 4 (l.map cTk)), (1, .raw (.int .i64 k1)), (4, .hdr 8), (5, .hdr 16)], [(8, some (.cells 117 [.hdr 9, .raw (.int .i64 0), .raw (.int .i64 0)])), (9, some (.row 37 20 [])), (16, some (.cells 34 (lSty st)))], none⟩) (fun _ => True) 4 ?_ ?_
  · refine swp_block ?_
    refine swp_loop2 [] (fun z : LBl => ⟨[(0, .sl 4 (l.map cTk)), (1, .raw (.int .i64 z.k)), (4, .hdr 8), (5, .hdr 16), (6, .raw (.string z.told))], [(8, some (.cells 117 [.hdr 9, .raw (.int .i64 0), .raw (.int .i64 0)])), (9, some (.row 37 20 [])), (16, some (.cells 34 (lSty z.st)))], none⟩) (fun z => z.k ≤ l.length ∧ z.told.size < 100 ∧ ∃ f, attrS l f z.k z.told z.st = some (st, k1)) (fun z => l.length - z.k) 30 ⟨k + 1, ⟨#[]⟩, sty2⟩ (by simp only [go_sem, Bool.not_eq_true', Bool.not_eq_false']; rfl) (by simp only [go_sem, Bool.not_eq_true', Bool.not_eq_false']) ?_ ?_
    · exact ⟨hk, by show (0 : Nat) < 100; omega, _, ha⟩
    · rintro ⟨kk, told, s⟩ ⟨q1, q2, f, q3⟩
      simp only at q1 q2 q3
      obtain ⟨g, rfl⟩ : ∃ g, f = g + 1 := by
        cases f with
        | zero => simp [attrS] at q3
        | succ g => exact ⟨g, rfl⟩
      rw [attrS] at q3
      (refine swp_seqW ?_; simp only [go_sem, Bool.not_eq_true', Bool.not_eq_false'])
      (refine acall2 [] (letter5_ok l kk told hl (by omega)) (by simp only [go_sem, Bool.not_eq_true', Bool.not_eq_false']; rfl) (fit_of (by simp only [go_sem, Bool.not_eq_true', Bool.not_eq_false']) (by simp only [go_sem, Bool.not_eq_true', Bool.not_eq_false']) (by simp only [go_sem, Bool.not_eq_true', Bool.not_eq_false']) (by simp only [go_sem, Bool.not_eq_true', Bool.not_eq_false']) (by simp only [go_sem, Bool.not_eq_true', Bool.not_eq_false']) (by simp only [go_sem, Bool.not_eq_true', Bool.not_eq_false']) (by simp only [go_sem, Bool.not_eq_true', Bool.not_eq_false'])) ?_; simp only [go_sem, Bool.not_eq_true', Bool.not_eq_false'])
      refine ⟨fun h7 => ?_, fun h7 => ?_⟩
      · rw [if_neg h7] at q3
        split at q3
        case isFalse => cases q3
        next hh =>
        obtain ⟨w1, w2, w3, w4⟩ := hh
        have e1 : ∀ c : UInt8, (ByteArray.empty.push c).size = 1 := fun c => rfl
        (refine swp_lastW ?_; simp only [go_sem, Bool.not_eq_true', Bool.not_eq_false', List.length_map])
        (refine acall2 [] (letter5_ok l kk told hl (by omega)) (by simp only [go_sem, Bool.not_eq_true', Bool.not_eq_false']; rfl) (fit_of (by simp only [go_sem, Bool.not_eq_true', Bool.not_eq_false']) (by simp only [go_sem, Bool.not_eq_true', Bool.not_eq_false']) (by simp only [go_sem, Bool.not_eq_true', Bool.not_eq_false']) (by simp only [go_sem, Bool.not_eq_true', Bool.not_eq_false']) (by simp only [go_sem, Bool.not_eq_true', Bool.not_eq_false']) (by simp only [go_sem, Bool.not_eq_true', Bool.not_eq_false']) (by simp only [go_sem, Bool.not_eq_true', Bool.not_eq_false'])) ?_; simp only [go_sem, Bool.not_eq_true', Bool.not_eq_false'])
        generalize letterS l kk told = c at w3 w4 q3 h7
        (refine acall2 [] (limits5_ok c) (by simp only [go_sem, Bool.not_eq_true', Bool.not_eq_false']; rfl) (fit_of (by simp only [go_sem, Bool.not_eq_true', Bool.not_eq_false']) (by simp only [go_sem, Bool.not_eq_true', Bool.not_eq_false']) (by simp only [go_sem, Bool.not_eq_true', Bool.not_eq_false']) (by simp only [go_sem, Bool.not_eq_true', Bool.not_eq_false']) (by simp only [go_sem, Bool.not_eq_true', Bool.not_eq_false']) (by simp only [go_sem, Bool.not_eq_true', Bool.not_eq_false']) (by simp only [go_sem, Bool.not_eq_true', Bool.not_eq_false'])) ?_; simp only [go_sem, Bool.not_eq_true', Bool.not_eq_false'])
        refine ⟨by omega, ?_⟩
        (refine acall2 [] (num5_ok l (kk + 1) (limA c) (limB c) hl) (by simp only [go_sem, Bool.not_eq_true', Bool.not_eq_false']; rfl) (fit_of (by simp only [go_sem, Bool.not_eq_true', Bool.not_eq_false']) (by simp only [go_sem, Bool.not_eq_true', Bool.not_eq_false']) (by simp only [go_sem, Bool.not_eq_true', Bool.not_eq_false']) (by simp only [go_sem, Bool.not_eq_true', Bool.not_eq_false']) (by simp only [go_sem, Bool.not_eq_true', Bool.not_eq_false']) (by simp only [go_sem, Bool.not_eq_true', Bool.not_eq_false']) (by simp only [go_sem, Bool.not_eq_true', Bool.not_eq_false'])) ?_; simp only [go_sem, Bool.not_eq_true', Bool.not_eq_false', w4])
        refine ⟨by omega, by omega, get_tk (by omega) ?_⟩
        generalize (tkAt l (kk + 1)).n = n at q3
        (refine acall2 [] (with5_ok s c n) (by simp only [go_sem, Bool.not_eq_true', Bool.not_eq_false']; rfl) (fit_of (by simp only [go_sem, Bool.not_eq_true', Bool.not_eq_false']) (by simp only [go_sem, Bool.not_eq_true', Bool.not_eq_false']) (by simp only [go_sem, Bool.not_eq_true', Bool.not_eq_false']) (by simp only [go_sem, Bool.not_eq_true', Bool.not_eq_false']) (by simp only [go_sem, Bool.not_eq_true', Bool.not_eq_false']) (by simp only [go_sem, Bool.not_eq_true', Bool.not_eq_false']) (by simp only [go_sem, Bool.not_eq_true', Bool.not_eq_false'])) ?_; simp only [go_sem, Bool.not_eq_true', Bool.not_eq_false'])
        refine ⟨(by kernel_rfl), ?_⟩
        repeat' first | refine And.intro ?_ ?_
        all_goals first
          | omega
          | (rw [e1]; omega)
          | ((refine loop_end [] (⟨kk + 2, pushB told c, withS s c n⟩) (by simp only [go_sem, Bool.not_eq_true', Bool.not_eq_false']; rfl) ?_ ?_ ?_; (focus first | omega | (simp only; omega)); (focus (simp only [go_sem, Bool.not_eq_true', Bool.not_eq_false', pushB]; done)))
             exact ⟨by show kk + 2 ≤ l.length; omega, w3, g, q3⟩)
      · rw [if_pos h7] at q3
        injection q3 with q3
        injection q3 with q5 q6
        subst q5; subst q6
        (refine cut_end [] (()) (by simp only [go_sem, Bool.not_eq_true', Bool.not_eq_false']; rfl) ?_ ?_; (focus (simp only [go_sem, Bool.not_eq_true', Bool.not_eq_false']; done)))
        trivial
  rintro - -
  (refine swp_seqW ?_; simp only [go_sem, Bool.not_eq_true', Bool.not_eq_false'])
  (refine acall2 [] (hnode) (by simp only [go_sem, Bool.not_eq_true', Bool.not_eq_false']; rfl) (fit_of (by simp only [go_sem, Bool.not_eq_true', Bool.not_eq_false']) (by simp only [go_sem, Bool.not_eq_true', Bool.not_eq_false']) (by simp only [go_sem, Bool.not_eq_true', Bool.not_eq_false']) (by simp only [go_sem, Bool.not_eq_true', Bool.not_eq_false']) (by simp only [go_sem, Bool.not_eq_true', Bool.not_eq_false']) (by simp only [go_sem, Bool.not_eq_true', Bool.not_eq_false']) (by simp only [go_sem, Bool.not_eq_true', Bool.not_eq_false'])) ?_; simp only [go_sem, Bool.not_eq_true', Bool.not_eq_false'])
  (refine swp_seqW ?_; simp only [go_sem, Bool.not_eq_true', Bool.not_eq_false', Int.reduceToNat, Int.reduceLT, Int.reduceLE, Int.reduceEq, Int.reduceAdd, Int.reduceSub, Int.reduceMul, Int.reduceNeg, Int.reduceNe, decide_false, Int.cast_ofNat_Int, kSet, List.getElem?_cons_succ, List.getElem?_cons_zero, List.set_cons_succ, List.set_cons_zero, exists_eq_left', forall_const, true_implies])
  (refine swp_seqW ?_; simp only [go_sem, Bool.not_eq_true', Bool.not_eq_false'])
  (refine acall2 [] (sign5_ok l k2 93 hl) (by simp only [go_sem, Bool.not_eq_true', Bool.not_eq_false']; rfl) (fit_of (by simp only [go_sem, Bool.not_eq_true', Bool.not_eq_false']) (by simp only [go_sem, Bool.not_eq_true', Bool.not_eq_false']) (by simp only [go_sem, Bool.not_eq_true', Bool.not_eq_false']) (by simp only [go_sem, Bool.not_eq_true', Bool.not_eq_false']) (by simp only [go_sem, Bool.not_eq_true', Bool.not_eq_false']) (by simp only [go_sem, Bool.not_eq_true', Bool.not_eq_false']) (by simp only [go_sem, Bool.not_eq_true', Bool.not_eq_false'])) ?_; simp only [go_sem, Bool.not_eq_true', Bool.not_eq_false', h93])
  (refine swp_lastW ?_; simp only [go_sem, Bool.not_eq_true', Bool.not_eq_false', List.length_map])
  repeat' first | refine And.intro ?_ ?_
  all_goals first
    | omega
    | (show drawB _ _ = true; kernel_rfl)
    | (refine ret2 [232] (by simp only [go_sem, Bool.not_eq_true', Bool.not_eq_false']; rfl) ?_; simp only [go_sem, Bool.not_eq_true', Bool.not_eq_false'])
end Go.Proofs.Ytblmebjhhanoaaa
/- THE SCRIPT'S READER: one node, nodes. -/
/- G -/
/- BOOLS -/
/- GET get_tk -/
set_option linter.unusedSimpArgs false
set_option linter.unusedVariables false
namespace Go.Proofs.Ytblmebjhhanoaaa
open Go.RowKit

set_option maxRecDepth 100000 in
set_option maxHeartbeats 4000000 in
theorem one5_ok (rec : Nat → Option (List LNo × Nat)) (l : List LTk) (hrec : ∀ k r, k ≤ l.length → rec k = some r → FnOk Try.prog 66 [.sl 4 (l.map cTk), .raw (.int .i64 k)] [] (aGot r) []) (k : Nat) (r : List LNo × Nat) (hl : l.length ≤ 1000) (hk : k ≤ l.length) (h : oneS rec l k = some r) : FnOk Try.prog 88 [.sl 4 (l.map cTk), .raw (.int .i64 k)] [] (aGot r) [] := by
  refine fn_of_swp Try.func88 rfl (by kernel_rfl) (by kernel_rfl) (Nat.le_of_ble_eq_true rfl) Try.results88 ?_
  unfold oneS at h
  (refine swp_seqW ?_; simp only [go_sem, Bool.not_eq_true', Bool.not_eq_false'])
  (refine swp_seqW ?_; simp only [go_sem, Bool.not_eq_true', Bool.not_eq_false'])
  (refine acall2 [] (sign5_ok l k 91 hl) (by simp only [go_sem, Bool.not_eq_true', Bool.not_eq_false']; rfl) (fit_of (by simp only [go_sem, Bool.not_eq_true', Bool.not_eq_false']) (by simp only [go_sem, Bool.not_eq_true', Bool.not_eq_false']) (by simp only [go_sem, Bool.not_eq_true', Bool.not_eq_false']) (by simp only [go_sem, Bool.not_eq_true', Bool.not_eq_false']) (by simp only [go_sem, Bool.not_eq_true', Bool.not_eq_false']) (by simp only [go_sem, Bool.not_eq_true', Bool.not_eq_false']) (by simp only [go_sem, Bool.not_eq_true', Bool.not_eq_false'])) ?_; simp only [go_sem, Bool.not_eq_true', Bool.not_eq_false'])
  refine ⟨fun h1 => ?_, fun h1 => ?_⟩
  · rw [if_pos h1] at h
    (refine acall2 [] (block5_ok rec l hrec k r hl h) (by simp only [go_sem, Bool.not_eq_true', Bool.not_eq_false']; rfl) (fit_of (by simp only [go_sem, Bool.not_eq_true', Bool.not_eq_false']) (by simp only [go_sem, Bool.not_eq_true', Bool.not_eq_false']) (by simp only [go_sem, Bool.not_eq_true', Bool.not_eq_false']) (by simp only [go_sem, Bool.not_eq_true', Bool.not_eq_false']) (by simp only [go_sem, Bool.not_eq_true', Bool.not_eq_false']) (by simp only [go_sem, Bool.not_eq_true', Bool.not_eq_false']) (by simp only [go_sem, Bool.not_eq_true', Bool.not_eq_false'])) ?_; simp only [go_sem, Bool.not_eq_true', Bool.not_eq_false'])
    (refine ret2 [] (by simp only [go_sem, Bool.not_eq_true', Bool.not_eq_false']; rfl) ?_; simp only [go_sem, Bool.not_eq_true', Bool.not_eq_false'])
  rw [if_neg (by rw [h1]; decide)] at h
  (refine swp_seqW ?_; simp only [go_sem, Bool.not_eq_true', Bool.not_eq_false'])
  (refine acall2 [] (sign5_ok l k 40 hl) (by simp only [go_sem, Bool.not_eq_true', Bool.not_eq_false']; rfl) (fit_of (by simp only [go_sem, Bool.not_eq_true', Bool.not_eq_false']) (by simp only [go_sem, Bool.not_eq_true', Bool.not_eq_false']) (by simp only [go_sem, Bool.not_eq_true', Bool.not_eq_false']) (by simp only [go_sem, Bool.not_eq_true', Bool.not_eq_false']) (by simp only [go_sem, Bool.not_eq_true', Bool.not_eq_false']) (by simp only [go_sem, Bool.not_eq_true', Bool.not_eq_false']) (by simp only [go_sem, Bool.not_eq_true', Bool.not_eq_false'])) ?_; simp only [go_sem, Bool.not_eq_true', Bool.not_eq_false'])
  refine ⟨fun h2 => ?_, fun h2 => ?_⟩
  · rw [if_pos h2] at h
    (refine acall2 [] (text5_ok l k r hl h) (by simp only [go_sem, Bool.not_eq_true', Bool.not_eq_false']; rfl) (fit_of (by simp only [go_sem, Bool.not_eq_true', Bool.not_eq_false']) (by simp only [go_sem, Bool.not_eq_true', Bool.not_eq_false']) (by simp only [go_sem, Bool.not_eq_true', Bool.not_eq_false']) (by simp only [go_sem, Bool.not_eq_true', Bool.not_eq_false']) (by simp only [go_sem, Bool.not_eq_true', Bool.not_eq_false']) (by simp only [go_sem, Bool.not_eq_true', Bool.not_eq_false']) (by simp only [go_sem, Bool.not_eq_true', Bool.not_eq_false'])) ?_; simp only [go_sem, Bool.not_eq_true', Bool.not_eq_false'])
    (refine ret2 [] (by simp only [go_sem, Bool.not_eq_true', Bool.not_eq_false']; rfl) ?_; simp only [go_sem, Bool.not_eq_true', Bool.not_eq_false'])
  rw [if_neg (by rw [h2]; decide)] at h
  (refine swp_seqW ?_; simp only [go_sem, Bool.not_eq_true', Bool.not_eq_false'])
  (refine acall2 [] (sign5_ok l k 123 hl) (by simp only [go_sem, Bool.not_eq_true', Bool.not_eq_false']; rfl) (fit_of (by simp only [go_sem, Bool.not_eq_true', Bool.not_eq_false']) (by simp only [go_sem, Bool.not_eq_true', Bool.not_eq_false']) (by simp only [go_sem, Bool.not_eq_true', Bool.not_eq_false']) (by simp only [go_sem, Bool.not_eq_true', Bool.not_eq_false']) (by simp only [go_sem, Bool.not_eq_true', Bool.not_eq_false']) (by simp only [go_sem, Bool.not_eq_true', Bool.not_eq_false']) (by simp only [go_sem, Bool.not_eq_true', Bool.not_eq_false'])) ?_; simp only [go_sem, Bool.not_eq_true', Bool.not_eq_false'])
  refine ⟨fun h3 => ?_, fun h3 => ?_⟩
  · rw [if_pos h3] at h
    refine ⟨by omega, ?_⟩
    (refine acallF2 [112 ] [] ( box5_ok l (k + 1) ⟨3, 1, sty0, 0, 0, [], 0, 0, 0⟩ 125 r hl h) (by simp only [go_sem, Bool.not_eq_true', Bool.not_eq_false']; rfl) (fit_of (by simp only [go_sem, Bool.not_eq_true', Bool.not_eq_false']) (by simp only [go_sem, Bool.not_eq_true', Bool.not_eq_false']) (by simp only [go_sem, Bool.not_eq_true', Bool.not_eq_false']) (by simp only [go_sem, Bool.not_eq_true', Bool.not_eq_false']) (by simp only [go_sem, Bool.not_eq_true', Bool.not_eq_false']) (by simp only [go_sem, Bool.not_eq_true', Bool.not_eq_false']) (by simp only [go_sem, Bool.not_eq_true', Bool.not_eq_false'])) ?_; simp only [go_sem, Bool.not_eq_true', Bool.not_eq_false'])
    (refine ret2 [] (by simp only [go_sem, Bool.not_eq_true', Bool.not_eq_false']; rfl) ?_; simp only [go_sem, Bool.not_eq_true', Bool.not_eq_false'])
  rw [if_neg (by rw [h3]; decide)] at h
  (refine swp_seqW ?_; simp only [go_sem, Bool.not_eq_true', Bool.not_eq_false'])
  refine ⟨by omega, ?_⟩
  (refine acall2 [] (sign5_ok l (k + 1) 76 hl) (by simp only [go_sem, Bool.not_eq_true', Bool.not_eq_false']; rfl) (fit_of (by simp only [go_sem, Bool.not_eq_true', Bool.not_eq_false']) (by simp only [go_sem, Bool.not_eq_true', Bool.not_eq_false']) (by simp only [go_sem, Bool.not_eq_true', Bool.not_eq_false']) (by simp only [go_sem, Bool.not_eq_true', Bool.not_eq_false']) (by simp only [go_sem, Bool.not_eq_true', Bool.not_eq_false']) (by simp only [go_sem, Bool.not_eq_true', Bool.not_eq_false']) (by simp only [go_sem, Bool.not_eq_true', Bool.not_eq_false'])) ?_; simp only [go_sem, Bool.not_eq_true', Bool.not_eq_false'])
  refine ⟨fun h4 => ?_, fun h4 => ?_⟩
  · rw [if_pos h4] at h
    refine ⟨by omega, ?_⟩
    (refine acallF2 [144 ] [] ( box5_ok l (k + 2) ⟨4, 1, sty0, 0, 0, [], 1, 0, 0⟩ 62 r hl h) (by simp only [go_sem, Bool.not_eq_true', Bool.not_eq_false']; rfl) (fit_of (by simp only [go_sem, Bool.not_eq_true', Bool.not_eq_false']) (by simp only [go_sem, Bool.not_eq_true', Bool.not_eq_false']) (by simp only [go_sem, Bool.not_eq_true', Bool.not_eq_false']) (by simp only [go_sem, Bool.not_eq_true', Bool.not_eq_false']) (by simp only [go_sem, Bool.not_eq_true', Bool.not_eq_false']) (by simp only [go_sem, Bool.not_eq_true', Bool.not_eq_false']) (by simp only [go_sem, Bool.not_eq_true', Bool.not_eq_false'])) ?_; simp only [go_sem, Bool.not_eq_true', Bool.not_eq_false'])
    (refine ret2 [] (by simp only [go_sem, Bool.not_eq_true', Bool.not_eq_false']; rfl) ?_; simp only [go_sem, Bool.not_eq_true', Bool.not_eq_false'])
  rw [if_neg (by rw [h4]; decide)] at h
  (refine swp_seqW ?_; simp only [go_sem, Bool.not_eq_true', Bool.not_eq_false'])
  refine ⟨by omega, ?_⟩
  (refine acall2 [] (sign5_ok l (k + 1) 82 hl) (by simp only [go_sem, Bool.not_eq_true', Bool.not_eq_false']; rfl) (fit_of (by simp only [go_sem, Bool.not_eq_true', Bool.not_eq_false']) (by simp only [go_sem, Bool.not_eq_true', Bool.not_eq_false']) (by simp only [go_sem, Bool.not_eq_true', Bool.not_eq_false']) (by simp only [go_sem, Bool.not_eq_true', Bool.not_eq_false']) (by simp only [go_sem, Bool.not_eq_true', Bool.not_eq_false']) (by simp only [go_sem, Bool.not_eq_true', Bool.not_eq_false']) (by simp only [go_sem, Bool.not_eq_true', Bool.not_eq_false'])) ?_; simp only [go_sem, Bool.not_eq_true', Bool.not_eq_false'])
  refine ⟨fun h5 => ?_, fun h5 => ?_⟩
  · rw [if_pos h5] at h
    refine ⟨by omega, ?_⟩
    (refine acallF2 [176 ] [] ( box5_ok l (k + 2) ⟨4, 1, sty0, 0, 0, [], 2, 0, 0⟩ 62 r hl h) (by simp only [go_sem, Bool.not_eq_true', Bool.not_eq_false']; rfl) (fit_of (by simp only [go_sem, Bool.not_eq_true', Bool.not_eq_false']) (by simp only [go_sem, Bool.not_eq_true', Bool.not_eq_false']) (by simp only [go_sem, Bool.not_eq_true', Bool.not_eq_false']) (by simp only [go_sem, Bool.not_eq_true', Bool.not_eq_false']) (by simp only [go_sem, Bool.not_eq_true', Bool.not_eq_false']) (by simp only [go_sem, Bool.not_eq_true', Bool.not_eq_false']) (by simp only [go_sem, Bool.not_eq_true', Bool.not_eq_false'])) ?_; simp only [go_sem, Bool.not_eq_true', Bool.not_eq_false'])
    (refine ret2 [] (by simp only [go_sem, Bool.not_eq_true', Bool.not_eq_false']; rfl) ?_; simp only [go_sem, Bool.not_eq_true', Bool.not_eq_false'])
  rw [if_neg (by rw [h5]; decide)] at h
  cases h
theorem nodesG_len (rec : Nat → Option (List LNo × Nat)) (l : List LTk) : ∀ g k r, nodesG rec l g k = some r → r.1.length < 1000
  | 0, k, r, h => by cases h
  | g + 1, k, r, h => by
    rw [nodesG] at h
    split at h
    case isFalse => cases h
    split at h
    case isFalse =>
      injection h with h
      subst h
      exact Nat.zero_lt_succ _
    split at h
    case h_2 => cases h
    split at h
    case isFalse => cases h
    split at h
    case h_2 => cases h
    split at h
    case isFalse => cases h
    next hh =>
    injection h with h
    subst h
    simp only [List.length_append]
    exact hh
structure LNd where
  k : Nat
  acc : List LNo
set_option maxRecDepth 100000 in
set_option maxHeartbeats 4000000 in
theorem nodesG_ok (rec : Nat → Option (List LNo × Nat)) (l : List LTk) (hrec : ∀ k r, k ≤ l.length → rec k = some r → FnOk Try.prog 66 [.sl 4 (l.map cTk), .raw (.int .i64 k)] [] (aGot r) []) (g k : Nat) (r : List LNo × Nat) (hl : l.length ≤ 1000) (hk : k ≤ l.length) (h : nodesG rec l g k = some r) : FnOk Try.prog 66 [.sl 4 (l.map cTk), .raw (.int .i64 k)] [] (aGot r) [] := by
  have hlen := nodesG_len rec l g k r h
  refine fn_of_swp Try.func66 rfl (by kernel_rfl) (by kernel_rfl) (Nat.le_of_ble_eq_true rfl) Try.results66 ?_
  (refine swp_seqW ?_; simp only [go_sem, Bool.not_eq_true', Bool.not_eq_false'])
  (refine swp_seqW ?_; simp only [go_sem, Bool.not_eq_true', Bool.not_eq_false'])
  refine swp_cutS (fun z : LNd => ⟨[(4, .hdr 8), (5, .hdr 16)], [(8, some (.cells 117 [.hdr 9, .raw (.int .i64 0), .raw (.int .i64 0)])), (9, some (.row 37 20 [])), (16, some (.cells 117 [.hdr 17, .raw (.int .i64 z.k), .raw (.int .i64 0)])), (17, some (.row 37 20 (z.acc.map cNo)))], none⟩) (fun z => (z.acc, z.k) = r) 4 ?_ ?_
  · refine swp_block ?_
    refine swp_loop2 [] (fun z : LNd => ⟨[(0, .sl 4 (l.map cTk)), (4, .hdr 8), (5, .hdr 16)], [(8, some (.cells 117 [.hdr 9, .raw (.int .i64 0), .raw (.int .i64 0)])), (9, some (.row 37 20 [])), (16, some (.cells 117 [.hdr 17, .raw (.int .i64 z.k), .raw (.int .i64 0)])), (17, some (.row 37 20 (z.acc.map cNo)))], none⟩) (fun z => z.k ≤ l.length ∧ ∃ f q, nodesG rec l f z.k = some q ∧ (z.acc ++ q.1, q.2) = r) (fun z => l.length - z.k) 40 ⟨k, []⟩ (by simp only [go_sem, Bool.not_eq_true', Bool.not_eq_false']; rfl) (by simp only [go_sem, Bool.not_eq_true', Bool.not_eq_false']) ?_ ?_
    · exact ⟨hk, g, r, h, rfl⟩
    · rintro ⟨kk, acc⟩ ⟨q1, f, q, q2, q3⟩
      simp only at q1 q2 q3
      obtain ⟨f, rfl⟩ : ∃ f', f = f' + 1 := by
        cases f with
        | zero => cases q2
        | succ g => exact ⟨g, rfl⟩
      rw [nodesG, if_pos q1] at q2
      (refine swp_seqW ?_; simp only [go_sem, Bool.not_eq_true', Bool.not_eq_false'])
      (refine acall2 [] (sign5_ok l kk 91 hl) (by simp only [go_sem, Bool.not_eq_true', Bool.not_eq_false']; rfl) (fit_of (by simp only [go_sem, Bool.not_eq_true', Bool.not_eq_false']) (by simp only [go_sem, Bool.not_eq_true', Bool.not_eq_false']) (by simp only [go_sem, Bool.not_eq_true', Bool.not_eq_false']) (by simp only [go_sem, Bool.not_eq_true', Bool.not_eq_false']) (by simp only [go_sem, Bool.not_eq_true', Bool.not_eq_false']) (by simp only [go_sem, Bool.not_eq_true', Bool.not_eq_false']) (by simp only [go_sem, Bool.not_eq_true', Bool.not_eq_false'])) ?_; simp only [go_sem, Bool.not_eq_true', Bool.not_eq_false'])
      refine ⟨fun c1 => ?_, fun c1 => ?_⟩
      (refine acall2 [] (sign5_ok l kk 40 hl) (by simp only [go_sem, Bool.not_eq_true', Bool.not_eq_false']; rfl) (fit_of (by simp only [go_sem, Bool.not_eq_true', Bool.not_eq_false']) (by simp only [go_sem, Bool.not_eq_true', Bool.not_eq_false']) (by simp only [go_sem, Bool.not_eq_true', Bool.not_eq_false']) (by simp only [go_sem, Bool.not_eq_true', Bool.not_eq_false']) (by simp only [go_sem, Bool.not_eq_true', Bool.not_eq_false']) (by simp only [go_sem, Bool.not_eq_true', Bool.not_eq_false']) (by simp only [go_sem, Bool.not_eq_true', Bool.not_eq_false'])) ?_; simp only [go_sem, Bool.not_eq_true', Bool.not_eq_false'])
      refine ⟨fun c2 => ?_, fun c2 => ?_⟩
      (refine acall2 [] (sign5_ok l kk 123 hl) (by simp only [go_sem, Bool.not_eq_true', Bool.not_eq_false']; rfl) (fit_of (by simp only [go_sem, Bool.not_eq_true', Bool.not_eq_false']) (by simp only [go_sem, Bool.not_eq_true', Bool.not_eq_false']) (by simp only [go_sem, Bool.not_eq_true', Bool.not_eq_false']) (by simp only [go_sem, Bool.not_eq_true', Bool.not_eq_false']) (by simp only [go_sem, Bool.not_eq_true', Bool.not_eq_false']) (by simp only [go_sem, Bool.not_eq_true', Bool.not_eq_false']) (by simp only [go_sem, Bool.not_eq_true', Bool.not_eq_false'])) ?_; simp only [go_sem, Bool.not_eq_true', Bool.not_eq_false'])
      refine ⟨fun c3 => ?_, fun c3 => ?_⟩
      (refine acall2 [] (sign5_ok l kk 60 hl) (by simp only [go_sem, Bool.not_eq_true', Bool.not_eq_false']; rfl) (fit_of (by simp only [go_sem, Bool.not_eq_true', Bool.not_eq_false']) (by simp only [go_sem, Bool.not_eq_true', Bool.not_eq_false']) (by simp only [go_sem, Bool.not_eq_true', Bool.not_eq_false']) (by simp only [go_sem, Bool.not_eq_true', Bool.not_eq_false']) (by simp only [go_sem, Bool.not_eq_true', Bool.not_eq_false']) (by simp only [go_sem, Bool.not_eq_true', Bool.not_eq_false']) (by simp only [go_sem, Bool.not_eq_true', Bool.not_eq_false'])) ?_; simp only [go_sem, Bool.not_eq_true', Bool.not_eq_false'])
      refine ⟨fun c4 => ?_, fun c4 => ?_⟩
      rotate_left
      · rw [if_neg (by simp [startB, c1, c2, c3, c4])] at q2
        injection q2 with q2
        subst q2
        (refine cut_end [] (⟨kk, acc⟩) (by simp only [go_sem, Bool.not_eq_true', Bool.not_eq_false']; rfl) ?_ ?_; (focus (simp only [go_sem, Bool.not_eq_true', Bool.not_eq_false']; done)))
        rw [← q3]; simp
      all_goals (have hs : startB l kk = true := by simp [startB, *])
      all_goals
        rw [if_pos hs] at q2
        split at q2
        case h_2 => cases q2
        next ns k1 hone =>
        split at q2
        case isFalse => cases q2
        next hk1 =>
        split at q2
        case h_2 => cases q2
        next rr k2 hrest =>
        split at q2
        case isFalse => cases q2
        next hh =>
        injection q2 with q2
        subst q2
        subst q3
        simp only [List.length_append] at hlen
        refine swp_block ?_
        (refine swp_seqW ?_; simp only [go_sem, Bool.not_eq_true', Bool.not_eq_false'])
        (refine acall2 [] (one5_ok rec l hrec kk (ns, k1) hl q1 hone) (by simp only [go_sem, Bool.not_eq_true', Bool.not_eq_false']; rfl) (fit_of (by simp only [go_sem, Bool.not_eq_true', Bool.not_eq_false']) (by simp only [go_sem, Bool.not_eq_true', Bool.not_eq_false']) (by simp only [go_sem, Bool.not_eq_true', Bool.not_eq_false']) (by simp only [go_sem, Bool.not_eq_true', Bool.not_eq_false']) (by simp only [go_sem, Bool.not_eq_true', Bool.not_eq_false']) (by simp only [go_sem, Bool.not_eq_true', Bool.not_eq_false']) (by simp only [go_sem, Bool.not_eq_true', Bool.not_eq_false'])) ?_; simp only [go_sem, Bool.not_eq_true', Bool.not_eq_false'])
        (refine swp_lastW ?_; simp only [go_sem, Bool.not_eq_true', Bool.not_eq_false', Int.reduceToNat, Int.reduceLT, Int.reduceLE, Int.reduceEq, Int.reduceAdd, Int.reduceSub, Int.reduceMul, Int.reduceNeg, Int.reduceNe, decide_false, Int.cast_ofNat_Int, kSet, List.getElem?_cons_succ, List.getElem?_cons_zero, List.set_cons_succ, List.set_cons_zero, exists_eq_left', forall_const, true_implies, List.length_map])
        refine ⟨⟨by omega, by omega⟩, ?_⟩
        have hb : k1 ≤ l.length := by
          cases f with
          | zero => cases hrest
          | succ f =>
            rw [nodesG] at hrest
            split at hrest
            case isFalse => cases hrest
            next hb => exact hb
        (refine loop_end [] (⟨k1, acc ++ ns⟩) (by simp only [go_sem, Bool.not_eq_true', Bool.not_eq_false']; rfl) ?_ ?_ ?_; (focus first | omega | (simp only; omega)); (focus (simp only [go_sem, Bool.not_eq_true', Bool.not_eq_false', List.map_append]; done)))
        exact ⟨hb, f, (rr, k2), hrest, by simp⟩
  rintro ⟨kk, acc⟩ hr
  subst hr
  (refine swp_lastW ?_; simp only [go_sem, Bool.not_eq_true', Bool.not_eq_false'])
  (refine ret2 [17] (by simp only [go_sem, Bool.not_eq_true', Bool.not_eq_false']; rfl) ?_; simp only [go_sem, Bool.not_eq_true', Bool.not_eq_false'])
end Go.Proofs.Ytblmebjhhanoaaa
/- THE SCRIPT'S READER: the whole. -/
/- G -/
/- BOOLS -/
set_option linter.unusedSimpArgs false
set_option linter.unusedVariables false
namespace Go.Proofs.Ytblmebjhhanoaaa
open Go.RowKit

theorem nodes5_ok (l : List LTk) (hl : l.length ≤ 1000) : ∀ (f k : Nat) (r : List LNo × Nat), k ≤ l.length → nodesS l f k = some r → FnOk Try.prog 66 [.sl 4 (l.map cTk), .raw (.int .i64 k)] [] (aGot r) []
  | 0, _, _, _, h => by cases h
  | f + 1, k, r, hk, h => nodesG_ok (nodesS l f) l (nodes5_ok l hl f) (l.length + 1) k r hl hk h
set_option maxRecDepth 100000 in
set_option maxHeartbeats 4000000 in
theorem of5_ok (s : ByteArray) (l : List LTk) (ns : List LNo) (ha : ascii s) (hs : s.size ≤ 1000) (h1 : tokS s (s.size + 1) 0 = some l) (hl : l.length ≤ 1000) (h2 : nodesS l (l.length + 1) 0 = some (ns, l.length)) : FnOk Try.prog 42 [.raw (.string s)] [] (.tup [.sl 20 (ns.map cNo), .raw (.int .i64 0), .raw (.int .i64 0)]) [] := by
  have hn : FnOk Try.prog 66 [.sl 4 (l.map cTk), .raw (.int .i64 0)] [] (aGot (ns, l.length)) [] := nodes5_ok l hl (l.length + 1) 0 (ns, l.length) (Nat.zero_le _) h2
  refine fn_of_awp Try.func42 rfl (by kernel_rfl) (by kernel_rfl) (Nat.le_of_ble_eq_true rfl) Try.results42 ?_
  simp only [go_sem, Bool.not_eq_true', Bool.not_eq_false']
  (refine acall2 [] (tok4_ok s l ha hs h1) (by simp only [go_sem, Bool.not_eq_true', Bool.not_eq_false']; rfl) (fit_of (by simp only [go_sem, Bool.not_eq_true', Bool.not_eq_false']) (by simp only [go_sem, Bool.not_eq_true', Bool.not_eq_false']) (by simp only [go_sem, Bool.not_eq_true', Bool.not_eq_false']) (by simp only [go_sem, Bool.not_eq_true', Bool.not_eq_false']) (by simp only [go_sem, Bool.not_eq_true', Bool.not_eq_false']) (by simp only [go_sem, Bool.not_eq_true', Bool.not_eq_false']) (by simp only [go_sem, Bool.not_eq_true', Bool.not_eq_false'])) ?_; simp only [go_sem, Bool.not_eq_true', Bool.not_eq_false', Int.reduceToNat, Int.reduceLT, Int.reduceLE, Int.reduceEq, Int.reduceAdd, Int.reduceSub, Int.reduceMul, Int.reduceNeg, Int.reduceNe, decide_false, Int.cast_ofNat_Int, kSet, List.getElem?_cons_succ, List.getElem?_cons_zero, List.set_cons_succ, List.set_cons_zero, exists_eq_left', forall_const, true_implies])
  (refine acallF2 [40 ] [] ( hn) (by simp only [go_sem, Bool.not_eq_true', Bool.not_eq_false']; rfl) (fit_of (by simp only [go_sem, Bool.not_eq_true', Bool.not_eq_false']) (by simp only [go_sem, Bool.not_eq_true', Bool.not_eq_false']) (by simp only [go_sem, Bool.not_eq_true', Bool.not_eq_false']) (by simp only [go_sem, Bool.not_eq_true', Bool.not_eq_false']) (by simp only [go_sem, Bool.not_eq_true', Bool.not_eq_false']) (by simp only [go_sem, Bool.not_eq_true', Bool.not_eq_false']) (by simp only [go_sem, Bool.not_eq_true', Bool.not_eq_false'])) ?_; simp only [go_sem, Bool.not_eq_true', Bool.not_eq_false', Int.reduceToNat, Int.reduceLT, Int.reduceLE, Int.reduceEq, Int.reduceAdd, Int.reduceSub, Int.reduceMul, Int.reduceNeg, Int.reduceNe, decide_false, Int.cast_ofNat_Int, kSet, List.getElem?_cons_succ, List.getElem?_cons_zero, List.set_cons_succ, List.set_cons_zero, exists_eq_left', forall_const, true_implies, List.length_map])
  refine ⟨fun q => absurd q (by omega), fun _ => ?_⟩
  (refine ret2 [] (by simp only [go_sem, Bool.not_eq_true', Bool.not_eq_false']; rfl) ?_; simp only [go_sem, Bool.not_eq_true', Bool.not_eq_false'])
def asciiB (s : ByteArray) : Bool := (List.range s.size).all (fun q => decide (byteAt s q ≤ 127))
theorem ascii_of (s : ByteArray) (h : asciiB s = true) : ascii s := fun q hq => of_decide_eq_true (List.all_eq_true.1 h q (List.mem_range.2 hq))
def rdS (s : ByteArray) : Option (List LNo) :=
  if asciiB s = true ∧ s.size ≤ 1000 then match tokS s (s.size + 1) 0 with
    | some l => if l.length ≤ 1000 then match nodesS l (l.length + 1) 0 with
      | some (ns, k) => if k = l.length then some ns else none
      | none => none
      else none
    | none => none
  else none
set_option maxRecDepth 100000 in
theorem rdS_ok (s : ByteArray) (ns : List LNo) (h : rdS s = some ns) : FnOk Try.prog 42 [.raw (.string s)] [] (.tup [.sl 20 (ns.map cNo), .raw (.int .i64 0), .raw (.int .i64 0)]) [] := by
  unfold rdS at h
  split at h
  case isFalse => cases h
  next ha =>
  split at h
  case h_2 => cases h
  next l h1 =>
  split at h
  case isFalse => cases h
  next hl =>
  split at h
  case h_2 => cases h
  next q k h2 =>
  split at h
  case isFalse => cases h
  next hk =>
  injection h with h
  subst h
  subst hk
  exact of5_ok s l q (ascii_of s ha.1) ha.2 h1 hl h2
def scr08 : ByteArray := { data := #[91, 105, 53, 32, 40, 49, 48, 32, 50, 32, 51, 48, 41, 91, 105, 54, 48, 32, 123, 51, 32, 52, 125, 93, 93, 123, 49, 32, 49, 125] }
def nds08 : List LNo := [⟨1, 4, ⟨0, 0, 0, 0, 5, 2, 2, 0, 0, 0, 0, 0⟩, 0, 0, [], 0, 0, 0⟩, ⟨2, 1, sty0, 10, 2, [30], 0, 0, 0⟩, ⟨1, 2, ⟨0, 0, 0, 0, 60, 2, 2, 0, 0, 0, 0, 0⟩, 0, 0, [], 0, 0, 0⟩, ⟨3, 1, sty0, 0, 0, [], 0, 3, 4⟩, ⟨3, 1, sty0, 0, 0, [], 0, 1, 1⟩]
theorem rd08 : rdS scr08 = some nds08 := by kernel_rfl
end Go.Proofs.Ytblmebjhhanoaaa
/- CHAPTER 15: atoms: what they are asked; which a node holds. -/
/- G -/
/- BOOLS -/
/- GET ex_atA ex_atA' -/
set_option linter.unusedSimpArgs false
set_option linter.unusedVariables false
namespace Go.Proofs.Ytblmebjhhanoaaa
open Go.RowKit

theorem half_eq {z : Int} (h : 0 ≤ z) (h2 : z ≤ 4611686018427387904) : IntKind.wrap .i64 ((IntKind.wrap .u64 z).fdiv (2 ^ min (Int.toNat 1) 64)) = z / 2 := by
  have e1 : IntKind.wrap .u64 z = z := by
    have hb : IntKind.u64.bits = 64 := rfl
    simp [IntKind.wrap, hb, IntKind.signed]
    omega
  rw [e1]
  have e2 : (2 : Int) ^ min (Int.toNat 1) 64 = 2 := by decide
  rw [e2, Int.fdiv_eq_ediv_of_nonneg _ (by omega)]
  exact IntWalk.i64_in _ (by omega)
/-- the first place that is so; n: there is none. -/
def firstF (pr : Nat → Bool) : Nat → Nat → Nat
  | 0, k => k
  | n + 1, k => if pr k then k else firstF pr n (k + 1)
def firstP (pr : Nat → Bool) (n : Nat) : Nat := firstF pr n 0
theorem firstF_eq {pr : Nat → Bool} {r : Nat} : ∀ (n k : Nat), k ≤ r → r ≤ k + n → (∀ j, k ≤ j → j < r → pr j = false) → (r < k + n → pr r = true) → firstF pr n k = r
  | 0, k, h1, h2, _, _ => by show k = r; omega
  | n + 1, k, h1, h2, h3, h4 => by
    show (if pr k then k else firstF pr n (k + 1)) = r
    rcases Nat.eq_or_lt_of_le h1 with h | h
    · subst h; rw [if_pos (h4 (by omega))]
    · rw [if_neg (by rw [h3 k (Nat.le_refl _) h]; decide)]
      exact firstF_eq n (k + 1) h (by omega) (fun j hj => h3 j (by omega)) (fun h5 => h4 (by omega))
theorem firstP_eq {pr : Nat → Bool} {n r : Nat} (h2 : r ≤ n) (h3 : ∀ j, j < r → pr j = false) (h4 : r < n → pr r = true) : firstP pr n = r := firstF_eq n 0 (Nat.zero_le _) (by omega) (fun j _ => h3 j) (fun h => h4 (by omega))
/-- a search under way: ahead of i none is so, from j on all are. -/
structure SrX where
  i : Nat
  j : Nat
def SrInv (pr : Nat → Bool) (n : Nat) (z : SrX) : Prop := z.i ≤ z.j ∧ z.j ≤ n ∧ (∀ k, k < z.i → pr k = false) ∧ (∀ k, z.j ≤ k → k < n → pr k = true)
theorem sr_first (pr : Nat → Bool) (n : Nat) : SrInv pr n ⟨0, n⟩ := ⟨Nat.zero_le _, Nat.le_refl _, (fun k h => absurd h (Nat.not_lt_zero k)), (fun k h1 h2 => absurd h2 (Nat.not_lt.2 h1))⟩
theorem sr_no {pr : Nat → Bool} {n i j h : Nat} (hm : ∀ a b, a ≤ b → b < n → pr a = true → pr b = true) (hi : SrInv pr n ⟨i, j⟩) (h1 : h < j) (e : pr h = false) : SrInv pr n ⟨h + 1, j⟩ := by
  obtain ⟨a, b, c, d⟩ := hi
  simp only at a b c d
  refine ⟨h1, b, fun k hk => ?_, d⟩
  simp only at hk
  cases hp : pr k with
  | false => rfl
  | true => rw [hm k h (by omega) (by omega) hp] at e; cases e
theorem sr_yes {pr : Nat → Bool} {n i j h : Nat} (hm : ∀ a b, a ≤ b → b < n → pr a = true → pr b = true) (hi : SrInv pr n ⟨i, j⟩) (h1 : i ≤ h ∧ h < j) (e : pr h = true) : SrInv pr n ⟨i, h⟩ := by
  obtain ⟨a, b, c, d⟩ := hi
  simp only at a b c d
  exact ⟨h1.1, by simp only; omega, c, fun k hk hn => hm h k hk hn e⟩
theorem sr_last {pr : Nat → Bool} {n i j : Nat} (hi : SrInv pr n ⟨i, j⟩) (h : ¬ (i : Int) < j) : firstP pr n = i := by
  obtain ⟨a, b, c, d⟩ := hi
  simp only at a b c d
  exact firstP_eq (by omega) c (fun hn => d i (by omega) hn)

theorem firstF_spec (pr : Nat → Bool) : ∀ n k, k ≤ firstF pr n k ∧ firstF pr n k ≤ k + n ∧ (∀ j, k ≤ j → j < firstF pr n k → pr j = false) ∧ (firstF pr n k < k + n → pr (firstF pr n k) = true)
  | 0, k => ⟨Nat.le_refl _, Nat.le_refl _, fun j h1 h2 => absurd h2 (Nat.not_lt.2 h1), fun h => absurd h (Nat.lt_irrefl _)⟩
  | n + 1, k => by
    rw [firstF]
    split
    · next h => exact ⟨Nat.le_refl _, by omega, fun j h1 h2 => by omega, fun _ => h⟩
    · next h =>
      obtain ⟨a, b, c, d⟩ := firstF_spec pr n (k + 1)
      refine ⟨by omega, by omega, fun j h1 h2 => ?_, fun q => d (by omega)⟩
      by_cases e : j = k
      · subst e; simpa using h
      · exact c j (by omega) h2
def geA (l : List LAt) (v : Int) (k : Nat) : Bool := decide (v ≤ (atA l k).node)
/-- the place of the first whose node is not below one. -/
def loA (l : List LAt) (v : Int) : Nat := firstP (geA l v) l.length
def MonoA (l : List LAt) : Prop := ∀ i j : Nat, i ≤ j → j < l.length → (atA l i).node ≤ (atA l j).node
theorem geA_mono {l : List LAt} {v : Int} (hm : MonoA l) : ∀ a b, a ≤ b → b < l.length → geA l v a = true → geA l v b = true := fun a b h1 h2 h3 => by
  have := hm a b h1 h2
  simp only [geA, decide_eq_true_eq] at h3 ⊢
  omega
theorem loA_le (l : List LAt) (v : Int) : loA l v ≤ l.length := by
  have := (firstF_spec (geA l v) l.length 0).2.1
  unfold loA firstP
  omega
theorem loA_iff {l : List LAt} {v : Int} (hm : MonoA l) {k : Nat} (hk : k < l.length) : k < loA l v ↔ (atA l k).node < v := by
  obtain ⟨-, h2, h3, h4⟩ := firstF_spec (geA l v) l.length 0
  constructor
  · intro h
    have := h3 k (Nat.zero_le _) h
    simp only [geA, decide_eq_false_iff_not] at this
    omega
  · intro h
    refine Nat.lt_of_not_le fun q => ?_
    have q : firstF (geA l v) l.length 0 ≤ k := q
    have h5 := h4 (by omega)
    have h6 := geA_mono hm _ _ q hk h5
    simp only [geA, decide_eq_true_eq] at h6
    omega
theorem loA_mono {l : List LAt} {v v' : Int} (hm : MonoA l) (h : v ≤ v') : loA l v ≤ loA l v' := by
  refine Nat.le_of_not_lt fun q => ?_
  have h1 := loA_le l v
  have h2 := (loA_iff (v := v) hm (k := loA l v') (by omega)).1 q
  have h3 := mt (loA_iff (v := v') hm (k := loA l v') (by omega)).2 (Nat.lt_irrefl _)
  omega
theorem near_mono {l : List LAt} (h : Near15 l) : MonoA l := by
  intro i j hij hj
  induction j with
  | zero => obtain rfl : i = 0 := by omega
            exact Int.le_refl _
  | succ j ih =>
    by_cases e : i = j + 1
    · subst e; exact Int.le_refl _
    · have h1 := ih (by omega) (by omega)
      have h2 := (h ((j + 1 : Nat) : Int) (by omega) (by omega)).2 (by omega)
      have e2 : ((j + 1 : Nat) : Int) - 1 = j := by omega
      rw [e2] at h2
      omega
def botA (l : List LAt) (k : Int) : Int := if 0 ≤ k ∧ k < l.length then (atA l k).y + (atA l k).h else 0
def gapA (l : List LAt) (k : Int) : Int := if 0 ≤ k ∧ k < l.length then (atA l k).y - botA l (k - 1) else 0
def ofsA (l : List LAt) (i k : Int) : Int := if (0 ≤ i ∧ i < l.length) ∧ 0 ≤ k ∧ k < l.length then (atA l k).y - (atA l i).y else 0
def higA (l : List LAt) (i k : Int) : Int := if (0 ≤ i ∧ i < l.length) ∧ i < k ∧ k ≤ l.length then (atA l (k - 1)).y + (atA l (k - 1)).h - (atA l i).y else 0
structure WiA where
  a : Nat
  b : Nat
def witA (l : List LAt) (u v : Int) : WiA := if loA l u < loA l v then ⟨loA l u, loA l v⟩ else ⟨0, 0⟩
def winA (ns : List LNo) (l : List LAt) (n : Int) : WiA := if 0 ≤ n ∧ n < ns.length then witA l n (n + (ndN ns n.toNat).size) else ⟨0, 0⟩
theorem witA_le (l : List LAt) (u v : Int) : (witA l u v).a ≤ l.length ∧ (witA l u v).b ≤ l.length := by
  have h1 := loA_le l u
  have h2 := loA_le l v
  unfold witA
  split
  · exact ⟨h1, h2⟩
  · exact ⟨Nat.zero_le _, Nat.zero_le _⟩
theorem winA_le (ns : List LNo) (l : List LAt) (n : Int) : (winA ns l n).a ≤ l.length ∧ (winA ns l n).b ≤ l.length := by
  unfold winA
  split
  · exact witA_le l _ _
  · exact ⟨Nat.zero_le _, Nat.zero_le _⟩
def aWi (z : WiA) : AV := .tup [.raw (.int .i64 z.a), .raw (.int .i64 z.b)]
attribute [go_sem] aWi
abbrev wiO (l : List LAt) (v : Int) : List (Nat × AO) := [(1, .cells 25 [.sl 8 (l.map cAt)]), (2, .cells 3 [.raw (.int .i64 v)])]
set_option maxRecDepth 100000 in
theorem hasAt_ok (l : List LAt) (k : Int) : FnOk Try.prog 48 [.sl 8 (l.map cAt), .raw (.int .i64 k)] [] (.raw (.bool (decide (0 ≤ k ∧ k < l.length)))) [] := by
  refine fn_of_awp Try.func48 rfl (by kernel_rfl) (by kernel_rfl) (Nat.le_of_ble_eq_true rfl) Try.results48 ?_
  simp only [go_sem, Bool.not_eq_true', Bool.not_eq_false', List.length_map]
  repeat' first | contradiction | intro _ | refine And.intro ?_ ?_ | refine ex_atA (by omega) ?_ | refine ex_atA' (by omega) ?_ | refine ex_get (by omega) ?_ | (show drawB _ _ = true; kernel_rfl) | (refine ret2 [] (by simp only [go_sem, Bool.not_eq_true', Bool.not_eq_false']; rfl) ?_; simp only [go_sem, Bool.not_eq_true', Bool.not_eq_false'])
  all_goals first
    | omega
    | (simp; done)
    | (simp; omega)
set_option maxRecDepth 100000 in
theorem hasNo_ok (l : List LNo) (k : Int) : FnOk Try.prog 44 [.sl 20 (l.map cNo), .raw (.int .i64 k)] [] (.raw (.bool (decide (0 ≤ k ∧ k < l.length)))) [] := by
  refine fn_of_awp Try.func44 rfl (by kernel_rfl) (by kernel_rfl) (Nat.le_of_ble_eq_true rfl) Try.results44 ?_
  simp only [go_sem, Bool.not_eq_true', Bool.not_eq_false', List.length_map]
  repeat' first | contradiction | intro _ | refine And.intro ?_ ?_ | refine ex_atA (by omega) ?_ | refine ex_atA' (by omega) ?_ | refine ex_get (by omega) ?_ | (show drawB _ _ = true; kernel_rfl) | (refine ret2 [] (by simp only [go_sem, Bool.not_eq_true', Bool.not_eq_false']; rfl) ?_; simp only [go_sem, Bool.not_eq_true', Bool.not_eq_false'])
  all_goals first
    | omega
    | (simp; done)
    | (simp; omega)
set_option maxRecDepth 100000 in
theorem abot_ok (a : LAt) (h : -4611686018427387904 ≤ a.y + a.h ∧ a.y + a.h ≤ 4611686018427387904) : FnOk Try.prog 49 [aAt a] [] (.raw (.int .i64 (a.y + a.h))) [] := by
  refine fn_of_awp Try.func49 rfl (by kernel_rfl) (by kernel_rfl) (Nat.le_of_ble_eq_true rfl) Try.results49 ?_
  simp only [go_sem, Bool.not_eq_true', Bool.not_eq_false']
  repeat' first | contradiction | intro _ | refine And.intro ?_ ?_ | refine ex_atA (by omega) ?_ | refine ex_atA' (by omega) ?_ | refine ex_get (by omega) ?_ | (show drawB _ _ = true; kernel_rfl) | (refine ret2 [] (by simp only [go_sem, Bool.not_eq_true', Bool.not_eq_false']; rfl) ?_; simp only [go_sem, Bool.not_eq_true', Bool.not_eq_false'])
  all_goals omega
/-- numbers that may be added. -/
def SmA (l : List LAt) : Prop := ∀ q : Int, 0 ≤ q → q < l.length → (-1125899906842624 ≤ (atA l q).y ∧ (atA l q).y ≤ 1125899906842624) ∧ (-1125899906842624 ≤ (atA l q).h ∧ (atA l q).h ≤ 1125899906842624)
theorem near_sm {l : List LAt} (h : Near15 l) : SmA l := fun q h1 h2 => by
  have := (h q h1 h2).1
  omega
theorem botA_bd {l : List LAt} (h : SmA l) (k : Int) : -2251799813685248 ≤ botA l k ∧ botA l k ≤ 2251799813685248 := by
  unfold botA
  split
  · have := h k (by omega) (by omega); omega
  · omega
set_option maxRecDepth 100000 in
theorem bota_ok (l : List LAt) (k : Int) (h : SmA l) : FnOk Try.prog 20 [.sl 8 (l.map cAt), .raw (.int .i64 k)] [] (.raw (.int .i64 (botA l k))) [] := by
  refine fn_of_awp Try.func20 rfl (by kernel_rfl) (by kernel_rfl) (Nat.le_of_ble_eq_true rfl) Try.results20 ?_
  simp only [go_sem, Bool.not_eq_true', Bool.not_eq_false']
  (refine acall2 [] (hasAt_ok l k) (by simp only [go_sem, Bool.not_eq_true', Bool.not_eq_false']; rfl) (fit_of (by simp only [go_sem, Bool.not_eq_true', Bool.not_eq_false']) (by simp only [go_sem, Bool.not_eq_true', Bool.not_eq_false']) (by simp only [go_sem, Bool.not_eq_true', Bool.not_eq_false']) (by simp only [go_sem, Bool.not_eq_true', Bool.not_eq_false']) (by simp only [go_sem, Bool.not_eq_true', Bool.not_eq_false']) (by simp only [go_sem, Bool.not_eq_true', Bool.not_eq_false']) (by simp only [go_sem, Bool.not_eq_true', Bool.not_eq_false'])) ?_; simp only [go_sem, Bool.not_eq_true', Bool.not_eq_false'])
  by_cases q : 0 ≤ k ∧ k < l.length
  · have e : botA l k = (atA l k).y + (atA l k).h := if_pos q
    have hb := h k q.1 q.2
    rw [e]
    refine ⟨fun w => absurd q w, fun _ => ?_⟩
    repeat' first | contradiction | intro _ | refine And.intro ?_ ?_ | refine ex_atA (by omega) ?_ | refine ex_atA' (by omega) ?_ | refine ex_get (by omega) ?_ | (show drawB _ _ = true; kernel_rfl) | (refine ret2 [] (by simp only [go_sem, Bool.not_eq_true', Bool.not_eq_false', List.length_map]; rfl) ?_; simp only [go_sem, Bool.not_eq_true', Bool.not_eq_false', List.length_map]) | (refine acall2 [] (abot_ok (atA l k) (by omega)) (by simp only [go_sem, Bool.not_eq_true', Bool.not_eq_false']; rfl) (fit_of (by simp only [go_sem, Bool.not_eq_true', Bool.not_eq_false']) (by simp only [go_sem, Bool.not_eq_true', Bool.not_eq_false']) (by simp only [go_sem, Bool.not_eq_true', Bool.not_eq_false']) (by simp only [go_sem, Bool.not_eq_true', Bool.not_eq_false']) (by simp only [go_sem, Bool.not_eq_true', Bool.not_eq_false']) (by simp only [go_sem, Bool.not_eq_true', Bool.not_eq_false']) (by simp only [go_sem, Bool.not_eq_true', Bool.not_eq_false'])) ?_; simp only [go_sem, Bool.not_eq_true', Bool.not_eq_false', List.length_map])
    all_goals omega
  · have e : botA l k = 0 := if_neg q
    rw [e]
    exact ⟨fun _ => rfl, fun w => absurd w q⟩
set_option maxRecDepth 100000 in
theorem gapa_ok (l : List LAt) (k : Int) (h : SmA l) (hl : l.length ≤ 4000) : FnOk Try.prog 19 [.sl 8 (l.map cAt), .raw (.int .i64 k)] [] (.raw (.int .i64 (gapA l k))) [] := by
  have hbb := botA_bd h (k - 1)
  refine fn_of_awp Try.func19 rfl (by kernel_rfl) (by kernel_rfl) (Nat.le_of_ble_eq_true rfl) Try.results19 ?_
  simp only [go_sem, Bool.not_eq_true', Bool.not_eq_false']
  (refine acall2 [] (hasAt_ok l k) (by simp only [go_sem, Bool.not_eq_true', Bool.not_eq_false']; rfl) (fit_of (by simp only [go_sem, Bool.not_eq_true', Bool.not_eq_false']) (by simp only [go_sem, Bool.not_eq_true', Bool.not_eq_false']) (by simp only [go_sem, Bool.not_eq_true', Bool.not_eq_false']) (by simp only [go_sem, Bool.not_eq_true', Bool.not_eq_false']) (by simp only [go_sem, Bool.not_eq_true', Bool.not_eq_false']) (by simp only [go_sem, Bool.not_eq_true', Bool.not_eq_false']) (by simp only [go_sem, Bool.not_eq_true', Bool.not_eq_false'])) ?_; simp only [go_sem, Bool.not_eq_true', Bool.not_eq_false'])
  by_cases q : 0 ≤ k ∧ k < l.length
  · have e : gapA l k = (atA l k).y - botA l (k - 1) := if_pos q
    have hb := h k q.1 q.2
    rw [e]
    refine ⟨fun w => absurd q w, fun _ => ?_⟩
    repeat' first | contradiction | intro _ | refine And.intro ?_ ?_ | refine ex_atA (by omega) ?_ | refine ex_atA' (by omega) ?_ | refine ex_get (by omega) ?_ | (show drawB _ _ = true; kernel_rfl) | (refine ret2 [] (by simp only [go_sem, Bool.not_eq_true', Bool.not_eq_false', List.length_map]; rfl) ?_; simp only [go_sem, Bool.not_eq_true', Bool.not_eq_false', List.length_map]) | (refine acall2 [] (bota_ok l (k - 1) h) (by simp only [go_sem, Bool.not_eq_true', Bool.not_eq_false']; rfl) (fit_of (by simp only [go_sem, Bool.not_eq_true', Bool.not_eq_false']) (by simp only [go_sem, Bool.not_eq_true', Bool.not_eq_false']) (by simp only [go_sem, Bool.not_eq_true', Bool.not_eq_false']) (by simp only [go_sem, Bool.not_eq_true', Bool.not_eq_false']) (by simp only [go_sem, Bool.not_eq_true', Bool.not_eq_false']) (by simp only [go_sem, Bool.not_eq_true', Bool.not_eq_false']) (by simp only [go_sem, Bool.not_eq_true', Bool.not_eq_false'])) ?_; simp only [go_sem, Bool.not_eq_true', Bool.not_eq_false', List.length_map])
    all_goals omega
  · have e : gapA l k = 0 := if_neg q
    rw [e]
    exact ⟨fun _ => rfl, fun w => absurd w q⟩
set_option maxRecDepth 100000 in
theorem ofsa_ok (l : List LAt) (i k : Int) (h : SmA l) : FnOk Try.prog 22 [.sl 8 (l.map cAt), .raw (.int .i64 i), .raw (.int .i64 k)] [] (.raw (.int .i64 (ofsA l i k))) [] := by
  refine fn_of_awp Try.func22 rfl (by kernel_rfl) (by kernel_rfl) (Nat.le_of_ble_eq_true rfl) Try.results22 ?_
  simp only [go_sem, Bool.not_eq_true', Bool.not_eq_false']
  (refine acall2 [] (hasAt_ok l i) (by simp only [go_sem, Bool.not_eq_true', Bool.not_eq_false']; rfl) (fit_of (by simp only [go_sem, Bool.not_eq_true', Bool.not_eq_false']) (by simp only [go_sem, Bool.not_eq_true', Bool.not_eq_false']) (by simp only [go_sem, Bool.not_eq_true', Bool.not_eq_false']) (by simp only [go_sem, Bool.not_eq_true', Bool.not_eq_false']) (by simp only [go_sem, Bool.not_eq_true', Bool.not_eq_false']) (by simp only [go_sem, Bool.not_eq_true', Bool.not_eq_false']) (by simp only [go_sem, Bool.not_eq_true', Bool.not_eq_false'])) ?_; simp only [go_sem, Bool.not_eq_true', Bool.not_eq_false'])
  by_cases q : (0 ≤ i ∧ i < l.length) ∧ 0 ≤ k ∧ k < l.length
  · have e : ofsA l i k = (atA l k).y - (atA l i).y := if_pos q
    have hb := h k q.2.1 q.2.2
    have hc := h i q.1.1 q.1.2
    rw [e]
    repeat' first | contradiction | intro _ | refine And.intro ?_ ?_ | refine ex_atA (by omega) ?_ | refine ex_atA' (by omega) ?_ | refine ex_get (by omega) ?_ | (show drawB _ _ = true; kernel_rfl) | (refine ret2 [] (by simp only [go_sem, Bool.not_eq_true', Bool.not_eq_false', List.length_map]; rfl) ?_; simp only [go_sem, Bool.not_eq_true', Bool.not_eq_false', List.length_map]) | (refine acall2 [] (hasAt_ok l k) (by simp only [go_sem, Bool.not_eq_true', Bool.not_eq_false']; rfl) (fit_of (by simp only [go_sem, Bool.not_eq_true', Bool.not_eq_false']) (by simp only [go_sem, Bool.not_eq_true', Bool.not_eq_false']) (by simp only [go_sem, Bool.not_eq_true', Bool.not_eq_false']) (by simp only [go_sem, Bool.not_eq_true', Bool.not_eq_false']) (by simp only [go_sem, Bool.not_eq_true', Bool.not_eq_false']) (by simp only [go_sem, Bool.not_eq_true', Bool.not_eq_false']) (by simp only [go_sem, Bool.not_eq_true', Bool.not_eq_false'])) ?_; simp only [go_sem, Bool.not_eq_true', Bool.not_eq_false', List.length_map])
    all_goals first
      | omega
      | skip
  · have e : ofsA l i k = 0 := if_neg q
    rw [e]
    repeat' first | contradiction | intro _ | refine And.intro ?_ ?_ | refine ex_atA (by omega) ?_ | refine ex_atA' (by omega) ?_ | refine ex_get (by omega) ?_ | (show drawB _ _ = true; kernel_rfl) | (refine ret2 [] (by simp only [go_sem, Bool.not_eq_true', Bool.not_eq_false', List.length_map]; rfl) ?_; simp only [go_sem, Bool.not_eq_true', Bool.not_eq_false', List.length_map]) | (refine acall2 [] (hasAt_ok l k) (by simp only [go_sem, Bool.not_eq_true', Bool.not_eq_false']; rfl) (fit_of (by simp only [go_sem, Bool.not_eq_true', Bool.not_eq_false']) (by simp only [go_sem, Bool.not_eq_true', Bool.not_eq_false']) (by simp only [go_sem, Bool.not_eq_true', Bool.not_eq_false']) (by simp only [go_sem, Bool.not_eq_true', Bool.not_eq_false']) (by simp only [go_sem, Bool.not_eq_true', Bool.not_eq_false']) (by simp only [go_sem, Bool.not_eq_true', Bool.not_eq_false']) (by simp only [go_sem, Bool.not_eq_true', Bool.not_eq_false'])) ?_; simp only [go_sem, Bool.not_eq_true', Bool.not_eq_false', List.length_map])
    all_goals first
      | omega
      | skip
set_option maxRecDepth 100000 in
theorem higa_ok (l : List LAt) (i k : Int) (h : SmA l) (hl : l.length ≤ 4000) : FnOk Try.prog 21 [.sl 8 (l.map cAt), .raw (.int .i64 i), .raw (.int .i64 k)] [] (.raw (.int .i64 (higA l i k))) [] := by
  refine fn_of_awp Try.func21 rfl (by kernel_rfl) (by kernel_rfl) (Nat.le_of_ble_eq_true rfl) Try.results21 ?_
  simp only [go_sem, Bool.not_eq_true', Bool.not_eq_false']
  (refine acall2 [] (hasAt_ok l i) (by simp only [go_sem, Bool.not_eq_true', Bool.not_eq_false']; rfl) (fit_of (by simp only [go_sem, Bool.not_eq_true', Bool.not_eq_false']) (by simp only [go_sem, Bool.not_eq_true', Bool.not_eq_false']) (by simp only [go_sem, Bool.not_eq_true', Bool.not_eq_false']) (by simp only [go_sem, Bool.not_eq_true', Bool.not_eq_false']) (by simp only [go_sem, Bool.not_eq_true', Bool.not_eq_false']) (by simp only [go_sem, Bool.not_eq_true', Bool.not_eq_false']) (by simp only [go_sem, Bool.not_eq_true', Bool.not_eq_false'])) ?_; simp only [go_sem, Bool.not_eq_true', Bool.not_eq_false', List.length_map])
  by_cases q : (0 ≤ i ∧ i < l.length) ∧ i < k ∧ k ≤ l.length
  · have e : higA l i k = (atA l (k - 1)).y + (atA l (k - 1)).h - (atA l i).y := if_pos q
    have hb := h (k - 1) (by omega) (by omega)
    have hc := h i q.1.1 q.1.2
    rw [e]
    repeat' first | contradiction | intro _ | refine And.intro ?_ ?_ | refine ex_atA (by omega) ?_ | refine ex_atA' (by omega) ?_ | refine ex_get (by omega) ?_ | (show drawB _ _ = true; kernel_rfl) | (refine ret2 [] (by simp only [go_sem, Bool.not_eq_true', Bool.not_eq_false', List.length_map]; rfl) ?_; simp only [go_sem, Bool.not_eq_true', Bool.not_eq_false', List.length_map]) | (refine acall2 [] (abot_ok (atA l (k - 1)) (by omega)) (by simp only [go_sem, Bool.not_eq_true', Bool.not_eq_false']; rfl) (fit_of (by simp only [go_sem, Bool.not_eq_true', Bool.not_eq_false']) (by simp only [go_sem, Bool.not_eq_true', Bool.not_eq_false']) (by simp only [go_sem, Bool.not_eq_true', Bool.not_eq_false']) (by simp only [go_sem, Bool.not_eq_true', Bool.not_eq_false']) (by simp only [go_sem, Bool.not_eq_true', Bool.not_eq_false']) (by simp only [go_sem, Bool.not_eq_true', Bool.not_eq_false']) (by simp only [go_sem, Bool.not_eq_true', Bool.not_eq_false'])) ?_; simp only [go_sem, Bool.not_eq_true', Bool.not_eq_false', List.length_map])
    all_goals first
      | omega
      | skip
  · have e : higA l i k = 0 := if_neg q
    rw [e]
    repeat' first | contradiction | intro _ | refine And.intro ?_ ?_ | refine ex_atA (by omega) ?_ | refine ex_atA' (by omega) ?_ | refine ex_get (by omega) ?_ | (show drawB _ _ = true; kernel_rfl) | (refine ret2 [] (by simp only [go_sem, Bool.not_eq_true', Bool.not_eq_false', List.length_map]; rfl) ?_; simp only [go_sem, Bool.not_eq_true', Bool.not_eq_false', List.length_map]) | (refine acall2 [] (abot_ok (atA l (k - 1)) (by have := h (k - 1) (by omega) (by omega); omega)) (by simp only [go_sem, Bool.not_eq_true', Bool.not_eq_false']; rfl) (fit_of (by simp only [go_sem, Bool.not_eq_true', Bool.not_eq_false']) (by simp only [go_sem, Bool.not_eq_true', Bool.not_eq_false']) (by simp only [go_sem, Bool.not_eq_true', Bool.not_eq_false']) (by simp only [go_sem, Bool.not_eq_true', Bool.not_eq_false']) (by simp only [go_sem, Bool.not_eq_true', Bool.not_eq_false']) (by simp only [go_sem, Bool.not_eq_true', Bool.not_eq_false']) (by simp only [go_sem, Bool.not_eq_true', Bool.not_eq_false'])) ?_; simp only [go_sem, Bool.not_eq_true', Bool.not_eq_false', List.length_map])
    all_goals first
      | omega
      | skip
set_option maxRecDepth 100000 in
theorem wc1_ok (l : List LAt) (v : Int) (k : Nat) (hk : k < l.length) : FnOk Try.prog 46 [.raw (.int .i64 k), .hdr 1, .hdr 2] (wiO l v) (.raw (.bool (geA l v k))) (wiO l v) := by
  refine fn_of_awp Try.func46 rfl (by kernel_rfl) (by kernel_rfl) (Nat.le_of_ble_eq_true rfl) Try.results46 ?_
  simp only [go_sem, Bool.not_eq_true', Bool.not_eq_false', List.length_map]
  repeat' first | contradiction | intro _ | refine And.intro ?_ ?_ | refine ex_atA (by omega) ?_ | refine ex_atA' (by omega) ?_ | refine ex_get (by omega) ?_ | (show drawB _ _ = true; kernel_rfl) | (refine ret2 [] (by simp only [go_sem, Bool.not_eq_true', Bool.not_eq_false', List.length_map]; rfl) ?_; simp only [go_sem, Bool.not_eq_true', Bool.not_eq_false', List.length_map])
  all_goals first
    | omega
    | rfl
set_option maxRecDepth 100000 in
theorem ws1_ok (l : List LAt) (v : Int) (hm : MonoA l) (hl : l.length ≤ 4000) : FnOk Try.prog 45 [.raw (.int .i64 l.length), .clo (.func 46) [.hdr 1, .hdr 2]] (wiO l v) (.raw (.int .i64 (loA l v))) (wiO l v) := by
  refine fn_of_awp Try.func45 rfl (by kernel_rfl) (by kernel_rfl) (Nat.le_of_ble_eq_true rfl) Try.results45 ?_
  simp only [go_sem, Bool.not_eq_true', Bool.not_eq_false', List.length_map]
  refine aloop2 [] (fun z : SrX => ⟨[(1, .clo (.func 46) [.hdr 1, .hdr 2]), (4, .raw (.int .i64 0)), (5, .raw (.int .i64 z.i)), (6, .raw (.int .i64 z.j))], [(1, some (.cells 25 [.sl 8 (l.map cAt)])), (2, some (.cells 3 [.raw (.int .i64 v)]))], none⟩) (SrInv (geA l v) l.length) (fun z => z.j - z.i) 2 ⟨0, l.length⟩ (by simp only [go_sem, Bool.not_eq_true', Bool.not_eq_false']; rfl) (by simp only [go_sem, Bool.not_eq_true', Bool.not_eq_false']) ?_ ?_
  · exact sr_first _ _
  · rintro ⟨i, j⟩ hi
    have hb := hi
    obtain ⟨b1, b2, -, -⟩ := hb
    simp only at b1 b2
    obtain ⟨h, hh⟩ : ∃ h : Nat, h = (i + j) / 2 := ⟨_, rfl⟩
    have e : IntKind.wrap .i64 ((IntKind.wrap .u64 ((i : Int) + j)).fdiv (2 ^ min 1 64)) = h := by
      have := half_eq (z := (i : Int) + j) (by omega) (by omega)
      rw [Int.toNat_one] at this
      rw [this]
      omega
    have mono := geA_mono (v := v) hm
    simp only [go_sem, Bool.not_eq_true', Bool.not_eq_false', e, List.length_map]
    repeat' first | contradiction | intro _ | refine And.intro ?_ ?_ | refine ex_atA (by omega) ?_ | refine ex_atA' (by omega) ?_ | refine ex_get (by omega) ?_ | (show drawB _ _ = true; kernel_rfl) | (refine ret2 [] (by simp only [go_sem, Bool.not_eq_true', Bool.not_eq_false', e, List.length_map]; rfl) ?_; simp only [go_sem, Bool.not_eq_true', Bool.not_eq_false', e, List.length_map]) | (refine acall2 [] (wc1_ok l v h (by omega)) (by simp only [go_sem, Bool.not_eq_true', Bool.not_eq_false']; rfl) (fit_of (by simp only [go_sem, Bool.not_eq_true', Bool.not_eq_false']) (by simp only [go_sem, Bool.not_eq_true', Bool.not_eq_false']) (by simp only [go_sem, Bool.not_eq_true', Bool.not_eq_false']) (by simp only [go_sem, Bool.not_eq_true', Bool.not_eq_false']) (by simp only [go_sem, Bool.not_eq_true', Bool.not_eq_false']) (by simp only [go_sem, Bool.not_eq_true', Bool.not_eq_false']) (by simp only [go_sem, Bool.not_eq_true', Bool.not_eq_false'])) ?_; simp only [go_sem, Bool.not_eq_true', Bool.not_eq_false', e, List.length_map])
    all_goals try omega
    all_goals first | (have eL : loA l v = i := sr_last hi (by assumption); rw [eL]; done) | ((refine loop_end [] (⟨h + 1, j⟩) (by simp only [go_sem, Bool.not_eq_true', Bool.not_eq_false']; rfl) ?_ ?_ ?_; (focus first | omega | (simp only; omega)); (focus (simp only [go_sem, Bool.not_eq_true', Bool.not_eq_false']; done))); exact sr_no mono hi (by omega) (by assumption)) | ((refine loop_end [] (⟨i, h⟩) (by simp only [go_sem, Bool.not_eq_true', Bool.not_eq_false']; rfl) ?_ ?_ ?_; (focus first | omega | (simp only; omega)); (focus (simp only [go_sem, Bool.not_eq_true', Bool.not_eq_false']; done))); exact sr_yes mono hi (by omega) (by assumption))
set_option maxRecDepth 100000 in
theorem wc2_ok (l : List LAt) (v : Int) (k : Nat) (hk : k < l.length) : FnOk Try.prog 47 [.raw (.int .i64 k), .hdr 1, .hdr 2] (wiO l v) (.raw (.bool (geA l v k))) (wiO l v) := by
  refine fn_of_awp Try.func47 rfl (by kernel_rfl) (by kernel_rfl) (Nat.le_of_ble_eq_true rfl) Try.results47 ?_
  simp only [go_sem, Bool.not_eq_true', Bool.not_eq_false', List.length_map]
  repeat' first | contradiction | intro _ | refine And.intro ?_ ?_ | refine ex_atA (by omega) ?_ | refine ex_atA' (by omega) ?_ | refine ex_get (by omega) ?_ | (show drawB _ _ = true; kernel_rfl) | (refine ret2 [] (by simp only [go_sem, Bool.not_eq_true', Bool.not_eq_false', List.length_map]; rfl) ?_; simp only [go_sem, Bool.not_eq_true', Bool.not_eq_false', List.length_map])
  all_goals first
    | omega
    | rfl
set_option maxRecDepth 100000 in
theorem ws2_ok (l : List LAt) (v : Int) (hm : MonoA l) (hl : l.length ≤ 4000) : FnOk Try.prog 45 [.raw (.int .i64 l.length), .clo (.func 47) [.hdr 1, .hdr 2]] (wiO l v) (.raw (.int .i64 (loA l v))) (wiO l v) := by
  refine fn_of_awp Try.func45 rfl (by kernel_rfl) (by kernel_rfl) (Nat.le_of_ble_eq_true rfl) Try.results45 ?_
  simp only [go_sem, Bool.not_eq_true', Bool.not_eq_false', List.length_map]
  refine aloop2 [] (fun z : SrX => ⟨[(1, .clo (.func 47) [.hdr 1, .hdr 2]), (4, .raw (.int .i64 0)), (5, .raw (.int .i64 z.i)), (6, .raw (.int .i64 z.j))], [(1, some (.cells 25 [.sl 8 (l.map cAt)])), (2, some (.cells 3 [.raw (.int .i64 v)]))], none⟩) (SrInv (geA l v) l.length) (fun z => z.j - z.i) 2 ⟨0, l.length⟩ (by simp only [go_sem, Bool.not_eq_true', Bool.not_eq_false']; rfl) (by simp only [go_sem, Bool.not_eq_true', Bool.not_eq_false']) ?_ ?_
  · exact sr_first _ _
  · rintro ⟨i, j⟩ hi
    have hb := hi
    obtain ⟨b1, b2, -, -⟩ := hb
    simp only at b1 b2
    obtain ⟨h, hh⟩ : ∃ h : Nat, h = (i + j) / 2 := ⟨_, rfl⟩
    have e : IntKind.wrap .i64 ((IntKind.wrap .u64 ((i : Int) + j)).fdiv (2 ^ min 1 64)) = h := by
      have := half_eq (z := (i : Int) + j) (by omega) (by omega)
      rw [Int.toNat_one] at this
      rw [this]
      omega
    have mono := geA_mono (v := v) hm
    simp only [go_sem, Bool.not_eq_true', Bool.not_eq_false', e, List.length_map]
    repeat' first | contradiction | intro _ | refine And.intro ?_ ?_ | refine ex_atA (by omega) ?_ | refine ex_atA' (by omega) ?_ | refine ex_get (by omega) ?_ | (show drawB _ _ = true; kernel_rfl) | (refine ret2 [] (by simp only [go_sem, Bool.not_eq_true', Bool.not_eq_false', e, List.length_map]; rfl) ?_; simp only [go_sem, Bool.not_eq_true', Bool.not_eq_false', e, List.length_map]) | (refine acall2 [] (wc2_ok l v h (by omega)) (by simp only [go_sem, Bool.not_eq_true', Bool.not_eq_false']; rfl) (fit_of (by simp only [go_sem, Bool.not_eq_true', Bool.not_eq_false']) (by simp only [go_sem, Bool.not_eq_true', Bool.not_eq_false']) (by simp only [go_sem, Bool.not_eq_true', Bool.not_eq_false']) (by simp only [go_sem, Bool.not_eq_true', Bool.not_eq_false']) (by simp only [go_sem, Bool.not_eq_true', Bool.not_eq_false']) (by simp only [go_sem, Bool.not_eq_true', Bool.not_eq_false']) (by simp only [go_sem, Bool.not_eq_true', Bool.not_eq_false'])) ?_; simp only [go_sem, Bool.not_eq_true', Bool.not_eq_false', e, List.length_map])
    all_goals try omega
    all_goals first | (have eL : loA l v = i := sr_last hi (by assumption); rw [eL]; done) | ((refine loop_end [] (⟨h + 1, j⟩) (by simp only [go_sem, Bool.not_eq_true', Bool.not_eq_false']; rfl) ?_ ?_ ?_; (focus first | omega | (simp only; omega)); (focus (simp only [go_sem, Bool.not_eq_true', Bool.not_eq_false']; done))); exact sr_no mono hi (by omega) (by assumption)) | ((refine loop_end [] (⟨i, h⟩) (by simp only [go_sem, Bool.not_eq_true', Bool.not_eq_false']; rfl) ?_ ?_ ?_; (focus first | omega | (simp only; omega)); (focus (simp only [go_sem, Bool.not_eq_true', Bool.not_eq_false']; done))); exact sr_yes mono hi (by omega) (by assumption))
set_option maxRecDepth 100000 in
theorem wina_ok (ns : List LNo) (l : List LAt) (n : Int) (hm : MonoA l) (hl : l.length ≤ 4000) (hs : ∀ x ∈ ns, 0 ≤ x.size ∧ x.size ≤ 1000) (hn : ns.length ≤ 1000) : FnOk Try.prog 17 [.sl 20 (ns.map cNo), .sl 8 (l.map cAt), .raw (.int .i64 n)] [] (aWi (winA ns l n)) [] := by
  refine fn_of_awp Try.func17 rfl (by kernel_rfl) (by kernel_rfl) (Nat.le_of_ble_eq_true rfl) Try.results17 ?_
  simp only [go_sem, Bool.not_eq_true', Bool.not_eq_false']
  (refine acall2 [] (hasNo_ok ns n) (by simp only [go_sem, Bool.not_eq_true', Bool.not_eq_false']; rfl) (fit_of (by simp only [go_sem, Bool.not_eq_true', Bool.not_eq_false']) (by simp only [go_sem, Bool.not_eq_true', Bool.not_eq_false']) (by simp only [go_sem, Bool.not_eq_true', Bool.not_eq_false']) (by simp only [go_sem, Bool.not_eq_true', Bool.not_eq_false']) (by simp only [go_sem, Bool.not_eq_true', Bool.not_eq_false']) (by simp only [go_sem, Bool.not_eq_true', Bool.not_eq_false']) (by simp only [go_sem, Bool.not_eq_true', Bool.not_eq_false'])) ?_; simp only [go_sem, Bool.not_eq_true', Bool.not_eq_false', List.length_map])
  by_cases q : 0 ≤ n ∧ n < ns.length
  · have e : winA ns l n = witA l n (n + (ndN ns n.toNat).size) := if_pos q
    have hk : n.toNat < ns.length := by omega
    have hsz := hs _ (List.getElem_mem hk)
    rw [e]
    refine ⟨fun w => absurd q w, fun _ => ⟨⟨by omega, by omega⟩, _, List.getElem?_eq_getElem hk, ?_⟩⟩
    rw [← ndN_get hk] at hsz ⊢
    refine ⟨⟨by omega, by omega⟩, (show drawB _ _ = true by kernel_rfl), ?_⟩
    (refine acall2 [] (ws1_ok l n hm hl) (by simp only [go_sem, Bool.not_eq_true', Bool.not_eq_false']; rfl) (fit_of (by simp only [go_sem, Bool.not_eq_true', Bool.not_eq_false']) (by simp only [go_sem, Bool.not_eq_true', Bool.not_eq_false']) (by simp only [go_sem, Bool.not_eq_true', Bool.not_eq_false']) (by simp only [go_sem, Bool.not_eq_true', Bool.not_eq_false']) (by simp only [go_sem, Bool.not_eq_true', Bool.not_eq_false']) (by simp only [go_sem, Bool.not_eq_true', Bool.not_eq_false']) (by simp only [go_sem, Bool.not_eq_true', Bool.not_eq_false'])) ?_; simp only [go_sem, Bool.not_eq_true', Bool.not_eq_false', List.length_map])
    (refine acall2 [] (ws2_ok l (n + (ndN ns n.toNat).size) hm hl) (by simp only [go_sem, Bool.not_eq_true', Bool.not_eq_false']; rfl) (fit_of (by simp only [go_sem, Bool.not_eq_true', Bool.not_eq_false']) (by simp only [go_sem, Bool.not_eq_true', Bool.not_eq_false']) (by simp only [go_sem, Bool.not_eq_true', Bool.not_eq_false']) (by simp only [go_sem, Bool.not_eq_true', Bool.not_eq_false']) (by simp only [go_sem, Bool.not_eq_true', Bool.not_eq_false']) (by simp only [go_sem, Bool.not_eq_true', Bool.not_eq_false']) (by simp only [go_sem, Bool.not_eq_true', Bool.not_eq_false'])) ?_; simp only [go_sem, Bool.not_eq_true', Bool.not_eq_false', List.length_map])
    refine ⟨fun w => ?_, fun w => ?_⟩
    · have e2 : witA l n (n + (ndN ns n.toNat).size) = ⟨0, 0⟩ := if_neg (by omega)
      rw [e2]
      exact ⟨rfl, rfl⟩
    · have e2 : witA l n (n + (ndN ns n.toNat).size) = ⟨loA l n, loA l (n + (ndN ns n.toNat).size)⟩ := if_pos (by omega)
      rw [e2]
      exact ⟨rfl, rfl⟩
  · have e : winA ns l n = ⟨0, 0⟩ := if_neg q
    rw [e]
    exact ⟨fun _ => ⟨rfl, rfl⟩, fun w => absurd w q⟩
end Go.Proofs.Ytblmebjhhanoaaa
/- CHAPTERS 14, 15: the chapters' examples: scripts, and their galleys. -/
/- G -/
/- BOOLS -/
/- GET ex_atA ex_atA' -/
set_option linter.unusedSimpArgs false
set_option linter.unusedVariables false
namespace Go.Proofs.Ytblmebjhhanoaaa
open Go.RowKit

theorem hw_of {l : List LNo} (h : l.all (fun x => decide (x.words.length ≤ 100)) = true) : ∀ x ∈ l, x.words.length ≤ 9223372036854775807 := fun x hx => by
  have := of_decide_eq_true (List.all_eq_true.1 h x hx)
  omega
def scr15 : ByteArray := { data := #[91, 109, 53, 32, 110, 55, 40, 49, 48, 32, 50, 32, 51, 48, 32, 51, 48, 32, 53, 48, 41, 93, 91, 109, 51, 123, 50, 48, 32, 56, 125, 93] }
def nds15 : List LNo := [⟨1, 2, ⟨5, 7, 0, 0, 0, 2, 2, 0, 0, 0, 0, 0⟩, 0, 0, [], 0, 0, 0⟩, ⟨2, 1, sty0, 10, 2, [30, 30, 50], 0, 0, 0⟩, ⟨1, 2, ⟨3, 0, 0, 0, 0, 2, 2, 0, 0, 0, 0, 0⟩, 0, 0, [], 0, 0, 0⟩, ⟨3, 1, sty0, 0, 0, [], 0, 20, 8⟩]
theorem rd15 : rdS scr15 = some nds15 := by kernel_rfl
theorem of15 : FnOk Try.prog 42 [.raw (.string { data := #[91, 109, 53, 32, 110, 55, 40, 49, 48, 32, 50, 32, 51, 48, 32, 51, 48, 32, 53, 48, 41, 93, 91, 109, 51, 123, 50, 48, 32, 56, 125, 93] })] [] (.tup [.sl 20 (nds15.map cNo), .raw (.int .i64 0), .raw (.int .i64 0)]) [] := rdS_ok scr15 nds15 rd15
theorem w15 : ∀ x ∈ nds15, x.words.length ≤ 9223372036854775807 := hw_of (by kernel_rfl)
def scr14b : ByteArray := { data := #[60, 76, 32, 51, 48, 32, 50, 53, 62, 40, 49, 48, 32, 50, 32, 51, 48, 32, 51, 48, 32, 53, 48, 41] }
def nds14b : List LNo := [⟨4, 1, sty0, 0, 0, [], 1, 30, 25⟩, ⟨2, 1, sty0, 10, 2, [30, 30, 50], 0, 0, 0⟩]
theorem rd14b : rdS scr14b = some nds14b := by kernel_rfl
theorem of14b : FnOk Try.prog 42 [.raw (.string { data := #[60, 76, 32, 51, 48, 32, 50, 53, 62, 40, 49, 48, 32, 50, 32, 51, 48, 32, 51, 48, 32, 53, 48, 41] })] [] (.tup [.sl 20 (nds14b.map cNo), .raw (.int .i64 0), .raw (.int .i64 0)]) [] := rdS_ok scr14b nds14b rd14b
theorem w14b : ∀ x ∈ nds14b, x.words.length ≤ 9223372036854775807 := hw_of (by kernel_rfl)
def scr14c : ByteArray := { data := #[60, 82, 32, 51, 48, 32, 50, 53, 62, 91, 99, 51, 32, 105, 49, 48, 123, 50, 48, 32, 56, 125, 93] }
def nds14c : List LNo := [⟨4, 1, sty0, 0, 0, [], 2, 30, 25⟩, ⟨1, 2, ⟨0, 0, 0, 0, 10, 2, 2, 0, 0, 0, 0, 3⟩, 0, 0, [], 0, 0, 0⟩, ⟨3, 1, sty0, 0, 0, [], 0, 20, 8⟩]
theorem rd14c : rdS scr14c = some nds14c := by kernel_rfl
theorem of14c : FnOk Try.prog 42 [.raw (.string { data := #[60, 82, 32, 51, 48, 32, 50, 53, 62, 91, 99, 51, 32, 105, 49, 48, 123, 50, 48, 32, 56, 125, 93] })] [] (.tup [.sl 20 (nds14c.map cNo), .raw (.int .i64 0), .raw (.int .i64 0)]) [] := rdS_ok scr14c nds14c rd14c
theorem w14c : ∀ x ∈ nds14c, x.words.length ≤ 9223372036854775807 := hw_of (by kernel_rfl)
def ats15 : List LAt := [⟨1, 1, 0, 2, 0, 5, 62, 10⟩, ⟨1, 1, 2, 3, 0, 15, 50, 10⟩, ⟨2, 3, 0, 0, 0, 32, 20, 8⟩]
def ats14b : List LAt := [⟨1, 1, 0, 2, 30, 0, 62, 10⟩, ⟨1, 1, 2, 3, 30, 10, 50, 10⟩]
def fls14b : List LFl := [⟨0, 1, 0, 0, 0, 30, 25⟩]
def ats14c : List LAt := [⟨2, 2, 0, 0, 10, 25, 20, 8⟩]
def fls14c : List LFl := [⟨0, 2, 0, 70, 0, 30, 25⟩]
theorem gal15 : resG nds15 100 = ⟨ats15, [], 40⟩ := by kernel_rfl
theorem gal14b : resG nds14b 100 = ⟨ats14b, fls14b, 25⟩ := by kernel_rfl
theorem gal14c : resG nds14c 100 = ⟨ats14c, fls14c, 33⟩ := by kernel_rfl
theorem err15 : errG nds15 100 = 0 := by kernel_rfl
theorem err14b : errG nds14b 100 = 0 := by kernel_rfl
theorem err14c : errG nds14c 100 = 0 := by kernel_rfl
theorem rof15 : FnOk Try.prog 43 [.sl 20 (nds15.map cNo), .raw (.int .i64 100)] [] (.tup [.agg [.hdr 8, .hdr 9, .raw (.int .i64 40)], .raw (.int .i64 0)]) [(8, .row 41 8 (ats15.map cAt)), (9, .row 39 7 [])] := by
  have h := rof14_ok nds15 100 (Nat.le_of_ble_eq_true rfl) w15 (of_decide_eq_true (by kernel_rfl))
  rw [gal15, err15] at h
  exact h
theorem mono15 : MonoA ats15 := near_mono ((near15_iff ats15).1 (by kernel_rfl))
theorem sm15 : SmA ats15 := near_sm ((near15_iff ats15).1 (by kernel_rfl))
theorem siz15 : ∀ x ∈ nds15, 0 ≤ x.size ∧ x.size ≤ 1000 := by decide
theorem win15 (n : Int) (a b : Nat) (h : winA nds15 ats15 n = ⟨a, b⟩) : FnOk Try.prog 17 [.sl 20 (nds15.map cNo), .sl 8 (ats15.map cAt), .raw (.int .i64 n)] [] (.tup [.raw (.int .i64 a), .raw (.int .i64 b)]) [] := by
  have := wina_ok nds15 ats15 n mono15 (Nat.le_of_ble_eq_true rfl) siz15 (Nat.le_of_ble_eq_true rfl)
  rw [h] at this
  exact this
theorem bot15 (k v : Int) (h : botA ats15 k = v) : FnOk Try.prog 20 [.sl 8 (ats15.map cAt), .raw (.int .i64 k)] [] (.raw (.int .i64 v)) [] := h ▸ bota_ok ats15 k sm15
theorem gap15 (k v : Int) (h : gapA ats15 k = v) : FnOk Try.prog 19 [.sl 8 (ats15.map cAt), .raw (.int .i64 k)] [] (.raw (.int .i64 v)) [] := h ▸ gapa_ok ats15 k sm15 (Nat.le_of_ble_eq_true rfl)
theorem ofs15 (i k v : Int) (h : ofsA ats15 i k = v) : FnOk Try.prog 22 [.sl 8 (ats15.map cAt), .raw (.int .i64 i), .raw (.int .i64 k)] [] (.raw (.int .i64 v)) [] := h ▸ ofsa_ok ats15 i k sm15
theorem hig15 (i k v : Int) (h : higA ats15 i k = v) : FnOk Try.prog 21 [.sl 8 (ats15.map cAt), .raw (.int .i64 i), .raw (.int .i64 k)] [] (.raw (.int .i64 v)) [] := h ▸ higa_ok ats15 i k sm15 (Nat.le_of_ble_eq_true rfl)
set_option maxRecDepth 100000 in
set_option maxHeartbeats 8000000 in
theorem awake15_ok : FnOk Try.prog 16 [] [] (.raw (.bool true)) [] := by
  refine fn_of_swp Try.func16 rfl (by kernel_rfl) (by kernel_rfl) (Nat.le_of_ble_eq_true rfl) Try.results16 ?_
  (refine swp_seqW ?_; simp only [go_sem, Bool.not_eq_true', Bool.not_eq_false'])
  (refine swp_seqW ?_; simp only [go_sem, Bool.not_eq_true', Bool.not_eq_false'])
  (refine acall2 [] (of15) (by simp only [go_sem, Bool.not_eq_true', Bool.not_eq_false']; rfl) (fit_of (by simp only [go_sem, Bool.not_eq_true', Bool.not_eq_false']) (by simp only [go_sem, Bool.not_eq_true', Bool.not_eq_false']) (by simp only [go_sem, Bool.not_eq_true', Bool.not_eq_false']) (by simp only [go_sem, Bool.not_eq_true', Bool.not_eq_false']) (by simp only [go_sem, Bool.not_eq_true', Bool.not_eq_false']) (by simp only [go_sem, Bool.not_eq_true', Bool.not_eq_false']) (by simp only [go_sem, Bool.not_eq_true', Bool.not_eq_false'])) ?_; simp only [go_sem, Bool.not_eq_true', Bool.not_eq_false'])
  (refine swp_seqW ?_; simp only [go_sem, Bool.not_eq_true', Bool.not_eq_false'])
  (refine acall2 [] (rof15) (by simp only [go_sem, Bool.not_eq_true', Bool.not_eq_false']; rfl) (fit_of (by simp only [go_sem, Bool.not_eq_true', Bool.not_eq_false']) (by simp only [go_sem, Bool.not_eq_true', Bool.not_eq_false']) (by simp only [go_sem, Bool.not_eq_true', Bool.not_eq_false']) (by simp only [go_sem, Bool.not_eq_true', Bool.not_eq_false']) (by simp only [go_sem, Bool.not_eq_true', Bool.not_eq_false']) (by simp only [go_sem, Bool.not_eq_true', Bool.not_eq_false']) (by simp only [go_sem, Bool.not_eq_true', Bool.not_eq_false'])) ?_; simp only [go_sem, Bool.not_eq_true', Bool.not_eq_false'])
  (refine swp_seqW ?_; simp only [go_sem, Bool.not_eq_true', Bool.not_eq_false'])
  (refine acallF2 [88 ] [] ( win15 0 0 2 (by kernel_rfl)) (by simp only [go_sem, Bool.not_eq_true', Bool.not_eq_false']; rfl) (fit_of (by simp only [go_sem, Bool.not_eq_true', Bool.not_eq_false']) (by simp only [go_sem, Bool.not_eq_true', Bool.not_eq_false']) (by simp only [go_sem, Bool.not_eq_true', Bool.not_eq_false']) (by simp only [go_sem, Bool.not_eq_true', Bool.not_eq_false']) (by simp only [go_sem, Bool.not_eq_true', Bool.not_eq_false']) (by simp only [go_sem, Bool.not_eq_true', Bool.not_eq_false']) (by simp only [go_sem, Bool.not_eq_true', Bool.not_eq_false'])) ?_; simp only [go_sem, Bool.not_eq_true', Bool.not_eq_false'])
  (refine swp_seqW ?_; simp only [go_sem, Bool.not_eq_true', Bool.not_eq_false'])
  (refine acall2 [] (win15 2 2 3 (by kernel_rfl)) (by simp only [go_sem, Bool.not_eq_true', Bool.not_eq_false']; rfl) (fit_of (by simp only [go_sem, Bool.not_eq_true', Bool.not_eq_false']) (by simp only [go_sem, Bool.not_eq_true', Bool.not_eq_false']) (by simp only [go_sem, Bool.not_eq_true', Bool.not_eq_false']) (by simp only [go_sem, Bool.not_eq_true', Bool.not_eq_false']) (by simp only [go_sem, Bool.not_eq_true', Bool.not_eq_false']) (by simp only [go_sem, Bool.not_eq_true', Bool.not_eq_false']) (by simp only [go_sem, Bool.not_eq_true', Bool.not_eq_false'])) ?_; simp only [go_sem, Bool.not_eq_true', Bool.not_eq_false'])
  (refine swp_seqW ?_; simp only [go_sem, Bool.not_eq_true', Bool.not_eq_false'])
  (refine acall2 [] (win15 4 0 0 (by kernel_rfl)) (by simp only [go_sem, Bool.not_eq_true', Bool.not_eq_false']; rfl) (fit_of (by simp only [go_sem, Bool.not_eq_true', Bool.not_eq_false']) (by simp only [go_sem, Bool.not_eq_true', Bool.not_eq_false']) (by simp only [go_sem, Bool.not_eq_true', Bool.not_eq_false']) (by simp only [go_sem, Bool.not_eq_true', Bool.not_eq_false']) (by simp only [go_sem, Bool.not_eq_true', Bool.not_eq_false']) (by simp only [go_sem, Bool.not_eq_true', Bool.not_eq_false']) (by simp only [go_sem, Bool.not_eq_true', Bool.not_eq_false'])) ?_; simp only [go_sem, Bool.not_eq_true', Bool.not_eq_false'])
  (refine swp_lastW ?_; simp only [go_sem, Bool.not_eq_true', Bool.not_eq_false', Int.reduceToNat, Int.reduceLT, Int.reduceLE, Int.reduceEq, Int.reduceAdd, Int.reduceSub, Int.reduceMul, Int.reduceNeg, Int.reduceNe, decide_false, Int.cast_ofNat_Int, kSet, List.getElem?_cons_succ, List.getElem?_cons_zero, List.set_cons_succ, List.set_cons_zero, exists_eq_left', forall_const, true_implies])
  (refine acall2 [] (bot15 1 25 (by kernel_rfl)) (by simp only [go_sem, Bool.not_eq_true', Bool.not_eq_false']; rfl) (fit_of (by simp only [go_sem, Bool.not_eq_true', Bool.not_eq_false']) (by simp only [go_sem, Bool.not_eq_true', Bool.not_eq_false']) (by simp only [go_sem, Bool.not_eq_true', Bool.not_eq_false']) (by simp only [go_sem, Bool.not_eq_true', Bool.not_eq_false']) (by simp only [go_sem, Bool.not_eq_true', Bool.not_eq_false']) (by simp only [go_sem, Bool.not_eq_true', Bool.not_eq_false']) (by simp only [go_sem, Bool.not_eq_true', Bool.not_eq_false'])) ?_; simp only [go_sem, Bool.not_eq_true', Bool.not_eq_false', Int.reduceToNat, Int.reduceLT, Int.reduceLE, Int.reduceEq, Int.reduceAdd, Int.reduceSub, Int.reduceMul, Int.reduceNeg, Int.reduceNe, decide_false, Int.cast_ofNat_Int, kSet, List.getElem?_cons_succ, List.getElem?_cons_zero, List.set_cons_succ, List.set_cons_zero, exists_eq_left', forall_const, true_implies])
  (refine acall2 [] (gap15 0 5 (by kernel_rfl)) (by simp only [go_sem, Bool.not_eq_true', Bool.not_eq_false']; rfl) (fit_of (by simp only [go_sem, Bool.not_eq_true', Bool.not_eq_false']) (by simp only [go_sem, Bool.not_eq_true', Bool.not_eq_false']) (by simp only [go_sem, Bool.not_eq_true', Bool.not_eq_false']) (by simp only [go_sem, Bool.not_eq_true', Bool.not_eq_false']) (by simp only [go_sem, Bool.not_eq_true', Bool.not_eq_false']) (by simp only [go_sem, Bool.not_eq_true', Bool.not_eq_false']) (by simp only [go_sem, Bool.not_eq_true', Bool.not_eq_false'])) ?_; simp only [go_sem, Bool.not_eq_true', Bool.not_eq_false', Int.reduceToNat, Int.reduceLT, Int.reduceLE, Int.reduceEq, Int.reduceAdd, Int.reduceSub, Int.reduceMul, Int.reduceNeg, Int.reduceNe, decide_false, Int.cast_ofNat_Int, kSet, List.getElem?_cons_succ, List.getElem?_cons_zero, List.set_cons_succ, List.set_cons_zero, exists_eq_left', forall_const, true_implies])
  (refine acall2 [] (gap15 1 0 (by kernel_rfl)) (by simp only [go_sem, Bool.not_eq_true', Bool.not_eq_false']; rfl) (fit_of (by simp only [go_sem, Bool.not_eq_true', Bool.not_eq_false']) (by simp only [go_sem, Bool.not_eq_true', Bool.not_eq_false']) (by simp only [go_sem, Bool.not_eq_true', Bool.not_eq_false']) (by simp only [go_sem, Bool.not_eq_true', Bool.not_eq_false']) (by simp only [go_sem, Bool.not_eq_true', Bool.not_eq_false']) (by simp only [go_sem, Bool.not_eq_true', Bool.not_eq_false']) (by simp only [go_sem, Bool.not_eq_true', Bool.not_eq_false'])) ?_; simp only [go_sem, Bool.not_eq_true', Bool.not_eq_false', Int.reduceToNat, Int.reduceLT, Int.reduceLE, Int.reduceEq, Int.reduceAdd, Int.reduceSub, Int.reduceMul, Int.reduceNeg, Int.reduceNe, decide_false, Int.cast_ofNat_Int, kSet, List.getElem?_cons_succ, List.getElem?_cons_zero, List.set_cons_succ, List.set_cons_zero, exists_eq_left', forall_const, true_implies])
  (refine acall2 [] (gap15 2 7 (by kernel_rfl)) (by simp only [go_sem, Bool.not_eq_true', Bool.not_eq_false']; rfl) (fit_of (by simp only [go_sem, Bool.not_eq_true', Bool.not_eq_false']) (by simp only [go_sem, Bool.not_eq_true', Bool.not_eq_false']) (by simp only [go_sem, Bool.not_eq_true', Bool.not_eq_false']) (by simp only [go_sem, Bool.not_eq_true', Bool.not_eq_false']) (by simp only [go_sem, Bool.not_eq_true', Bool.not_eq_false']) (by simp only [go_sem, Bool.not_eq_true', Bool.not_eq_false']) (by simp only [go_sem, Bool.not_eq_true', Bool.not_eq_false'])) ?_; simp only [go_sem, Bool.not_eq_true', Bool.not_eq_false', Int.reduceToNat, Int.reduceLT, Int.reduceLE, Int.reduceEq, Int.reduceAdd, Int.reduceSub, Int.reduceMul, Int.reduceNeg, Int.reduceNe, decide_false, Int.cast_ofNat_Int, kSet, List.getElem?_cons_succ, List.getElem?_cons_zero, List.set_cons_succ, List.set_cons_zero, exists_eq_left', forall_const, true_implies])
  (refine acall2 [] (ofs15 0 2 27 (by kernel_rfl)) (by simp only [go_sem, Bool.not_eq_true', Bool.not_eq_false']; rfl) (fit_of (by simp only [go_sem, Bool.not_eq_true', Bool.not_eq_false']) (by simp only [go_sem, Bool.not_eq_true', Bool.not_eq_false']) (by simp only [go_sem, Bool.not_eq_true', Bool.not_eq_false']) (by simp only [go_sem, Bool.not_eq_true', Bool.not_eq_false']) (by simp only [go_sem, Bool.not_eq_true', Bool.not_eq_false']) (by simp only [go_sem, Bool.not_eq_true', Bool.not_eq_false']) (by simp only [go_sem, Bool.not_eq_true', Bool.not_eq_false'])) ?_; simp only [go_sem, Bool.not_eq_true', Bool.not_eq_false', Int.reduceToNat, Int.reduceLT, Int.reduceLE, Int.reduceEq, Int.reduceAdd, Int.reduceSub, Int.reduceMul, Int.reduceNeg, Int.reduceNe, decide_false, Int.cast_ofNat_Int, kSet, List.getElem?_cons_succ, List.getElem?_cons_zero, List.set_cons_succ, List.set_cons_zero, exists_eq_left', forall_const, true_implies])
  (refine acall2 [] (hig15 0 2 20 (by kernel_rfl)) (by simp only [go_sem, Bool.not_eq_true', Bool.not_eq_false']; rfl) (fit_of (by simp only [go_sem, Bool.not_eq_true', Bool.not_eq_false']) (by simp only [go_sem, Bool.not_eq_true', Bool.not_eq_false']) (by simp only [go_sem, Bool.not_eq_true', Bool.not_eq_false']) (by simp only [go_sem, Bool.not_eq_true', Bool.not_eq_false']) (by simp only [go_sem, Bool.not_eq_true', Bool.not_eq_false']) (by simp only [go_sem, Bool.not_eq_true', Bool.not_eq_false']) (by simp only [go_sem, Bool.not_eq_true', Bool.not_eq_false'])) ?_; simp only [go_sem, Bool.not_eq_true', Bool.not_eq_false', Int.reduceToNat, Int.reduceLT, Int.reduceLE, Int.reduceEq, Int.reduceAdd, Int.reduceSub, Int.reduceMul, Int.reduceNeg, Int.reduceNe, decide_false, Int.cast_ofNat_Int, kSet, List.getElem?_cons_succ, List.getElem?_cons_zero, List.set_cons_succ, List.set_cons_zero, exists_eq_left', forall_const, true_implies])
  (refine acall2 [] (hig15 1 3 25 (by kernel_rfl)) (by simp only [go_sem, Bool.not_eq_true', Bool.not_eq_false']; rfl) (fit_of (by simp only [go_sem, Bool.not_eq_true', Bool.not_eq_false']) (by simp only [go_sem, Bool.not_eq_true', Bool.not_eq_false']) (by simp only [go_sem, Bool.not_eq_true', Bool.not_eq_false']) (by simp only [go_sem, Bool.not_eq_true', Bool.not_eq_false']) (by simp only [go_sem, Bool.not_eq_true', Bool.not_eq_false']) (by simp only [go_sem, Bool.not_eq_true', Bool.not_eq_false']) (by simp only [go_sem, Bool.not_eq_true', Bool.not_eq_false'])) ?_; simp only [go_sem, Bool.not_eq_true', Bool.not_eq_false', Int.reduceToNat, Int.reduceLT, Int.reduceLE, Int.reduceEq, Int.reduceAdd, Int.reduceSub, Int.reduceMul, Int.reduceNeg, Int.reduceNe, decide_false, Int.cast_ofNat_Int, kSet, List.getElem?_cons_succ, List.getElem?_cons_zero, List.set_cons_succ, List.set_cons_zero, exists_eq_left', forall_const, true_implies])
end Go.Proofs.Ytblmebjhhanoaaa
/- CHAPTER 14: the law FlowGalleys. -/
/- G -/
/- BOOLS -/
set_option linter.unusedSimpArgs false
set_option linter.unusedVariables false
namespace Go.Proofs.Ytblmebjhhanoaaa
open Go.RowKit

def lonB (l : List LNo) : Bool := decide (60 < l.length) || l.any (fun x => decide (60 < x.words.length))
theorem lon_no {l : List LNo} (h : lonB l = false) : l.length ≤ 60 ∧ ∀ x ∈ l, x.words.length ≤ 60 := by
  unfold lonB at h
  rw [Bool.or_eq_false_iff, decide_eq_false_iff_not, List.any_eq_false] at h
  exact ⟨by omega, fun x hx => by have := h.2 x hx; simp only [decide_eq_true_eq] at this; omega⟩
theorem lon_pcs {l : List LNo} (h : ∀ x ∈ l, x.words.length ≤ 60) : ∀ k : Nat, k ≤ l.length → psN l k ≤ 60 * (k : Int)
  | 0, _ => by rw [psN_zero]; omega
  | k + 1, hk => by
    have h1 := lon_pcs h k (by omega)
    have h2 := psN_succ (l := l) (k := k) (by omega)
    have h3 := h l[k] (List.getElem_mem (by omega))
    have h4 : pcsN (ndN l k) ≤ 60 := by
      rw [ndN_get (by omega)]
      unfold pcsN
      split
      · omega
      · split <;> omega
    omega
theorem lon_pall {l : List LNo} (h : l.length ≤ 60 ∧ ∀ x ∈ l, x.words.length ≤ 60) : pall l ≤ 9223372036854775807 := by
  have := lon_pcs h.2 l.length (Nat.le_refl _)
  unfold pall
  omega
set_option maxRecDepth 100000 in
set_option maxHeartbeats 4000000 in
theorem long_ok (l : List LNo) (hw : ∀ x ∈ l, x.words.length ≤ 9223372036854775807) : FnOk Try.prog 7 [.sl 20 (l.map cNo)] [] (.raw (.bool (lonB l))) [] := by
  refine fn_of_swp Try.func7 rfl (by kernel_rfl) (by kernel_rfl) (Nat.le_of_ble_eq_true rfl) Try.results7 ?_
  (refine swp_seqW ?_; simp only [go_sem, Bool.not_eq_true', Bool.not_eq_false'])
  (refine swp_seqW ?_; simp only [go_sem, Bool.not_eq_true', Bool.not_eq_false', List.length_map])
  refine ⟨fun h1 => ?_, fun h1 => ?_⟩
  · have e : lonB l = true := by unfold lonB; rw [decide_eq_true (by omega)]; rfl
    rw [e]
  have e0 : decide (60 < l.length) = false := decide_eq_false (by omega)
  refine swp_cutS (fun _ : Unit => ⟨[], [], none⟩) (fun _ => lonB l = false) 120 ?_ ?_
  · (refine swp_seqW ?_; simp only [go_sem, Bool.not_eq_true', Bool.not_eq_false'])
    refine swp_block ?_
    refine swp_loop2 [] (fun k : Nat => ⟨[(0, .sl 20 (l.map cNo)), (3, .raw (.int .i64 k))], [], none⟩) (fun k => k ≤ l.length ∧ ∀ i (h : i < l.length), i < k → l[i].words.length ≤ 60) (fun k => l.length - k) 120 0 (by simp only [go_sem, Bool.not_eq_true', Bool.not_eq_false']; rfl) (by simp only [go_sem, Bool.not_eq_true', Bool.not_eq_false']) ?_ ?_
    · exact ⟨Nat.zero_le _, fun i _ h => absurd h (Nat.not_lt_zero _)⟩
    rintro k ⟨h2, h3⟩
    (refine swp_seqW ?_; simp only [go_sem, Bool.not_eq_true', Bool.not_eq_false', List.length_map])
    refine ⟨fun h5 => ?_, fun h5 => ?_⟩
    · have hk : k < l.length := by omega
      refine swp_seqS ?_
      refine swp_block ?_
      (refine swp_seqW ?_; simp only [go_sem, Bool.not_eq_true', Bool.not_eq_false', List.length_map])
      refine ⟨by omega, ex_get hk ?_⟩
      (refine swp_condW ?_; simp only [go_sem, Bool.not_eq_true', Bool.not_eq_false'])
      refine ⟨fun h6 => ?_, fun h6 => ?_⟩
      · have e : lonB l = true := by
          unfold lonB
          rw [e0, Bool.false_or, List.any_eq_true]
          exact ⟨_, List.getElem_mem hk, by rw [decide_eq_true_eq]; omega⟩
        rw [e]
        (refine swp_lastW ?_; simp only [go_sem, Bool.not_eq_true', Bool.not_eq_false'])
      · (refine swp_lastW ?_; simp only [go_sem, Bool.not_eq_true', Bool.not_eq_false'])
        (refine swp_lastW ?_; simp only [go_sem, Bool.not_eq_true', Bool.not_eq_false'])
        refine ⟨by omega, ?_⟩
        (refine loop_end [] (k + 1) (by simp only [go_sem, Bool.not_eq_true', Bool.not_eq_false']; rfl) ?_ ?_ ?_; (focus first | omega | (simp only; omega)); (focus (simp only [go_sem, Bool.not_eq_true', Bool.not_eq_false']; done)))
        refine ⟨hk, fun i hi h7 => ?_⟩
        rcases Nat.lt_succ_iff_lt_or_eq.1 h7 with h8 | h8
        · exact h3 i hi h8
        · subst h8; omega
    · (refine cut_end [] (()) (by simp only [go_sem, Bool.not_eq_true', Bool.not_eq_false']; rfl) ?_ ?_; (focus (simp only [go_sem, Bool.not_eq_true', Bool.not_eq_false']; done)))
      unfold lonB
      rw [e0, Bool.false_or, List.any_eq_false]
      intro x hx
      obtain ⟨i, hi, rfl⟩ := List.getElem_of_mem hx
      have := h3 i hi (by omega)
      simp only [decide_eq_true_eq]
      omega
  rintro - h
  rw [h]
  (refine swp_lastW ?_; simp only [go_sem, Bool.not_eq_true', Bool.not_eq_false'])
def aGl (g : LGal) : AV := .agg [.sl 8 (g.a.map cAt), .sl 7 (g.f.map cFl), .raw (.int .i64 g.h)]
attribute [go_sem] aGl
set_option maxRecDepth 100000 in
theorem gsame_ok (g : LGal) (ha : g.a.length ≤ 4000) (hf : g.f.length ≤ 4000) : FnOk Try.prog 25 [aGl g, aGl g] [] (.raw (.bool true)) [] := by
  refine fn_of_awp Try.func25 rfl (by kernel_rfl) (by kernel_rfl) (Nat.le_of_ble_eq_true rfl) Try.results25 ?_
  simp only [go_sem, Bool.not_eq_true', Bool.not_eq_false']
  (refine acall2 [] (same14_ok g.a g.a ha ha) (by simp only [go_sem, Bool.not_eq_true', Bool.not_eq_false']; rfl) (fit_of (by simp only [go_sem, Bool.not_eq_true', Bool.not_eq_false']) (by simp only [go_sem, Bool.not_eq_true', Bool.not_eq_false']) (by simp only [go_sem, Bool.not_eq_true', Bool.not_eq_false']) (by simp only [go_sem, Bool.not_eq_true', Bool.not_eq_false']) (by simp only [go_sem, Bool.not_eq_true', Bool.not_eq_false']) (by simp only [go_sem, Bool.not_eq_true', Bool.not_eq_false']) (by simp only [go_sem, Bool.not_eq_true', Bool.not_eq_false'])) ?_; simp only [go_sem, Bool.not_eq_true', Bool.not_eq_false'])
  (refine acall2 [] (fsame_ok g.f g.f hf hf) (by simp only [go_sem, Bool.not_eq_true', Bool.not_eq_false']; rfl) (fit_of (by simp only [go_sem, Bool.not_eq_true', Bool.not_eq_false']) (by simp only [go_sem, Bool.not_eq_true', Bool.not_eq_false']) (by simp only [go_sem, Bool.not_eq_true', Bool.not_eq_false']) (by simp only [go_sem, Bool.not_eq_true', Bool.not_eq_false']) (by simp only [go_sem, Bool.not_eq_true', Bool.not_eq_false']) (by simp only [go_sem, Bool.not_eq_true', Bool.not_eq_false']) (by simp only [go_sem, Bool.not_eq_true', Bool.not_eq_false'])) ?_; simp only [go_sem, Bool.not_eq_true', Bool.not_eq_false'])
set_option maxRecDepth 100000 in
theorem laid_ok (s : ByteArray) (l : List LNo) (g : LGal) (hr : rdS s = some l) (hl : l.length ≤ 60) (hw : ∀ x ∈ l, x.words.length ≤ 9223372036854775807) (hp : pall l ≤ 9223372036854775807) (hg : resG l 100 = g) : FnOk Try.prog 26 [.raw (.string s)] [] (aGal g 8 9) [(8, .row 41 8 (g.a.map cAt)), (9, .row 39 7 (g.f.map cFl))] := by
  have h := of14_ok l 100 hl hw hp
  rw [hg] at h
  refine fn_of_awp Try.func26 rfl (by kernel_rfl) (by kernel_rfl) (Nat.le_of_ble_eq_true rfl) Try.results26 ?_
  simp only [go_sem, Bool.not_eq_true', Bool.not_eq_false']
  (refine acall2 [] (rdS_ok s l hr) (by simp only [go_sem, Bool.not_eq_true', Bool.not_eq_false']; rfl) (fit_of (by simp only [go_sem, Bool.not_eq_true', Bool.not_eq_false']) (by simp only [go_sem, Bool.not_eq_true', Bool.not_eq_false']) (by simp only [go_sem, Bool.not_eq_true', Bool.not_eq_false']) (by simp only [go_sem, Bool.not_eq_true', Bool.not_eq_false']) (by simp only [go_sem, Bool.not_eq_true', Bool.not_eq_false']) (by simp only [go_sem, Bool.not_eq_true', Bool.not_eq_false']) (by simp only [go_sem, Bool.not_eq_true', Bool.not_eq_false'])) ?_; simp only [go_sem, Bool.not_eq_true', Bool.not_eq_false'])
  (refine acall2 [] (h) (by simp only [go_sem, Bool.not_eq_true', Bool.not_eq_false']; rfl) (fit_of (by simp only [go_sem, Bool.not_eq_true', Bool.not_eq_false']) (by simp only [go_sem, Bool.not_eq_true', Bool.not_eq_false']) (by simp only [go_sem, Bool.not_eq_true', Bool.not_eq_false']) (by simp only [go_sem, Bool.not_eq_true', Bool.not_eq_false']) (by simp only [go_sem, Bool.not_eq_true', Bool.not_eq_false']) (by simp only [go_sem, Bool.not_eq_true', Bool.not_eq_false']) (by simp only [go_sem, Bool.not_eq_true', Bool.not_eq_false'])) ?_; simp only [go_sem, Bool.not_eq_true', Bool.not_eq_false'])
  (refine ret2 [] (by simp only [go_sem, Bool.not_eq_true', Bool.not_eq_false']; rfl) ?_; simp only [go_sem, Bool.not_eq_true', Bool.not_eq_false'])
set_option maxRecDepth 100000 in
theorem line_ok (n f t x y w : Int) : FnOk Try.prog 23 [.raw (.int .i64 n), .raw (.int .i64 f), .raw (.int .i64 t), .raw (.int .i64 x), .raw (.int .i64 y), .raw (.int .i64 w)] [] (aAt ⟨1, n, f, t, x, y, w, 10⟩) [] := by
  refine fn_of_awp Try.func23 rfl (by kernel_rfl) (by kernel_rfl) (Nat.le_of_ble_eq_true rfl) Try.results23 ?_
  simp only [go_sem, Bool.not_eq_true', Bool.not_eq_false']
set_option maxRecDepth 100000 in
theorem box_ok (n x y : Int) : FnOk Try.prog 24 [.raw (.int .i64 n), .raw (.int .i64 x), .raw (.int .i64 y)] [] (aAt ⟨2, n, 0, 0, x, y, 20, 8⟩) [] := by
  refine fn_of_awp Try.func24 rfl (by kernel_rfl) (by kernel_rfl) (Nat.le_of_ble_eq_true rfl) Try.results24 ?_
  simp only [go_sem, Bool.not_eq_true', Bool.not_eq_false']
set_option maxRecDepth 100000 in
set_option maxHeartbeats 8000000 in
theorem awake14_ok : FnOk Try.prog 8 [] [] (.raw (.bool true)) [] := by
  have l15 := laid_ok scr15 nds15 _ rd15 (Nat.le_of_ble_eq_true rfl) w15 (of_decide_eq_true (by kernel_rfl)) gal15
  have l14b := laid_ok scr14b nds14b _ rd14b (Nat.le_of_ble_eq_true rfl) w14b (of_decide_eq_true (by kernel_rfl)) gal14b
  have l14c := laid_ok scr14c nds14c _ rd14c (Nat.le_of_ble_eq_true rfl) w14c (of_decide_eq_true (by kernel_rfl)) gal14c
  have g15 := gsame_ok ⟨ats15, [], 40⟩ (Nat.le_of_ble_eq_true rfl) (Nat.le_of_ble_eq_true rfl)
  have g14b := gsame_ok ⟨ats14b, fls14b, 25⟩ (Nat.le_of_ble_eq_true rfl) (Nat.le_of_ble_eq_true rfl)
  have g14c := gsame_ok ⟨ats14c, fls14c, 33⟩ (Nat.le_of_ble_eq_true rfl) (Nat.le_of_ble_eq_true rfl)
  unfold scr15 at l15
  unfold scr14b at l14b
  unfold scr14c at l14c
  simp only [aGl, aGal, ats15, ats14b, ats14c, fls14b, fls14c, List.map_cons, List.map_nil, cAt, cFl] at l15 l14b l14c g15 g14b g14c
  refine fn_of_swp Try.func8 rfl (by kernel_rfl) (by kernel_rfl) (Nat.le_of_ble_eq_true rfl) Try.results8 ?_
  (refine swp_seqW ?_; simp only [go_sem, Bool.not_eq_true', Bool.not_eq_false'])
  (refine swp_seqW ?_; simp only [go_sem, Bool.not_eq_true', Bool.not_eq_false'])
  (refine acall2 [] (line_ok 1 0 2 0 5 62) (by simp only [go_sem, Bool.not_eq_true', Bool.not_eq_false']; rfl) (fit_of (by simp only [go_sem, Bool.not_eq_true', Bool.not_eq_false']) (by simp only [go_sem, Bool.not_eq_true', Bool.not_eq_false']) (by simp only [go_sem, Bool.not_eq_true', Bool.not_eq_false']) (by simp only [go_sem, Bool.not_eq_true', Bool.not_eq_false']) (by simp only [go_sem, Bool.not_eq_true', Bool.not_eq_false']) (by simp only [go_sem, Bool.not_eq_true', Bool.not_eq_false']) (by simp only [go_sem, Bool.not_eq_true', Bool.not_eq_false'])) ?_; simp only [go_sem, Bool.not_eq_true', Bool.not_eq_false'])
  (refine acall2 [] (line_ok 1 2 3 0 15 50) (by simp only [go_sem, Bool.not_eq_true', Bool.not_eq_false']; rfl) (fit_of (by simp only [go_sem, Bool.not_eq_true', Bool.not_eq_false']) (by simp only [go_sem, Bool.not_eq_true', Bool.not_eq_false']) (by simp only [go_sem, Bool.not_eq_true', Bool.not_eq_false']) (by simp only [go_sem, Bool.not_eq_true', Bool.not_eq_false']) (by simp only [go_sem, Bool.not_eq_true', Bool.not_eq_false']) (by simp only [go_sem, Bool.not_eq_true', Bool.not_eq_false']) (by simp only [go_sem, Bool.not_eq_true', Bool.not_eq_false'])) ?_; simp only [go_sem, Bool.not_eq_true', Bool.not_eq_false'])
  (refine acall2 [] (box_ok 3 0 32) (by simp only [go_sem, Bool.not_eq_true', Bool.not_eq_false']; rfl) (fit_of (by simp only [go_sem, Bool.not_eq_true', Bool.not_eq_false']) (by simp only [go_sem, Bool.not_eq_true', Bool.not_eq_false']) (by simp only [go_sem, Bool.not_eq_true', Bool.not_eq_false']) (by simp only [go_sem, Bool.not_eq_true', Bool.not_eq_false']) (by simp only [go_sem, Bool.not_eq_true', Bool.not_eq_false']) (by simp only [go_sem, Bool.not_eq_true', Bool.not_eq_false']) (by simp only [go_sem, Bool.not_eq_true', Bool.not_eq_false'])) ?_; simp only [go_sem, Bool.not_eq_true', Bool.not_eq_false'])
  (refine swp_seqW ?_; simp only [go_sem, Bool.not_eq_true', Bool.not_eq_false'])
  (refine acall2 [] (line_ok 1 0 2 30 0 62) (by simp only [go_sem, Bool.not_eq_true', Bool.not_eq_false']; rfl) (fit_of (by simp only [go_sem, Bool.not_eq_true', Bool.not_eq_false']) (by simp only [go_sem, Bool.not_eq_true', Bool.not_eq_false']) (by simp only [go_sem, Bool.not_eq_true', Bool.not_eq_false']) (by simp only [go_sem, Bool.not_eq_true', Bool.not_eq_false']) (by simp only [go_sem, Bool.not_eq_true', Bool.not_eq_false']) (by simp only [go_sem, Bool.not_eq_true', Bool.not_eq_false']) (by simp only [go_sem, Bool.not_eq_true', Bool.not_eq_false'])) ?_; simp only [go_sem, Bool.not_eq_true', Bool.not_eq_false'])
  (refine acall2 [] (line_ok 1 2 3 30 10 50) (by simp only [go_sem, Bool.not_eq_true', Bool.not_eq_false']; rfl) (fit_of (by simp only [go_sem, Bool.not_eq_true', Bool.not_eq_false']) (by simp only [go_sem, Bool.not_eq_true', Bool.not_eq_false']) (by simp only [go_sem, Bool.not_eq_true', Bool.not_eq_false']) (by simp only [go_sem, Bool.not_eq_true', Bool.not_eq_false']) (by simp only [go_sem, Bool.not_eq_true', Bool.not_eq_false']) (by simp only [go_sem, Bool.not_eq_true', Bool.not_eq_false']) (by simp only [go_sem, Bool.not_eq_true', Bool.not_eq_false'])) ?_; simp only [go_sem, Bool.not_eq_true', Bool.not_eq_false'])
  (refine swp_seqW ?_; simp only [go_sem, Bool.not_eq_true', Bool.not_eq_false'])
  (refine acall2 [] (box_ok 2 10 25) (by simp only [go_sem, Bool.not_eq_true', Bool.not_eq_false']; rfl) (fit_of (by simp only [go_sem, Bool.not_eq_true', Bool.not_eq_false']) (by simp only [go_sem, Bool.not_eq_true', Bool.not_eq_false']) (by simp only [go_sem, Bool.not_eq_true', Bool.not_eq_false']) (by simp only [go_sem, Bool.not_eq_true', Bool.not_eq_false']) (by simp only [go_sem, Bool.not_eq_true', Bool.not_eq_false']) (by simp only [go_sem, Bool.not_eq_true', Bool.not_eq_false']) (by simp only [go_sem, Bool.not_eq_true', Bool.not_eq_false'])) ?_; simp only [go_sem, Bool.not_eq_true', Bool.not_eq_false'])
  (refine swp_lastW ?_; simp only [go_sem, Bool.not_eq_true', Bool.not_eq_false'])
  (refine acall2 [] (l15) (by simp only [go_sem, Bool.not_eq_true', Bool.not_eq_false']; rfl) (fit_of (by simp only [go_sem, Bool.not_eq_true', Bool.not_eq_false']) (by simp only [go_sem, Bool.not_eq_true', Bool.not_eq_false']) (by simp only [go_sem, Bool.not_eq_true', Bool.not_eq_false']) (by simp only [go_sem, Bool.not_eq_true', Bool.not_eq_false']) (by simp only [go_sem, Bool.not_eq_true', Bool.not_eq_false']) (by simp only [go_sem, Bool.not_eq_true', Bool.not_eq_false']) (by simp only [go_sem, Bool.not_eq_true', Bool.not_eq_false'])) ?_; simp only [go_sem, Bool.not_eq_true', Bool.not_eq_false'])
  (refine acallF2 [192, 193, 40, 48 ] [] ( g15) (by simp only [go_sem, Bool.not_eq_true', Bool.not_eq_false']; rfl) (fit_of (by simp only [go_sem, Bool.not_eq_true', Bool.not_eq_false']) (by simp only [go_sem, Bool.not_eq_true', Bool.not_eq_false']) (by simp only [go_sem, Bool.not_eq_true', Bool.not_eq_false']) (by simp only [go_sem, Bool.not_eq_true', Bool.not_eq_false']) (by simp only [go_sem, Bool.not_eq_true', Bool.not_eq_false']) (by simp only [go_sem, Bool.not_eq_true', Bool.not_eq_false']) (by simp only [go_sem, Bool.not_eq_true', Bool.not_eq_false'])) ?_; simp only [go_sem, Bool.not_eq_true', Bool.not_eq_false'])
  (refine acall2 [] (l14b) (by simp only [go_sem, Bool.not_eq_true', Bool.not_eq_false']; rfl) (fit_of (by simp only [go_sem, Bool.not_eq_true', Bool.not_eq_false']) (by simp only [go_sem, Bool.not_eq_true', Bool.not_eq_false']) (by simp only [go_sem, Bool.not_eq_true', Bool.not_eq_false']) (by simp only [go_sem, Bool.not_eq_true', Bool.not_eq_false']) (by simp only [go_sem, Bool.not_eq_true', Bool.not_eq_false']) (by simp only [go_sem, Bool.not_eq_true', Bool.not_eq_false']) (by simp only [go_sem, Bool.not_eq_true', Bool.not_eq_false'])) ?_; simp only [go_sem, Bool.not_eq_true', Bool.not_eq_false'])
  (refine acallF2 [224, 225, 88, 104 ] [] ( g14b) (by simp only [go_sem, Bool.not_eq_true', Bool.not_eq_false']; rfl) (fit_of (by simp only [go_sem, Bool.not_eq_true', Bool.not_eq_false']) (by simp only [go_sem, Bool.not_eq_true', Bool.not_eq_false']) (by simp only [go_sem, Bool.not_eq_true', Bool.not_eq_false']) (by simp only [go_sem, Bool.not_eq_true', Bool.not_eq_false']) (by simp only [go_sem, Bool.not_eq_true', Bool.not_eq_false']) (by simp only [go_sem, Bool.not_eq_true', Bool.not_eq_false']) (by simp only [go_sem, Bool.not_eq_true', Bool.not_eq_false'])) ?_; simp only [go_sem, Bool.not_eq_true', Bool.not_eq_false'])
  (refine acall2 [] (l14c) (by simp only [go_sem, Bool.not_eq_true', Bool.not_eq_false']; rfl) (fit_of (by simp only [go_sem, Bool.not_eq_true', Bool.not_eq_false']) (by simp only [go_sem, Bool.not_eq_true', Bool.not_eq_false']) (by simp only [go_sem, Bool.not_eq_true', Bool.not_eq_false']) (by simp only [go_sem, Bool.not_eq_true', Bool.not_eq_false']) (by simp only [go_sem, Bool.not_eq_true', Bool.not_eq_false']) (by simp only [go_sem, Bool.not_eq_true', Bool.not_eq_false']) (by simp only [go_sem, Bool.not_eq_true', Bool.not_eq_false'])) ?_; simp only [go_sem, Bool.not_eq_true', Bool.not_eq_false'])
  (refine acallF2 [264, 265, 144, 160 ] [] ( g14c) (by simp only [go_sem, Bool.not_eq_true', Bool.not_eq_false']; rfl) (fit_of (by simp only [go_sem, Bool.not_eq_true', Bool.not_eq_false']) (by simp only [go_sem, Bool.not_eq_true', Bool.not_eq_false']) (by simp only [go_sem, Bool.not_eq_true', Bool.not_eq_false']) (by simp only [go_sem, Bool.not_eq_true', Bool.not_eq_false']) (by simp only [go_sem, Bool.not_eq_true', Bool.not_eq_false']) (by simp only [go_sem, Bool.not_eq_true', Bool.not_eq_false']) (by simp only [go_sem, Bool.not_eq_true', Bool.not_eq_false'])) ?_; simp only [go_sem, Bool.not_eq_true', Bool.not_eq_false'])
  repeat' first | contradiction | intro _ | refine And.intro ?_ ?_ | refine ex_get (by omega) ?_ | (show drawB _ _ = true; kernel_rfl) | (refine ret2 [] (by simp only [go_sem, Bool.not_eq_true', Bool.not_eq_false']; rfl) ?_; simp only [go_sem, Bool.not_eq_true', Bool.not_eq_false'])
end Go.Proofs.Ytblmebjhhanoaaa
/- CHAPTER 14: the law FlowOnce. -/
/- G -/
/- BOOLS -/
set_option linter.unusedSimpArgs false
set_option linter.unusedVariables false
namespace Go.Proofs.Ytblmebjhhanoaaa
open Go.RowKit

def lowK (A : List LAt) : Nat → Int
  | 0 => 0
  | k + 1 => (atA A k).y + (atA A k).h
theorem low_at {A : List LAt} {hi : Int} (h : RiseP 0 A hi) {k : Nat} (hk : k < A.length) : lowK A k ≤ A[k].y ∧ A[k].y + A[k].h ≤ hi ∧ 0 ≤ A[k].h ∧ 0 ≤ A[k].y ∧ lowK A (k + 1) = A[k].y + A[k].h := by
  obtain ⟨h1, h2, h3, h4, h5⟩ := rise_at A 0 hi h k hk
  have e : atA A k = A[k] := by unfold atA; rw [Int.toNat_natCast, List.getElem?_eq_getElem hk]; rfl
  refine ⟨?_, h3, h4, h5, by rw [lowK, e]⟩
  cases k with
  | zero => exact h1 rfl
  | succ k =>
    have e2 : atA A k = A[k]'(by omega) := by unfold atA; rw [Int.toNat_natCast, List.getElem?_eq_getElem (by omega)]; rfl
    rw [lowK, e2]
    exact h2 _ (Nat.zero_lt_succ _) (List.getElem?_eq_getElem (by omega))
def stW (l : List LNo) (w : Int) (g : LGal) (k f : Nat) (low : Int) (i : Nat) (more : List (Nat × AV)) (ob : List (Nat × Option AO)) : AS :=
  ⟨[(0, .sl 20 (l.map cNo)), (1, .raw (.int .i64 w)), (5, .hdr 800), (6, .raw (.int .i64 0)), (7, .raw (.int .i64 k)), (8, .raw (.int .i64 f)), (9, .raw (.int .i64 low)), (10, .raw (.int .i64 i))] ++ more, [(800, some (.cells 28 [.sl 8 (g.a.map cAt), .sl 7 (g.f.map cFl), .raw (.int .i64 g.h)]))] ++ ob, none⟩
attribute [go_sem] stW
theorem nF_le (l : List LNo) : ∀ i, nF l i ≤ i
  | 0 => Nat.le_refl _
  | i + 1 => by
    have := nF_le l i
    rw [nF]
    split <;> omega
theorem nF_zero (l : List LNo) : nF l 0 = 0 := rfl
theorem lowK_zero (A : List LAt) : lowK A 0 = 0 := rfl
set_option maxRecDepth 100000 in
set_option maxHeartbeats 16000000 in
theorem flowOnce_ok (l : List LNo) (w : Int) (hi : l.length ≤ 9223372036854775807 ∧ ∀ x ∈ l, x.words.length ≤ 9223372036854775807) : FnOk Try.prog 3 [.sl 20 (l.map cNo), .raw (.int .i64 w)] [] (.raw (.bool true)) [] := by
  obtain ⟨-, hw⟩ := hi
  refine fn_of_swp Try.func3 rfl (by kernel_rfl) (by kernel_rfl) (Nat.le_of_ble_eq_true rfl) Try.results3 ?_
  (refine swp_seqW ?_; simp only [go_sem, Bool.not_eq_true', Bool.not_eq_false'])
  (refine swp_seqW ?_; simp only [go_sem, Bool.not_eq_true', Bool.not_eq_false'])
  (refine acall2 [] (long_ok l hw) (by simp only [go_sem, Bool.not_eq_true', Bool.not_eq_false']; rfl) (fit_of (by simp only [go_sem, Bool.not_eq_true', Bool.not_eq_false']) (by simp only [go_sem, Bool.not_eq_true', Bool.not_eq_false']) (by simp only [go_sem, Bool.not_eq_true', Bool.not_eq_false']) (by simp only [go_sem, Bool.not_eq_true', Bool.not_eq_false']) (by simp only [go_sem, Bool.not_eq_true', Bool.not_eq_false']) (by simp only [go_sem, Bool.not_eq_true', Bool.not_eq_false']) (by simp only [go_sem, Bool.not_eq_true', Bool.not_eq_false'])) ?_; simp only [go_sem, Bool.not_eq_true', Bool.not_eq_false'])
  refine ⟨fun h1 => ?_, fun h1 => ?_⟩
  · (refine acall2 [] (awake14_ok) (by simp only [go_sem, Bool.not_eq_true', Bool.not_eq_false']; rfl) (fit_of (by simp only [go_sem, Bool.not_eq_true', Bool.not_eq_false']) (by simp only [go_sem, Bool.not_eq_true', Bool.not_eq_false']) (by simp only [go_sem, Bool.not_eq_true', Bool.not_eq_false']) (by simp only [go_sem, Bool.not_eq_true', Bool.not_eq_false']) (by simp only [go_sem, Bool.not_eq_true', Bool.not_eq_false']) (by simp only [go_sem, Bool.not_eq_true', Bool.not_eq_false']) (by simp only [go_sem, Bool.not_eq_true', Bool.not_eq_false'])) ?_; simp only [go_sem, Bool.not_eq_true', Bool.not_eq_false'])
  have hn := lon_no h1
  have hp := lon_pall hn
  have hl := hn.1
  obtain ⟨r1, r2, r3, r4⟩ := res_len (w := w) hl
  (refine swp_seqW ?_; simp only [go_sem, Bool.not_eq_true', Bool.not_eq_false'])
  (refine acall2 [] (of14_ok l w hl hw hp) (by simp only [go_sem, Bool.not_eq_true', Bool.not_eq_false']; rfl) (fit_of (by simp only [go_sem, Bool.not_eq_true', Bool.not_eq_false']) (by simp only [go_sem, Bool.not_eq_true', Bool.not_eq_false']) (by simp only [go_sem, Bool.not_eq_true', Bool.not_eq_false']) (by simp only [go_sem, Bool.not_eq_true', Bool.not_eq_false']) (by simp only [go_sem, Bool.not_eq_true', Bool.not_eq_false']) (by simp only [go_sem, Bool.not_eq_true', Bool.not_eq_false']) (by simp only [go_sem, Bool.not_eq_true', Bool.not_eq_false'])) ?_; simp only [go_sem, Bool.not_eq_true', Bool.not_eq_false'])
  by_cases he : errG l w = 0
  rotate_left
  · have e2 : resG l w = ⟨[], [], 0⟩ := by unfold resG; rw [if_neg he]
    have hck : 1 ≤ w ∧ w ≤ 1099511627776 → chkN l ≠ 0 := fun q => by
      have : errG l w = chkN l := if_pos q
      rw [← this]; exact he
    have he4 : ¬ (1 ≤ w ∧ w ≤ 1099511627776) → errG l w = 4 := fun q => if_neg q
    rw [e2]
    (refine swp_seqW ?_; simp only [go_sem, Bool.not_eq_true', Bool.not_eq_false', List.map_nil, List.length_nil])
    repeat' first | contradiction | intro _ | refine And.intro ?_ ?_ | refine ex_get (by omega) ?_ | (show drawB _ _ = true; kernel_rfl) | (refine ret2 [] (by simp only [go_sem, Bool.not_eq_true', Bool.not_eq_false']; rfl) ?_; simp only [go_sem, Bool.not_eq_true', Bool.not_eq_false']) | (refine acall2 [] (check6_ok l (by omega) hw hp) (by simp only [go_sem, Bool.not_eq_true', Bool.not_eq_false']; rfl) (fit_of (by simp only [go_sem, Bool.not_eq_true', Bool.not_eq_false']) (by simp only [go_sem, Bool.not_eq_true', Bool.not_eq_false']) (by simp only [go_sem, Bool.not_eq_true', Bool.not_eq_false']) (by simp only [go_sem, Bool.not_eq_true', Bool.not_eq_false']) (by simp only [go_sem, Bool.not_eq_true', Bool.not_eq_false']) (by simp only [go_sem, Bool.not_eq_true', Bool.not_eq_false']) (by simp only [go_sem, Bool.not_eq_true', Bool.not_eq_false'])) ?_; simp only [go_sem, Bool.not_eq_true', Bool.not_eq_false']) | (refine acall2 [] (awake14_ok) (by simp only [go_sem, Bool.not_eq_true', Bool.not_eq_false']; rfl) (fit_of (by simp only [go_sem, Bool.not_eq_true', Bool.not_eq_false']) (by simp only [go_sem, Bool.not_eq_true', Bool.not_eq_false']) (by simp only [go_sem, Bool.not_eq_true', Bool.not_eq_false']) (by simp only [go_sem, Bool.not_eq_true', Bool.not_eq_false']) (by simp only [go_sem, Bool.not_eq_true', Bool.not_eq_false']) (by simp only [go_sem, Bool.not_eq_true', Bool.not_eq_false']) (by simp only [go_sem, Bool.not_eq_true', Bool.not_eq_false'])) ?_; simp only [go_sem, Bool.not_eq_true', Bool.not_eq_false'])
    all_goals first
      | omega
      | skip
  obtain ⟨ss, hO⟩ := res_once hl he
  have hP := errG_ok hl he
  generalize hg : resG l w = g at *
  rw [he]
  (refine swp_seqW ?_; simp only [go_sem, Bool.not_eq_true', Bool.not_eq_false'])
  (refine swp_seqW ?_; simp only [go_sem, Bool.not_eq_true', Bool.not_eq_false'])
  have hna : nA ss l.length = g.a.length := by rw [← hO.len, nA_all, ← hO.flat]
  have hnf := hO.fl
  refine swp_cutS (fun _ : Unit => stW l w g g.a.length g.f.length (lowK g.a (nA ss l.length)) l.length [] []) (fun _ => True) 120 ?_ ?_
  · (refine swp_seqW ?_; simp only [go_sem, Bool.not_eq_true', Bool.not_eq_false'])
    refine swp_block ?_
    refine swp_loop2 [48, 49 ]  (fun i : Nat => stW l w g (nA ss i) (nF l i) (lowK g.a (nA ss i)) i [] []) (fun i => i ≤ l.length) (fun i => l.length - i) 120 0 (by simp only [go_sem, Bool.not_eq_true', Bool.not_eq_false']; rfl) (by simp only [go_sem, Bool.not_eq_true', Bool.not_eq_false', nA_zero, nF_zero, lowK_zero]) ?_ ?_
    · exact Nat.zero_le _
    intro i hi
    (refine swp_seqW ?_; simp only [go_sem, Bool.not_eq_true', Bool.not_eq_false', List.length_map])
    refine ⟨fun h5 => ?_, fun h5 => ?_⟩
    rotate_left
    · obtain rfl : i = l.length := by omega
      rw [hna, ← hnf]
      (refine cut_end [] (()) (by simp only [go_sem, Bool.not_eq_true', Bool.not_eq_false']; rfl) ?_ ?_; (focus (simp only [go_sem, Bool.not_eq_true', Bool.not_eq_false']; done)))
      trivial
    have hil : i < l.length := by omega
    have his : i < ss.length := by rw [hO.len]; exact hil
    have hnb := nod_at hP.v hil
    have hseg := hO.seg i his
    have hsu := nA_succ his
    have hmo := nA_mono (ss := ss) (i := i + 1)
    rw [← hO.flat] at hmo
    have hfl := hO.flt i hil
    have hfy := hO.fy
    have hri := hO.rise
    have hfa := fun q (hq : q < ss[i].length) => flat_at his hq
    rw [← hO.flat] at hfa
    have hnF : nF l i ≤ i := nF_le l i
    generalize hL : ss[i] = L at *
    refine swp_seqS ?_
    refine swp_block ?_
    (refine swp_seqW ?_; simp only [go_sem, Bool.not_eq_true', Bool.not_eq_false'])
    refine ⟨by omega, ex_get hil ?_⟩
    rw [← ndN_get hil]
    by_cases q4 : (ndN l i).kind = 4
    · have e4 : nF l (i + 1) = nF l i + 1 := if_pos q4
      have hL0 : L = [] := by
        unfold SegC at hseg
        rw [if_neg (by omega), if_neg (by omega)] at hseg
        exact hseg
      have eA : nA ss (i + 1) = nA ss i := by rw [hsu, hL0]; rfl
      obtain ⟨f, hf1, hf2⟩ := hfl q4
      have hxh := (nodB_flt hnb q4).1.h
      have hfl1 := (List.getElem?_eq_some_iff.1 hf1).1
      refine swp_seqS ?_
      (refine swp_seqW ?_; simp only [go_sem, Bool.not_eq_true', Bool.not_eq_false'])
      (refine swp_condW ?_; simp only [go_sem, Bool.not_eq_true', Bool.not_eq_false'])
      refine ⟨fun _ => ?_, fun w => absurd q4 w⟩
      refine swp_seqS ?_
      (refine swp_seqW ?_; simp only [go_sem, Bool.not_eq_true', Bool.not_eq_false', List.length_map])
      (refine swp_condW ?_; simp only [go_sem, Bool.not_eq_true', Bool.not_eq_false'])
      refine ⟨fun w => by omega, fun _ => ?_⟩
      (refine swp_lastW ?_; simp only [go_sem, Bool.not_eq_true', Bool.not_eq_false'])
      (refine swp_seqW ?_; simp only [go_sem, Bool.not_eq_true', Bool.not_eq_false', List.length_map])
      refine ⟨⟨by omega, by omega⟩, f, hf1, ?_⟩
      obtain ⟨n1, n2, n3, n4, ⟨n5, n6⟩, n7, n8⟩ := hf2
      refine swp_seqS ?_
      (refine swp_seqW ?_; simp only [go_sem, Bool.not_eq_true', Bool.not_eq_false', n1, n2, n3, n4, List.length_map])
      refine ⟨fun _ => ⟨fun _ => ⟨fun hpos => ?_, fun hpos => ?_⟩, fun w => (by omega)⟩, fun w => (by omega)⟩
      · obtain ⟨m, hm⟩ : ∃ m, nF l i = m + 1 := ⟨nF l i - 1, by omega⟩
        obtain ⟨b, hb⟩ : ∃ b, g.f[m]? = some b := ⟨_, List.getElem?_eq_getElem (by omega)⟩
        have hby := hfy m b f hb (by rw [← hm]; exact hf1)
        have em : ((nF l i : Int) - 1).toNat = m := by omega
        refine ⟨⟨by omega, by omega⟩, ⟨by omega, by omega⟩, b, by rw [em]; exact hb, fun _ => ?_, fun w => (by omega)⟩
        repeat' first | contradiction | intro _ | refine And.intro ?_ ?_ | refine ex_get (by omega) ?_ | (show drawB _ _ = true; kernel_rfl) | (refine ret2 [] (by simp only [go_sem, Bool.not_eq_true', Bool.not_eq_false']; rfl) ?_; simp only [go_sem, Bool.not_eq_true', Bool.not_eq_false'])
        all_goals try omega
        (refine swp_condW ?_; simp only [go_sem, Bool.not_eq_true', Bool.not_eq_false'])
        refine ⟨fun w => (by omega), fun _ => ?_⟩
        (refine swp_lastW ?_; simp only [go_sem, Bool.not_eq_true', Bool.not_eq_false'])
        (refine swp_lastW ?_; simp only [go_sem, Bool.not_eq_true', Bool.not_eq_false'])
        refine ⟨by omega, ?_⟩
        (refine swp_lastW ?_; simp only [go_sem, Bool.not_eq_true', Bool.not_eq_false'])
        refine ⟨by omega, ?_⟩
        (refine loop_end [] (i + 1) (by simp only [go_sem, Bool.not_eq_true', Bool.not_eq_false']; rfl) ?_ ?_ ?_; (focus first | omega | (simp only; omega)); (focus (simp only [go_sem, Bool.not_eq_true', Bool.not_eq_false', eA, e4]; done)))
        omega
      · repeat' first | contradiction | intro _ | refine And.intro ?_ ?_ | refine ex_get (by omega) ?_ | (show drawB _ _ = true; kernel_rfl) | (refine ret2 [] (by simp only [go_sem, Bool.not_eq_true', Bool.not_eq_false']; rfl) ?_; simp only [go_sem, Bool.not_eq_true', Bool.not_eq_false'])
        all_goals try omega
        (refine swp_condW ?_; simp only [go_sem, Bool.not_eq_true', Bool.not_eq_false'])
        refine ⟨fun w => (by omega), fun _ => ?_⟩
        (refine swp_lastW ?_; simp only [go_sem, Bool.not_eq_true', Bool.not_eq_false'])
        (refine swp_lastW ?_; simp only [go_sem, Bool.not_eq_true', Bool.not_eq_false'])
        refine ⟨by omega, ?_⟩
        (refine swp_lastW ?_; simp only [go_sem, Bool.not_eq_true', Bool.not_eq_false'])
        refine ⟨by omega, ?_⟩
        (refine loop_end [] (i + 1) (by simp only [go_sem, Bool.not_eq_true', Bool.not_eq_false']; rfl) ?_ ?_ ?_; (focus first | omega | (simp only; omega)); (focus (simp only [go_sem, Bool.not_eq_true', Bool.not_eq_false', eA, e4]; done)))
        omega
    have eF : nF l (i + 1) = nF l i := if_neg q4
    refine swp_seqS ?_
    (refine swp_seqW ?_; simp only [go_sem, Bool.not_eq_true', Bool.not_eq_false'])
    (refine swp_condW ?_; simp only [go_sem, Bool.not_eq_true', Bool.not_eq_false'])
    refine ⟨fun w => absurd w q4, fun _ => ?_⟩
    (refine swp_lastW ?_; simp only [go_sem, Bool.not_eq_true', Bool.not_eq_false'])
    (refine swp_seqW ?_; simp only [go_sem, Bool.not_eq_true', Bool.not_eq_false'])
    refine swp_block ?_
    by_cases q1 : (ndN l i).kind = 1
    · have hL0 : L = [] := by
        unfold SegC at hseg
        rw [if_neg (by omega), if_neg (by omega)] at hseg
        exact hseg
      have eA : nA ss (i + 1) = nA ss i := by rw [hsu, hL0]; rfl
      refine swp_loop2 [] (fun _ : Unit => stW l w g (nA ss i) (nF l i) (lowK g.a (nA ss i)) i [(11, .hdr 801), (13, .raw (.int .i64 0))] [(801, some (.cells 37 (lNo (ndN l i))))]) (fun _ => True) (fun _ => 0) 120 () (by simp only [go_sem, Bool.not_eq_true', Bool.not_eq_false']; rfl) (by simp only [go_sem, Bool.not_eq_true', Bool.not_eq_false']) ?_ ?_
      · trivial
      rintro - -
      (refine swp_seqW ?_; simp only [go_sem, Bool.not_eq_true', Bool.not_eq_false', List.length_map])
      repeat' first | contradiction | intro _ | refine And.intro ?_ ?_ | refine ex_get (by omega) ?_ | (show drawB _ _ = true; kernel_rfl) | (refine ret2 [] (by simp only [go_sem, Bool.not_eq_true', Bool.not_eq_false']; rfl) ?_; simp only [go_sem, Bool.not_eq_true', Bool.not_eq_false'])
      all_goals try omega
      (refine swp_lastW ?_; simp only [go_sem, Bool.not_eq_true', Bool.not_eq_false'])
      refine ⟨by omega, ?_⟩
      (refine loop_end [] (i + 1) (by simp only [go_sem, Bool.not_eq_true', Bool.not_eq_false']; rfl) ?_ ?_ ?_; (focus first | omega | (simp only; omega)); (focus (simp only [go_sem, Bool.not_eq_true', Bool.not_eq_false', eA, eF]; done)))
      omega
    by_cases q3 : (ndN l i).kind = 3
    · unfold SegC at hseg
      rw [if_neg (by omega), if_pos q3] at hseg
      obtain ⟨a, hLa, a1, a2, a3, a4⟩ := hseg
      subst hLa
      have eA : nA ss (i + 1) = nA ss i + 1 := hsu
      have ha : g.a[nA ss i]? = some a := hfa 0 (by simp)
      have hka := (List.getElem?_eq_some_iff.1 ha).1
      obtain ⟨o1, o2, o3, o4, o5⟩ := low_at hri hka
      have ega : g.a[nA ss i] = a := (List.getElem?_eq_some_iff.1 ha).2
      rw [ega] at o1 o2 o3 o4 o5
      refine swp_loop2 [] (fun c : Nat => stW l w g (nA ss i + c) (nF l i) (lowK g.a (nA ss i + c)) i [(11, .hdr 801), (13, .raw (.int .i64 c))] [(801, some (.cells 37 (lNo (ndN l i))))]) (fun c => c ≤ 1) (fun c => 1 - c) 120 0 (by simp only [go_sem, Bool.not_eq_true', Bool.not_eq_false']; rfl) (by simp only [go_sem, Bool.not_eq_true', Bool.not_eq_false', Nat.add_zero]) ?_ ?_
      · exact Nat.zero_le _
      intro c hc
      rcases (by omega : c = 0 ∨ c = 1) with rfl | rfl
      · (refine swp_seqW ?_; simp only [go_sem, Bool.not_eq_true', Bool.not_eq_false', List.length_map])
        repeat' first | contradiction | intro _ | refine And.intro ?_ ?_ | refine ex_get (by omega) ?_ | (show drawB _ _ = true; kernel_rfl) | (refine ret2 [] (by simp only [go_sem, Bool.not_eq_true', Bool.not_eq_false']; rfl) ?_; simp only [go_sem, Bool.not_eq_true', Bool.not_eq_false'])
        all_goals try omega
        refine swp_block ?_
        refine swp_seqS ?_
        (refine swp_seqW ?_; simp only [go_sem, Bool.not_eq_true', Bool.not_eq_false', List.length_map, Nat.add_zero])
        (refine swp_condW ?_; simp only [go_sem, Bool.not_eq_true', Bool.not_eq_false'])
        refine ⟨fun w => (by omega), fun _ => ?_⟩
        (refine swp_lastW ?_; simp only [go_sem, Bool.not_eq_true', Bool.not_eq_false'])
        (refine swp_seqW ?_; simp only [go_sem, Bool.not_eq_true', Bool.not_eq_false', List.length_map, Nat.add_zero])
        refine ⟨⟨by omega, by omega⟩, a, ha, ?_⟩
        refine swp_seqS ?_
        (refine swp_seqW ?_; simp only [go_sem, Bool.not_eq_true', Bool.not_eq_false', a2])
        repeat' first | contradiction | intro _ | refine And.intro ?_ ?_ | refine ex_get (by omega) ?_ | (show drawB _ _ = true; kernel_rfl) | (refine ret2 [] (by simp only [go_sem, Bool.not_eq_true', Bool.not_eq_false']; rfl) ?_; simp only [go_sem, Bool.not_eq_true', Bool.not_eq_false'])
        all_goals try omega
        (refine swp_condW ?_; simp only [go_sem, Bool.not_eq_true', Bool.not_eq_false'])
        refine ⟨fun w => (by omega), fun _ => ?_⟩
        (refine swp_lastW ?_; simp only [go_sem, Bool.not_eq_true', Bool.not_eq_false'])
        refine swp_seqS ?_
        (refine swp_seqW ?_; simp only [go_sem, Bool.not_eq_true', Bool.not_eq_false'])
        (refine swp_condW ?_; simp only [go_sem, Bool.not_eq_true', Bool.not_eq_false'])
        refine ⟨fun _ => ?_, fun w => absurd q3 w⟩
        (refine swp_seqW ?_; simp only [go_sem, Bool.not_eq_true', Bool.not_eq_false'])
        (refine swp_seqW ?_; simp only [go_sem, Bool.not_eq_true', Bool.not_eq_false', a1, a3, a4])
        (refine swp_lastW ?_; simp only [go_sem, Bool.not_eq_true', Bool.not_eq_false'])
        (refine swp_seqW ?_; simp only [go_sem, Bool.not_eq_true', Bool.not_eq_false'])
        refine ⟨by omega, ?_⟩
        (refine swp_lastW ?_; simp only [go_sem, Bool.not_eq_true', Bool.not_eq_false'])
        refine ⟨by omega, ?_⟩
        (refine loop_end [] (1) (by simp only [go_sem, Bool.not_eq_true', Bool.not_eq_false']; rfl) ?_ ?_ ?_; (focus first | omega | (simp only; omega)); (focus (simp only [go_sem, Bool.not_eq_true', Bool.not_eq_false', o5, a4, Int.add_zero]; done)))
        omega
      · (refine swp_seqW ?_; simp only [go_sem, Bool.not_eq_true', Bool.not_eq_false', List.length_map])
        repeat' first | contradiction | intro _ | refine And.intro ?_ ?_ | refine ex_get (by omega) ?_ | (show drawB _ _ = true; kernel_rfl) | (refine ret2 [] (by simp only [go_sem, Bool.not_eq_true', Bool.not_eq_false']; rfl) ?_; simp only [go_sem, Bool.not_eq_true', Bool.not_eq_false'])
        all_goals try omega
        (refine swp_lastW ?_; simp only [go_sem, Bool.not_eq_true', Bool.not_eq_false'])
        refine ⟨by omega, ?_⟩
        (refine loop_end [] (i + 1) (by simp only [go_sem, Bool.not_eq_true', Bool.not_eq_false']; rfl) ?_ ?_ ?_; (focus first | omega | (simp only; omega)); (focus (simp only [go_sem, Bool.not_eq_true', Bool.not_eq_false', eA, eF]; done)))
        omega
    have q2 : (ndN l i).kind = 2 := by
      rcases nodB_kind hnb with q | q | q | q
      · exact absurd q q1
      · exact q
      · exact absurd q q3
      · exact absurd q q4
    unfold SegC at hseg
    rw [if_pos q2] at hseg
    have hwo := wor_ok hP hil rfl (nodB_txt hnb q2) q2
    have hln := (nodB_txt hnb q2).line
    have hwi := hwo.len
    refine swp_loop2 [] (fun z : KY Nat => stW l w g (nA ss i + z.k) (nF l i) (lowK g.a (nA ss i + z.k)) i [(11, .hdr 801), (13, .raw (.int .i64 z.o))] [(801, some (.cells 37 (lNo (ndN l i))))]) (fun z => z.k ≤ L.length ∧ LinC (ndN l i) i z.o (L.drop z.k)) (fun z => L.length - z.k) 120 ⟨0, 0⟩ (by simp only [go_sem, Bool.not_eq_true', Bool.not_eq_false']; rfl) (by simp only [go_sem, Bool.not_eq_true', Bool.not_eq_false', Nat.add_zero]) ?_ ?_
    · exact ⟨Nat.zero_le _, hseg⟩
    rintro ⟨c, fr⟩ ⟨c1, c2⟩
    simp only at c1 c2
    by_cases hcl : c < L.length
    · rw [List.drop_eq_getElem_cons hcl] at c2
      obtain ⟨a1, a2, a3, a4, t, a5, a6, a7, a8, a9⟩ := c2
      have ha : g.a[nA ss i + c]? = some L[c] := hfa c hcl
      have hka := (List.getElem?_eq_some_iff.1 ha).1
      obtain ⟨o1, o2, o3, o4, o5⟩ := low_at hri hka
      have ega : g.a[nA ss i + c] = L[c] := (List.getElem?_eq_some_iff.1 ha).2
      rw [ega] at o1 o2 o3 o4 o5
      generalize L[c] = a at *
      have hwd := wide_ok (ndN l i).words (ndN l i).space fr t hwo
      rw [wideF_nat a6 a7] at hwd
      (refine swp_seqW ?_; simp only [go_sem, Bool.not_eq_true', Bool.not_eq_false', List.length_map])
      repeat' first | contradiction | intro _ | refine And.intro ?_ ?_ | refine ex_get (by omega) ?_ | (show drawB _ _ = true; kernel_rfl) | (refine ret2 [] (by simp only [go_sem, Bool.not_eq_true', Bool.not_eq_false']; rfl) ?_; simp only [go_sem, Bool.not_eq_true', Bool.not_eq_false'])
      all_goals try omega
      refine swp_block ?_
      refine swp_seqS ?_
      (refine swp_seqW ?_; simp only [go_sem, Bool.not_eq_true', Bool.not_eq_false', List.length_map])
      (refine swp_condW ?_; simp only [go_sem, Bool.not_eq_true', Bool.not_eq_false'])
      refine ⟨fun w => (by omega), fun _ => ?_⟩
      (refine swp_lastW ?_; simp only [go_sem, Bool.not_eq_true', Bool.not_eq_false'])
      (refine swp_seqW ?_; simp only [go_sem, Bool.not_eq_true', Bool.not_eq_false', List.length_map])
      refine ⟨⟨by omega, by omega⟩, a, ha, ?_⟩
      refine swp_seqS ?_
      (refine swp_seqW ?_; simp only [go_sem, Bool.not_eq_true', Bool.not_eq_false', a2])
      repeat' first | contradiction | intro _ | refine And.intro ?_ ?_ | refine ex_get (by omega) ?_ | (show drawB _ _ = true; kernel_rfl) | (refine ret2 [] (by simp only [go_sem, Bool.not_eq_true', Bool.not_eq_false']; rfl) ?_; simp only [go_sem, Bool.not_eq_true', Bool.not_eq_false'])
      all_goals try omega
      (refine swp_condW ?_; simp only [go_sem, Bool.not_eq_true', Bool.not_eq_false'])
      refine ⟨fun w => (by omega), fun _ => ?_⟩
      (refine swp_lastW ?_; simp only [go_sem, Bool.not_eq_true', Bool.not_eq_false'])
      refine swp_seqS ?_
      (refine swp_seqW ?_; simp only [go_sem, Bool.not_eq_true', Bool.not_eq_false'])
      (refine swp_condW ?_; simp only [go_sem, Bool.not_eq_true', Bool.not_eq_false'])
      refine ⟨fun w => absurd w q3, fun _ => ?_⟩
      refine swp_seqS ?_
      (refine swp_seqW ?_; simp only [go_sem, Bool.not_eq_true', Bool.not_eq_false', a1, a3, a4, a5, a8])
      repeat' first | contradiction | intro _ | refine And.intro ?_ ?_ | refine ex_get (by omega) ?_ | (show drawB _ _ = true; kernel_rfl) | (refine ret2 [] (by simp only [go_sem, Bool.not_eq_true', Bool.not_eq_false']; rfl) ?_; simp only [go_sem, Bool.not_eq_true', Bool.not_eq_false']) | (refine acall2 [] (hwd) (by simp only [go_sem, Bool.not_eq_true', Bool.not_eq_false']; rfl) (fit_of (by simp only [go_sem, Bool.not_eq_true', Bool.not_eq_false']) (by simp only [go_sem, Bool.not_eq_true', Bool.not_eq_false']) (by simp only [go_sem, Bool.not_eq_true', Bool.not_eq_false']) (by simp only [go_sem, Bool.not_eq_true', Bool.not_eq_false']) (by simp only [go_sem, Bool.not_eq_true', Bool.not_eq_false']) (by simp only [go_sem, Bool.not_eq_true', Bool.not_eq_false']) (by simp only [go_sem, Bool.not_eq_true', Bool.not_eq_false'])) ?_; simp only [go_sem, Bool.not_eq_true', Bool.not_eq_false'])
      all_goals try omega
      (refine swp_condW ?_; simp only [go_sem, Bool.not_eq_true', Bool.not_eq_false'])
      (refine swp_lastW ?_; simp only [go_sem, Bool.not_eq_true', Bool.not_eq_false'])
      (refine swp_lastW ?_; simp only [go_sem, Bool.not_eq_true', Bool.not_eq_false', a5])
      (refine swp_seqW ?_; simp only [go_sem, Bool.not_eq_true', Bool.not_eq_false'])
      refine ⟨by omega, ?_⟩
      (refine swp_lastW ?_; simp only [go_sem, Bool.not_eq_true', Bool.not_eq_false'])
      refine ⟨by omega, ?_⟩
      have eC : nA ss i + (c + 1) = nA ss i + c + 1 := rfl
      (refine loop_end [] (⟨c + 1, t⟩) (by simp only [go_sem, Bool.not_eq_true', Bool.not_eq_false']; rfl) ?_ ?_ ?_; (focus first | omega | (simp only; omega)); (focus (simp only [go_sem, Bool.not_eq_true', Bool.not_eq_false', eC, o5, a4, a5, ← Int.add_assoc]; done)))
      exact ⟨hcl, a9⟩
    · have hd : L.drop c = [] := List.drop_eq_nil_of_le (by omega)
      rw [hd] at c2
      have c2 : fr = (ndN l i).words.length := c2
      have eA : nA ss (i + 1) = nA ss i + c := by omega
      (refine swp_seqW ?_; simp only [go_sem, Bool.not_eq_true', Bool.not_eq_false', List.length_map])
      repeat' first | contradiction | intro _ | refine And.intro ?_ ?_ | refine ex_get (by omega) ?_ | (show drawB _ _ = true; kernel_rfl) | (refine ret2 [] (by simp only [go_sem, Bool.not_eq_true', Bool.not_eq_false']; rfl) ?_; simp only [go_sem, Bool.not_eq_true', Bool.not_eq_false'])
      all_goals try omega
      (refine swp_lastW ?_; simp only [go_sem, Bool.not_eq_true', Bool.not_eq_false'])
      refine ⟨by omega, ?_⟩
      (refine loop_end [] (i + 1) (by simp only [go_sem, Bool.not_eq_true', Bool.not_eq_false']; rfl) ?_ ?_ ?_; (focus first | omega | (simp only; omega)); (focus (simp only [go_sem, Bool.not_eq_true', Bool.not_eq_false', eA, eF]; done)))
      omega
  rintro - -
  (refine swp_lastW ?_; simp only [go_sem, Bool.not_eq_true', Bool.not_eq_false', List.length_map])
  (refine acall2 [] (awake14_ok) (by simp only [go_sem, Bool.not_eq_true', Bool.not_eq_false']; rfl) (fit_of (by simp only [go_sem, Bool.not_eq_true', Bool.not_eq_false']) (by simp only [go_sem, Bool.not_eq_true', Bool.not_eq_false']) (by simp only [go_sem, Bool.not_eq_true', Bool.not_eq_false']) (by simp only [go_sem, Bool.not_eq_true', Bool.not_eq_false']) (by simp only [go_sem, Bool.not_eq_true', Bool.not_eq_false']) (by simp only [go_sem, Bool.not_eq_true', Bool.not_eq_false']) (by simp only [go_sem, Bool.not_eq_true', Bool.not_eq_false'])) ?_; simp only [go_sem, Bool.not_eq_true', Bool.not_eq_false'])
end Go.Proofs.Ytblmebjhhanoaaa
