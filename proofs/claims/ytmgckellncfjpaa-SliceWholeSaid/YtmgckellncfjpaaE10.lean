/- ENGINE 10: how propositions are reckoned; over any program. -/
import Derived.Test.YtmgckellncfjpaaE9
set_option linter.unusedSimpArgs false
set_option linter.unusedVariables false
namespace Go.Proofs.Ytmgckellncfjpaa
open Go.RowKit

/-- what is not looked into while a proposition is reckoned. -/
def W {α : Type} (a : α) : α := a
@[congr] theorem W_congr {α : Type} (a : α) : W a = W a := rfl

section
variable {P : Program} {D : List (Option Nat)} {K : Nat → AS → Prop} {Q : Exit → Nat → AS → Prop} {C T F : AS → Prop} {n : Nat} {S : AS} {dst : Option Nat} {ty : TypeId}
@[go_sem ↓] theorem AWP_skip : AWP P .skip Q n S = Q .normal n S := rfl
@[go_sem ↓] theorem AWP_region (id : Nat) (ops : List Oper) : AWP P (.region id ops.toArray false) Q n S = AOps P (W (ops.map (·.dst))) (W ops) (Q .normal) n S := rfl
@[go_sem ↓] theorem W_app {α : Type} (a : α) (l m : List α) : W (List.append (a :: l) m) = W (a :: List.append l m) := rfl
@[go_sem ↓] theorem W_app_nil {α : Type} (m : List α) : W (List.append [] m) = W m := rfl
@[go_sem ↓] theorem W_map_app {α β : Type} (f : α → β) (l m : List α) : W (List.map f (List.append l m)) = W (List.append (List.map f l) (List.map f m)) := by
  show W (List.map f (l ++ m)) = W (List.map f l ++ List.map f m)
  rw [List.map_append]
@[go_sem ↓] theorem AWP_draw (id : Nat) (ops : List Oper) : AWP P (.region id ops.toArray true) Q n S = (P.follows .mixedOrders = true ∧ AOps P (W (ops.map (·.dst))) (W ops) (drawK (W ops) (Q .normal)) n ⟨S.t, S.s, some []⟩) := rfl
@[go_sem] theorem drawK_eq (ops : List Oper) (t : List (Nat × AV)) (s : List (Nat × Option AO)) (lg : List (List Nat × List Nat)) : drawK ops K n ⟨t, s, some lg⟩ = (drawB ops lg = true ∧ K n ⟨t, s, none⟩) := rfl
@[go_sem ↓] theorem AWP_seq (a b : Code) : AWP P (.seq a b) Q n S = AWP P a (seqK (W (AWP P b Q)) Q) n S := rfl
@[go_sem ↓] theorem AWP_cond (c : Operand) (x y : Code) : AWP P (.cond c x y) Q n S = kCond (W (AWP P x Q n)) (W (AWP P y Q n)) S (S.val c) := rfl
@[go_sem ↓] theorem AWP_block (id : Nat) (b : Code) : AWP P (.block id b) Q n S = AWP P b (blockK id Q) n S := rfl
@[go_sem ↓] theorem AWP_loop (b : Code) : AWP P (.loop b) Q n S = ALoop (W (AWP P b)) Q S := rfl
@[go_sem ↓] theorem AWP_exit (id : Nat) : AWP P (.exit id) Q n S = Q (.exit id) n S := rfl
@[go_sem ↓] theorem AWP_ret : AWP P .ret Q n S = Q .ret n S := rfl
@[go_sem ↓] theorem seqK_normal (B : Nat → AS → Prop) : seqK (W B) Q .normal n S = B n S := rfl
@[go_sem ↓] theorem seqK_ret (B : Nat → AS → Prop) : seqK B Q .ret n S = Q .ret n S := rfl
@[go_sem ↓] theorem seqK_exit (B : Nat → AS → Prop) (i : Nat) : seqK B Q (.exit i) n S = Q (.exit i) n S := rfl
@[go_sem ↓] theorem blockK_normal (i : Nat) : blockK i Q .normal n S = Q .normal n S := rfl
@[go_sem ↓] theorem blockK_ret (i : Nat) : blockK i Q .ret n S = Q .ret n S := rfl
@[go_sem ↓] theorem blockK_exit (i j : Nat) : blockK i Q (.exit j) n S = if j = i then Q .normal n S else Q (.exit j) n S := by unfold blockK; dsimp only; split <;> rfl
@[go_sem ↓] theorem retQ_ret (rs : List ResultVar) (val : AV) (objs : List (Nat × AO)) : retQ P rs val objs .ret n S = RetOk P rs val objs S := rfl
@[go_sem ↓] theorem retQ_normal (rs : List ResultVar) (val : AV) (objs : List (Nat × AO)) : retQ P rs val objs .normal n S = RetOk P rs val objs S := rfl
@[go_sem ↓] theorem loopK_ret (I : Nat → AS → Prop) (n0 m : Nat) : loopK I n0 m Q .ret n S = Q .ret n S := rfl
@[go_sem ↓] theorem loopK_exit (I : Nat → AS → Prop) (n0 m i : Nat) : loopK I n0 m Q (.exit i) n S = Q (.exit i) n S := rfl
@[go_sem ↓] theorem AOps_nil : AOps P D (W []) K n S = K n S := rfl
@[go_sem ↓] theorem AOps_cons (d : Option Nat) (op : Op) (t : TypeId) (pos : String) (af : Array Edge) (rest : List Oper) : AOps P D (W ({ dst := d, op := op, type := t, pos := pos, after := af, guard := none } :: rest)) K n S = aop P op t d n (AOps P D (W rest) K (n + 1)) S := rfl
@[go_sem ↓] theorem AOps_guard (d : Option Nat) (op : Op) (t : TypeId) (pos : String) (af : Array Edge) (j : Nat) (want : Bool) (rest : List Oper) : AOps P D (W ({ dst := d, op := op, type := t, pos := pos, after := af, guard := some (j, want) } :: rest)) K n S =
  aguard D (W (aop P op t d n (AOps P D (W rest) K (n + 1)))) (W (skipK d (AOps P D (W rest) K (n + 1)))) S (some (j, want)) := rfl
@[go_sem] theorem aguard_some (j : Nat) (want : Bool) : aguard (W D) T F S (some (j, want)) = match D[j]? with | some (some d) => gsplit want d T F S (S.get d) | _ => False := rfl
@[go_sem 20000] theorem gsplit_tt (d : Nat) : gsplit true d (W T) F S (.raw (.bool true)) = T (S.put d (.raw (.bool true))) := by simp [gsplit, W]
@[go_sem 20000] theorem gsplit_tf (d : Nat) : gsplit true d T (W F) S (.raw (.bool false)) = F (S.put d (.raw (.bool false))) := by simp [gsplit, W]
@[go_sem 20000] theorem gsplit_ft (d : Nat) : gsplit false d T (W F) S (.raw (.bool true)) = F (S.put d (.raw (.bool true))) := by simp [gsplit, W]
@[go_sem 20000] theorem gsplit_ff (d : Nat) : gsplit false d (W T) F S (.raw (.bool false)) = T (S.put d (.raw (.bool false))) := by simp [gsplit, W]
@[go_sem 20000] theorem gsplit_u (want : Bool) (d : Nat) : gsplit want d T (W F) S (.raw undef) = F S := rfl
@[go_sem high] theorem kCond_t : kCond (W T) F S (.raw (.bool true)) = T S := by simp [kCond, W]
@[go_sem high] theorem kCond_f : kCond T (W F) S (.raw (.bool false)) = F S := by simp [kCond, W]
@[go_sem high] theorem kPick_t (x y : AV) : kPick dst C S x y (.raw (.bool true)) = C (fin dst ⟨x, [], []⟩ S) := by simp [kPick]
@[go_sem high] theorem kPick_f (x y : AV) : kPick dst C S x y (.raw (.bool false)) = C (fin dst ⟨y, [], []⟩ S) := by simp [kPick]
@[go_sem] theorem kCond_b (b : Bool) : kCond (W T) (W F) S (.raw (.bool b)) = ((b = true → T S) ∧ (b = false → F S)) := rfl
@[go_sem] theorem kPick_b (x y : AV) (b : Bool) : kPick dst C S x y (.raw (.bool b)) = ((b = true → C (fin dst ⟨x, [], []⟩ S)) ∧ (b = false → C (fin dst ⟨y, [], []⟩ S))) := rfl
@[go_sem high] theorem gsplit_t (d : Nat) (b : Bool) : gsplit true d (W T) (W F) S (.raw (.bool b)) = ((b = true → T (S.put d (.raw (.bool true)))) ∧ (b = false → F (S.put d (.raw (.bool false))))) := rfl
@[go_sem high] theorem gsplit_f (d : Nat) (b : Bool) : gsplit false d (W T) (W F) S (.raw (.bool b)) = ((b = false → T (S.put d (.raw (.bool false)))) ∧ (b = true → F (S.put d (.raw (.bool true))))) := rfl
@[go_sem] theorem skipK_eq : skipK dst C S = C (fin dst ⟨.raw undef, [], []⟩ S) := rfl
@[go_sem ↓] theorem aop_move (x : Operand) : aop P (.move x) ty dst n C S = kMove P ty dst n C S (S.val x) := rfl
@[go_sem ↓] theorem aop_assign (x : Operand) : aop P (.assign x) ty dst n C S = kMove P ty dst n C S (S.val x) := rfl
@[go_sem ↓] theorem aop_pick (c x y : Operand) : aop P (.pick c x y) ty dst n C S = kPick dst C S (S.val x) (S.val y) (S.val c) := rfl
@[go_sem ↓] theorem aop_alloc (t : TypeId) : aop P (.alloc t) ty dst n C S = kAlloc dst t n C S (tyI P t) := rfl
@[go_sem ↓] theorem aop_box (t : TypeId) (x : Operand) : aop P (.box t x) ty dst n C S = kBox dst t n C S (cellsOf (S.val x)) := rfl
@[go_sem ↓] theorem aop_build (t : TypeId) (l : List (Nat × Operand)) : aop P (.build t l.toArray) ty dst n C S = kBuild dst C S l (tyI P t) := rfl
@[go_sem ↓] theorem aop_buildSlice (t : TypeId) (m : Nat) (l : List (Nat × Operand)) : aop P (.buildSlice t m l.toArray) ty dst n C S = kSlice P dst m n C S l (tyI P t) := rfl
@[go_sem ↓] theorem aop_load (t : TypeId) (x : Operand) : aop P (.load t x) ty dst n C S = kLoad dst C S (S.val x) (tyI P t) := rfl
@[go_sem ↓] theorem aop_store (t : TypeId) (x y : Operand) : aop P (.store t x y) ty dst n C S = kStore dst C S (S.val x) (cellsOf (S.val y)) (tyI P t) := rfl
@[go_sem ↓] theorem aop_fieldAddr (t : TypeId) (x : Operand) (f : Nat) : aop P (.fieldAddr t x f) ty dst n C S = kField dst C S f (S.val x) (tyI P t) := rfl
@[go_sem ↓] theorem aop_indexAddr (t : TypeId) (x y : Operand) : aop P (.indexAddr t x y) ty dst n C S = kIndex P dst C S (S.val x) (S.val y) (tyI P t) := rfl
@[go_sem ↓] theorem aop_binOp (op : BinOp) (t u : TypeId) (x y : Operand) : aop P (.binOp op t x y u) ty dst n C S = kBin P dst C S op t (S.val x) (S.val y) := rfl
@[go_sem ↓] theorem aop_unOp (op : UnOp) (t : TypeId) (x : Operand) : aop P (.unOp op t x) ty dst n C S = kUn dst C S op (S.val x) := rfl
@[go_sem ↓] theorem aop_convert (t u : TypeId) (x : Operand) : aop P (.convert t u x) ty dst n C S = kConv dst C S (P.underlying u) (S.val x) (tyI P t) := rfl
@[go_sem ↓] theorem aop_field (t : TypeId) (x : Operand) (f : Nat) : aop P (.field t x f) ty dst n C S = kPart dst C S f (S.val x) ((fieldT P t f).bind (tyI P)) (tyI P t) := rfl
@[go_sem ↓] theorem aop_extract (x : Operand) (k : Nat) : aop P (.extract x k) ty dst n C S = kExtract dst C S k (S.val x) := rfl
@[go_sem ↓] theorem aop_nilCheck (x : Operand) : aop P (.nilCheck x) ty dst n C S = kNil dst C S (S.val x) := rfl
@[go_sem ↓] theorem aop_makeFunc (f : Fn) (l : List Operand) : aop P (.makeFunc f #[] l.toArray) ty dst n C S = C (fin dst ⟨.clo f (l.map S.val), [], []⟩ S) := by simp [aop]
@[go_sem ↓] theorem aop_call (x : Operand) (l : List Operand) (ts : Array TypeId) : aop P (.call { callee := .value x, args := l.toArray, argTypes := ts }) ty dst n C S = ACall P dst n C S (l.map S.val) (S.val x) := rfl
@[go_sem ↓] theorem aop_len (x : Operand) (t : TypeId) : aop P (.call { callee := .builtin .len, args := #[x], argTypes := #[t] }) ty dst n C S = kLen dst C S (S.val x) (tyI P t) := rfl
@[go_sem ↓] theorem aop_append (x y : Operand) (t : TypeId) : aop P (.call { callee := .builtin .append, args := #[x, y], argTypes := #[t, t] }) ty dst n C S = kAppend P dst n C S (S.val x) (S.val y) (tyI P t) := by simp [aop]
@[go_sem ↓] theorem aop_max (l : List Operand) (ts : Array TypeId) : aop P (.call { callee := .builtin .max, args := l.toArray, argTypes := ts }) ty dst n C S = kMinMax dst C S true (l.map S.val) := rfl
@[go_sem ↓] theorem aop_min (l : List Operand) (ts : Array TypeId) : aop P (.call { callee := .builtin .min, args := l.toArray, argTypes := ts }) ty dst n C S = kMinMax dst C S false (l.map S.val) := rfl
@[go_sem ↓] theorem aop_slice (t : TypeId) (x : Operand) (lo hi mx : Option Operand) : aop P (.slice t x lo hi mx) ty dst n C S = kSub P dst n C S (S.val x) (optInt S lo) (optInt S hi) (optInt S mx) (tyI P t) := rfl
@[go_sem] theorem val_tmp (t : Nat) : S.val (.tmp t) = S.get t := rfl
@[go_sem] theorem val_const (v : Value) : S.val (.const v) = ofV v := rfl
@[go_sem] theorem val_func (f : Nat) : S.val (.func f) = .clo (.func f) [] := rfl
@[go_sem] theorem ofV_int (k : IntKind) (i : Int) : ofV (.int k i) = .raw (.int k i) := rfl
@[go_sem] theorem ofV_bool (b : Bool) : ofV (.bool b) = .raw (.bool b) := rfl
@[go_sem] theorem ofV_slice (a : Option Addr) (l c : Nat) : ofV (.slice a l c) = .raw (.slice a l c) := rfl
@[go_sem] theorem ofV_agg (l : List Value) : ofV (.agg l.toArray) = .agg (l.map .raw) := rfl
@[go_sem] theorem ofV_nilFunc : ofV .nilFunc = .raw .nilFunc := rfl
@[go_sem] theorem ofV_string (b : ByteArray) : ofV (.string b) = .raw (.string b) := rfl
@[go_sem] theorem get_eq (t : List (Nat × AV)) (s : List (Nat × Option AO)) (lg : Option (List (List Nat × List Nat))) (d : Nat) : AS.get ⟨t, s, lg⟩ d = (find t d).getD .dead := rfl
@[go_sem] theorem obj_eq (t : List (Nat × AV)) (s : List (Nat × Option AO)) (lg : Option (List (List Nat × List Nat))) (d : Nat) : AS.obj ⟨t, s, lg⟩ d = (find s d).getD none := rfl
@[go_sem] theorem put_eq (t : List (Nat × AV)) (s : List (Nat × Option AO)) (lg : Option (List (List Nat × List Nat))) (d : Nat) (v : AV) : AS.put ⟨t, s, lg⟩ d v = ⟨(d, v) :: t, s, lg⟩ := rfl
@[go_sem] theorem putO_some (t : List (Nat × AV)) (s : List (Nat × Option AO)) (lg : Option (List (List Nat × List Nat))) (d : Nat) (v : AV) : AS.putO ⟨t, s, lg⟩ (some d) v = ⟨(d, v) :: t, s, lg⟩ := rfl
@[go_sem] theorem putO_none (v : AV) : AS.putO S none v = S := rfl
@[go_sem] theorem fin_some (t : List (Nat × AV)) (s : List (Nat × Option AO)) (lg : Option (List (List Nat × List Nat))) (d : Nat) (v : AV) (u : List (Nat × Option AO)) (r : List Nat) : fin (some d) ⟨v, u, r⟩ ⟨t, s, lg⟩ = ⟨(d, v) :: t, u ++ s, lg.map ((r, u.map (·.1)) :: ·)⟩ := rfl
@[go_sem] theorem fin_none (t : List (Nat × AV)) (s : List (Nat × Option AO)) (lg : Option (List (List Nat × List Nat))) (v : AV) (u : List (Nat × Option AO)) (r : List Nat) : fin none ⟨v, u, r⟩ ⟨t, s, lg⟩ = ⟨t, u ++ s, lg.map ((r, u.map (·.1)) :: ·)⟩ := rfl
@[go_sem] theorem find_nil' {α : Type} (i : Nat) : find ([] : List (Nat × α)) i = none := rfl
@[go_sem] theorem find_cons' {α : Type} (k i : Nat) (v : α) (l : List (Nat × α)) : find ((k, v) :: l) i = if k = i then some v else find l i := rfl
@[go_sem ↓] theorem kRow_map {α : Type} (f : α → List Value) (xs : List α) (i : TI) (id j k : Nat) : kRow dst C S i id j k (xs.map f) = ∃ x, xs[k]? = some x ∧ C (fin dst ⟨ofCells i.agg ((((f x).drop j).take i.size).map .raw), [], [id]⟩ S) := by
  unfold kRow
  refine propext ⟨?_, ?_⟩
  · rintro ⟨r, h1, h2⟩
    rw [List.getElem?_map] at h1
    cases hx : xs[k]? with
    | none => rw [hx] at h1; simp at h1
    | some x => rw [hx] at h1; simp at h1; subst h1; exact ⟨x, rfl, h2⟩
  · rintro ⟨x, h1, h2⟩
    exact ⟨f x, by rw [List.getElem?_map, h1]; rfl, h2⟩
@[go_sem ↓] theorem kRow_zero (r : List Value) (rows : List (List Value)) (i : TI) (id j : Nat) : kRow dst C S i id j 0 (r :: rows) = C (fin dst ⟨ofCells i.agg (((r.drop j).take i.size).map .raw), [], [id]⟩ S) := by simp [kRow]
@[go_sem ↓] theorem kRow_succ (r : List Value) (rows : List (List Value)) (i : TI) (id j k : Nat) : kRow dst C S i id j (k + 1) (r :: rows) = kRow dst C S i id j k rows := by simp [kRow]
end
attribute [go_sem] List.append_eq Option.map_none Option.map_some true_and or_true true_or false_or or_false Nat.le_refl and_self Int.toNat_natCast Int.toNat_natCast_add_one Int.toNat_zero Int.toNat_one and_true Bool.not_true Bool.not_false decide_eq_true_eq decide_eq_false_iff_not forall_const reduceCtorEq if_true if_false
attribute [go_sem] Option.getD_some Option.getD_none List.cons_append List.nil_append List.map_cons List.map_nil kMove kAlloc kBox kBuild kSlice kLoad kLoad2 kStore kStore2 kField kIndex kBin kShr kConv kPart kUn kExtract kNil kLen kAppend kMinMax intOp kEqs kEqs2 eqV kSub optInt Option.isSome_some Option.isSome_none
attribute [go_sem] cellsOf AV.one Value.oneCell' ofCells List.getElem?_cons_zero List.getElem?_cons_succ List.take_succ_cons List.take_zero List.drop_succ_cons List.drop_zero List.headD_cons List.length_cons List.length_nil
attribute [go_sem] splice fillA TI.place rowsOf rawsOf AO.rows Option.bind_some Option.bind_none

/-! ends, loops, calls -/
theorem ret_ent {v val : AV} {objs : List (Nat × AO)} {s : List (Nat × Option AO)} (L : List (Nat × Nat)) (e : Ent L 2 ⟨[(0, v)], s, none⟩ ⟨[(0, val)], somes objs, none⟩) : RetV v val objs s := ⟨L, e⟩
mutual
theorem ren_raws {m : Nat → Nat} {n : Nat} : ∀ (l : List AV), (rawsOf l).isSome = true → renL m l = l ∧ bdL n l = true
  | [], _ => ⟨rfl, rfl⟩
  | .raw v :: l, h => by
    simp only [rawsOf] at h
    cases hl : rawsOf l with
    | none => rw [hl] at h; simp at h
    | some vs =>
      obtain ⟨h1, h2⟩ := ren_raws (m := m) (n := n) l (by rw [hl]; rfl)
      exact ⟨by simp [renL, AV.ren, h1], by simp [bdL, AV.bd, h2]⟩
  | .dead :: _, h => by simp [rawsOf] at h
  | .hdr _ :: _, h => by simp [rawsOf] at h
  | .ptr .. :: _, h => by simp [rawsOf] at h
  | .agg _ :: _, h => by simp [rawsOf] at h
  | .tup _ :: _, h => by simp [rawsOf] at h
  | .clo .. :: _, h => by simp [rawsOf] at h
end
theorem retV_plain {v val : AV} {s : List (Nat × Option AO)} (h : ∀ m, val.ren m = val ∧ val.bd 2 = true) : RetV v val [] s = (val = v) := by
  refine propext ⟨?_, ?_⟩
  · rintro ⟨L, hE⟩
    have := (hE.2.1 (0, val) (by simp)).2
    dsimp only at this
    rw [(h _).1] at this
    simpa [AS.get, find] using this
  · rintro rfl
    refine ⟨[], ⟨by omega, by simp⟩, ?_, by simp [somes], by simp [somes]⟩
    intro q hq
    simp at hq
    subst hq
    exact ⟨(h id).2, by rw [(h _).1]; simp [AS.get, find]⟩
@[go_sem] theorem retV_raw (v : AV) (u : Value) (s : List (Nat × Option AO)) : RetV v (.raw u) [] s = (.raw u = v) := retV_plain fun _ => ⟨rfl, rfl⟩
def RetO (v val : AV) (s : List (Nat × Option AO)) : Prop := RetV v val [] s
def retB (v val : AV) (s : List (Nat × Option AO)) : Bool → Prop
  | true => val = v
  | false => RetO v val s
@[go_sem] theorem retV_agg (v : AV) (l : List AV) (s : List (Nat × Option AO)) : RetV v (.agg l) [] s = retB v (.agg l) s (rawsOf l).isSome := by
  cases h : (rawsOf l).isSome with
  | false => rfl
  | true =>
    refine retV_plain fun m => ?_
    obtain ⟨h1, h2⟩ := ren_raws (m := m) (n := 2) l h
    exact ⟨by simp [AV.ren, h1], by simp [AV.bd, h2]⟩
@[go_sem] theorem retV_tup (v : AV) (l : List AV) (s : List (Nat × Option AO)) : RetV v (.tup l) [] s = retB v (.tup l) s (rawsOf l).isSome := by
  cases h : (rawsOf l).isSome with
  | false => rfl
  | true =>
    refine retV_plain fun m => ?_
    obtain ⟨h1, h2⟩ := ren_raws (m := m) (n := 2) l h
    exact ⟨by simp [AV.ren, h1], by simp [AV.bd, h2]⟩
@[go_sem] theorem retB_t (v val : AV) (s : List (Nat × Option AO)) : retB v val s true = (val = v) := rfl
@[go_sem] theorem retOk_one (P : Program) (r : ResultVar) (val : AV) (objs : List (Nat × AO)) (t : List (Nat × AV)) (s : List (Nat × Option AO)) (lg : Option (List (List Nat × List Nat))) : RetOk P [r] val objs ⟨t, s, lg⟩ = match resV P ⟨t, s, lg⟩ r with | some v => RetV v val objs s | none => False := rfl
@[go_sem] theorem retOk_two (P : Program) (r q : ResultVar) (rs : List ResultVar) (val : AV) (objs : List (Nat × AO)) (t : List (Nat × AV)) (s : List (Nat × Option AO)) (lg : Option (List (List Nat × List Nat))) : RetOk P (r :: q :: rs) val objs ⟨t, s, lg⟩ = match resL P ⟨t, s, lg⟩ (r :: q :: rs) with | some l => RetV (.tup l) val objs s | none => False := by
  unfold RetOk
  simp only [resAV]
  cases resL P ⟨t, s, lg⟩ (r :: q :: rs) <;> rfl
@[go_sem] theorem retOk_none (P : Program) (val : AV) (objs : List (Nat × AO)) (t : List (Nat × AV)) (s : List (Nat × Option AO)) (lg : Option (List (List Nat × List Nat))) : RetOk P [] val objs ⟨t, s, lg⟩ = RetV (.tup []) val objs s := rfl
attribute [go_sem] resL resV List.all_cons List.all_nil Bool.and_self
/-- the end of a round. -/
def LoopEnd {X : Type} (St : X → AS) (inv : X → Prop) (μ : X → Nat) (n0 : Nat) (x : X) (S : AS) : Prop := ∃ x' L, inv x' ∧ μ x' < μ x ∧ Ent L n0 S (St x')
def loopX {X : Type} (St : X → AS) (inv : X → Prop) (μ : X → Nat) (n0 : Nat) (x : X) (Q : Exit → Nat → AS → Prop) : Exit → Nat → AS → Prop
  | .normal => fun _ S => LoopEnd St inv μ n0 x S
  | e => Q e
section
variable {P : Program} {X : Type} {St : X → AS} {inv : X → Prop} {μ : X → Nat} {n0 : Nat} {x : X} {Q : Exit → Nat → AS → Prop} {n : Nat} {S : AS}
@[go_sem ↓] theorem loopX_normal : loopX St inv μ n0 x Q .normal n S = LoopEnd St inv μ n0 x S := rfl
@[go_sem ↓] theorem loopX_ret : loopX St inv μ n0 x Q .ret n S = Q .ret n S := rfl
@[go_sem ↓] theorem loopX_exit (i : Nat) : loopX St inv μ n0 x Q (.exit i) n S = Q (.exit i) n S := rfl
end
theorem aloop {P : Program} {b : Code} {Q : Exit → Nat → AS → Prop} {S : AS} {X : Type} (St : X → AS) (inv : X → Prop) (μ : X → Nat) (n0 : Nat) (x0 : X) (L0 : List (Nat × Nat)) (h0 : inv x0) (e0 : Ent L0 n0 S (St x0)) (hr : ∀ x, inv x → AWP P b (loopX St inv μ n0 x Q) n0 (St x)) :
    ALoop (W (AWP P b)) Q S := by
  refine ⟨fun m S' => ∃ x, inv x ∧ m = μ x ∧ S' = St x, n0, ⟨μ x0, St x0, L0, ⟨x0, h0, rfl, rfl⟩, e0⟩, ?_⟩
  rintro m S' ⟨x, hx, rfl, rfl⟩
  have h := hr x hx
  have e : loopX St inv μ n0 x Q = loopK (fun m S' => ∃ x, inv x ∧ m = μ x ∧ S' = St x) n0 (μ x) Q := by
    funext e n S
    cases e <;> try rfl
    refine propext ⟨fun ⟨x', L, h1, h2, h3⟩ => ⟨μ x', St x', L, h2, ⟨x', h1, rfl, rfl⟩, h3⟩, ?_⟩
    rintro ⟨m', S', L, h1, ⟨x', h2, rfl, rfl⟩, h3⟩
    exact ⟨x', L, h2, h1, h3⟩
  rw [e] at h
  exact h

/-! what an entailment comes to -/
def entT (L : List (Nat × Nat)) (n : Nat) (S : AS) : List (Nat × AV) → Prop
  | [] => True
  | (d, v) :: t => (v.bd n = true ∧ v.ren (mapOf L) = S.get d) ∧ entT L n S t
def entS (L : List (Nat × Nat)) (n : Nat) (S : AS) : List (Nat × Option AO) → Prop
  | [] => True
  | (i, some o) :: s => (i / 8 < n ∧ o.bd n = true ∧ S.obj (mapOf L i) = some (o.ren (mapOf L))) ∧ entS L n S s
  | (_, none) :: _ => False
def entP (L : List (Nat × Nat)) (i : Nat) : List (Nat × Option AO) → Prop
  | [] => True
  | (j, _) :: s => (i ≠ j → mapOf L i ≠ mapOf L j) ∧ entP L i s
def entPs (L : List (Nat × Nat)) : List (Nat × Option AO) → Prop
  | [] => True
  | (i, _) :: s => entP L i s ∧ entPs L s
def entL : List (Nat × Nat) → Prop
  | [] => True
  | (i, _) :: L => 8 ≤ i ∧ entL L
@[go_sem] theorem ent_eq {L : List (Nat × Nat)} {n : Nat} {S : AS} {t : List (Nat × AV)} {s : List (Nat × Option AO)} {lg : Option (List (List Nat × List Nat))} : Ent L n S ⟨t, s, lg⟩ = (0 < n ∧ entL L ∧ entT L n S t ∧ entS L n S s ∧ entPs L s) := by
  have h1 : ∀ L : List (Nat × Nat), entL L ↔ ∀ q ∈ L, 8 ≤ q.1 := by
    intro L
    induction L with
    | nil => simp [entL]
    | cons a L ih => simp [entL, ih]
  have h2 : ∀ t, entT L n S t ↔ ∀ q ∈ t, q.2.bd n = true ∧ q.2.ren (mapOf L) = S.get q.1 := by
    intro t
    induction t with
    | nil => simp [entT]
    | cons a t ih => obtain ⟨d, v⟩ := a; simp only [entT, ih, List.forall_mem_cons]
  have h3 : ∀ s, entS L n S s ↔ ∀ q ∈ s, q.1 / 8 < n ∧ match q.2 with | some o => o.bd n = true ∧ S.obj (mapOf L q.1) = some (o.ren (mapOf L)) | none => False := by
    intro s
    induction s with
    | nil => simp [entS]
    | cons a s ih => obtain ⟨i, o⟩ := a; cases o <;> simp [entS, ih]
  have h4 : ∀ i s, entP L i s ↔ ∀ q ∈ s, i ≠ q.1 → mapOf L i ≠ mapOf L q.1 := by
    intro i s
    induction s with
    | nil => simp [entP]
    | cons a s ih => obtain ⟨j, o⟩ := a; simp only [entP, ih, List.forall_mem_cons]
  have h5 : ∀ s, entPs L s ↔ s.Pairwise (fun q r => q.1 ≠ r.1 → mapOf L q.1 ≠ mapOf L r.1) := by
    intro s
    induction s with
    | nil => simp [entPs]
    | cons a s ih => obtain ⟨j, o⟩ := a; simp only [entPs, ih, List.pairwise_cons, h4]
  refine propext ?_
  unfold Ent
  rw [h1, h2, h3, h5]
  constructor
  · rintro ⟨⟨a, b⟩, c, d, e⟩; exact ⟨a, b, c, d, e⟩
  · rintro ⟨a, b, c, d, e⟩; exact ⟨⟨a, b⟩, c, d, e⟩
attribute [go_sem] entT entS entP entPs entL mapOf AV.bd AV.ren renL bdL AO.bd AO.ren somes AV.raw.injEq Value.int.injEq AV.hdr.injEq AV.agg.injEq List.cons.injEq Option.some.injEq AO.ext.injEq AO.row.injEq AO.cells.injEq Value.bool.injEq slots List.zipIdx_cons List.zipIdx_nil Bool.and_true Bool.true_and ne_eq not_false_eq_true not_true_eq_false AV.ptr.injEq AV.tup.injEq AV.clo.injEq
end Go.Proofs.Ytmgckellncfjpaa
