/- ENGINE (second) 10: how propositions are reckoned; over any program. -/
import Derived.Test.YtiidfcadmdahmaaG9
set_option linter.unusedSimpArgs false
set_option linter.unusedVariables false
namespace Go.Proofs.Ytiidfcadmdahmaa
open Go.RowKit

/-- what is not looked into while a proposition is reckoned. -/
def W {α : Type} (a : α) : α := a
@[congr] theorem W_congr {α : Type} (a : α) : W a = W a := rfl

section
variable {P : Program} {D : List (Option Nat)} {K : Nat → AS → Prop} {Q : Exit → Nat → AS → Prop} {C T F : AS → Prop} {CN : Nat → AS → Prop} {n : Nat} {S : AS} {dst : Option Nat} {ty : TypeId}
@[go_sem ↓] theorem AWP_skip : AWP P .skip Q n S = Q .normal n S := rfl
@[go_sem ↓] theorem AWP_region (id : Nat) (ops : List Oper) : AWP P (.region id ops.toArray false) Q n S = AOps P (W (ops.map (·.dst))) (W ops) (Q .normal) n S := rfl
@[go_sem ↓] theorem W_app {α : Type} (a : α) (l m : List α) : W (List.append (a :: l) m) = W (a :: List.append l m) := rfl
@[go_sem ↓] theorem W_app_nil {α : Type} (m : List α) : W (List.append [] m) = W m := rfl
@[go_sem ↓] theorem W_map_app {α β : Type} (f : α → β) (l m : List α) : W (List.map f (List.append l m)) = W (List.append (List.map f l) (List.map f m)) := by
  show W (List.map f (l ++ m)) = W (List.map f l ++ List.map f m)
  rw [List.map_append]
@[go_sem ↓] theorem AWP_draw (id : Nat) (ops : List Oper) : AWP P (.region id ops.toArray true) Q n S = (P.follows .mixedOrders = true ∧ AOps P (W (ops.map (·.dst))) (W ops) (drawK (W ops) (Q .normal)) n ⟨S.t, S.s, some []⟩) := rfl
@[go_sem] theorem drawK_eq (ops : List Oper) (t : List (Nat × AV)) (s : List (Nat × Option AO)) (lg : List (List Nat × List Nat)) : drawK ops K n ⟨t, s, some lg⟩ = (drawB ops lg = true ∧ K n ⟨t, s, none⟩) := rfl
@[go_sem ↓] theorem AWP_seq (a b : Code) : AWP P (.seq a b) Q n S = AWP P a (seqK (W (AWP P b Q)) Q) n S := rfl
@[go_sem ↓] theorem AWP_cond (c : Operand) (x y : Code) : AWP P (.cond c x y) Q n S = kCond (W (AWP P x Q n)) (W (AWP P y Q n)) S (S.val c) := rfl
@[go_sem ↓] theorem AWP_block (id : Nat) (b : Code) : AWP P (.block id b) Q n S = AWP P b (blockK id Q) n S := rfl
@[go_sem ↓] theorem AWP_loop (b : Code) : AWP P (.loop b) Q n S = ALoop (W (AWP P b)) Q S := rfl
@[go_sem ↓] theorem AWP_exit (id : Nat) : AWP P (.exit id) Q n S = Q (.exit id) n S := rfl
@[go_sem ↓] theorem AWP_ret : AWP P .ret Q n S = Q .ret n S := rfl
@[go_sem ↓] theorem seqK_normal (B : Nat → AS → Prop) : seqK (W B) Q .normal n S = B n S := rfl
@[go_sem ↓] theorem seqK_ret (B : Nat → AS → Prop) : seqK B Q .ret n S = Q .ret n S := rfl
@[go_sem ↓] theorem seqK_exit (B : Nat → AS → Prop) (i : Nat) : seqK B Q (.exit i) n S = Q (.exit i) n S := rfl
@[go_sem ↓] theorem blockK_normal (i : Nat) : blockK i Q .normal n S = Q .normal n S := rfl
@[go_sem ↓] theorem blockK_ret (i : Nat) : blockK i Q .ret n S = Q .ret n S := rfl
@[go_sem ↓] theorem blockK_exit (i j : Nat) : blockK i Q (.exit j) n S = if j = i then Q .normal n S else Q (.exit j) n S := by unfold blockK; dsimp only; split <;> rfl
@[go_sem ↓] theorem retQ_ret (rs : List ResultVar) (val : AV) (objs : List (Nat × AO)) : retQ P rs val objs .ret n S = RetOk P rs val objs S := rfl
@[go_sem ↓] theorem retQ_normal (rs : List ResultVar) (val : AV) (objs : List (Nat × AO)) : retQ P rs val objs .normal n S = RetOk P rs val objs S := rfl
@[go_sem ↓] theorem loopK_ret (I : Nat → AS → Prop) (n0 m : Nat) : loopK I n0 m Q .ret n S = Q .ret n S := rfl
@[go_sem ↓] theorem loopK_exit (I : Nat → AS → Prop) (n0 m i : Nat) : loopK I n0 m Q (.exit i) n S = Q (.exit i) n S := rfl
@[go_sem ↓] theorem AOps_nil : AOps P D (W []) K n S = K n S := rfl
@[go_sem ↓] theorem AOps_cons (d : Option Nat) (op : Op) (t : TypeId) (pos : String) (af : Array Edge) (rest : List Oper) : AOps P D (W ({ dst := d, op := op, type := t, pos := pos, after := af, guard := none } :: rest)) K n S = aop P op t d n (AOps P D (W rest) K) S := rfl
@[go_sem ↓] theorem AOps_guard (d : Option Nat) (op : Op) (t : TypeId) (pos : String) (af : Array Edge) (j : Nat) (want : Bool) (rest : List Oper) : AOps P D (W ({ dst := d, op := op, type := t, pos := pos, after := af, guard := some (j, want) } :: rest)) K n S =
  aguard D (W (aop P op t d n (AOps P D (W rest) K))) (W (skipK d (AOps P D (W rest) K (n + 1)))) S (some (j, want)) := rfl
@[go_sem] theorem aguard_some (j : Nat) (want : Bool) : aguard (W D) T F S (some (j, want)) = match D[j]? with | some (some d) => gsplit want d T F S (S.get d) | _ => False := rfl
@[go_sem 20000] theorem gsplit_tt (d : Nat) : gsplit true d (W T) F S (.raw (.bool true)) = T (S.put d (.raw (.bool true))) := by simp [gsplit, W]
@[go_sem 20000] theorem gsplit_tf (d : Nat) : gsplit true d T (W F) S (.raw (.bool false)) = F (S.put d (.raw (.bool false))) := by simp [gsplit, W]
@[go_sem 20000] theorem gsplit_ft (d : Nat) : gsplit false d T (W F) S (.raw (.bool true)) = F (S.put d (.raw (.bool true))) := by simp [gsplit, W]
@[go_sem 20000] theorem gsplit_ff (d : Nat) : gsplit false d (W T) F S (.raw (.bool false)) = T (S.put d (.raw (.bool false))) := by simp [gsplit, W]
@[go_sem 20000] theorem gsplit_u (want : Bool) (d : Nat) : gsplit want d T (W F) S (.raw undef) = F S := rfl
@[go_sem high] theorem kCond_t : kCond (W T) F S (.raw (.bool true)) = T S := by simp [kCond, W]
@[go_sem high] theorem kCond_f : kCond T (W F) S (.raw (.bool false)) = F S := by simp [kCond, W]
@[go_sem high] theorem kPick_t (x y : AV) : kPick dst C S x y (.raw (.bool true)) = C (fin dst ⟨x, [], []⟩ S) := by simp [kPick]
@[go_sem high] theorem kPick_f (x y : AV) : kPick dst C S x y (.raw (.bool false)) = C (fin dst ⟨y, [], []⟩ S) := by simp [kPick]
@[go_sem] theorem kCond_b (b : Bool) : kCond (W T) (W F) S (.raw (.bool b)) = ((b = true → T S) ∧ (b = false → F S)) := rfl
@[go_sem] theorem kPick_b (x y : AV) (b : Bool) : kPick dst C S x y (.raw (.bool b)) = ((b = true → C (fin dst ⟨x, [], []⟩ S)) ∧ (b = false → C (fin dst ⟨y, [], []⟩ S))) := rfl
@[go_sem high] theorem gsplit_t (d : Nat) (b : Bool) : gsplit true d (W T) (W F) S (.raw (.bool b)) = ((b = true → T (S.put d (.raw (.bool true)))) ∧ (b = false → F (S.put d (.raw (.bool false))))) := rfl
@[go_sem high] theorem gsplit_f (d : Nat) (b : Bool) : gsplit false d (W T) (W F) S (.raw (.bool b)) = ((b = false → T (S.put d (.raw (.bool false)))) ∧ (b = true → F (S.put d (.raw (.bool true))))) := rfl
@[go_sem] theorem skipK_eq : skipK dst C S = C (fin dst ⟨.raw undef, [], []⟩ S) := rfl
@[go_sem ↓] theorem aop_move (x : Operand) : aop P (.move x) ty dst n CN S = kMove P ty dst n (CN (n + 1)) S (S.val x) := rfl
@[go_sem ↓] theorem aop_assign (x : Operand) : aop P (.assign x) ty dst n CN S = kMove P ty dst n (CN (n + 1)) S (S.val x) := rfl
@[go_sem ↓] theorem aop_pick (c x y : Operand) : aop P (.pick c x y) ty dst n CN S = kPick dst (CN (n + 1)) S (S.val x) (S.val y) (S.val c) := rfl
@[go_sem ↓] theorem aop_alloc (t : TypeId) : aop P (.alloc t) ty dst n CN S = kAlloc P dst t n (CN (n + 1)) S (tyI P t) := rfl
@[go_sem ↓] theorem aop_box (t : TypeId) (x : Operand) : aop P (.box t x) ty dst n CN S = kBoxV P dst t n (CN (n + 1)) S (S.val x) := rfl
@[go_sem ↓] theorem aop_build (t : TypeId) (l : List (Nat × Operand)) : aop P (.build t l.toArray) ty dst n CN S = kBuild P dst n t (CN (n + 1)) S l (tyI P t) := rfl
@[go_sem ↓] theorem aop_buildSlice (t : TypeId) (m : Nat) (l : List (Nat × Operand)) : aop P (.buildSlice t m l.toArray) ty dst n CN S = kSlice P dst m n (CN (n + 1)) S l (tyI P t) := rfl
@[go_sem ↓] theorem aop_load (t : TypeId) (x : Operand) : aop P (.load t x) ty dst n CN S = kLoad dst (CN (n + 1)) S (S.val x) (tyI P t) := rfl
@[go_sem ↓] theorem aop_store (t : TypeId) (x y : Operand) : aop P (.store t x y) ty dst n CN S = kStore dst (CN (n + 1)) S (S.val x) (S.val y) (tyI P t) := rfl
@[go_sem ↓] theorem aop_fieldAddr (t : TypeId) (x : Operand) (f : Nat) : aop P (.fieldAddr t x f) ty dst n CN S = kField dst (CN (n + 1)) S f (S.val x) (tyI P t) := rfl
@[go_sem ↓] theorem aop_indexAddr (t : TypeId) (x y : Operand) : aop P (.indexAddr t x y) ty dst n CN S = kIndex P dst (CN (n + 1)) S t (S.val x) (S.val y) (tyI P t) := rfl
@[go_sem ↓] theorem aop_binOp (op : BinOp) (t u : TypeId) (x y : Operand) : aop P (.binOp op t x y u) ty dst n CN S = kBin0 P dst n CN S op t (S.val x) (S.val y) := rfl
@[go_sem] theorem kBin0_nil (op : BinOp) (t : TypeId) (a : AV) : kBin0 P dst n CN S op t a (.raw (.slice none 0 0)) = kNilEq dst n CN S op a (tyI P t) := rfl
@[go_sem] theorem kBin0_int (op : BinOp) (t : TypeId) (a : AV) (k : IntKind) (q : Int) : kBin0 P dst n CN S op t a (.raw (.int k q)) = kBin P dst (CN (n + 1)) S op t a (.raw (.int k q)) := rfl
@[go_sem] theorem kBin0_bool (op : BinOp) (t : TypeId) (a : AV) (b : Bool) : kBin0 P dst n CN S op t a (.raw (.bool b)) = kBin P dst (CN (n + 1)) S op t a (.raw (.bool b)) := rfl
@[go_sem] theorem kBin0_str (op : BinOp) (t : TypeId) (a : AV) (b : ByteArray) : kBin0 P dst n CN S op t a (.raw (.string b)) = kBin P dst (CN (n + 1)) S op t a (.raw (.string b)) := rfl
@[go_sem] theorem kBin0_agg (op : BinOp) (t : TypeId) (a : AV) (l : List AV) : kBin0 P dst n CN S op t a (.agg l) = kBin P dst (CN (n + 1)) S op t a (.agg l) := rfl
@[go_sem ↓] theorem aop_makeSlice (t : TypeId) (x y : Operand) : aop P (.makeSlice t x y) ty dst n CN S = kMake P dst n (CN (n + 1)) S (S.val x) (S.val y) (tyI P t) := rfl
@[go_sem ↓] theorem aop_copy (x y : Operand) (t u : TypeId) : aop P (.call { callee := .builtin .copy, args := #[x, y], argTypes := #[t, u] }) ty dst n CN S = kCopy P dst (CN (n + 1)) S (S.val x) (S.val y) (tyI P t) := rfl
@[go_sem ↓] theorem aop_unOp (op : UnOp) (t : TypeId) (x : Operand) : aop P (.unOp op t x) ty dst n CN S = kUn dst (CN (n + 1)) S op (S.val x) := rfl
@[go_sem ↓] theorem aop_convert (t u : TypeId) (x : Operand) : aop P (.convert t u x) ty dst n CN S = kConv P dst (CN (n + 1)) S (P.underlying u) (S.val x) (tyI P t) := rfl
@[go_sem ↓] theorem aop_index (t : TypeId) (x y : Operand) : aop P (.index t x y) ty dst n CN S = kStrIdx dst (CN (n + 1)) S (P.underlying t) (S.val x) (S.val y) := rfl
@[go_sem ↓] theorem aop_field (t : TypeId) (x : Operand) (f : Nat) : aop P (.field t x f) ty dst n CN S = kPart dst (CN (n + 1)) S f (S.val x) ((fieldT P t f).bind (tyI P)) (tyI P t) := rfl
@[go_sem ↓] theorem aop_extract (x : Operand) (k : Nat) : aop P (.extract x k) ty dst n CN S = kExtract dst (CN (n + 1)) S k (S.val x) := rfl
@[go_sem ↓] theorem aop_nilCheck (x : Operand) : aop P (.nilCheck x) ty dst n CN S = kNil dst (CN (n + 1)) S (S.val x) := rfl
@[go_sem ↓] theorem aop_makeFunc (f : Fn) (l : List Operand) : aop P (.makeFunc f #[] l.toArray) ty dst n CN S = CN (n + 1) (fin dst ⟨.clo f (l.map S.val), [], []⟩ S) := by simp [aop]
@[go_sem ↓] theorem aop_call (x : Operand) (l : List Operand) (ts : Array TypeId) : aop P (.call { callee := .value x, args := l.toArray, argTypes := ts }) ty dst n CN S = ACall P dst n CN S (l.map S.val) (S.val x) := rfl
@[go_sem ↓] theorem aop_len (x : Operand) (t : TypeId) : aop P (.call { callee := .builtin .len, args := #[x], argTypes := #[t] }) ty dst n CN S = kLenS dst (CN (n + 1)) S (P.underlying t) (tyI P t) (S.val x) := rfl
@[go_sem] theorem kLenS_str (d : Option TypeDesc) (ti : Option TI) (s : ByteArray) : kLenS dst C S d ti (.raw (.string s)) = (d = some .string ∧ C (fin dst ⟨.raw (.int .i64 s.size), [], []⟩ S)) := rfl
@[go_sem] theorem kLenS_slice (d : Option TypeDesc) (ti : Option TI) (A : Option Addr) (m q : Nat) : kLenS dst C S d ti (.raw (.slice A m q)) = kLen dst C S (.raw (.slice A m q)) ti := rfl
@[go_sem] theorem kLenS_hdr (d : Option TypeDesc) (ti : Option TI) (i : Nat) : kLenS dst C S d ti (.hdr i) = kLen dst C S (.hdr i) ti := rfl
@[go_sem] theorem kLenS_sl (d : Option TypeDesc) (ti : Option TI) (k : Nat) (r : List (List PV)) : kLenS dst C S d ti (.sl k r) = kLen dst C S (.sl k r) ti := rfl
@[go_sem] theorem kLenS_vw (d : Option TypeDesc) (ti : Option TI) (i s l h : Nat) : kLenS dst C S d ti (.vw i s l h) = kLen dst C S (.vw i s l h) ti := rfl
@[go_sem] theorem isNilA_int (k : IntKind) (v : Int) : isNilA (.raw (.int k v)) = false := rfl
@[go_sem] theorem isNilA_bool (b : Bool) : isNilA (.raw (.bool b)) = false := rfl
@[go_sem] theorem isNilA_str (b : ByteArray) : isNilA (.raw (.string b)) = false := rfl
@[go_sem] theorem isNilA_fn : isNilA (.raw .nilFunc) = false := rfl
@[go_sem] theorem isNilA_nil : isNilA (.raw (.slice none 0 0)) = true := rfl
@[go_sem] theorem isNilA_hdr (i : Nat) : isNilA (.hdr i) = false := rfl
@[go_sem] theorem isNilA_sl (s : Nat) (r : List (List PV)) : isNilA (.sl s r) = false := rfl
@[go_sem] theorem isNilA_vw (i s l h : Nat) : isNilA (.vw i s l h) = false := rfl
@[go_sem] theorem isNilA_ptr (i s k j : Nat) : isNilA (.ptr i s k j) = false := rfl
@[go_sem] theorem isNilA_spt (s : Nat) (r : List (List PV)) (k j : Nat) : isNilA (.spt s r k j) = false := rfl
@[go_sem] theorem isNilA_agg (l : List AV) : isNilA (.agg l) = false := rfl
@[go_sem] theorem isNilA_clo (f : Fn) (l : List AV) : isNilA (.clo f l) = false := rfl
@[go_sem] theorem isNilA_dead : isNilA .dead = false := rfl
@[go_sem] theorem nilL_nil (n j : Nat) (l : List AV) : nilL n j l [] = l := by cases l <;> rfl
@[go_sem] theorem nilL_none (n j : Nat) (a : AV) (l : List AV) (ts : List (Option (Nat × Nat))) : nilL n j (a :: l) (none :: ts) = a :: nilL n j l ts := rfl
@[go_sem] theorem nilL_some (n j : Nat) (a : AV) (l : List AV) (q : Nat × Nat) (ts : List (Option (Nat × Nat))) : nilL n j (a :: l) (some q :: ts) = if isNilA a = true then .hdr (8 * n + j) :: nilL n (j + 1) l ts else a :: nilL n j l ts := rfl
@[go_sem] theorem nilL_e (n j : Nat) (ts : List (Option (Nat × Nat))) : nilL n j [] ts = [] := by cases ts <;> rfl
@[go_sem] theorem nilT_nil (l : List AV) : nilT l [] = [] := by cases l <;> rfl
@[go_sem] theorem nilT_none (a : AV) (l : List AV) (ts : List (Option (Nat × Nat))) : nilT (a :: l) (none :: ts) = nilT l ts := rfl
@[go_sem] theorem nilT_some (a : AV) (l : List AV) (q : Nat × Nat) (ts : List (Option (Nat × Nat))) : nilT (a :: l) (some q :: ts) = if isNilA a = true then q :: nilT l ts else nilT l ts := rfl
@[go_sem] theorem nilT_e (ts : List (Option (Nat × Nat))) : nilT [] ts = [] := by cases ts <;> rfl
@[go_sem] theorem nilO_nil (n j : Nat) : nilO n j [] = [] := rfl
@[go_sem] theorem nilO_cons (n j e s : Nat) (l : List (Nat × Nat)) : nilO n j ((e, s) :: l) = nilO n (j + 1) l ++ [(8 * n + j, some (.row e s []))] := rfl
@[go_sem] theorem frzEff_eq0 (S : AS) (l : List Nat) (v : AV) (o : List (Nat × Option AO)) (r : List Nat) : frzEff S l ⟨v, o, r⟩ = ⟨v, o ++ frz S l, r ++ l⟩ := rfl
@[go_sem ↓] theorem aop_append (x y : Operand) (t : TypeId) : aop P (.call { callee := .builtin .append, args := #[x, y], argTypes := #[t, t] }) ty dst n CN S = kAppend P dst n (CN (n + 1)) S (S.val x) (S.val y) (tyI P t) := by simp [aop]
@[go_sem ↓] theorem aop_clear (x : Operand) (t : TypeId) : aop P (.call { callee := .builtin .clear, args := #[x], argTypes := #[t] }) ty dst n CN S = kClear P dst (CN (n + 1)) S (S.val x) (tyI P t) := rfl
@[go_sem ↓] theorem aop_max (l : List Operand) (ts : Array TypeId) : aop P (.call { callee := .builtin .max, args := l.toArray, argTypes := ts }) ty dst n CN S = kMinMax dst (CN (n + 1)) S true (l.map S.val) := rfl
@[go_sem ↓] theorem aop_min (l : List Operand) (ts : Array TypeId) : aop P (.call { callee := .builtin .min, args := l.toArray, argTypes := ts }) ty dst n CN S = kMinMax dst (CN (n + 1)) S false (l.map S.val) := rfl
@[go_sem ↓] theorem aop_slice (t : TypeId) (x : Operand) (lo hi mx : Option Operand) : aop P (.slice t x lo hi mx) ty dst n CN S = kSub P dst n (CN (n + 1)) S (S.val x) lo hi mx (tyI P t) := rfl
@[go_sem] theorem val_tmp (t : Nat) : S.val (.tmp t) = S.get t := rfl
@[go_sem] theorem val_const (v : Value) : S.val (.const v) = ofV v := rfl
@[go_sem] theorem val_func (f : Nat) : S.val (.func f) = .clo (.func f) [] := rfl
@[go_sem] theorem ofV_int (k : IntKind) (i : Int) : ofV (.int k i) = .raw (.int k i) := rfl
@[go_sem] theorem ofV_bool (b : Bool) : ofV (.bool b) = .raw (.bool b) := rfl
@[go_sem] theorem ofV_slice (a : Option Addr) (l c : Nat) : ofV (.slice a l c) = .raw (.slice a l c) := rfl
@[go_sem] theorem ofV_agg (l : List Value) : ofV (.agg l.toArray) = .agg (l.map .raw) := rfl
@[go_sem] theorem ofV_nilFunc : ofV .nilFunc = .raw .nilFunc := rfl
@[go_sem] theorem ofV_string (b : ByteArray) : ofV (.string b) = .raw (.string b) := rfl
@[go_sem] theorem get_eq (t : List (Nat × AV)) (s : List (Nat × Option AO)) (lg : Option (List (List Nat × List Nat))) (d : Nat) : AS.get ⟨t, s, lg⟩ d = (find t d).getD .dead := rfl
@[go_sem] theorem obj_eq (t : List (Nat × AV)) (s : List (Nat × Option AO)) (lg : Option (List (List Nat × List Nat))) (d : Nat) : AS.obj ⟨t, s, lg⟩ d = (find s d).getD none := rfl
@[go_sem] theorem put_eq (t : List (Nat × AV)) (s : List (Nat × Option AO)) (lg : Option (List (List Nat × List Nat))) (d : Nat) (v : AV) : AS.put ⟨t, s, lg⟩ d v = ⟨(d, v) :: t, s, lg⟩ := rfl
@[go_sem] theorem putO_some (t : List (Nat × AV)) (s : List (Nat × Option AO)) (lg : Option (List (List Nat × List Nat))) (d : Nat) (v : AV) : AS.putO ⟨t, s, lg⟩ (some d) v = ⟨(d, v) :: t, s, lg⟩ := rfl
@[go_sem] theorem putO_none (v : AV) : AS.putO S none v = S := rfl
@[go_sem] theorem fin_some (t : List (Nat × AV)) (s : List (Nat × Option AO)) (lg : Option (List (List Nat × List Nat))) (d : Nat) (v : AV) (u : List (Nat × Option AO)) (r : List Nat) : fin (some d) ⟨v, u, r⟩ ⟨t, s, lg⟩ = ⟨(d, v) :: t, u ++ s, lg.map ((r, u.map (·.1)) :: ·)⟩ := rfl
@[go_sem] theorem fin_none (t : List (Nat × AV)) (s : List (Nat × Option AO)) (lg : Option (List (List Nat × List Nat))) (v : AV) (u : List (Nat × Option AO)) (r : List Nat) : fin none ⟨v, u, r⟩ ⟨t, s, lg⟩ = ⟨t, u ++ s, lg.map ((r, u.map (·.1)) :: ·)⟩ := rfl
@[go_sem] theorem find_nil' {α : Type} (i : Nat) : find ([] : List (Nat × α)) i = none := rfl
@[go_sem] theorem find_cons' {α : Type} (k i : Nat) (v : α) (l : List (Nat × α)) : find ((k, v) :: l) i = if k = i then some v else find l i := rfl
@[go_sem ↓] theorem kRow_map {α : Type} (f : α → List PV) (xs : List α) (i : TI) (rd : List Nat) (j k : Nat) : kRow dst C S i rd j k (xs.map f) = ∃ x, xs[k]? = some x ∧ C (fin dst ⟨ofCells i.agg ((((f x).drop j).take i.size).map PV.av), [], rd⟩ S) := by
  unfold kRow
  refine propext ⟨?_, ?_⟩
  · rintro ⟨r, h1, h2⟩
    rw [List.getElem?_map] at h1
    cases hx : xs[k]? with
    | none => rw [hx] at h1; simp at h1
    | some x => rw [hx] at h1; simp at h1; subst h1; exact ⟨x, rfl, h2⟩
  · rintro ⟨x, h1, h2⟩
    exact ⟨f x, by rw [List.getElem?_map, h1]; rfl, h2⟩
@[go_sem ↓] theorem kRow_zero (r : List PV) (rows : List (List PV)) (i : TI) (rd : List Nat) (j : Nat) : kRow dst C S i rd j 0 (r :: rows) = C (fin dst ⟨ofCells i.agg (((r.drop j).take i.size).map PV.av), [], rd⟩ S) := by simp [kRow]
@[go_sem ↓] theorem kRow_succ (r : List PV) (rows : List (List PV)) (i : TI) (rd : List Nat) (j k : Nat) : kRow dst C S i rd j (k + 1) (r :: rows) = kRow dst C S i rd j k rows := by simp [kRow]
@[go_sem ↓] theorem kSet_map {α : Type} (f : α → List PV) (xs : List α) (e s id j k : Nat) (m : List PV) (rd : List Nat) : kSet dst C S e s id j k m rd (xs.map f) = ∃ x, xs[k]? = some x ∧ C (fin dst ⟨.dead, [(id, some (.row e s ((xs.map f).set k (splice (f x) j m))))], id :: rd⟩ S) := by
  unfold kSet
  refine propext ⟨?_, ?_⟩
  · rintro ⟨r, h1, h2⟩
    rw [List.getElem?_map] at h1
    cases hx : xs[k]? with
    | none => rw [hx] at h1; simp at h1
    | some x => rw [hx] at h1; simp at h1; subst h1; exact ⟨x, rfl, h2⟩
  · rintro ⟨x, h1, h2⟩
    exact ⟨f x, by rw [List.getElem?_map, h1]; rfl, h2⟩
@[go_sem] theorem kSet_zero (r : List PV) (rows : List (List PV)) (e s id j : Nat) (m : List PV) (rd : List Nat) : kSet dst C S e s id j 0 m rd (r :: rows) = C (fin dst ⟨.dead, [(id, some (.row e s (splice r j m :: rows)))], id :: rd⟩ S) := by simp [kSet]
@[go_sem ↓] theorem map_none' {α β : Type} (f : α → β) : Option.map f none = none := rfl
@[go_sem] theorem upd_eq (t : List (Nat × AV)) (s : List (Nat × Option AO)) (lg : Option (List (List Nat × List Nat))) (u : List (Nat × Option AO)) : AS.upd ⟨t, s, lg⟩ u = ⟨t, u ++ s, lg⟩ := rfl
@[go_sem] theorem drop_map' {α β : Type} (f : α → β) (xs : List α) (k : Nat) : (xs.map f).drop k = (xs.drop k).map f := List.map_drop.symm
@[go_sem] theorem take_map' {α β : Type} (f : α → β) (xs : List α) (k : Nat) : (xs.map f).take k = (xs.take k).map f := List.map_take.symm
@[go_sem] theorem av_raw (v : Value) : PV.av (.raw v) = .raw v := rfl
@[go_sem] theorem av_sl (s : Nat) (r : List (List PV)) : PV.av (.sl s r) = .sl s r := rfl
@[go_sem] theorem see_raw (v : Value) : S.see (.raw v) = .raw v := rfl
@[go_sem] theorem see_dead : S.see .dead = .dead := rfl
@[go_sem] theorem see_sl (s : Nat) (r : List (List PV)) : S.see (.sl s r) = .sl s r := rfl
@[go_sem] theorem see_ptr (i s k j : Nat) : S.see (.ptr i s k j) = .ptr i s k j := rfl
@[go_sem] theorem see_vw (i s k j : Nat) : S.see (.vw i s k j) = .vw i s k j := rfl
@[go_sem] theorem see_agg (l : List AV) : S.see (.agg l) = .agg (S.seeL l) := by simp only [AS.see]
@[go_sem] theorem see_tup (l : List AV) : S.see (.tup l) = .tup (S.seeL l) := by simp only [AS.see]
@[go_sem] theorem see_clo (f : Fn) (l : List AV) : S.see (.clo f l) = .clo f (S.seeL l) := by simp only [AS.see]
@[go_sem] theorem see_hdr (i : Nat) : S.see (.hdr i) = match S.obj i with | some (.fro s rows) => .sl s rows | _ => .hdr i := by
  simp only [AS.see]
  cases S.obj i with
  | none => rfl
  | some o => cases o <;> rfl
@[go_sem] theorem seeL_nil : S.seeL [] = [] := rfl
@[go_sem] theorem seeL_cons (a : AV) (l : List AV) : S.seeL (a :: l) = S.see a :: S.seeL l := by simp only [AS.seeL]
@[go_sem] theorem serves_raw (u : Value) (a : AV) : Serves S (.raw u) a = (.raw u = a) := by
  refine propext ⟨fun h => ?_, fun h => .inl h⟩
  rcases h with h | h | h
  · exact h
  · cases a <;> simp [AS.see] at h ⊢
    · exact h
    · split at h <;> cases h
  · exact h.elim
@[go_sem] theorem serves_hdr (i : Nat) (a : AV) : Serves S (.hdr i) a = (.hdr i = a ∨ .hdr i = S.see a) := by
  refine propext ⟨fun h => ?_, fun h => h.imp_right .inl⟩
  rcases h with h | h | h
  · exact .inl h
  · exact .inr h
  · exact h.elim
@[go_sem] theorem serves_sl (s : Nat) (r : List (List PV)) (a : AV) : Serves S (.sl s r) a = (.sl s r = a ∨ .sl s r = S.see a ∨ NilS (.sl s r) a) := rfl
@[go_sem] theorem serves_agg (l : List AV) (a : AV) : Serves S (.agg l) a = (.agg l = a ∨ .agg l = S.see a) := by
  refine propext ⟨fun h => ?_, fun h => h.imp_right .inl⟩
  rcases h with h | h | h
  · exact .inl h
  · exact .inr h
  · exact h.elim
@[go_sem] theorem serves_tup (l : List AV) (a : AV) : Serves S (.tup l) a = (.tup l = a ∨ .tup l = S.see a) := by
  refine propext ⟨fun h => ?_, fun h => h.imp_right .inl⟩
  rcases h with h | h | h
  · exact .inl h
  · exact .inr h
  · exact h.elim
@[go_sem] theorem serves_clo (f : Fn) (l : List AV) (a : AV) : Serves S (.clo f l) a = (.clo f l = a ∨ .clo f l = S.see a) := by
  refine propext ⟨fun h => ?_, fun h => h.imp_right .inl⟩
  rcases h with h | h | h
  · exact .inl h
  · exact .inr h
  · exact h.elim
@[go_sem] theorem serves_ptr (i s k j : Nat) (a : AV) : Serves S (.ptr i s k j) a = (.ptr i s k j = a ∨ .ptr i s k j = S.see a) := by
  refine propext ⟨fun h => ?_, fun h => h.imp_right .inl⟩
  rcases h with h | h | h
  · exact .inl h
  · exact .inr h
  · exact h.elim
@[go_sem] theorem nils_sl (s k j : Nat) (r : List (List PV)) : NilS (.sl s []) (.sl k r) = False := rfl
@[go_sem] theorem nils_hdr (s k : Nat) (r : List (List PV)) : NilS (.sl s r) (.hdr k) = False := by cases r <;> rfl
@[go_sem] theorem nils_sl2 (s k : Nat) (r q : List (List PV)) : NilS (.sl s r) (.sl k q) = False := by cases r <;> rfl
@[go_sem] theorem nils_nil (s : Nat) : NilS (.sl s []) (.raw (.slice none 0 0)) = True := rfl
@[go_sem] theorem servesO_cells (t t' : TypeId) (l l' : List AV) : ServesO S (.cells t l) (some (.cells t' l')) = (t = t' ∧ ServesL S l l') := rfl
@[go_sem] theorem servesO_row (e s : Nat) (r : List (List PV)) (o : AO) : ServesO S (.row e s r) (some o) = (.row e s r = o) := by cases o <;> rfl
@[go_sem] theorem servesO_fro (s : Nat) (r : List (List PV)) (o : AO) : ServesO S (.fro s r) (some o) = (.fro s r = o) := by cases o <;> rfl
@[go_sem] theorem servesO_loop (tm : Array Value) (lc : LoopCode) (m : LM) (o : AO) : ServesO S (.loop tm lc m) (some o) = (.loop tm lc m = o) := by cases o <;> rfl
@[go_sem] theorem servesO_frm (tm tm' : Array Value) (t t' : List (Nat × AV)) : ServesO S (.frm tm t) (some (.frm tm' t')) = (tm = tm' ∧ ServesT S t' t) := rfl
end
attribute [go_sem] List.append_eq Option.map_none Option.map_some true_and or_true true_or false_or or_false Nat.le_refl and_self Int.toNat_natCast Int.toNat_natCast_add_one Int.toNat_zero Int.toNat_one and_true Bool.not_true Bool.not_false decide_eq_true_eq decide_eq_false_iff_not forall_const reduceCtorEq if_true if_false
attribute [go_sem] Option.getD_some Option.getD_none List.cons_append List.nil_append List.map_cons List.map_nil kMove kAlloc kAllocR kBox kBoxV kBuild kSlice kLoad kLoad2 kStore kStore2 kField kIndex kBin kShr kConv kPart kUn kExtract kNil kLen kAppend kMinMax intOp kEqs kEqs2 eqV kSub kSubSl kSubRow kSubNone kClear kClear2 kStore3 kIndexA kNilEq kMake kCopy AS.rowsOf AV.ids elAddr optInt AS.elem pvsOf elemsOf deepP AV.deep deepL ServesL ServesT or_self List.length_map Option.isSome_some Option.isSome_none
attribute [go_sem] cellsOf AV.one Value.oneCell' ofCells List.getElem?_cons_zero List.getElem?_cons_succ List.take_succ_cons List.take_zero List.drop_succ_cons List.drop_zero List.headD_cons List.length_cons List.length_nil
attribute [go_sem] kStrIdx kCmp cmpOp kCat splice fillA TI.place rawsOf AO.rows Option.bind_some Option.bind_none

/-! ends, loops, calls -/
theorem ret_ent {v val : AV} {objs : List (Nat × AO)} {s : List (Nat × Option AO)} (L : List (Nat × Nat)) (fr : List Nat) (e : EntF L 2 fr ⟨[(0, v)], s, none⟩ ⟨[(0, val)], somes objs, none⟩) : RetV v val objs s := ⟨L, fr, e⟩
theorem raws_cons {l : List AV} {a : AV} (h : (rawsOf (a :: l)).isSome = true) : (∃ v, a = .raw v) ∧ (rawsOf l).isSome = true := by
  cases a with
  | raw v =>
    simp only [rawsOf] at h
    cases hl : rawsOf l with
    | none => rw [hl] at h; simp at h
    | some vs => exact ⟨⟨v, rfl⟩, rfl⟩
  | _ => simp [rawsOf] at h
theorem ren_raws {m : Nat → Nat} {n : Nat} : ∀ (l : List AV), (rawsOf l).isSome = true → renL m l = l ∧ bdL n l = true
  | [], _ => ⟨rfl, rfl⟩
  | a :: l, h => by
    obtain ⟨⟨v, rfl⟩, h'⟩ := raws_cons h
    obtain ⟨h1, h2⟩ := ren_raws (m := m) (n := n) l h'
    exact ⟨by simp [renL, AV.ren, h1], by simp [bdL, AV.bd, h2]⟩
theorem see_is_raw {S : AS} {a : AV} {v : Value} (h : S.see a = .raw v) : a = .raw v := by
  cases a <;> simp [AS.see] at h ⊢
  · exact h
  · split at h <;> cases h
theorem seeL_is_raws {S : AS} : ∀ {l m : List AV}, (rawsOf l).isSome = true → l = S.seeL m → l = m
  | [], [], _, _ => rfl
  | [], _ :: _, _, h => by simp [AS.seeL] at h
  | _ :: _, [], _, h => by simp [AS.seeL] at h
  | a :: l, b :: m, hr, h => by
    obtain ⟨⟨v, rfl⟩, hr'⟩ := raws_cons hr
    simp only [AS.seeL, List.cons.injEq] at h
    rw [see_is_raw h.1.symm, ← seeL_is_raws hr' h.2]
theorem retV_plain {v val : AV} {s : List (Nat × Option AO)} (h : ∀ m, val.ren m = val ∧ val.bd 2 = true) (hs : ∀ S : AS, val = S.see v → val = v) (hn : ¬ NilS val v) : RetV v val [] s = (val = v) := by
  refine propext ⟨?_, ?_⟩
  · rintro ⟨L, fr, hE⟩
    have := (hE.2.1 (0, val) (by simp)).2
    dsimp only at this
    rw [(h _).1] at this
    have hg : ((⟨[(0, v)], s, none⟩ : AS).upd (frz ⟨[(0, v)], s, none⟩ fr)).get 0 = v := by simp [AS.get, AS.upd, find]
    rw [hg] at this
    rcases this with e | e | e
    · exact e
    · exact hs _ e
    · exact absurd e hn
  · rintro rfl
    refine ⟨[], [], ⟨by omega, by simp⟩, ?_, by simp [somes], by simp [somes]⟩
    intro q hq
    simp at hq
    subst hq
    exact ⟨(h id).2, .inl (by rw [(h _).1]; simp [AS.get, AS.upd, find])⟩
@[go_sem] theorem retV_raw (v : AV) (u : Value) (s : List (Nat × Option AO)) : RetV v (.raw u) [] s = (.raw u = v) := retV_plain (fun _ => ⟨rfl, rfl⟩) (fun S h => (see_is_raw h.symm).symm) (fun h => h.elim)
def RetO (v val : AV) (s : List (Nat × Option AO)) : Prop := RetV v val [] s
def retB (v val : AV) (s : List (Nat × Option AO)) : Bool → Prop
  | true => val = v
  | false => RetO v val s
@[go_sem] theorem retV_agg (v : AV) (l : List AV) (s : List (Nat × Option AO)) : RetV v (.agg l) [] s = retB v (.agg l) s (rawsOf l).isSome := by
  cases h : (rawsOf l).isSome with
  | false => rfl
  | true =>
    refine retV_plain (fun m => ?_) (fun S hs => ?_) (fun h => h.elim)
    · obtain ⟨h1, h2⟩ := ren_raws (m := m) (n := 2) l h
      exact ⟨by simp [AV.ren, h1], by simp [AV.bd, h2]⟩
    · cases v <;> simp [AS.see] at hs
      · split at hs <;> cases hs
      · rw [← seeL_is_raws h hs]
@[go_sem] theorem retV_tup (v : AV) (l : List AV) (s : List (Nat × Option AO)) : RetV v (.tup l) [] s = retB v (.tup l) s (rawsOf l).isSome := by
  cases h : (rawsOf l).isSome with
  | false => rfl
  | true =>
    refine retV_plain (fun m => ?_) (fun S hs => ?_) (fun h => h.elim)
    · obtain ⟨h1, h2⟩ := ren_raws (m := m) (n := 2) l h
      exact ⟨by simp [AV.ren, h1], by simp [AV.bd, h2]⟩
    · cases v <;> simp [AS.see] at hs
      · split at hs <;> cases hs
      · rw [← seeL_is_raws h hs]
@[go_sem] theorem retB_t (v val : AV) (s : List (Nat × Option AO)) : retB v val s true = (val = v) := rfl
@[go_sem] theorem retOk_one (P : Program) (r : ResultVar) (val : AV) (objs : List (Nat × AO)) (t : List (Nat × AV)) (s : List (Nat × Option AO)) (lg : Option (List (List Nat × List Nat))) : RetOk P [r] val objs ⟨t, s, lg⟩ = match resV P ⟨t, s, lg⟩ r with | some v => RetV v val objs s | none => False := rfl
@[go_sem] theorem retOk_two (P : Program) (r q : ResultVar) (rs : List ResultVar) (val : AV) (objs : List (Nat × AO)) (t : List (Nat × AV)) (s : List (Nat × Option AO)) (lg : Option (List (List Nat × List Nat))) : RetOk P (r :: q :: rs) val objs ⟨t, s, lg⟩ = match resL P ⟨t, s, lg⟩ (r :: q :: rs) with | some l => RetV (.tup l) val objs s | none => False := by
  unfold RetOk
  simp only [resAV]
  cases resL P ⟨t, s, lg⟩ (r :: q :: rs) <;> rfl
@[go_sem] theorem retOk_none (P : Program) (val : AV) (objs : List (Nat × AO)) (t : List (Nat × AV)) (s : List (Nat × Option AO)) (lg : Option (List (List Nat × List Nat))) : RetOk P [] val objs ⟨t, s, lg⟩ = RetV (.tup []) val objs s := rfl
attribute [go_sem] resL resV List.all_cons List.all_nil Bool.and_self
/-- the end of a round. -/
def LoopEnd {X : Type} (St : X → AS) (inv : X → Prop) (μ : X → Nat) (n0 : Nat) (x : X) (S : AS) : Prop := ∃ x' L fr, inv x' ∧ μ x' < μ x ∧ EntF L n0 fr S (St x')
def loopX {X : Type} (St : X → AS) (inv : X → Prop) (μ : X → Nat) (n0 : Nat) (x : X) (Q : Exit → Nat → AS → Prop) : Exit → Nat → AS → Prop
  | .normal => fun _ S => LoopEnd St inv μ n0 x S
  | e => Q e
section
variable {P : Program} {X : Type} {St : X → AS} {inv : X → Prop} {μ : X → Nat} {n0 : Nat} {x : X} {Q : Exit → Nat → AS → Prop} {n : Nat} {S : AS}
@[go_sem ↓] theorem loopX_normal : loopX St inv μ n0 x Q .normal n S = LoopEnd St inv μ n0 x S := rfl
@[go_sem ↓] theorem loopX_ret : loopX St inv μ n0 x Q .ret n S = Q .ret n S := rfl
@[go_sem ↓] theorem loopX_exit (i : Nat) : loopX St inv μ n0 x Q (.exit i) n S = Q (.exit i) n S := rfl
end
theorem aloop {P : Program} {b : Code} {Q : Exit → Nat → AS → Prop} {S : AS} {X : Type} (St : X → AS) (inv : X → Prop) (μ : X → Nat) (n0 : Nat) (x0 : X) (L0 : List (Nat × Nat)) (fr0 : List Nat) (h0 : inv x0) (e0 : EntF L0 n0 fr0 S (St x0)) (hr : ∀ x, inv x → AWP P b (loopX St inv μ n0 x Q) n0 (St x)) :
    ALoop (W (AWP P b)) Q S := by
  refine ⟨fun m S' => ∃ x, inv x ∧ m = μ x ∧ S' = St x, n0, ⟨μ x0, St x0, L0, fr0, ⟨x0, h0, rfl, rfl⟩, e0⟩, ?_⟩
  rintro m S' ⟨x, hx, rfl, rfl⟩
  have h := hr x hx
  have e : loopX St inv μ n0 x Q = loopK (fun m S' => ∃ x, inv x ∧ m = μ x ∧ S' = St x) n0 (μ x) Q := by
    funext e n S
    cases e <;> try rfl
    refine propext ⟨fun ⟨x', L, fr, h1, h2, h3⟩ => ⟨μ x', St x', L, fr, h2, ⟨x', h1, rfl, rfl⟩, h3⟩, ?_⟩
    rintro ⟨m', S', L, fr, h1, ⟨x', h2, rfl, rfl⟩, h3⟩
    exact ⟨x', L, fr, h2, h1, h3⟩
  rw [e] at h
  exact h

/-! what an entailment comes to -/
def entT (L : List (Nat × Nat)) (n : Nat) (S : AS) : List (Nat × AV) → Prop
  | [] => True
  | (d, v) :: t => (v.bd n = true ∧ Serves S (v.ren (mapOf L)) (S.get d)) ∧ entT L n S t
def entS (L : List (Nat × Nat)) (n : Nat) (S : AS) : List (Nat × Option AO) → Prop
  | [] => True
  | (i, some o) :: s => (i / 8 < n ∧ o.bd n = true ∧ ServesO S (o.ren (mapOf L)) (S.obj (mapOf L i))) ∧ entS L n S s
  | (_, none) :: _ => False
def entP (L : List (Nat × Nat)) (i : Nat) : List (Nat × Option AO) → Prop
  | [] => True
  | (j, _) :: s => (i ≠ j → mapOf L i ≠ mapOf L j) ∧ entP L i s
def entPs (L : List (Nat × Nat)) : List (Nat × Option AO) → Prop
  | [] => True
  | (i, _) :: s => entP L i s ∧ entPs L s
def entL : List (Nat × Nat) → Prop
  | [] => True
  | (i, _) :: L => 8 ≤ i ∧ entL L
@[go_sem] theorem ent_eq {L : List (Nat × Nat)} {n : Nat} {S : AS} {t : List (Nat × AV)} {s : List (Nat × Option AO)} {lg : Option (List (List Nat × List Nat))} : Ent L n S ⟨t, s, lg⟩ = (0 < n ∧ entL L ∧ entT L n S t ∧ entS L n S s ∧ entPs L s) := by
  have h1 : ∀ L : List (Nat × Nat), entL L ↔ ∀ q ∈ L, 8 ≤ q.1 := by
    intro L
    induction L with
    | nil => simp [entL]
    | cons a L ih => simp [entL, ih]
  have h2 : ∀ t, entT L n S t ↔ ∀ q ∈ t, q.2.bd n = true ∧ Serves S (q.2.ren (mapOf L)) (S.get q.1) := by
    intro t
    induction t with
    | nil => simp [entT]
    | cons a t ih => obtain ⟨d, v⟩ := a; simp only [entT, ih, List.forall_mem_cons]
  have h3 : ∀ s, entS L n S s ↔ ∀ q ∈ s, q.1 / 8 < n ∧ match q.2 with | some o => o.bd n = true ∧ ServesO S (o.ren (mapOf L)) (S.obj (mapOf L q.1)) | none => False := by
    intro s
    induction s with
    | nil => simp [entS]
    | cons a s ih => obtain ⟨i, o⟩ := a; cases o <;> simp [entS, ih]
  have h4 : ∀ i s, entP L i s ↔ ∀ q ∈ s, i ≠ q.1 → mapOf L i ≠ mapOf L q.1 := by
    intro i s
    induction s with
    | nil => simp [entP]
    | cons a s ih => obtain ⟨j, o⟩ := a; simp only [entP, ih, List.forall_mem_cons]
  have h5 : ∀ s, entPs L s ↔ s.Pairwise (fun q r => q.1 ≠ r.1 → mapOf L q.1 ≠ mapOf L r.1) := by
    intro s
    induction s with
    | nil => simp [entPs]
    | cons a s ih => obtain ⟨j, o⟩ := a; simp only [entPs, ih, List.pairwise_cons, h4]
  refine propext ?_
  unfold Ent
  rw [h1, h2, h3, h5]
  constructor
  · rintro ⟨⟨a, b⟩, c, d, e⟩; exact ⟨a, b, c, d, e⟩
  · rintro ⟨a, b, c, d, e⟩; exact ⟨⟨a, b⟩, c, d, e⟩
@[go_sem] theorem entF_eq {L : List (Nat × Nat)} {n : Nat} {fr : List Nat} {S S' : AS} : EntF L n fr S S' = Ent L n (S.upd (frz S fr)) S' := rfl
attribute [go_sem] entT entS entP entPs entL mapOf frz renT bdT AV.bd AV.ren renL bdL AO.bd AO.ren somes AV.sl.injEq AV.spt.injEq AV.vw.injEq AO.fro.injEq AO.loop.injEq AV.raw.injEq Value.int.injEq AV.hdr.injEq AV.agg.injEq List.cons.injEq Option.some.injEq AO.row.injEq AO.cells.injEq Value.bool.injEq slots List.zipIdx_cons List.zipIdx_nil Bool.and_true Bool.true_and ne_eq not_false_eq_true not_true_eq_false AV.ptr.injEq AV.tup.injEq AV.clo.injEq
end Go.Proofs.Ytiidfcadmdahmaa
