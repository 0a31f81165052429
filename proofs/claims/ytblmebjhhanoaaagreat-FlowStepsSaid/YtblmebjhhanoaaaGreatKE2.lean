/- THE ENGINE, over any program, joined out of: G6 G7 G7D G8 G9 G10 G12. -/
import Derived.RangeFuncNested
import Derived.RangeFuncLeaves
import Derived.Test.YtblmebjhhanoaaaGreatKE1
/- ENGINE (second) 6: statements and code: what must be shown, as a proposition; over any program. -/
set_option linter.unusedSimpArgs false
set_option linter.unusedVariables false
namespace Go.Proofs.YtblmebjhhanoaaaGreat
open Go.RowKit

/-- what is left when an operation is over. -/
def AS.note (S : AS) (r u : List Nat) : AS := ⟨S.t, S.s, S.lg.map ((r, u) :: ·)⟩
def fin (dst : Option Nat) (E : Eff) (S : AS) : AS := ((S.upd E.objs).putO dst E.val).note E.reads (E.objs.map (·.1))

/-- a call does what is told. -/
def CallOk (P : Program) (f : FuncId) (args : List AV) (S : AS) (n : Nat) (E : Eff) : Prop :=
  ∀ (S' : AS), (∀ i ∈ E.reads, S'.obj i = S.obj i) → ∀ (c : Ctx) (p : Nat → Prop) (ρ : Env) (tm : Array Value) (w : World) (vs : List Value), Mod c p ρ S' tm w → (∀ i, p i → i / 8 ≠ n) → RepL ρ args vs →
    Calls P f vs.toArray w fun e w' => ∃ v ρ', e = .returned v ∧ Mod c (fun i => p i ∨ i / 8 = n) ρ' (S'.upd E.objs) tm w' ∧ Rep ρ' E.val v

/-- what a statement over a function leaves to be done at the end: nothing. -/
def markD (D : Nat) : Deferred := { target := .collected D, args := #[] }
def DefOk (c : Ctx) (a : Act) (w : World) : Prop := ∃ Ds : List Nat, a.defers = Ds.map markD ∧ Ds.Nodup ∧ ∀ D ∈ Ds, c.w0.heap.size ≤ D ∧ ¬ c.D D ∧ w.heap[D]? = some (.deferred (some []))
/-- an operation leads on to one of the states told, whatever names it gave. -/
def DoesN (P : Program) (o : Oper) (n : Nat) (CN : Nat → AS → Prop) (S : AS) : Prop :=
  ∀ (rd : Option Nat) (m0 : Nat) (c : Ctx) (p : Nat → Prop) (ρ : Env) (a : Act) (w : World), (∀ d, o.dst = some d → d < c.N) → Mod c p ρ S a.tmps w → (∀ i, p i → i / 8 < n) → DefOk c a w → ∀ (K : Act → World → Prop) (Q : Exit → Act → World → Prop),
    (∀ n' S' p' ρ' a' w', CN n' S' → Mod c p' ρ' S' a'.tmps w' → (∀ i, p' i → i / 8 < n') → DefOk c a' w' → K a' w') → o.wpIn (FW rd) m0 P a w K Q
/-- a call of a round does what is told. -/
def YieldOk (P : Program) (dst : Option Nat) (n : Nat) (CN : Nat → AS → Prop) (S : AS) (args : List AV) (id : Nat) : Prop :=
  ∀ (o : Oper) (x : Operand) (xs : Array Operand) (ts : Array TypeId), o.op = .call { callee := .value x, args := xs, argTypes := ts } → o.dst = dst → xs.toList.map S.val = args → S.val x = .hdr id → DoesN P o n CN S

/-- a function with a text of its own. -/
def fnB (P : Program) (f : FuncId) : Bool := match P.funcs[f]? with
  | some fn => fn.name != "runtime.NumGoroutine" && fn.body.isSome
  | none => false

def kMove (P : Program) (ty : TypeId) (dst : Option Nat) (n : Nat) (C : AS → Prop) (S : AS) : AV → Prop
  | .raw (.slice none 0 0) => match tyI P ty with
    | some i => match tyI P i.elem with
      | some ie => C (fin dst ⟨.hdr (8 * n), [(8 * n, some (.row i.elem ie.size []))], []⟩ S)
      | none => False
    | none => False
  | v => C (fin dst ⟨v, [], []⟩ S)
def kPick (dst : Option Nat) (C : AS → Prop) (S : AS) (x y : AV) : AV → Prop
  | .raw (.bool t) => (t = true → C (fin dst ⟨x, [], []⟩ S)) ∧ (t = false → C (fin dst ⟨y, [], []⟩ S))
  | _ => False
def kAllocR (P : Program) (dst : Option Nat) (t : TypeId) (n : Nat) (C : AS → Prop) (S : AS) (e : Nat) : List Value → Prop
  | [.slice none 0 0] => match tyI P e with
    | some ie => C (fin dst ⟨.hdr (8 * n), [(8 * n, some (.cells t [.hdr (8 * n + 1)])), (8 * n + 1, some (.row e ie.size []))], []⟩ S)
    | none => False
  | _ => False
def kAlloc (P : Program) (dst : Option Nat) (t : TypeId) (n : Nat) (C : AS → Prop) (S : AS) : Option TI → Prop
  | some i => if i.kind = 1 then kAllocR P dst t n C S i.elem i.zero else (i.zero.all (·.oneCell') = true ∧ (nilT (i.zero.map .raw) (rowsTy P t)).length < 7) ∧ C (fin dst ⟨.hdr (8 * n), (8 * n, some (.cells t (nilL n 1 (i.zero.map .raw) (rowsTy P t)))) :: nilO n 1 (nilT (i.zero.map .raw) (rowsTy P t)), []⟩ S)
  | none => False
def kBox (dst : Option Nat) (t : TypeId) (n : Nat) (C : AS → Prop) (S : AS) : Option (List AV) → Prop
  | some l => C (fin dst ⟨.hdr (8 * n), [(8 * n, some (.cells t l))], []⟩ S)
  | none => False
def kBoxV (P : Program) (dst : Option Nat) (t : TypeId) (n : Nat) (C : AS → Prop) (S : AS) : AV → Prop
  | .raw (.slice none 0 0) => match tyI P t with
    | some i => match tyI P i.elem with
      | some ie => C (fin dst ⟨.hdr (8 * n), [(8 * n, some (.cells t [.hdr (8 * n + 1)])), (8 * n + 1, some (.row i.elem ie.size []))], []⟩ S)
      | none => False
    | none => False
  | v => kBox dst t n C S (cellsOf v)
def kBuild (P : Program) (dst : Option Nat) (n : Nat) (t : TypeId) (C : AS → Prop) (S : AS) (parts : List (Nat × Operand)) : Option TI → Prop
  | some i => ((i.kind = 2 ∨ i.kind = 3) ∧ (i.places.all fun q => decide (0 < q.2)) = true ∧ i.zero.all (·.oneCell') = true) ∧ match fillA i.place (i.zero.map .raw) (parts.map fun q => (q.1, S.val q.2)) with
    | some l => (nilT l (rowsTy P t)).length < 8 ∧ C (fin dst ⟨.agg (nilL n 0 l (rowsTy P t)), nilO n 0 (nilT l (rowsTy P t)), []⟩ S)
    | none => False
  | none => False
def kSlice (P : Program) (dst : Option Nat) (m n : Nat) (C : AS → Prop) (S : AS) (parts : List (Nat × Operand)) : Option TI → Prop
  | some i => match tyI P i.elem with
    | some ie => (i.kind = 1 ∧ 0 < ie.size ∧ m = parts.length ∧ m * ie.size ≤ 16777216) ∧ match elemsOf (S.upd (frz S (deepP (parts.map fun q => (q.1, S.val q.2))))) ie.size 0 (parts.map fun q => (q.1, S.val q.2)) with
      | some rows => C (fin dst (frzEff S (deepP (parts.map fun q => (q.1, S.val q.2))) ⟨.hdr (8 * n), [(8 * n, some (.row i.elem ie.size rows))], []⟩) S)
      | none => False
    | none => False
  | none => False
def kRow (dst : Option Nat) (C : AS → Prop) (S : AS) (i : TI) (rd : List Nat) (j k : Nat) (rows : List (List PV)) : Prop := ∃ r, rows[k]? = some r ∧ C (fin dst ⟨ofCells i.agg (((r.drop j).take i.size).map PV.av), [], rd⟩ S)
def kLoad2 (dst : Option Nat) (C : AS → Prop) (S : AS) (i : TI) (id s k j : Nat) : Option AO → Prop
  | some (.cells _ l) => (k * s + j + i.size ≤ l.length ∧ (i.agg = true ∨ i.size = 1)) ∧ C (fin dst ⟨ofCells i.agg ((l.drop (k * s + j)).take i.size), [], [id]⟩ S)
  | some (.row _ s' rows) | some (.fro s' rows) => (s = s' ∧ j + i.size ≤ s ∧ (i.agg = true ∨ i.size = 1)) ∧ kRow dst C S i [id] j k rows
  | _ => False
def kLoad (dst : Option Nat) (C : AS → Prop) (S : AS) (a : AV) : Option TI → Prop
  | some i => match a with
    | .hdr id => match S.obj id with
      | some (.cells _ l) => (i.size ≤ l.length ∧ (i.agg = true ∨ i.size = 1)) ∧ C (fin dst ⟨ofCells i.agg (l.take i.size), [], [id]⟩ S)
      | _ => False
    | .ptr id s k j => kLoad2 dst C S i id s k j (S.obj id)
    | .spt s rows k j => (j + i.size ≤ s ∧ (i.agg = true ∨ i.size = 1)) ∧ kRow dst C S i [] j k rows
    | _ => False
  | none => False
def kStore2 (dst : Option Nat) (C : AS → Prop) (S : AS) (i : TI) (m : List AV) (id j : Nat) : Option AO → Prop
  | some (.cells t l) => (m.length = i.size ∧ j + i.size ≤ l.length) ∧ C (fin dst ⟨.dead, [(id, some (.cells t (splice l j m)))], [id]⟩ S)
  | _ => False
def kSet (dst : Option Nat) (C : AS → Prop) (S : AS) (e s id j k : Nat) (m : List PV) (rd : List Nat) (rows : List (List PV)) : Prop := ∃ r, rows[k]? = some r ∧ C (fin dst ⟨.dead, [(id, some (.row e s (rows.set k (splice r j m))))], id :: rd⟩ S)
def kStore3 (dst : Option Nat) (C : AS → Prop) (S : AS) (i : TI) (v : AV) (id s k j : Nat) : Option AO → Prop
  | some (.row e s' rows) => match S.elem v with
    | some m => (s = s' ∧ m.length = i.size ∧ j + i.size ≤ s) ∧ kSet dst C S e s id j k m v.deep rows
    | none => False
  | ob => match cellsOf v with
    | some m => kStore2 dst C S i m id (k * s + j) ob
    | none => False
def kStore (dst : Option Nat) (C : AS → Prop) (S : AS) (a v : AV) : Option TI → Prop
  | some i => match a with
    | .hdr id => match cellsOf v with
      | some m => kStore2 dst C S i m id 0 (S.obj id)
      | none => False
    | .ptr id s k j => kStore3 dst C S i v id s k j (S.obj id)
    | _ => False
  | none => False
def kField (dst : Option Nat) (C : AS → Prop) (S : AS) (f : Nat) (a : AV) : Option TI → Prop
  | some i => i.kind = 3 ∧ match i.places[f]? with
    | some (off, s') => 0 < s' ∧ match a with
      | .hdr id => match S.obj id with
        | some (.cells _ _) => C (fin dst ⟨.ptr id 0 0 off, [], [id]⟩ S)
        | _ => False
      | .ptr id s k j => C (fin dst ⟨.ptr id s k (j + off), [], []⟩ S)
      | .spt s rows k j => C (fin dst ⟨.spt s rows k (j + off), [], []⟩ S)
      | _ => False
    | none => False
  | none => False
def kIndexA (dst : Option Nat) (C : AS → Prop) (S : AS) (a b : AV) : Option (Nat × Nat) → Prop
  | some (m, es) => match b with
    | .raw (.int _ q) => (0 ≤ q ∧ q < m) ∧ match a with
      | .hdr id => match S.obj id with
        | some (.cells _ _) => C (fin dst ⟨.ptr id 0 0 (q.toNat * es), [], [id]⟩ S)
        | _ => False
      | .ptr id s k j => match S.obj id with
        | some (.cells _ _) => C (fin dst ⟨.ptr id s k (j + q.toNat * es), [], [id]⟩ S)
        | _ => False
      | _ => False
    | _ => False
  | none => False
def kIndex (P : Program) (dst : Option Nat) (C : AS → Prop) (S : AS) (t : TypeId) (a b : AV) : Option TI → Prop
  | some i => if i.kind = 2 then kIndexA dst C S a b (arrOf P t) else i.kind = 1 ∧ match tyI P i.elem with
    | some ie => match S.rowsOf a with
      | some (s, rows) => ie.size = s ∧ match b with
          | .raw (.int _ q) => (0 ≤ q ∧ q < rows.length) ∧ match elAddr a s q.toNat with
            | some v => C (fin dst ⟨v, [], a.ids⟩ S)
            | none => False
          | _ => False
      | none => False
    | none => False
  | none => False
def kEqs2 (dst : Option Nat) (C : AS → Prop) (S : AS) (op : BinOp) : Option Bool → Prop
  | some r => match op with
    | .eql => C (fin dst ⟨.raw (.bool r), [], []⟩ S)
    | .neq => C (fin dst ⟨.raw (.bool (!r)), [], []⟩ S)
    | _ => False
  | none => False
def kEqs (dst : Option Nat) (C : AS → Prop) (S : AS) (op : BinOp) : Option (List Bool) → Option (List Value) → Option (List Value) → Prop
  | some ks, some xs, some ys => kEqs2 dst C S op (eqV ks xs ys)
  | _, _, _ => False
def kShr (dst : Option Nat) (C : AS → Prop) (S : AS) (op : BinOp) (a b : Int) : Prop :=
  match op with
  | .shr => 0 ≤ b ∧ C (fin dst ⟨.raw (.int .u64 (a.fdiv (2 ^ min b.toNat 64))), [], []⟩ S)
  | _ => False
def kConv (P : Program) (dst : Option Nat) (C : AS → Prop) (S : AS) (d : Option TypeDesc) (v : AV) : Option TI → Prop
  | some i => match d with
    | some .string => (i.kind = 1 ∧ P.underlying i.elem = some (.int .u8)) ∧ match S.rowsOf v with
      | some (1, [[.raw (.int .u8 c)]]) => C (fin dst ⟨.raw (.string (ByteArray.empty.push (UInt8.ofNat c.toNat))), [], v.ids⟩ S)
      | _ => False
    | some (.int k) => match v with
      | .raw (.int _ a) => C (fin dst ⟨.raw (.int k (k.wrap a)), [], []⟩ S)
      | _ => False
    | _ => False
  | none => False
def kPart (dst : Option Nat) (C : AS → Prop) (S : AS) (f : Nat) (v : AV) (fi : Option TI) : Option TI → Prop
  | some i => i.kind = 3 ∧ match i.places[f]? with
    | some (off, s') => 0 < s' ∧ match fi with
      | some fi => (fi.agg = true ∨ fi.size = 1) ∧ match v with
        | .agg l => off + fi.size ≤ l.length ∧ C (fin dst ⟨ofCells fi.agg ((l.drop off).take fi.size), [], []⟩ S)
        | _ => False
      | none => False
    | none => False
  | none => False
def kCmp (dst : Option Nat) (C : AS → Prop) (S : AS) (kd : IntKind) (op : BinOp) (a b : Int) : Prop :=
  match cmpOp op a b with
  | some v => C (fin dst ⟨.raw v, [], []⟩ S)
  | none => match op, kd with
    | .sub, .u8 => (0 ≤ a - b ∧ a - b ≤ 255) ∧ C (fin dst ⟨.raw (.int .u8 (a - b)), [], []⟩ S)
    | _, _ => False
def kCat (dst : Option Nat) (C : AS → Prop) (S : AS) (op : BinOp) (a b : ByteArray) : Prop :=
  match op with
  | .add => a.size + b.size ≤ 9223372036854775807 ∧ C (fin dst ⟨.raw (.string (a ++ b)), [], []⟩ S)
  | _ => False
def kBin (P : Program) (dst : Option Nat) (C : AS → Prop) (S : AS) (op : BinOp) (t : TypeId) : AV → AV → Prop
  | .raw (.int .i64 a), .raw (.int .i64 b) => match intOp op a b with
    | some (v, sd) => sd ∧ C (fin dst ⟨.raw v, [], []⟩ S)
    | none => False
  | .raw (.bool a), .raw (.bool b) => P.underlying t = some .bool ∧ match op with
    | .eql => C (fin dst ⟨.raw (.bool (a == b)), [], []⟩ S)
    | .neq => C (fin dst ⟨.raw (.bool (a != b)), [], []⟩ S)
    | _ => False
  | .agg la, .agg lb => kEqs dst C S op (flatK P t) (rawsOf la) (rawsOf lb)
  | .raw (.int .u64 a), .raw (.int _ b) => kShr dst C S op a b
  | .raw (.int .u8 a), .raw (.int .u8 b) => kCmp dst C S .u8 op a b
  | .raw (.int .i32 a), .raw (.int .i32 b) => kCmp dst C S .i32 op a b
  | .raw (.string a), .raw (.string b) => kCat dst C S op a b
  | _, _ => False
def kUn (dst : Option Nat) (C : AS → Prop) (S : AS) (op : UnOp) : AV → Prop
  | .raw (.bool b) => match op with
    | .not => C (fin dst ⟨.raw (.bool (!b)), [], []⟩ S)
    | _ => False
  | .raw (.int .i64 k) => match op with
    | .neg => (-9223372036854775808 ≤ -k ∧ -k ≤ 9223372036854775807) ∧ C (fin dst ⟨.raw (.int .i64 (-k)), [], []⟩ S)
    | _ => False
  | _ => False
def kExtract (dst : Option Nat) (C : AS → Prop) (S : AS) (k : Nat) : AV → Prop
  | .tup l => match l[k]? with
    | some v => C (fin dst ⟨v, [], []⟩ S)
    | none => False
  | _ => False
def kNil (dst : Option Nat) (C : AS → Prop) (S : AS) : AV → Prop
  | .hdr id => match S.obj id with
    | some (.cells _ _) => C (fin dst ⟨.hdr id, [], [id]⟩ S)
    | _ => False
  | .ptr id s k j => C (fin dst ⟨.ptr id s k j, [], []⟩ S)
  | .spt s rows k j => C (fin dst ⟨.spt s rows k j, [], []⟩ S)
  | .clo (.func f) l => C (fin dst ⟨.clo (.func f) l, [], []⟩ S)
  | _ => False
def kLen (dst : Option Nat) (C : AS → Prop) (S : AS) (a : AV) : Option TI → Prop
  | some i => i.kind = 1 ∧ match a with
    | .raw (.slice _ m _) => C (fin dst ⟨.raw (.int .i64 m), [], []⟩ S)
    | a => match S.rowsOf a with
      | some (_, rows) => C (fin dst ⟨.raw (.int .i64 rows.length), [], a.ids⟩ S)
      | none => False
  | none => False
def kLenS (dst : Option Nat) (C : AS → Prop) (S : AS) (d : Option TypeDesc) (ti : Option TI) : AV → Prop
  | .raw (.string s) => d = some .string ∧ C (fin dst ⟨.raw (.int .i64 s.size), [], []⟩ S)
  | a => kLen dst C S a ti
def kStrIdx (dst : Option Nat) (C : AS → Prop) (S : AS) (d : Option TypeDesc) : AV → AV → Prop
  | .raw (.string s), .raw (.int _ q) => d = some .string ∧ (0 ≤ q ∧ q < s.size) ∧ C (fin dst ⟨.raw (.int .u8 (byteAt s q.toNat)), [], []⟩ S)
  | _, _ => False
def kIdxV (dst : Option Nat) (C : AS → Prop) (S : AS) (d : Option TypeDesc) (am : Option Nat) : AV → AV → Prop
  | .agg l, .raw (.int _ q) => match am with
    | some m => (0 ≤ q ∧ q < m) ∧ ∃ v, l[q.toNat]? = some v ∧ C (fin dst ⟨v, [], []⟩ S)
    | none => False
  | a, b => kStrIdx dst C S d a b
def kAppend (P : Program) (dst : Option Nat) (n : Nat) (C : AS → Prop) (S : AS) (a b : AV) : Option TI → Prop
  | some i => i.kind = 1 ∧ match tyI P i.elem with
    | some ie => match a with
      | .hdr id1 => match S.obj id1, S.rowsOf b with
        | some (.row e s rows), some (s2, rows2) => (i.elem = e ∧ ie.size = s ∧ s2 = s ∧ 0 < s ∧ ie.zero.length = s) ∧ ((rows.length + rows2.length) * ie.bytes ≤ 140737488355328 ∧ rows.length + rows2.length ≤ 9223372036854775807) ∧
          C (fin dst ⟨.hdr (8 * n), [(id1, none), (8 * n, some (.row e s (rows ++ rows2)))], id1 :: b.ids⟩ S)
        | _, _ => False
      | _ => False
    | none => False
  | none => False
def kClear2 (dst : Option Nat) (C : AS → Prop) (S : AS) (ie : TI) (id l : Nat) (h : Option (Nat × Nat)) : Option AO → Prop
  | some (.row e s rows) => (ie.zero.length = s ∧ 0 < s ∧ ie.zero.all (·.oneCell') = true) ∧ match h with
    | none => C (fin dst ⟨.tup [], [(id, some (.row e s (splice rows 0 (List.replicate rows.length (ie.zero.map .raw)))))], [id]⟩ S)
    | some (s', h) => (s' = s ∧ l ≤ h ∧ h ≤ rows.length) ∧ C (fin dst ⟨.tup [], [(id, some (.row e s (splice rows l (List.replicate (h - l) (ie.zero.map .raw)))))], [id]⟩ S)
  | _ => False
def kClear (P : Program) (dst : Option Nat) (C : AS → Prop) (S : AS) (a : AV) : Option TI → Prop
  | some i => i.kind = 1 ∧ match tyI P i.elem with
    | some ie => match a with
      | .hdr id => kClear2 dst C S ie id 0 none (S.obj id)
      | .vw id s l h => kClear2 dst C S ie id l (some (s, h)) (S.obj id)
      | _ => False
    | none => False
  | none => False
def kNilEq (dst : Option Nat) (n : Nat) (CN : Nat → AS → Prop) (S : AS) (op : BinOp) (a : AV) : Option TI → Prop
  | some i => i.kind = 1 ∧ match S.rowsOf a with
    | some (_, rows) => S.lg = none ∧ match op with
      | .eql => ∀ b : Bool, (b = true → rows.length = 0) → CN (n + 1) (fin dst ⟨.raw (.bool b), [], []⟩ S)
      | .neq => ∀ b : Bool, (b = true → rows.length = 0) → CN (n + 1) (fin dst ⟨.raw (.bool (!b)), [], []⟩ S)
      | _ => False
    | none => False
  | none => False
def kBin0 (P : Program) (dst : Option Nat) (n : Nat) (CN : Nat → AS → Prop) (S : AS) (op : BinOp) (t : TypeId) (a : AV) : AV → Prop
  | .raw (.slice none 0 0) => kNilEq dst n CN S op a (tyI P t)
  | b => kBin P dst (CN (n + 1)) S op t a b
def kMake (P : Program) (dst : Option Nat) (n : Nat) (C : AS → Prop) (S : AS) (a b : AV) : Option TI → Prop
  | some i => i.kind = 1 ∧ match tyI P i.elem with
    | some ie => match a with
      | .raw (.int .i64 q) => match b with
        | .raw (.int .i64 q') => (q = q' ∧ 0 < ie.size ∧ ie.zero.length = ie.size ∧ ie.zero.all (·.oneCell') = true) ∧ (0 ≤ q ∧ q * ie.size ≤ 16777216 ∧ ie.bytes * q ≤ 281474976710656) ∧
          C (fin dst ⟨.hdr (8 * n), [(8 * n, some (.row i.elem ie.size (List.replicate q.toNat (ie.zero.map .raw))))], []⟩ S)
        | _ => False
      | _ => False
    | none => False
  | none => False
def kCopy (P : Program) (dst : Option Nat) (C : AS → Prop) (S : AS) (a b : AV) : Option TI → Prop
  | some i => i.kind = 1 ∧ match tyI P i.elem with
    | some ie => match a with
      | .hdr id => match S.obj id with
        | some (.row e s rows) => match S.rowsOf b with
          | some (s2, rows2) => (ie.size = s ∧ s2 = s ∧ 0 < s) ∧ rows2.length = rows.length ∧ C (fin dst ⟨.raw (.int .i64 rows.length), [(id, some (.row e s rows2))], id :: b.ids⟩ S)
          | none => False
        | _ => False
      | _ => False
    | none => False
  | none => False
def ACall (P : Program) (dst : Option Nat) (n : Nat) (CN : Nat → AS → Prop) (S : AS) (args : List AV) : AV → Prop
  | .clo (.func f) caps => ∃ E, fnB P f = true ∧ CallOk P f (args ++ caps) S n E ∧ CN (n + 1) (fin dst E S)
  | .bnd (.func f) first => ∃ E, fnB P f = true ∧ CallOk P f (first ++ args) S n E ∧ CN (n + 1) (fin dst E S)
  | .hdr id => S.lg = none ∧ YieldOk P dst n CN S args id
  | _ => False
def kMinMax (dst : Option Nat) (C : AS → Prop) (S : AS) (mx : Bool) : List AV → Prop
  | [.raw (.int .i64 a), .raw (.int .i64 b)] => C (fin dst ⟨.raw (.int .i64 (if mx then max a b else min a b)), [], []⟩ S)
  | [.raw (.int .i64 a), .raw (.int .i64 b), .raw (.int .i64 c)] => C (fin dst ⟨.raw (.int .i64 (if mx then max (max a b) c else min (min a b) c)), [], []⟩ S)
  | [.raw (.int .i64 a), .raw (.int .i64 b), .raw (.int .i64 c), .raw (.int .i64 d)] => C (fin dst ⟨.raw (.int .i64 (if mx then max (max (max a b) c) d else min (min (min a b) c) d)), [], []⟩ S)
  | [.raw (.int .i64 a), .raw (.int .i64 b), .raw (.int .i64 c), .raw (.int .i64 d), .raw (.int .i64 e)] => C (fin dst ⟨.raw (.int .i64 (if mx then max (max (max (max a b) c) d) e else min (min (min (min a b) c) d) e)), [], []⟩ S)
  | _ => False

def kSubSl (dst : Option Nat) (C : AS → Prop) (S : AS) (rd : List Nat) (s : Nat) (rows : List (List PV)) : Option (Option Int) → Option (Option Int) → Option (Option Int) → Prop
  | some ql, some qh, some qm => (qm.isSome = true → qh.isSome = true) ∧ (0 ≤ ql.getD 0 ∧ ql.getD 0 ≤ qh.getD rows.length ∧ qh.getD rows.length ≤ rows.length) ∧ (match qm with | some q => qh.getD rows.length ≤ q ∧ q ≤ rows.length | none => True) ∧
      C (fin dst ⟨.sl s ((rows.drop (ql.getD 0).toNat).take ((qh.getD rows.length).toNat - (ql.getD 0).toNat)), [], rd⟩ S)
  | _, _, _ => False
def kSubRow (dst : Option Nat) (n : Nat) (C : AS → Prop) (S : AS) (id e s : Nat) (rows : List (List PV)) (lo : Option Operand) : Option (Option Int) → Option (Option Int) → Prop
  | some ql, some qh => match lo with
    | none => (0 ≤ qh.getD rows.length ∧ qh.getD rows.length ≤ rows.length) ∧ C (fin dst ⟨.hdr (8 * n), [(id, none), (8 * n, some (.row e s (rows.take (qh.getD rows.length).toNat)))], [id]⟩ S)
    | some _ => (0 ≤ ql.getD 0 ∧ ql.getD 0 ≤ qh.getD rows.length ∧ qh.getD rows.length ≤ rows.length) ∧ C (fin dst ⟨.vw id s (ql.getD 0).toNat (qh.getD rows.length).toNat, [], [id]⟩ S)
  | _, _ => False
def kSubNone (P : Program) (dst : Option Nat) (n : Nat) (C : AS → Prop) (S : AS) (i : TI) (a : AV) (ql qh qm : Option (Option Int)) : Prop :=
  match S.rowsOf a with
  | some (s, _) => match ql, qh, qm with
    | some ql, some (some h), some (some m) => (ql.getD 0 = 0 ∧ h = 0 ∧ m = 0) ∧ C (fin dst ⟨.hdr (8 * n), [(8 * n, some (.row i.elem s []))], a.ids⟩ S)
    | _, _, _ => False
  | none => False
def kSub (P : Program) (dst : Option Nat) (n : Nat) (C : AS → Prop) (S : AS) (a : AV) (lo hi mx : Option Operand) : Option TI → Prop
  | some i => i.kind = 1 ∧ match tyI P i.elem with
    | some ie => match S.rowsOf a with
      | some (s, rows) => ie.size = s ∧ match mx with
        | some _ => kSubNone P dst n C S i a (optInt S lo) (optInt S hi) (optInt S mx)
        | none => match S.see a with
          | .sl s' rows => s' = s ∧ kSubSl dst C S a.deep s rows (optInt S lo) (optInt S hi) (some none)
          | .hdr id => match S.obj id with
            | some (.row e s' rows) => s' = s ∧ kSubRow dst n C S id e s rows lo (optInt S lo) (optInt S hi)
            | _ => False
          | _ => False
      | none => False
    | none => False
  | none => False
/-- one operation. -/
def aop (P : Program) (op : Op) (ty : TypeId) (dst : Option Nat) (n : Nat) (CN : Nat → AS → Prop) (S : AS) : Prop :=
  match op with
  | .move x => kMove P ty dst n (CN (n + 1)) S (S.val x)
  | .assign x => kMove P ty dst n (CN (n + 1)) S (S.val x)
  | .pick c x y => kPick dst (CN (n + 1)) S (S.val x) (S.val y) (S.val c)
  | .alloc t => kAlloc P dst t n (CN (n + 1)) S (tyI P t)
  | .box t x => kBoxV P dst t n (CN (n + 1)) S (S.val x)
  | .build t parts => kBuild P dst n t (CN (n + 1)) S parts.toList (tyI P t)
  | .buildSlice t m parts => kSlice P dst m n (CN (n + 1)) S parts.toList (tyI P t)
  | .load t x => kLoad dst (CN (n + 1)) S (S.val x) (tyI P t)
  | .store t x y => kStore dst (CN (n + 1)) S (S.val x) (S.val y) (tyI P t)
  | .fieldAddr t x f => kField dst (CN (n + 1)) S f (S.val x) (tyI P t)
  | .indexAddr t x y => kIndex P dst (CN (n + 1)) S t (S.val x) (S.val y) (tyI P t)
  | .index t x y => kIdxV dst (CN (n + 1)) S (P.underlying t) (arrV P t) (S.val x) (S.val y)
  | .binOp op t x y _ => kBin0 P dst n CN S op t (S.val x) (S.val y)
  | .makeSlice t x y => kMake P dst n (CN (n + 1)) S (S.val x) (S.val y) (tyI P t)
  | .unOp op _ x => kUn dst (CN (n + 1)) S op (S.val x)
  | .convert t u x => kConv P dst (CN (n + 1)) S (P.underlying u) (S.val x) (tyI P t)
  | .field t x f => kPart dst (CN (n + 1)) S f (S.val x) ((fieldT P t f).bind (tyI P)) (tyI P t)
  | .extract x k => kExtract dst (CN (n + 1)) S k (S.val x)
  | .nilCheck x => kNil dst (CN (n + 1)) S (S.val x)
  | .slice t x lo hi mx => kSub P dst n (CN (n + 1)) S (S.val x) lo hi mx (tyI P t)
  | .makeFunc f fs xs => if fs.toList = [] then CN (n + 1) (fin dst ⟨.clo f (xs.toList.map S.val), [], []⟩ S) else xs.toList = [] ∧ CN (n + 1) (fin dst ⟨.bnd f (fs.toList.map S.val), [], []⟩ S)
  | .call { callee := .value f, args, argTypes := _ } => ACall P dst n CN S (args.toList.map S.val) (S.val f)
  | .call { callee := .builtin b, args, argTypes } => match b with
    | .len => match args.toList, argTypes.toList with
      | [x], [t] => kLenS dst (CN (n + 1)) S (P.underlying t) (tyI P t) (S.val x)
      | _, _ => False
    | .append => match args.toList, argTypes.toList with
      | [x, y], [t, u] => t = u ∧ kAppend P dst n (CN (n + 1)) S (S.val x) (S.val y) (tyI P t)
      | _, _ => False
    | .copy => match args.toList, argTypes.toList with
      | [x, y], [t, _] => kCopy P dst (CN (n + 1)) S (S.val x) (S.val y) (tyI P t)
      | _, _ => False
    | .clear => match args.toList, argTypes.toList with
      | [x], [t] => kClear P dst (CN (n + 1)) S (S.val x) (tyI P t)
      | _, _ => False
    | .max => kMinMax dst (CN (n + 1)) S true (args.toList.map S.val)
    | .min => kMinMax dst (CN (n + 1)) S false (args.toList.map S.val)
    | _ => False
  | _ => False
def skipK (dst : Option Nat) (C : AS → Prop) (S : AS) : Prop := C (fin dst ⟨.raw undef, [], []⟩ S)
/-- what a guard reads: a bool; of what was left out nothing. -/
def bv : Value → Option Bool
  | .bool b => some b
  | _ => none
theorem yielded_bv {ops : Array Oper} {tm : Array Value} {j d : Nat} {v : Value} (hb : (ops[j]?).bind (·.dst) = some d) (h : tm.getD d undef = v) : yielded ops tm j = bv v := by
  unfold yielded
  rw [hb]
  simp only [Array.getD_eq_getD_getElem?] at h
  subst h
  simp only [Option.bind_some]
  cases tm[d]? with
  | none => rfl
  | some t => cases t <;> rfl
def gsplit (want : Bool) (d : Nat) (T F : AS → Prop) (S : AS) : AV → Prop
  | .raw (.tuple _) => F S
  | .raw (.bool b) => (b = want → T (S.put d (.raw (.bool want)))) ∧ (b = !want → F (S.put d (.raw (.bool (!want)))))
  | _ => False
def aguard (D : List (Option Nat)) (T F : AS → Prop) (S : AS) : Option (Nat × Bool) → Prop
  | none => T S
  | some (j, want) => match D[j]? with
    | some (some d) => gsplit want d T F S (S.get d)
    | _ => False
/-- operations, one behind the other. -/
def AOps (P : Program) (D : List (Option Nat)) : List Oper → (Nat → AS → Prop) → Nat → AS → Prop
  | [], K, n, S => K n S
  | o :: rest, K, n, S => aguard D (aop P o.op o.type o.dst n (AOps P D rest K)) (skipK o.dst (AOps P D rest K (n + 1))) S o.guard
end Go.Proofs.YtblmebjhhanoaaaGreat
/- ENGINE (second) 7: what is shown as a proposition is so: operations; over any program. -/
set_option linter.unusedSimpArgs false
set_option linter.unusedVariables false
namespace Go.Proofs.YtblmebjhhanoaaaGreat
open Go.RowKit

theorem all_one {l : List Value} (h : l.all (·.oneCell') = true) : ∀ u ∈ l, u.oneCell' = true := fun u hu => List.all_eq_true.1 h u hu
theorem run_call_b {P : Program} {o : Oper} {a : Act} {w w' : World} {b : Builtin} {args : Array Operand} {ts : Array TypeId} {v : Value} (ho : o.op = .call { callee := .builtin b, args := args, argTypes := ts }) (h : (builtin b ts o.type (args.map fun | .const _ => true | _ => false) (args.map a.eval)).run P w = .ok (.value v) w') :
    (execOp a.eval o).run P w = .ok (.value v) w' := by
  unfold execOp
  rw [ho]
  simp only [resolve, Sem.run_bind, Sem.run_pure, Result.andThen_ok, invoke]
  exact h
theorem run_max2 {P : Program} {w : World} (a b : Int) (mx : Bool) : ((if mx then Builtin.max2 else Builtin.min2) (.int .i64 a) (.int .i64 b)).run P w = .ok (.int .i64 (if mx then max a b else min a b)) w := by
  cases mx
  · simp only [Bool.false_eq_true, if_false, Builtin.min2, Sem.run_pure]
    congr 2
    simp only [Int.min_def]
    split <;> split <;> omega
  · simp only [if_true, Builtin.max2, Sem.run_pure]
    congr 2
    simp only [Int.max_def]
    split <;> split <;> omega
/-- the greatest, the least one of some. -/
def mmAll (mx : Bool) (a : Int) (l : List Int) : Int := l.foldl (fun x y => if mx then max x y else min x y) a
theorem run_mm {P : Program} {w : World} (mx : Bool) : ∀ (l : List Int) (a : Int), ((l.map (Value.int .i64)).foldlM (if mx then Builtin.max2 else Builtin.min2) (.int .i64 a)).run P w = .ok (.int .i64 (mmAll mx a l)) w
  | [], a => by simp [mmAll]
  | b :: l, a => by
    simp only [List.map_cons, List.foldlM_cons, Sem.run_bind, run_max2, Result.andThen_ok]
    rw [run_mm mx l]
    rfl
theorem does_mm {P : Program} {o : Oper} {S : AS} {n : Nat} {args : Array Operand} {ts : Array TypeId} {mx : Bool} {a : Int} {l : List Int} (ho : o.op = .call { callee := .builtin (if mx then .max else .min), args := args, argTypes := ts })
    (h : args.toList.map S.val = (.raw (.int .i64 a)) :: l.map (fun x => .raw (.int .i64 x))) : DoesAt P o S n ⟨.raw (.int .i64 (mmAll mx a l)), [], []⟩ :=
  does_pure rfl fun c p ρ ac w hm => by
    have h1 : ∀ (xs : List Operand) (ys : List Int), xs.map S.val = ys.map (fun x => .raw (.int .i64 x)) → xs.map ac.eval = ys.map (Value.int .i64) := by
      intro xs
      induction xs with
      | nil => intro ys e; cases ys <;> simp_all
      | cons x xs ih =>
        intro ys e
        cases ys with
        | nil => simp at e
        | cons y ys =>
          simp only [List.map_cons, List.cons.injEq] at e ⊢
          exact ⟨hm.raw e.1, ih ys e.2⟩
    have h2 := h1 args.toList (a :: l) (by simpa using h)
    refine ⟨.int .i64 (mmAll mx a l), run_call_b ho ?_, by simp [Rep]⟩
    have h3 := run_mm (P := P) (w := w) mx l a
    cases mx
    · simp only [Bool.false_eq_true, if_false, builtin] at h3 ⊢
      refine run_v ?_
      simp only [Builtin.min_, Array.toList_map, h2, List.map_cons]
      exact h3
    · simp only [if_true, builtin] at h3 ⊢
      refine run_v ?_
      simp only [Builtin.max_, Array.toList_map, h2, List.map_cons]
      exact h3

theorem does_call {P : Program} {o : Oper} {S : AS} {n : Nat} {E : Eff} {f : FuncId} {x : Operand} {args : Array Operand} {ts : Array TypeId} {caps : List AV} (ho : o.op = .call { callee := .value x, args := args, argTypes := ts }) (hx : S.val x = .clo (.func f) caps)
    (hf : fnB P f = true) {S0 : AS} (hag : ∀ i ∈ E.reads, S.obj i = S0.obj i) (h : CallOk P f (args.toList.map S.val ++ caps) S0 n E) : DoesAt P o S n E := by
  intro rd m0 c p ρ a w hm hn K Q hK
  have hv := hm.val x
  rw [hx] at hv
  simp only [Rep] at hv
  obtain ⟨cs, e, hcs⟩ := hv
  have hargs : ∀ l : List Operand, RepL ρ (l.map S.val) (l.map a.eval) := by
    intro l
    induction l with
    | nil => simp [RepL]
    | cons y l ih => simp only [List.map_cons, RepL]; exact ⟨hm.val y, ih⟩
  have hc := h S hag c p ρ a.tmps w (args.toList.map a.eval ++ cs) hm hn ((hargs _).append hcs)
  obtain ⟨fn, h1, h2, h3⟩ : ∃ fn, P.funcs[f]? = some fn ∧ fn.name ≠ "runtime.NumGoroutine" ∧ fn.body.isSome = true := by
    unfold fnB at hf
    cases h1 : P.funcs[f]? with
    | none => rw [h1] at hf; simp at hf
    | some fn => rw [h1] at hf; simp at hf; exact ⟨fn, rfl, hf.1, by simpa using hf.2⟩
  have hr : (execOp a.eval o).run P w = .ok (.enter f (args.toList.map a.eval ++ cs).toArray) w := by
    unfold execOp
    rw [ho]
    have h4 : ¬ fn.body = none := fun e => by rw [e] at h3; simp at h3
    simp [resolve, e, Deferred.ofValue, invoke, callFunc, h1, h2, h4]
  refine wpIn_enters hr (hc.mono ?_)
  rintro e' w' ⟨v, ρ', rfl, hm', hv'⟩
  exact ⟨v, rfl, hK v ρ' w' hm' hv'⟩

theorem does_callB {P : Program} {o : Oper} {S : AS} {n : Nat} {E : Eff} {f : FuncId} {x : Operand} {args : Array Operand} {ts : Array TypeId} {caps : List AV} (ho : o.op = .call { callee := .value x, args := args, argTypes := ts }) (hx : S.val x = .bnd (.func f) caps)
    (hf : fnB P f = true) {S0 : AS} (hag : ∀ i ∈ E.reads, S.obj i = S0.obj i) (h : CallOk P f (caps ++ args.toList.map S.val) S0 n E) : DoesAt P o S n E := by
  intro rd m0 c p ρ a w hm hn K Q hK
  have hv := hm.val x
  rw [hx] at hv
  simp only [Rep] at hv
  obtain ⟨cs, e, hcs⟩ := hv
  have hargs : ∀ l : List Operand, RepL ρ (l.map S.val) (l.map a.eval) := by
    intro l
    induction l with
    | nil => simp [RepL]
    | cons y l ih => simp only [List.map_cons, RepL]; exact ⟨hm.val y, ih⟩
  have hc := h S hag c p ρ a.tmps w (cs ++ args.toList.map a.eval) hm hn (hcs.append (hargs _))
  obtain ⟨fn, h1, h2, h3⟩ : ∃ fn, P.funcs[f]? = some fn ∧ fn.name ≠ "runtime.NumGoroutine" ∧ fn.body.isSome = true := by
    unfold fnB at hf
    cases h1 : P.funcs[f]? with
    | none => rw [h1] at hf; simp at hf
    | some fn => rw [h1] at hf; simp at hf; exact ⟨fn, rfl, hf.1, by simpa using hf.2⟩
  have hr : (execOp a.eval o).run P w = .ok (.enter f (cs ++ args.toList.map a.eval).toArray) w := by
    unfold execOp
    rw [ho]
    have h4 : ¬ fn.body = none := fun e => by rw [e] at h3; simp at h3
    simp [resolve, e, Deferred.ofValue, invoke, callFunc, h1, h2, h4]
  refine wpIn_enters hr (hc.mono ?_)
  rintro e' w' ⟨v, ρ', rfl, hm', hv'⟩
  exact ⟨v, rfl, hK v ρ' w' hm' hv'⟩

theorem ofV_raw {S : AS} {x : Operand} {v : AV} (h : S.val x = v) : S.val x = v := h

theorem map_val {S S' : AS} {l : List Operand} (h : ∀ x ∈ l, S'.val x = S.val x) : l.map S'.val = l.map S.val := List.map_congr_left h
theorem fill_val {S S' : AS} {l : List (Nat × Operand)} (h : ∀ q ∈ l, S'.val q.2 = S.val q.2) : (l.map fun q => (q.1, S'.val q.2)) = l.map fun q => (q.1, S.val q.2) := List.map_congr_left fun q hq => by rw [h q hq]
theorem rowsOf_congr {S S' : AS} {a : AV} (h : ∀ i ∈ a.ids, S'.obj i = S.obj i) : S'.rowsOf a = S.rowsOf a := by
  cases a <;> simp only [AS.rowsOf, AV.ids, List.mem_singleton, forall_eq] at h ⊢
  · rw [h]
  · rw [h]

theorem Mod.note' {c : Ctx} {p : Nat → Prop} {ρ : Env} {S : AS} {tm : Array Value} {w : World} (h : Mod c p ρ S tm w) (r u : List Nat) : Mod c p ρ (S.note r u) tm w :=
  ⟨h.size, h.base, h.baseR, h.lo, h.dom, h.tmps, h.objs, h.apart, h.old, h.ro, h.rsep, h.rnew, h.rdf, h.dfr, h.frame⟩
theorem DefOk.put' {c : Ctx} {a : Act} {w : World} (h : DefOk c a w) (d : Option Nat) (v : Value) : DefOk c (a.put d v) w := by
  cases d <;> exact h
set_option maxHeartbeats 1000000 in
/-- an operation for which it is shown, does so. -/
theorem aop_sound0 {P : Program} {o : Oper} {S : AS} {n : Nat} {CN : Nat → AS → Prop} (hnc : ¬ ∃ x args ts, o.op = .call { callee := .value x, args := args, argTypes := ts }) (hnb : ∀ op t x y u, o.op = .binOp op t x y u → S.val y ≠ .raw (.slice none 0 0)) (h : aop P o.op o.type o.dst n CN S) : ∃ E, (∀ S', (∀ x ∈ o.op.operands, S'.val x = S.val x) → (∀ i ∈ E.reads, S'.obj i = S.obj i) → DoesAt P o S' n E) ∧ CN (n + 1) (fin o.dst E S) := by
  unfold aop at h
  split at h
  · next x ho =>
    generalize hv : S.val x = v at h
    unfold kMove at h
    split at h
    · split at h
      · next i hi =>
        split at h
        · next ie hie => exact ⟨_, fun S' hv' ho' => does_nil (.inl ho) hi hie ((hv' x (by simp [ho, Op.operands])).trans hv), h⟩
        · exact h.elim
      · exact h.elim
    · exact ⟨⟨S.val x, [], []⟩, fun S' hv' ho' => by rw [← (hv' x (by simp [ho, Op.operands]))]; exact does_move x (.inl ho), by rw [hv]; exact h⟩
  · next x ho =>
    generalize hv : S.val x = v at h
    unfold kMove at h
    split at h
    · split at h
      · next i hi =>
        split at h
        · next ie hie => exact ⟨_, fun S' hv' ho' => does_nil (.inr ho) hi hie ((hv' x (by simp [ho, Op.operands])).trans hv), h⟩
        · exact h.elim
      · exact h.elim
    · exact ⟨⟨S.val x, [], []⟩, fun S' hv' ho' => by rw [← (hv' x (by simp [ho, Op.operands]))]; exact does_move x (.inr ho), by rw [hv]; exact h⟩
  · next c x y ho =>
    generalize hv : S.val c = v at h
    unfold kPick at h
    split at h
    · next t =>
      cases t with
      | true => exact ⟨⟨S.val x, [], []⟩, fun S' hv' ho' => by rw [← (hv' x (by simp [ho, Op.operands]))]; exact does_pick (t := true) ho ((hv' c (by simp [ho, Op.operands])).trans hv), h.1 rfl⟩
      | false => exact ⟨⟨S.val y, [], []⟩, fun S' hv' ho' => by rw [← (hv' y (by simp [ho, Op.operands]))]; exact does_pick (t := false) ho ((hv' c (by simp [ho, Op.operands])).trans hv), h.2 rfl⟩
    · exact h.elim
  · next t ho =>
    generalize hi : tyI P t = q at h
    unfold kAlloc at h
    split at h
    · split at h
      · unfold kAllocR at h
        split at h
        · next hz =>
          split at h
          · exact ⟨_, fun _ _ _ => does_allocrow ho hi hz, h⟩
          · exact h.elim
        · exact h.elim
      · exact ⟨_, fun _ _ _ => does_allocN _ ho hi (all_one h.1.1) h.1.2, h.2⟩
    · exact h.elim
  · next t x ho =>
    generalize hx : S.val x = v at h
    unfold kBoxV at h
    split at h
    · split at h
      · split at h
        · exact ⟨_, fun S' hv' _ => does_boxrow ho ((hv' x (by simp [ho, Op.operands])).trans hx), h⟩
        · exact h.elim
      · exact h.elim
    · generalize hi : cellsOf v = q at h
      unfold kBox at h
      split at h
      · exact ⟨_, fun S' hv' _ => does_box ho (by rw [hv' x (by simp [ho, Op.operands]), hx]; exact hi), h⟩
      · exact h.elim
  · next t parts ho =>
    generalize hi : tyI P t = q at h
    unfold kBuild at h
    split at h
    · obtain ⟨⟨h1, h2, h3⟩, h⟩ := h
      have h2 := fun q hq => of_decide_eq_true (List.all_eq_true.1 h2 q hq)
      split at h
      · next l hl => exact ⟨_, fun S' hv' ho' => does_buildN _ (parts := parts.toList) (by rw [ho]) hi h1 h2 (all_one h3) (by rw [fill_val (fun q hq => hv' q.2 (by simp only [ho, Op.operands]; exact List.mem_toArray.2 (List.mem_map_of_mem hq)))]; exact hl) h.1, h.2⟩
      · exact h.elim
    · exact h.elim
  · next t m parts ho =>
    generalize hi : tyI P t = q at h
    unfold kSlice at h
    split at h
    · next i =>
      split at h
      · next ie hie =>
        obtain ⟨⟨h1, h2, h3, h4⟩, h⟩ := h
        split at h
        · next rows hr =>
          refine ⟨_, fun S' hv' ho' => ?_, h⟩
          have hob : ∀ i ∈ deepP (parts.toList.map fun q => (q.1, S.val q.2)), S'.obj i = S.obj i := fun i hi => ho' i (by simp only [frzEff]; exact List.mem_append_right _ hi)
          have hfz := frz_congr hob
          have e1 : frzEff S (deepP (parts.toList.map fun q => (q.1, S.val q.2))) ⟨.hdr (8 * n), [(8 * n, some (.row i.elem ie.size rows))], []⟩ = frzEff S' (deepP (parts.toList.map fun q => (q.1, S.val q.2))) ⟨.hdr (8 * n), [(8 * n, some (.row i.elem ie.size rows))], []⟩ := by
            simp only [frzEff, hfz]
          rw [e1]
          refine does_frz _ (does_buildSlice (parts := parts.toList) (by rw [ho]) hi h1 hie h2 h3 h4 ?_)
          have e2 : (parts.toList.map fun q => (q.1, (S'.upd (frz S' (deepP (parts.toList.map fun q => (q.1, S.val q.2))))).val q.2)) = parts.toList.map fun q => (q.1, S.val q.2) :=
            fill_val (S' := S') (fun q hq => hv' q.2 (by simp only [ho, Op.operands]; exact List.mem_toArray.2 (List.mem_map_of_mem hq)))
          rw [e2, hfz, ← hr]
          refine elems_congr _ _ (fun i hi => ?_)
          rw [upd_obj, upd_obj, hob i hi]
        · exact h.elim
      · exact h.elim
    · exact h.elim
  · next t x ho =>
    generalize hi : tyI P t = q at h
    generalize hv : S.val x = v at h
    unfold kLoad at h
    split at h
    · next i =>
      split at h
      · next id =>
        split at h
        · next t' l hob =>
          refine ⟨⟨ofCells i.agg (l.take i.size), [], [id]⟩, fun S' hv' ho' => ?_, by simpa using h.2⟩
          have := does_load_cells (P := P) (n := n) (S := S') ho hi (x := x) (id := id) (s := 0) (k := 0) (j := 0) (by rw [(hv' x (by simp [ho, Op.operands])), hv]; rfl) ((ho' id (by simp)).trans hob) (by simpa using h.1.1) h.1.2
          simpa using this
        · exact h.elim
      · next id s k j =>
        generalize hob : S.obj id = ob at h
        unfold kLoad2 at h
        split at h
        · exact ⟨_, fun S' hv' ho' => does_load_cells ho hi (by rw [(hv' x (by simp [ho, Op.operands])), hv]; rfl) ((ho' id (by simp)).trans hob) h.1.1 h.1.2, h.2⟩
        · obtain ⟨⟨rfl, h1, h2⟩, h⟩ := h
          unfold kRow at h
          obtain ⟨r, hr, h⟩ := h
          exact ⟨_, fun S' hv' ho' => does_load_row ho hi ((hv' x (by simp [ho, Op.operands])).trans hv) ((ho' id (by simp)).trans hob) rfl hr h1 h2, h⟩
        · obtain ⟨⟨rfl, h1, h2⟩, h⟩ := h
          unfold kRow at h
          obtain ⟨r, hr, h⟩ := h
          exact ⟨_, fun S' hv' ho' => does_load_row ho hi ((hv' x (by simp [ho, Op.operands])).trans hv) ((ho' id (by simp)).trans hob) rfl hr h1 h2, h⟩
        · exact h.elim
      · next s rows k j =>
        obtain ⟨⟨h1, h2⟩, h⟩ := h
        unfold kRow at h
        obtain ⟨r, hr, h⟩ := h
        exact ⟨_, fun S' hv' ho' => does_load_spt ho hi ((hv' x (by simp [ho, Op.operands])).trans hv) hr h1 h2, h⟩
      · exact h.elim
    · exact h.elim
  · next t x y ho =>
    generalize hi : tyI P t = q at h
    generalize hv : S.val x = v at h
    generalize hw : S.val y = vy at h
    unfold kStore at h
    split at h
    · next i =>
      split at h
      · next id =>
        split at h
        · next m hm =>
          generalize hob : S.obj id = ob at h
          unfold kStore2 at h
          split at h
          · exact ⟨_, fun S' hv' ho' => does_store_cells ho hi (id := id) (s := 0) (k := 0) (j := 0) (by rw [(hv' x (by simp [ho, Op.operands])), hv]; rfl) ((ho' id (by simp)).trans hob) (by rw [(hv' y (by simp [ho, Op.operands])), hw]; exact hm) h.1.1 (by simpa using h.1.2), by simpa using h.2⟩
          · exact h.elim
        · exact h.elim
      · next id s k j =>
        generalize hob : S.obj id = ob at h
        unfold kStore3 at h
        split at h
        · next e s' rows =>
          split at h
          · next m hm =>
            obtain ⟨⟨rfl, h1, h2⟩, h⟩ := h
            unfold kSet at h
            obtain ⟨r, hr, h⟩ := h
            exact ⟨_, fun S' hv' ho' => does_store_row ho hi ((hv' x (by simp [ho, Op.operands])).trans hv) ((ho' id (by simp)).trans hob) (by rw [(hv' y (by simp [ho, Op.operands])), hw, elem_congr (fun i hi => ho' i (List.mem_cons_of_mem _ hi))]; exact hm) h1 hr h2, h⟩
          · exact h.elim
        · split at h
          · next m hm =>
            unfold kStore2 at h
            split at h
            · exact ⟨_, fun S' hv' ho' => does_store_cells ho hi (by rw [(hv' x (by simp [ho, Op.operands])), hv]; rfl) ((ho' id (by simp)).trans hob) (by rw [(hv' y (by simp [ho, Op.operands])), hw]; exact hm) h.1.1 h.1.2, h.2⟩
            · exact h.elim
          · exact h.elim
      · exact h.elim
    · exact h.elim
  · next t x f ho =>
    generalize hi : tyI P t = q at h
    generalize hv : S.val x = v at h
    unfold kField at h
    split at h
    · next i =>
      obtain ⟨hk, h⟩ := h
      split at h
      · next off s' hp =>
        obtain ⟨hs, h⟩ := h
        split at h
        · next id =>
          split at h
          · next t' l hob =>
            refine ⟨⟨.ptr id 0 0 off, [], [id]⟩, fun S' hv' ho' => ?_, h⟩
            have := does_fieldAddr (P := P) (n := n) (S := S') ho hi hk hp hs (id := id) (s := 0) (k := 0) (j := 0) (by rw [(hv' x (by simp [ho, Op.operands])), hv]; rfl) ((ho' id (by simp)).trans hob)
            simpa using this
          · exact h.elim
        · exact ⟨_, fun S' hv' ho' => does_fieldAddr_row ho hi hk hp hs ((hv' x (by simp [ho, Op.operands])).trans hv), h⟩
        · exact ⟨_, fun S' hv' ho' => does_fieldAddr_spt ho hi hk hp hs ((hv' x (by simp [ho, Op.operands])).trans hv), h⟩
        · exact h.elim
      · exact h.elim
    · exact h.elim
  · next t x y ho =>
    generalize hi : tyI P t = q at h
    generalize hv : S.val x = v at h
    generalize hu : S.val y = u at h
    unfold kIndex at h
    split at h
    · next i =>
      split at h
      · generalize ha : arrOf P t = qa at h
        unfold kIndexA at h
        split at h
        · next m es =>
          split at h
          · obtain ⟨⟨h0, h1⟩, h⟩ := h
            split at h
            · next id =>
              split at h
              · next hob =>
                refine ⟨⟨.ptr id 0 0 (_), [], [id]⟩, fun S' hv' ho' => ?_, h⟩
                have := does_indexArr (P := P) (n := n) (S := S') ho ha (id := id) (s := 0) (k := 0) (j := 0) (by rw [(hv' x (by simp [ho, Op.operands])), hv]; rfl) ((ho' id (by simp)).trans hob) ((hv' y (by simp [ho, Op.operands])).trans hu) h0 h1
                simpa using this
              · exact h.elim
            · next id s k j =>
              split at h
              · next hob => exact ⟨_, fun S' hv' ho' => does_indexArr ho ha (by rw [(hv' x (by simp [ho, Op.operands])), hv]; rfl) ((ho' id (by simp)).trans hob) ((hv' y (by simp [ho, Op.operands])).trans hu) h0 h1, h⟩
              · exact h.elim
            · exact h.elim
          · exact h.elim
        · exact h.elim
      · obtain ⟨hk, h⟩ := h
        split at h
        · next ie hie =>
          split at h
          · next s rows hor =>
            obtain ⟨hs, h⟩ := h
            split at h
            · obtain ⟨⟨h0, h1⟩, h⟩ := h
              split at h
              · next vv he => exact ⟨_, fun S' hv' ho' => does_indexAddr ho hi hk hie hs ((hv' x (by simp [ho, Op.operands])).trans hv) ((rowsOf_congr ho').trans hor) ((hv' y (by simp [ho, Op.operands])).trans hu) h0 h1 he, h⟩
              · exact h.elim
            · exact h.elim
          · exact h.elim
        · exact h.elim
    · exact h.elim
  · next t x y ho =>
    generalize hd : P.underlying t = d at h
    generalize hv : S.val x = v at h
    generalize hu : S.val y = u at h
    unfold kIdxV at h
    split at h
    · generalize ha : arrV P t = am at h
      split at h
      · obtain ⟨⟨h0, h1⟩, w, h2, h⟩ := h
        obtain ⟨e, dd, k1, k2, k3, k4⟩ := arrV_spec ha
        exact ⟨_, fun S' hv' ho' => does_arrIdx ho k1 k2 k3 k4 ((hv' x (by simp [ho, Op.operands])).trans hv) ((hv' y (by simp [ho, Op.operands])).trans hu) h0 h1 h2, h⟩
      · exact h.elim
    unfold kStrIdx at h
    split at h
    · obtain ⟨rfl, ⟨h0, h1⟩, h⟩ := h
      exact ⟨_, fun S' hv' ho' => does_strIdx ho hd ((hv' x (by simp [ho, Op.operands])).trans hv) ((hv' y (by simp [ho, Op.operands])).trans hu) h0 h1, h⟩
    · exact h.elim
  · next op t x y t2 ho =>
    have h : kBin P o.dst (CN (n + 1)) S op t (S.val x) (S.val y) := by
      unfold kBin0 at h
      split at h
      · next hq => exact absurd hq (hnb op t x y t2 ho)
      · exact h
    generalize hv : S.val x = v at h
    generalize hu : S.val y = u at h
    unfold kBin at h
    split at h
    · split at h
      · next hi => exact ⟨_, fun S' hv' ho' => does_int ho ((hv' x (by simp [ho, Op.operands])).trans hv) ((hv' y (by simp [ho, Op.operands])).trans hu) hi h.1, h.2⟩
      · exact h.elim
    · obtain ⟨ht, h⟩ := h
      split at h
      · exact ⟨_, fun S' hv' ho' => does_eqb ho ht ((hv' x (by simp [ho, Op.operands])).trans hv) ((hv' y (by simp [ho, Op.operands])).trans hu), h⟩
      · exact ⟨_, fun S' hv' ho' => does_neb ho ht ((hv' x (by simp [ho, Op.operands])).trans hv) ((hv' y (by simp [ho, Op.operands])).trans hu), h⟩
      · exact h.elim
    · generalize hk : flatK P t = fk at h
      generalize h1 : rawsOf _ = ra at h
      generalize h2 : rawsOf _ = rb at h
      unfold kEqs at h
      split at h
      · generalize hr : eqV _ _ _ = r at h
        unfold kEqs2 at h
        split at h
        · split at h
          · exact ⟨_, fun S' hv' ho' => does_eqs (op := .eql) ho (.inl rfl) hk ((hv' x (by simp [ho, Op.operands])).trans hv) ((hv' y (by simp [ho, Op.operands])).trans hu) h1 h2 hr, h⟩
          · exact ⟨_, fun S' hv' ho' => does_eqs (op := .neq) ho (.inr rfl) hk ((hv' x (by simp [ho, Op.operands])).trans hv) ((hv' y (by simp [ho, Op.operands])).trans hu) h1 h2 hr, h⟩
          · exact h.elim
        · exact h.elim
      · exact h.elim
    · unfold kShr at h
      split at h
      · exact ⟨_, fun S' hv' ho' => does_shr ho ((hv' x (by simp [ho, Op.operands])).trans hv) ((hv' y (by simp [ho, Op.operands])).trans hu) h.1, h.2⟩
      · exact h.elim
    · generalize hc : cmpOp _ _ _ = q at h
      unfold kCmp at h
      rw [hc] at h
      split at h
      · exact ⟨_, fun S' hv' ho' => does_cmp ho ((hv' x (by simp [ho, Op.operands])).trans hv) ((hv' y (by simp [ho, Op.operands])).trans hu) hc, h⟩
      · split at h
        · exact ⟨_, fun S' hv' ho' => does_sub8 ho ((hv' x (by simp [ho, Op.operands])).trans hv) ((hv' y (by simp [ho, Op.operands])).trans hu) h.1, h.2⟩
        · exact h.elim
    · generalize hc : cmpOp _ _ _ = q at h
      unfold kCmp at h
      rw [hc] at h
      split at h
      · exact ⟨_, fun S' hv' ho' => does_cmp ho ((hv' x (by simp [ho, Op.operands])).trans hv) ((hv' y (by simp [ho, Op.operands])).trans hu) hc, h⟩
      · split at h
        · exact absurd (by assumption : IntKind.i32 = IntKind.u8) (by decide)
        · exact h.elim
    · unfold kCat at h
      split at h
      · exact ⟨_, fun S' hv' ho' => does_strCat ho ((hv' x (by simp [ho, Op.operands])).trans hv) ((hv' y (by simp [ho, Op.operands])).trans hu) h.1, h.2⟩
      · exact h.elim
    · exact h.elim
  · next t x y ho =>
    generalize hi : tyI P t = q at h
    generalize hv : S.val x = v at h
    generalize hu : S.val y = u at h
    unfold kMake at h
    split at h
    · obtain ⟨hk, h⟩ := h
      split at h
      · next ie hie =>
        split at h
        · split at h
          · obtain ⟨⟨rfl, h1, h2, h3⟩, ⟨h4, h5, h6⟩, h⟩ := h
            exact ⟨_, fun S' hv' ho' => does_makeSlice ho hi hk hie h1 h2 (all_one h3) ((hv' x (by simp [ho, Op.operands])).trans hv) ((hv' y (by simp [ho, Op.operands])).trans hu) h4 h5 h6, h⟩
          · exact h.elim
        · exact h.elim
      · exact h.elim
    · exact h.elim
  · next op t x ho =>
    generalize hv : S.val x = v at h
    unfold kUn at h
    split at h
    · split at h
      · exact ⟨_, fun S' hv' ho' => does_not ho ((hv' x (by simp [ho, Op.operands])).trans hv), h⟩
      · exact h.elim
    · split at h
      · exact ⟨_, fun S' hv' ho' => does_neg ho ((hv' x (by simp [ho, Op.operands])).trans hv) h.1, h.2⟩
      · exact h.elim
    · exact h.elim
  · next t u x ho =>
    generalize hi : tyI P t = q at h
    generalize hu : P.underlying u = q2 at h
    generalize hv : S.val x = v at h
    unfold kConv at h
    split at h
    · split at h
      · obtain ⟨⟨hk, he⟩, h⟩ := h
        split at h
        · next hor => exact ⟨_, fun S' hv' ho' => does_byteStr ho hi hk he hu ((hv' x (by simp [ho, Op.operands])).trans hv) ((rowsOf_congr ho').trans hor), h⟩
        · exact h.elim
      · split at h
        · exact ⟨_, fun S' hv' ho' => does_convert ho hi hu ((hv' x (by simp [ho, Op.operands])).trans hv), h⟩
        · exact h.elim
      · exact h.elim
    · exact h.elim
  · next t x f ho =>
    generalize hi : tyI P t = q at h
    generalize hf : (fieldT P t f).bind (tyI P) = q2 at h
    generalize hv : S.val x = v at h
    unfold kPart at h
    split at h
    · obtain ⟨hk, h⟩ := h
      split at h
      · next hp =>
        obtain ⟨hs, h⟩ := h
        split at h
        · obtain ⟨h1, h⟩ := h
          obtain ⟨tf, hft, hfi⟩ := Option.bind_eq_some_iff.1 hf
          split at h
          · exact ⟨_, fun S' hv' ho' => does_field ho hi hk hp hs hft hfi h1 h.1 ((hv' x (by simp [ho, Op.operands])).trans hv), h.2⟩
          · exact h.elim
        · exact h.elim
      · exact h.elim
    · exact h.elim
  · next x k ho =>
    generalize hv : S.val x = v at h
    unfold kExtract at h
    split at h
    · split at h
      · next hk => exact ⟨_, fun S' hv' ho' => does_extract ho ((hv' x (by simp [ho, Op.operands])).trans hv) hk, h⟩
      · exact h.elim
    · exact h.elim
  · next x ho =>
    generalize hv : S.val x = v at h
    unfold kNil at h
    split at h
    · next id =>
      split at h
      · next hob => exact ⟨⟨S.val x, [], [id]⟩, fun S' hv' ho' => by rw [← (hv' x (by simp [ho, Op.operands]))]; exact does_nilCheck (id := id) (s := 0) (k := 0) (j := 0) ho (by rw [(hv' x (by simp [ho, Op.operands])), hv]; rfl) ((ho' id (by simp)).trans hob), by rw [hv]; exact h⟩
      · exact h.elim
    · exact ⟨⟨S.val x, [], []⟩, fun S' hv' ho' => by rw [← (hv' x (by simp [ho, Op.operands]))]; exact does_nilCheck_ptr ho ((hv' x (by simp [ho, Op.operands])).trans hv), by rw [hv]; exact h⟩
    · exact ⟨⟨S.val x, [], []⟩, fun S' hv' ho' => by rw [← (hv' x (by simp [ho, Op.operands]))]; exact does_nilCheck_spt ho ((hv' x (by simp [ho, Op.operands])).trans hv), by rw [hv]; exact h⟩
    · exact ⟨⟨S.val x, [], []⟩, fun S' hv' ho' => by rw [← (hv' x (by simp [ho, Op.operands]))]; exact does_nilCheck_fn ho ((hv' x (by simp [ho, Op.operands])).trans hv), by rw [hv]; exact h⟩
    · exact h.elim
  · next t x lo hi mx ho =>
    generalize hi' : tyI P t = q at h
    generalize hv : S.val x = v at h
    have hopt : ∀ (S' : AS) (y : Option Operand), (∀ z, y = some z → S'.val z = S.val z) → optInt S' y = optInt S y := fun S' y hy => by
      cases y with
      | none => rfl
      | some z => simp only [optInt]; rw [hy z rfl]
    unfold kSub at h
    split at h
    · next i =>
      obtain ⟨hk, h⟩ := h
      split at h
      · next ie hie =>
        split at h
        · next s rows hor =>
          obtain ⟨hs, h⟩ := h
          split at h
          · next mx0 =>
            unfold kSubNone at h
            rw [hor] at h
            dsimp only at h
            split at h
            · next ql hh mm h1 h2 h3 =>
              obtain ⟨⟨e1, rfl, rfl⟩, h⟩ := h
              exact ⟨_, fun S' hv' ho' => does_sub_none ho hi' hk hie hs ((hv' x (by simp [ho, Op.operands])).trans hv) ((rowsOf_congr ho').trans hor)
                ((hopt S' lo fun z e => hv' z (by subst e; simp [ho, Op.operands])).trans h1) ((hopt S' hi fun z e => hv' z (by subst e; simp [ho, Op.operands])).trans h2) ((hopt S' _ fun z e => hv' z (by rw [ho]; simp [Op.operands, e])).trans h3) e1, h⟩
            · exact h.elim
          · split at h
            · next s' rows' hsee =>
              obtain ⟨rfl, h⟩ := h
              generalize h1 : optInt S lo = q1 at h
              generalize h2 : optInt S hi = q2 at h
              generalize h3 : (some none : Option (Option Int)) = q3 at h
              unfold kSubSl at h
              split at h
              · next ql qh qm =>
                obtain rfl : qm = none := by injection h3 with h3; exact h3.symm
                obtain ⟨hmx, ⟨b0, b1, b2⟩, hm3, h⟩ := h
                refine ⟨_, fun S' hv' ho' => does_sub_sl (rd0 := v.deep) (l := (ql.getD 0).toNat) (h := (qh.getD rows'.length).toNat) ho hi' hk hie hs (by rw [hv' x (by simp [ho, Op.operands]), hv, see_congr v ho']; exact hsee)
                  ((hopt S' lo fun z e => hv' z (by subst e; simp [ho, Op.operands])).trans h1) ((hopt S' hi fun z e => hv' z (by subst e; simp [ho, Op.operands])).trans h2) (qm := none) rfl (fun e => by cases e) (by omega) (by omega) (by omega) (by omega) (fun q e => by cases e), h⟩
              · exact h.elim
            · next id hsee =>
              split at h
              · next e s' rows' hob =>
                obtain ⟨rfl, h⟩ := h
                have hvid : v = .hdr id := by
                  cases v with
                  | hdr id' =>
                    simp only [AS.see] at hsee
                    split at hsee
                    · cases hsee
                    · exact hsee
                  | _ => simp [AS.see] at hsee
                subst hvid
                generalize h1 : optInt S lo = q1 at h
                generalize h2 : optInt S hi = q2 at h
                unfold kSubRow at h
                split at h
                · next ql qh =>
                  split at h
                  · obtain ⟨⟨b1, b2⟩, h⟩ := h
                    exact ⟨_, fun S' hv' ho' => does_trunc (h := (qh.getD rows'.length).toNat) ho hi' hk hie hs ((hv' x (by simp [ho, Op.operands])).trans hv) ((ho' id (by simp)).trans hob)
                      ((hopt S' hi fun z e => hv' z (by subst e; simp [ho, Op.operands])).trans h2) (by omega) (by omega), h⟩
                  · obtain ⟨⟨b0, b1, b2⟩, h⟩ := h
                    exact ⟨_, fun S' hv' ho' => does_view (l := (ql.getD 0).toNat) (h := (qh.getD rows'.length).toNat) ho hi' hk hie hs ((hv' x (by simp [ho, Op.operands])).trans hv) ((ho' id (by simp)).trans hob) rfl
                      ((hopt S' _ fun z e => hv' z (by rw [ho]; simp [Op.operands, e])).trans h1) ((hopt S' hi fun z e => hv' z (by subst e; simp [ho, Op.operands])).trans h2) (by omega) (by omega) (by omega) (by omega), h⟩
                · exact h.elim
              · exact h.elim
            · exact h.elim
        · exact h.elim
      · exact h.elim
    · exact h.elim
  · next f fs xs ho =>
    split at h
    · next h1 =>
      exact ⟨⟨.clo f (xs.toList.map S.val), [], []⟩, fun S' hv' ho' => by rw [← map_val (S := S) (S' := S') (fun x hx => hv' x (by simp [ho, Op.operands]; exact .inr (by simpa using hx)))]; exact does_makeFunc (xs := xs.toList) (by rw [ho]; congr; simpa using h1), h⟩
    · obtain ⟨h1, h⟩ := h
      exact ⟨⟨.bnd f (fs.toList.map S.val), [], []⟩, fun S' hv' ho' => by rw [← map_val (S := S) (S' := S') (fun x hx => hv' x (by simp [ho, Op.operands]; exact .inl (by simpa using hx)))]; exact does_makeBnd (xs := fs.toList) (by rw [ho]; congr; simpa using h1), h⟩
  · next x args ts ho => exact absurd ⟨x, args, ts, ho⟩ hnc
  · next b args ts ho =>
    split at h
    · split at h
      · next x t ha ht =>
        have e1 : args = #[x] := by rw [← Array.toArray_toList (xs := args), ha]
        have e2 : ts = #[t] := by rw [← Array.toArray_toList (xs := ts), ht]
        subst e1; subst e2
        generalize hi : tyI P t = q at h
        generalize hd : P.underlying t = d at h
        generalize hv : S.val x = v at h
        unfold kLenS at h
        split at h
        · obtain ⟨rfl, h⟩ := h
          exact ⟨_, fun S' hv' ho' => does_strLen ho hd ((hv' x (by simp [ho, Op.operands, Call.operands])).trans hv), h⟩
        unfold kLen at h
        split at h
        · obtain ⟨hk, h⟩ := h
          split at h
          · exact ⟨_, fun S' hv' ho' => does_len_raw ho (tyI_slice hi hk) ((hv' x (by simp [ho, Op.operands, Call.operands])).trans hv), h⟩
          · split at h
            · next s rows hor => exact ⟨_, fun S' hv' ho' => does_len ho (tyI_slice hi hk) ((hv' x (by simp [ho, Op.operands, Call.operands])).trans hv) ((rowsOf_congr ho').trans hor), h⟩
            · exact h.elim
        · exact h.elim
      · exact h.elim
    · split at h
      · next x y t u ha ht =>
        have e1 : args = #[x, y] := by rw [← Array.toArray_toList (xs := args), ha]
        have e2 : ts = #[t, u] := by rw [← Array.toArray_toList (xs := ts), ht]
        subst e1; subst e2
        obtain ⟨rfl, h⟩ := h
        generalize hi : tyI P t = q at h
        generalize hv : S.val x = v at h
        generalize hu : S.val y = u at h
        unfold kAppend at h
        split at h
        · obtain ⟨hk, h⟩ := h
          split at h
          · next ie hie =>
            split at h
            · split at h
              · next e s rows s2 rows2 ho1 hor =>
                obtain ⟨⟨he, hs, rfl, h0, hz⟩, ⟨hb, hb2⟩, h⟩ := h
                exact ⟨_, fun S' hv' ho' => does_append ho hi hk he (by rw [← he]; exact hie) hs h0 hz ((hv' x (by simp [ho, Op.operands, Call.operands])).trans hv) ((ho' _ (by simp)).trans ho1) ((hv' y (by simp [ho, Op.operands, Call.operands])).trans hu) ((rowsOf_congr (fun i hi => ho' i (List.mem_cons_of_mem _ hi))).trans hor) hb hb2, h⟩
              · exact h.elim
            · exact h.elim
          · exact h.elim
        · exact h.elim
      · exact h.elim
    · split at h
      · next x y t u ha ht =>
        have e1 : args = #[x, y] := by rw [← Array.toArray_toList (xs := args), ha]
        have e2 : ts = #[t, u] := by rw [← Array.toArray_toList (xs := ts), ht]
        subst e1; subst e2
        generalize hi : tyI P t = q at h
        generalize hv : S.val x = v at h
        generalize hu : S.val y = u2 at h
        unfold kCopy at h
        split at h
        · obtain ⟨hk, h⟩ := h
          split at h
          · next ie hie =>
            split at h
            · next id =>
              split at h
              · next e s rows hob =>
                split at h
                · next s2 rows2 hor =>
                  obtain ⟨⟨h1, rfl, h2⟩, h3, h⟩ := h
                  exact ⟨_, fun S' hv' ho' => does_copy ho hi hk hie h1 h2 ((hv' x (by simp [ho, Op.operands, Call.operands])).trans hv) ((ho' id (by simp)).trans hob) ((hv' y (by simp [ho, Op.operands, Call.operands])).trans hu) ((rowsOf_congr (fun i hi => ho' i (List.mem_cons_of_mem _ hi))).trans hor) h3, h⟩
                · exact h.elim
              · exact h.elim
            · exact h.elim
          · exact h.elim
        · exact h.elim
      · exact h.elim
    · split at h
      · next x t ha ht =>
        have e1 : args = #[x] := by rw [← Array.toArray_toList (xs := args), ha]
        have e2 : ts = #[t] := by rw [← Array.toArray_toList (xs := ts), ht]
        subst e1; subst e2
        generalize hi : tyI P t = q at h
        generalize hv : S.val x = v at h
        unfold kClear at h
        split at h
        · obtain ⟨hk, h⟩ := h
          split at h
          · next ie hie =>
            split at h
            · next id =>
              generalize hob : S.obj id = ob at h
              unfold kClear2 at h
              split at h
              · next e s rows =>
                obtain ⟨⟨h1, h2, h3⟩, h⟩ := h
                dsimp only at h
                refine ⟨⟨.tup [], [(id, some (.row e s (splice rows 0 (List.replicate (rows.length - 0) (ie.zero.map .raw)))))], [id]⟩, fun S' hv' ho' => does_clear ho hi hk hie h1 h2 (all_one h3) (.inl ⟨(hv' x (by simp [ho, Op.operands, Call.operands])).trans hv, rfl, rfl⟩) ((ho' id (by simp)).trans hob) (Nat.zero_le _), h⟩
              · exact h.elim
            · next id s' l hh =>
              generalize hob : S.obj id = ob at h
              unfold kClear2 at h
              split at h
              · next e s rows =>
                obtain ⟨⟨h1, h2, h3⟩, h⟩ := h
                dsimp only at h
                obtain ⟨⟨rfl, h4, h5⟩, h⟩ := h
                exact ⟨_, fun S' hv' ho' => does_clear ho hi hk hie h1 h2 (all_one h3) (.inr ⟨(hv' x (by simp [ho, Op.operands, Call.operands])).trans hv, h5⟩) ((ho' id (by simp)).trans hob) h4, h⟩
              · exact h.elim
            · exact h.elim
          · exact h.elim
        · exact h.elim
      · exact h.elim
    · generalize hl : args.toList.map S.val = l at h
      unfold kMinMax at h
      split at h
      · exact ⟨_, fun S' hv' _ => does_mm (mx := true) ho (a := _) (l := [_]) (by rw [map_val (fun y hy => hv' y (by simp [ho, Op.operands, Call.operands]; simpa using hy)), hl]; rfl), h⟩
      · exact ⟨_, fun S' hv' _ => does_mm (mx := true) ho (a := _) (l := [_, _]) (by rw [map_val (fun y hy => hv' y (by simp [ho, Op.operands, Call.operands]; simpa using hy)), hl]; rfl), h⟩
      · exact ⟨_, fun S' hv' _ => does_mm (mx := true) ho (a := _) (l := [_, _, _]) (by rw [map_val (fun y hy => hv' y (by simp [ho, Op.operands, Call.operands]; simpa using hy)), hl]; rfl), h⟩
      · exact ⟨_, fun S' hv' _ => does_mm (mx := true) ho (a := _) (l := [_, _, _, _]) (by rw [map_val (fun y hy => hv' y (by simp [ho, Op.operands, Call.operands]; simpa using hy)), hl]; rfl), h⟩
      · exact h.elim
    · generalize hl : args.toList.map S.val = l at h
      unfold kMinMax at h
      split at h
      · exact ⟨_, fun S' hv' _ => does_mm (mx := false) ho (a := _) (l := [_]) (by rw [map_val (fun y hy => hv' y (by simp [ho, Op.operands, Call.operands]; simpa using hy)), hl]; rfl), h⟩
      · exact ⟨_, fun S' hv' _ => does_mm (mx := false) ho (a := _) (l := [_, _]) (by rw [map_val (fun y hy => hv' y (by simp [ho, Op.operands, Call.operands]; simpa using hy)), hl]; rfl), h⟩
      · exact ⟨_, fun S' hv' _ => does_mm (mx := false) ho (a := _) (l := [_, _, _]) (by rw [map_val (fun y hy => hv' y (by simp [ho, Op.operands, Call.operands]; simpa using hy)), hl]; rfl), h⟩
      · exact ⟨_, fun S' hv' _ => does_mm (mx := false) ho (a := _) (l := [_, _, _, _]) (by rw [map_val (fun y hy => hv' y (by simp [ho, Op.operands, Call.operands]; simpa using hy)), hl]; rfl), h⟩
      · exact h.elim
    · exact h.elim
  · exact h.elim
/-- an operation for which it is shown, does so; or it calls a round. -/
theorem aop_sound {P : Program} {o : Oper} {S : AS} {n : Nat} {CN : Nat → AS → Prop} (h : aop P o.op o.type o.dst n CN S) : (∃ E, (∀ S', (∀ x ∈ o.op.operands, S'.val x = S.val x) → (∀ i ∈ E.reads, S'.obj i = S.obj i) → DoesAt P o S' n E) ∧ CN (n + 1) (fin o.dst E S)) ∨ (S.lg = none ∧ DoesN P o n CN S) := by
  by_cases hc : ∃ x args ts, o.op = .call { callee := .value x, args := args, argTypes := ts }
  · obtain ⟨x, args, ts, ho⟩ := hc
    have h' : ACall P o.dst n CN S (args.toList.map S.val) (S.val x) := by
      unfold aop at h
      rw [ho] at h
      exact h
    generalize hv : S.val x = v at h'
    unfold ACall at h'
    split at h'
    · obtain ⟨E, hf, h1, h2⟩ := h'
      exact .inl ⟨E, fun S' hv' ho' => does_call ho ((hv' x (by simp [ho, Op.operands, Call.operands])).trans hv) hf ho' (by rw [map_val (fun y hy => hv' y (by simp [ho, Op.operands, Call.operands]; exact .inr (by simpa using hy)))]; exact h1), h2⟩
    · obtain ⟨E, hf, h1, h2⟩ := h'
      exact .inl ⟨E, fun S' hv' ho' => does_callB ho ((hv' x (by simp [ho, Op.operands, Call.operands])).trans hv) hf ho' (by rw [map_val (fun y hy => hv' y (by simp [ho, Op.operands, Call.operands]; exact .inr (by simpa using hy)))]; exact h1), h2⟩
    · exact .inr ⟨h'.1, h'.2 o x args ts ho rfl rfl hv⟩
    · exact h'.elim
  · by_cases hb : ∃ op t x y u, o.op = .binOp op t x y u ∧ S.val y = .raw (.slice none 0 0)
    · obtain ⟨op, t, x, y, u, ho, hy⟩ := hb
      have h' : kBin0 P o.dst n CN S op t (S.val x) (S.val y) := by
        unfold aop at h
        rw [ho] at h
        exact h
      rw [hy] at h'
      have h' : kNilEq o.dst n CN S op (S.val x) (tyI P t) := h'
      generalize hi : tyI P t = q at h'
      unfold kNilEq at h'
      split at h'
      · next i =>
        obtain ⟨hk, h'⟩ := h'
        split at h'
        · next s rows hor =>
          obtain ⟨hlg, h'⟩ := h'
          refine .inr ⟨hlg, ?_⟩
          intro rd m0 c p ρ a w hd hm hn ha K Q hK
          split at h'
          · refine does_nileq ho (.inl rfl) (tyI_slice hi hk) rfl hor hy rd m0 c p ρ a w hm K Q fun b hb => ?_
            simp only [if_true]
            exact hK _ _ _ ρ _ w (h' b hb) ((Mod.put (S := S.upd []) hm o.dst (v := .raw (.bool b)) (by simp [Rep]) hd).note' _ _) (fun i hi => by have := hn i hi; omega) (ha.put' o.dst _)
          · refine does_nileq ho (.inr rfl) (tyI_slice hi hk) rfl hor hy rd m0 c p ρ a w hm K Q fun b hb => ?_
            rw [if_neg (by decide)]
            exact hK _ _ _ ρ _ w (h' b hb) ((Mod.put (S := S.upd []) hm o.dst (v := .raw (.bool !b)) (by simp [Rep]) hd).note' _ _) (fun i hi => by have := hn i hi; omega) (ha.put' o.dst _)
          · exact h'.elim
        · exact h'.elim
      · exact h'.elim
    · exact .inl (aop_sound0 hc (fun op t x y u ho hy => hb ⟨op, t, x, y, u, ho, hy⟩) h)
end Go.Proofs.YtblmebjhhanoaaaGreat
/- ENGINE (second) 7, DRAWN: a statement whose order is open: if what its operations do does not cross, it may be reckoned in the order of the text; over any program. -/
set_option linter.unusedSimpArgs false
set_option linter.unusedVariables false
namespace Go.Proofs.YtblmebjhhanoaaaGreat
open Go.RowKit

/-! what waits for what -/
def bfm : List Oper → List Nat → List Nat
  | [], acc => acc
  | o :: rest, acc => bfm rest (acc ++ [o.after.toList.foldl (fun s e => if Region.binds .any e then s ||| 2 ^ e.on ||| (acc[e.on]?).getD 0 else s) 0])
def slotsOf (ops : List Oper) (o : Oper) : List Nat := (o.op.operands.toList.filterMap fun | .tmp t => some t | _ => none) ++ (match o.guard with | some (g, _) => ((ops[g]?).bind (·.dst)).toList | none => [])
def crossB (ops : List Oper) (x y : Oper) : Bool :=
  (match x.dst with | some d => (slotsOf ops y).contains d || y.dst == some d | none => false) || (match y.dst with | some d => (slotsOf ops x).contains d | none => false)
def meetB (a b : List Nat) : Bool := a.any fun i => b.contains i
def drawB (ops : List Oper) (lg : List (List Nat × List Nat)) : Bool :=
  let bf := bfm ops []
  let l := lg.reverse
  decide (l.length = ops.length) && (ops.zipIdx.all fun (o, i) => o.after.toList.all fun e => !Region.binds .any e || decide (e.on < i)) &&
  (List.range ops.length).all fun j => (List.range j).all fun i => ((bf[j]?).getD 0).testBit i || match ops[i]?, ops[j]?, l[i]?, l[j]? with
    | some x, some y, some (rx, ux), some (ry, uy) => !crossB ops x y && !meetB ux (ry ++ uy) && !meetB uy rx
    | _, _, _, _ => false

/-- whoever has come up: all he waits for have. -/
theorem bfm_closed {L : Nat → Bool} : ∀ (ops : List Oper) (acc : List Nat) (k0 : Nat), acc.length = k0 → (∀ i o, ops[i]? = some o → L (k0 + i) = true → ∀ e ∈ o.after, Region.binds .any e = true → e.on < k0 + i ∧ L e.on = true) →
    (∀ j m, acc[j]? = some m → L j = true → ∀ i, m.testBit i = true → L i = true) → ∀ j m, (bfm ops acc)[j]? = some m → L j = true → ∀ i, m.testBit i = true → L i = true
  | [], acc, k0, _, _, h => h
  | o :: rest, acc, k0, hl, hc, h => by
    refine bfm_closed rest _ (k0 + 1) (by simp [hl]) (fun i o' ho hL e he hb => ?_) (fun j m hj hL i hi => ?_)
    · have := hc (i + 1) o' (by simpa using ho) (by rw [← Nat.add_assoc, Nat.add_right_comm]; exact hL) e he hb
      exact ⟨by omega, this.2⟩
    · rcases Nat.lt_or_ge j acc.length with hlt | hge
      · rw [List.getElem?_append_left hlt] at hj
        exact h j m hj hL i hi
      · have hj2 : j = acc.length := by
          rcases Nat.lt_or_ge acc.length j with h1 | h1
          · rw [List.getElem?_eq_none (by simp; omega)] at hj; cases hj
          · omega
        subst hj2
        rw [List.getElem?_append_right (Nat.le_refl _)] at hj
        simp only [Nat.sub_self, List.getElem?_cons_zero, Option.some.injEq] at hj
        subst hj
        have hc0 := hc 0 o rfl (by rw [Nat.add_zero, ← hl]; exact hL)
        have key : ∀ (es : List Edge) (s0 : Nat), (∀ e ∈ es, Region.binds .any e = true → L e.on = true) → (∀ i, s0.testBit i = true → L i = true) →
            ∀ i, (es.foldl (fun s e => if Region.binds .any e then s ||| 2 ^ e.on ||| (acc[e.on]?).getD 0 else s) s0).testBit i = true → L i = true := by
          intro es
          induction es with
          | nil => intro s0 _ hs i hi; exact hs i hi
          | cons e es ih =>
            intro s0 he hs i hi
            rw [List.foldl_cons] at hi
            refine ih _ (fun e' he' => he e' (List.mem_cons_of_mem _ he')) (fun i hi => ?_) i hi
            split at hi
            · next hb =>
              have hLe := he e List.mem_cons_self hb
              rw [Nat.testBit_or, Nat.testBit_or, Bool.or_eq_true, Bool.or_eq_true] at hi
              rcases hi with (hi | hi) | hi
              · exact hs i hi
              · rw [Nat.testBit_two_pow] at hi
                simp at hi
                subst hi
                exact hLe
              · cases ha : acc[e.on]? with
                | none => rw [ha] at hi; simp at hi
                | some m => rw [ha] at hi; exact h e.on m ha hLe i hi
            · exact hs i hi
        exact key o.after.toList 0 (fun e he hb => (hc0 e (by simpa using he) hb).2) (fun i hi => by simp at hi) i hi

/-! what has been written, by those who have come up -/
def gL : List (Option Nat × Eff) → (Nat → Bool) → Nat → AV → AV
  | [], _, _, b => b
  | (d, E) :: l, L, t, b => gL l (fun j => L (j + 1)) t (if L 0 = true ∧ d = some t then E.val else b)
def oL : List (Option Nat × Eff) → (Nat → Bool) → Nat → Option AO → Option AO
  | [], _, _, b => b
  | (_, E) :: l, L, i, b => oL l (fun j => L (j + 1)) i (if L 0 = true then (match find E.objs i with | some q => q | none => b) else b)
def ap : List (Option Nat × Eff) → (Nat → Bool) → AS → AS
  | [], _, S => S
  | (d, E) :: l, L, S => ap l (fun j => L (j + 1)) (if L 0 = true then (S.upd E.objs).putO d E.val else S)
theorem putO_get (S : AS) (d : Option Nat) (v : AV) (t : Nat) : (S.putO d v).get t = if d = some t then v else S.get t := by
  cases d with
  | none => rfl
  | some k =>
    unfold AS.putO AS.put AS.get
    simp only [find, Option.some.injEq]
    split <;> rfl
theorem putO_obj (S : AS) (d : Option Nat) (v : AV) (i : Nat) : (S.putO d v).obj i = S.obj i := by cases d <;> rfl
theorem ap_get : ∀ (l : List (Option Nat × Eff)) (L : Nat → Bool) (S : AS) (t : Nat), (ap l L S).get t = gL l L t (S.get t)
  | [], _, _, _ => rfl
  | (d, E) :: l, L, S, t => by
    unfold ap gL
    rw [ap_get l]
    congr 1
    by_cases h : L 0 = true
    · rw [if_pos h, putO_get]
      simp [h]
      rfl
    · simp [h]
theorem ap_obj : ∀ (l : List (Option Nat × Eff)) (L : Nat → Bool) (S : AS) (i : Nat), (ap l L S).obj i = oL l L i (S.obj i)
  | [], _, _, _ => rfl
  | (d, E) :: l, L, S, i => by
    unfold ap oL
    rw [ap_obj l]
    congr 1
    by_cases h : L 0 = true
    · rw [if_pos h, if_pos h, putO_obj, upd_obj]; rfl
    · rw [if_neg h, if_neg h]
theorem gL_congr {t : Nat} : ∀ {l : List (Option Nat × Eff)} {L L' : Nat → Bool} {b : AV}, (∀ k d E, l[k]? = some (d, E) → d = some t → L k = L' k) → gL l L t b = gL l L' t b
  | [], _, _, _, _ => rfl
  | (d, E) :: l, L, L', b, h => by
    unfold gL
    have h0 : (if L 0 = true ∧ d = some t then E.val else b) = if L' 0 = true ∧ d = some t then E.val else b := by
      by_cases hd : d = some t
      · rw [h 0 d E rfl hd]
      · simp [hd]
    rw [h0]
    exact gL_congr fun k d' E' hk hd => h (k + 1) d' E' (by simpa using hk) hd
theorem oL_congr {i : Nat} : ∀ {l : List (Option Nat × Eff)} {L L' : Nat → Bool} {b : Option AO}, (∀ k d E, l[k]? = some (d, E) → (find E.objs i).isSome = true → L k = L' k) → oL l L i b = oL l L' i b
  | [], _, _, _, _ => rfl
  | (d, E) :: l, L, L', b, h => by
    unfold oL
    have h0 : (if L 0 = true then (match find E.objs i with | some q => q | none => b) else b) = if L' 0 = true then (match find E.objs i with | some q => q | none => b) else b := by
      cases hf : find E.objs i with
      | none => simp
      | some q => rw [h 0 d E rfl (by rw [hf]; rfl)]
    rw [h0]
    exact oL_congr fun k d' E' hk hd => h (k + 1) d' E' (by simpa using hk) hd
theorem gL_add {t : Nat} : ∀ {l : List (Option Nat × Eff)} {L : Nat → Bool} {b : AV} {i : Nat} {d : Option Nat} {E : Eff}, l[i]? = some (d, E) → (∀ k d' E', i < k → l[k]? = some (d', E') → d' = d → d = some t → L k = false) →
    gL l (fun j => if j = i then true else L j) t b = if d = some t then E.val else gL l (fun j => if j = i then false else L j) t b
  | [], _, _, _, _, _, h, _ => by simp at h
  | (d0, E0) :: l, L, b, 0, d, E, h, hk => by
    simp only [List.getElem?_cons_zero, Option.some.injEq, Prod.mk.injEq] at h
    obtain ⟨rfl, rfl⟩ := h
    unfold gL
    simp only [if_true, true_and, Bool.false_eq_true, false_and, if_false, Nat.add_eq_zero_iff, Nat.succ_ne_self, and_false]
    by_cases hd : d0 = some t
    · rw [if_pos hd, if_pos hd]
      have hn : ∀ (b : AV), gL l (fun j => L (j + 1)) t b = b := by
        intro b
        have : gL l (fun j => L (j + 1)) t b = gL l (fun _ => false) t b := gL_congr fun k d' E' hk' hd' => hk (k + 1) d' E' (by omega) (by simpa using hk') (by rw [hd', hd]) hd
        rw [this]
        have hz : ∀ (l : List (Option Nat × Eff)) (b : AV), gL l (fun _ => false) t b = b := by
          intro l
          induction l with
          | nil => intro b; rfl
          | cons a l ih => intro b; obtain ⟨d, E⟩ := a; unfold gL; simp [ih]
        exact hz l b
      have e1 : (fun j => if j + 1 = 0 then true else L (j + 1)) = fun j => L (j + 1) := by funext j; simp
      first | exact hn _ | (rw [e1]; exact hn _) | simpa using hn E0.val
    · simp [hd]
  | (d0, E0) :: l, L, b, i + 1, d, E, h, hk => by
    unfold gL
    have e1 : (fun j => if j + 1 = i + 1 then true else L (j + 1)) = fun j => if j = i then true else (fun q => L (q + 1)) j := by funext j; simp
    have e2 : (fun j => if j + 1 = i + 1 then false else L (j + 1)) = fun j => if j = i then false else (fun q => L (q + 1)) j := by funext j; simp
    have h0 : ¬ (0 = i + 1) := by omega
    simp only [e1, e2, h0, if_false]
    exact gL_add (L := fun q => L (q + 1)) (by simpa using h) fun k d' E' hlt hk' hd hd2 => hk (k + 1) d' E' (by omega) (by simpa using hk') hd hd2
theorem oL_add {q : Nat} : ∀ {l : List (Option Nat × Eff)} {L : Nat → Bool} {b : Option AO} {i : Nat} {d : Option Nat} {E : Eff}, l[i]? = some (d, E) → (∀ k d' E', i < k → l[k]? = some (d', E') → (find E'.objs q).isSome = true → (find E.objs q).isSome = true → L k = false) →
    oL l (fun j => if j = i then true else L j) q b = match find E.objs q with | some r => r | none => oL l (fun j => if j = i then false else L j) q b
  | [], _, _, _, _, _, h, _ => by simp at h
  | (d0, E0) :: l, L, b, 0, d, E, h, hk => by
    simp only [List.getElem?_cons_zero, Option.some.injEq, Prod.mk.injEq] at h
    obtain ⟨rfl, rfl⟩ := h
    unfold oL
    have e1 : (fun j => if j + 1 = 0 then true else L (j + 1)) = fun j => L (j + 1) := by funext j; simp
    have e2 : (fun j => if j + 1 = 0 then false else L (j + 1)) = fun j => L (j + 1) := by funext j; simp
    simp only [e1, e2, if_true, Bool.false_eq_true, if_false]
    cases hf : find E0.objs q with
    | none => rfl
    | some r =>
      have : oL l (fun j => L (j + 1)) q r = oL l (fun _ => false) q r := oL_congr fun k d' E' hk' hd' => hk (k + 1) d' E' (by omega) (by simpa using hk') hd' (by rw [hf]; rfl)
      rw [this]
      have hz : ∀ (l : List (Option Nat × Eff)) (b : Option AO), oL l (fun _ => false) q b = b := by
        intro l
        induction l with
        | nil => intro b; rfl
        | cons a l ih => intro b; obtain ⟨d, E⟩ := a; unfold oL; simp [ih]
      exact hz l r
  | (d0, E0) :: l, L, b, i + 1, d, E, h, hk => by
    unfold oL
    have e1 : (fun j => if j + 1 = i + 1 then true else L (j + 1)) = fun j => if j = i then true else (fun q => L (q + 1)) j := by funext j; simp
    have e2 : (fun j => if j + 1 = i + 1 then false else L (j + 1)) = fun j => if j = i then false else (fun q => L (q + 1)) j := by funext j; simp
    have h0 : ¬ (0 = i + 1) := by omega
    simp only [e1, e2, h0, if_false]
    exact oL_add (L := fun q => L (q + 1)) (by simpa using h) fun k d' E' hlt hk' hd hd2 => hk (k + 1) d' E' (by omega) (by simpa using hk') hd hd2

/-! what comes of the operations, in the order of the text -/
def GuardIs (D : List (Option Nat)) (o : Oper) (S : AS) (ran : Bool) : Prop :=
  match o.guard with
  | none => ran = true
  | some (j, want) => ∃ d v, D[j]? = some (some d) ∧ S.get d = .raw v ∧ ran = (bv v == some want)
def StepIs (P : Program) (D : List (Option Nat)) (o : Oper) (n : Nat) (S : AS) (E : Eff) (ran : Bool) : Prop :=
  GuardIs D o S ran ∧ (ran = true → ∀ S', (∀ x ∈ o.op.operands, S'.val x = S.val x) → (∀ i ∈ E.reads, S'.obj i = S.obj i) → DoesAt P o S' n E) ∧ (ran = false → E = ⟨.raw undef, [], []⟩)
def Chain (P : Program) (D : List (Option Nat)) : List Oper → Nat → AS → List Eff → AS → Prop
  | [], _, S, Es, Sf => Es = [] ∧ Sf = S
  | o :: rest, n, S, Es, Sf => ∃ E ran S1 Es', Es = E :: Es' ∧ ((∀ d, S1.get d = S.get d) ∧ (∀ i, S1.obj i = S.obj i) ∧ S1.lg = S.lg) ∧ StepIs P D o n S1 E ran ∧ Chain P D rest (n + 1) (fin o.dst E S1) Es' Sf
theorem get_again {S : AS} {d : Nat} {v : AV} (e : S.get d = v) (t : Nat) : (S.put d v).get t = S.get t := by
  have := putO_get S (some d) v t
  simp only [Option.some.injEq] at this
  rw [show S.put d v = S.putO (some d) v from rfl, this]
  split
  · next h => subst h; exact e.symm
  · rfl
theorem fin_lg (d : Option Nat) (E : Eff) (S : AS) : (fin d E S).lg = S.lg.map ((E.reads, E.objs.map (·.1)) :: ·) := by cases d <;> rfl
theorem aops_chain {P : Program} {D : List (Option Nat)} {K : Nat → AS → Prop} : ∀ (ops : List Oper) (n : Nat) (S : AS), S.lg.isSome = true → AOps P D ops K n S → ∃ Es Sf, Chain P D ops n S Es Sf ∧ K (n + ops.length) Sf
  | [], n, S, _, h => ⟨[], S, ⟨rfl, rfl⟩, h⟩
  | o :: rest, n, S, hlg, h => by
    have h : aguard D _ _ S o.guard := h
    have yes : ∀ S1 : AS, ((∀ d, S1.get d = S.get d) ∧ (∀ i, S1.obj i = S.obj i) ∧ S1.lg = S.lg) → GuardIs D o S1 true → aop P o.op o.type o.dst n (AOps P D rest K) S1 → ∃ Es Sf, Chain P D (o :: rest) n S Es Sf ∧ K (n + (o :: rest).length) Sf := fun S1 hs hg ha => by
      rcases aop_sound ha with ⟨E, h1, h2⟩ | ⟨h1, -⟩
      case inr => rw [hs.2.2] at h1; rw [h1] at hlg; cases hlg
      obtain ⟨Es, Sf, h3, h4⟩ := aops_chain rest (n + 1) _ (by rw [fin_lg, hs.2.2, Option.isSome_map]; exact hlg) h2
      exact ⟨E :: Es, Sf, ⟨E, true, S1, Es, rfl, hs, ⟨hg, fun _ => h1, (fun e => by cases e)⟩, h3⟩, by rw [List.length_cons]; rw [show n + (rest.length + 1) = n + 1 + rest.length by omega]; exact h4⟩
    have no : ∀ S1 : AS, ((∀ d, S1.get d = S.get d) ∧ (∀ i, S1.obj i = S.obj i) ∧ S1.lg = S.lg) → GuardIs D o S1 false → skipK o.dst (AOps P D rest K (n + 1)) S1 → ∃ Es Sf, Chain P D (o :: rest) n S Es Sf ∧ K (n + (o :: rest).length) Sf := fun S1 hs hg ha => by
      obtain ⟨Es, Sf, h3, h4⟩ := aops_chain rest (n + 1) _ (by rw [fin_lg, hs.2.2, Option.isSome_map]; exact hlg) ha
      exact ⟨_ :: Es, Sf, ⟨⟨.raw undef, [], []⟩, false, S1, Es, rfl, hs, ⟨hg, (fun e => by cases e), fun _ => rfl⟩, h3⟩, by rw [List.length_cons]; rw [show n + (rest.length + 1) = n + 1 + rest.length by omega]; exact h4⟩
    cases hg : o.guard with
    | none =>
      rw [hg] at h
      exact yes S ⟨fun _ => rfl, fun _ => rfl, rfl⟩ (by unfold GuardIs; rw [hg]) h
    | some q =>
      obtain ⟨j, want⟩ := q
      rw [hg] at h
      unfold aguard at h
      dsimp only at h
      split at h
      · next d hDj =>
        generalize hv : S.get d = v at h
        unfold gsplit at h
        split at h
        · next l =>
          refine no S ⟨fun _ => rfl, fun _ => rfl, rfl⟩ ?_ h
          unfold GuardIs
          rw [hg]
          exact ⟨d, _, hDj, hv, rfl⟩
        · next b =>
          by_cases e : b = want
          · subst e
            refine yes (S.put d (.raw (.bool b))) ⟨get_again hv, fun _ => rfl, rfl⟩ ?_ (h.1 rfl)
            unfold GuardIs
            rw [hg]
            exact ⟨d, _, hDj, (get_again hv d).trans hv, by simp [bv]⟩
          · have e' : b = !want := by cases b <;> cases want <;> first | rfl | exact absurd rfl e
            refine no (S.put d (.raw (.bool (!want)))) ⟨get_again (hv.trans (by rw [e'])), fun _ => rfl, rfl⟩ ?_ (h.2 e')
            unfold GuardIs
            rw [hg]
            exact ⟨d, _, hDj, (get_again (hv.trans (by rw [e'])) d).trans hv, by subst e'; cases want <;> rfl⟩
        · exact h.elim
      · exact h.elim

theorem gL_cons (d : Option Nat) (E : Eff) (l : List (Option Nat × Eff)) (L : Nat → Bool) (t : Nat) (b : AV) : gL ((d, E) :: l) L t b = gL l (fun j => L (j + 1)) t (if L 0 = true ∧ d = some t then E.val else b) := rfl
theorem oL_cons (d : Option Nat) (E : Eff) (l : List (Option Nat × Eff)) (L : Nat → Bool) (i : Nat) (b : Option AO) : oL ((d, E) :: l) L i b = oL l (fun j => L (j + 1)) i (if L 0 = true then (match find E.objs i with | some q => q | none => b) else b) := rfl
def wrs (ops : List Oper) (Es : List Eff) : List (Option Nat × Eff) := (ops.zip Es).map fun q => (q.1.dst, q.2)
theorem fin_get (d : Option Nat) (E : Eff) (S : AS) (t : Nat) : (fin d E S).get t = if d = some t then E.val else S.get t := putO_get (S.upd E.objs) d E.val t
theorem fin_obj (d : Option Nat) (E : Eff) (S : AS) (i : Nat) : (fin d E S).obj i = match find E.objs i with | some q => q | none => S.obj i := (putO_obj (S.upd E.objs) d E.val i).trans (upd_obj S E.objs i)
theorem gL_none (t : Nat) : ∀ (l : List (Option Nat × Eff)) (b : AV), gL l (fun _ => false) t b = b
  | [], _ => rfl
  | (d, E) :: l, b => by unfold gL; simp [gL_none t l]
theorem oL_none (i : Nat) : ∀ (l : List (Option Nat × Eff)) (b : Option AO), oL l (fun _ => false) i b = b
  | [], _ => rfl
  | (d, E) :: l, b => by unfold oL; simp [oL_none i l]
/-- each operation's own state is what those ahead of it have written. -/
theorem chain_at {P : Program} {D : List (Option Nat)} : ∀ (ops : List Oper) (n : Nat) (S : AS) (Es : List Eff) (Sf : AS), Chain P D ops n S Es Sf →
    Es.length = ops.length ∧ (∀ i o, ops[i]? = some o → ∃ E ran Si, Es[i]? = some E ∧ StepIs P D o (n + i) Si E ran ∧ (∀ t, Si.get t = gL (wrs ops Es) (fun j => decide (j < i)) t (S.get t)) ∧ (∀ q, Si.obj q = oL (wrs ops Es) (fun j => decide (j < i)) q (S.obj q))) ∧
    (∀ t, Sf.get t = gL (wrs ops Es) (fun _ => true) t (S.get t)) ∧ (∀ q, Sf.obj q = oL (wrs ops Es) (fun _ => true) q (S.obj q)) ∧
    (∀ l, S.lg = some l → Sf.lg = some ((Es.map fun E => (E.reads, E.objs.map (·.1))).reverse ++ l))
  | [], n, S, Es, Sf, h => by
    obtain ⟨rfl, rfl⟩ := h
    exact ⟨rfl, fun i o ho => by simp at ho, fun _ => rfl, fun _ => rfl, fun l hl => by simpa using hl⟩
  | o :: rest, n, S, Es, Sf, h => by
    obtain ⟨E, ran, S1, Es', rfl, ⟨hg, ho, hlg⟩, hst, hc⟩ := h
    obtain ⟨h1, h2, h3, h4, h5⟩ := chain_at rest (n + 1) _ Es' Sf hc
    have eg : ∀ t, (fin o.dst E S1).get t = if o.dst = some t then E.val else S.get t := fun t => by rw [fin_get, hg]
    have eo : ∀ q, (fin o.dst E S1).obj q = match find E.objs q with | some r => r | none => S.obj q := fun q => by rw [fin_obj, ho]
    refine ⟨by simp [h1], fun i o' hi => ?_, fun t => ?_, fun q => ?_, fun l hl => ?_⟩
    · cases i with
      | zero =>
        simp only [List.getElem?_cons_zero, Option.some.injEq] at hi
        subst hi
        refine ⟨E, ran, S1, rfl, by simpa using hst, fun t => ?_, fun q => ?_⟩
        · have : gL (wrs (o :: rest) (E :: Es')) (fun j => decide (j < 0)) t (S.get t) = gL (wrs (o :: rest) (E :: Es')) (fun _ => false) t (S.get t) := gL_congr fun k _ _ _ _ => by simp
          rw [this, gL_none, hg]
        · have : oL (wrs (o :: rest) (E :: Es')) (fun j => decide (j < 0)) q (S.obj q) = oL (wrs (o :: rest) (E :: Es')) (fun _ => false) q (S.obj q) := oL_congr fun k _ _ _ _ => by simp
          rw [this, oL_none, ho]
      | succ i =>
        obtain ⟨E', ran', Si, e1, e2, e3, e4⟩ := h2 i o' (by simpa using hi)
        refine ⟨E', ran', Si, by simpa using e1, by rw [show n + (i + 1) = n + 1 + i by omega]; exact e2, fun t => ?_, fun q => ?_⟩
        · rw [e3 t, eg t]
          show _ = gL ((o.dst, E) :: wrs rest Es') _ t _
          rw [gL_cons]
          have : (fun j => decide (j + 1 < i + 1)) = fun j => decide (j < i) := by funext j; simp
          simp only [this, Nat.zero_lt_succ, decide_true, true_and]
        · rw [e4 q, eo q]
          show _ = oL ((o.dst, E) :: wrs rest Es') _ q _
          rw [oL_cons]
          have : (fun j => decide (j + 1 < i + 1)) = fun j => decide (j < i) := by funext j; simp
          simp only [this, Nat.zero_lt_succ, decide_true, if_true]
    · rw [h3 t, eg t]
      show _ = gL ((o.dst, E) :: wrs rest Es') _ t _
      rw [gL_cons]
      simp only [true_and]
    · rw [h4 q, eo q]
      show _ = oL ((o.dst, E) :: wrs rest Es') _ q _
      rw [oL_cons]
      simp only [if_true]
    · have := h5 ((E.reads, E.objs.map (·.1)) :: l) (by rw [fin_lg, hlg, hl]; rfl)
      rw [this]
      simp
theorem Mod.drew {c : Ctx} {p : Nat → Prop} {ρ : Env} {S : AS} {tm : Array Value} {w : World} (h : Mod c p ρ S tm w) : Mod c p ρ S tm { w with drawn := w.drawn + 1 } :=
  ⟨h.size, h.base, h.baseR, h.lo, h.dom, h.tmps, fun i o e => by obtain ⟨x, h1, h2⟩ := h.objs i o e; exact ⟨x, h1, h2.keep (ExtE.refl _) (fun _ _ _ => rfl)⟩, h.apart, h.old, h.ro, h.rsep, h.rnew, h.rdf, h.dfr, ⟨h.frame.os, h.frame.tape, h.frame.output, h.frame.size, h.frame.block⟩⟩

/-- the context begun anew, at this world. -/
def Ctx.anew (c : Ctx) (S : AS) (ρ : Env) (w : World) : Ctx := ⟨c.N, fun g => ∃ i o x, S.obj i = some o ∧ ρ.f i = some x ∧ oblk x o = some g, w, ρ, fun _ => False⟩
theorem Mod.rebase {c : Ctx} {p : Nat → Prop} {ρ : Env} {S : AS} {tm : Array Value} {w : World} (h : Mod c p ρ S tm w) : Mod (c.anew S ρ w) p ρ S tm w :=
  ⟨h.size, fun _ _ => rfl, SubR.refl _, h.lo, h.dom, h.tmps, h.objs, h.apart, fun i o x g h1 h3 h4 => .inl ⟨i, o, x, h1, h3, h4⟩, h.ro, h.rsep, fun g o e => .inl e, h.rdf, fun g e => e.elim, FrameM.refl _ _⟩
/-- a block in which deferred calls lie: the objects leave it alone. -/
theorem Mod.anew_keeps {c : Ctx} {p p' : Nat → Prop} {ρ ρ' : Env} {S S' : AS} {tm tm' : Array Value} {w w' : World} (h : Mod c p ρ S tm w) (k : Mod (c.anew S ρ w) p' ρ' S' tm' w') {D : Nat} {ob : Obj} (hD : w.heap[D]? = some ob) (hd : isDefd ob = true) : w'.heap[D]? = some ob := by
  rw [k.frame.block D (Array.getElem?_eq_some_iff.1 hD).1]
  · exact hD
  · rintro ⟨i, o, x, e1, e3, e4⟩
    obtain ⟨y, f1, f2⟩ := h.objs i o e1
    rw [e3] at f1
    cases f1
    obtain ⟨ob', hc, hk⟩ := f2.kind e4
    rw [hD] at hc
    cases hc
    rw [hd] at hk
    cases hk
theorem Mod.back {c : Ctx} {p p' : Nat → Prop} {ρ ρ' : Env} {S S' : AS} {tm tm' : Array Value} {w w' : World} (h : Mod c p ρ S tm w) (k : Mod (c.anew S ρ w) p' ρ' S' tm' w') : Mod c p' ρ' S' tm' w' := by
  have hold : ∀ g, (c.anew S ρ w).M g → c.M g ∨ c.w0.heap.size ≤ g := fun g ⟨i, o, x, e1, e3, e4⟩ => h.old i o x g e1 e3 e4
  have hsz := h.frame.size
  refine ⟨k.size, fun i hi => (k.base i hi).trans (h.base i hi), h.baseR.trans k.baseR, k.lo, k.dom, k.tmps, k.objs, k.apart, fun i o x g h1 h3 h4 => ?_, k.ro, k.rsep, fun g o e => ?_, k.rdf, fun g hg => ?_, ⟨k.frame.os.trans h.frame.os, k.frame.tape.trans h.frame.tape, k.frame.output.trans h.frame.output, Nat.le_trans hsz k.frame.size, fun g hg hM => ?_⟩⟩
  · rcases k.old i o x g h1 h3 h4 with e | e
    · exact hold g e
    · exact .inr (Nat.le_trans hsz e)
  · rcases k.rnew g o e with e | e | e
    · exact h.rnew g o e
    · exact .inr (hold g e)
    · exact .inr (.inr (Nat.le_trans hsz e))
  · obtain ⟨h0, h1⟩ := h.dfr g hg
    exact ⟨h0, h.anew_keeps k h1 rfl⟩
  · exact (k.frame.block g (Nat.lt_of_lt_of_le hg hsz) (fun e => (hold g e).elim hM (fun e => absurd hg (Nat.not_lt.2 e)))).trans (h.frame.block g hg hM)
theorem DefOk.nil {c : Ctx} {a : Act} {w : World} (h : a.defers = []) : DefOk c a w := ⟨[], h, List.nodup_nil, fun D hD => by cases hD⟩
theorem DefOk.put {c : Ctx} {a : Act} {w : World} (h : DefOk c a w) (d : Option Nat) (v : Value) : DefOk c (a.put d v) w := by
  cases d <;> exact h
theorem DefOk.keep {a : Act} {c : Ctx} {p p' : Nat → Prop} {ρ ρ' : Env} {S S' : AS} {tm tm' : Array Value} {w w' : World} (hd : DefOk c a w) (h : Mod c p ρ S tm w) (k : Mod (c.anew S ρ w) p' ρ' S' tm' w') : DefOk c a w' := by
  obtain ⟨Ds, e, hn, hm⟩ := hd
  exact ⟨Ds, e, hn, fun D hD => ⟨(hm D hD).1, (hm D hD).2.1, h.anew_keeps k (hm D hD).2.2 rfl⟩⟩
/-- a block in which deferred calls lie may be turned. -/
theorem Mod.putObj {c : Ctx} {p : Nat → Prop} {ρ : Env} {S : AS} {tm : Array Value} {w : World} (h : Mod c p ρ S tm w) {D : Nat} {ob : Obj} (o' : Obj) (hD : w.heap[D]? = some ob) (hc : isDefd ob = true) (hb : c.w0.heap.size ≤ D) (hnd : ¬ c.D D) : Mod c p ρ S tm (w.putObj D o') := by
  have hk : ∀ g, g ≠ D → (w.putObj D o').heap[g]? = w.heap[g]? := fun g hg => by
    simp [World.putObj, Array.getElem?_setIfInBounds, Ne.symm hg]
  have hs : (w.putObj D o').heap.size = w.heap.size := by simp [World.putObj]
  refine ⟨h.size, h.base, h.baseR, h.lo, h.dom, h.tmps, fun i o e => ?_, h.apart, h.old, fun g o e => ?_, h.rsep, h.rnew, h.rdf, fun g hg => ?_, ⟨h.frame.os, h.frame.tape, h.frame.output, by rw [hs]; exact h.frame.size, fun g hg hM => ?_⟩⟩
  · obtain ⟨x, h1, h2⟩ := h.objs i o e
    refine ⟨x, h1, h2.keep (ExtE.refl _) (fun g hg hlt => hk g (fun e => ?_))⟩
    subst e
    obtain ⟨ob', hq, hq2⟩ := h2.kind hg
    rw [hD] at hq
    cases hq
    rw [hc] at hq2
    cases hq2
  · rw [hk g (fun e2 => ?_)]
    · exact h.ro g o e
    · subst e2
      have h1 := h.ro g o e
      have h2 := h.rdf g o e
      rw [hD] at h1
      cases h1
      rw [hc] at h2
      cases h2
  · have h1 := h.dfr g hg
    rw [hk g (fun e => hnd (by rw [← e]; exact hg))]
    exact h1
  · rw [hk g (by omega)]
    exact h.frame.block g hg hM

/-- a statement whose order is open: what it must do. -/
def ADraw (P : Program) (ops : List Oper) (K : Nat → AS → Prop) (n : Nat) (S : AS) : Prop :=
  ∀ (rd : Option Nat) (m0 : Nat) (c : Ctx) (id : Nat) (p : Nat → Prop) (ρ : Env) (a : Act) (w : World) (Q : Exit → Act → World → Prop), (∀ o ∈ ops, ∀ d, o.dst = some d → d < c.N) → Mod c p ρ S a.tmps w → (∀ i, p i → i / 8 < n) → DefOk c a w →
    (∀ n' S' p' ρ' a' w', K n' S' → Mod c p' ρ' S' a'.tmps w' → (∀ i, p' i → i / 8 < n') → DefOk c a' w' → Q .normal a' w') → (Code.region id ops.toArray true).wpIn (FW rd) m0 P Q a w
def drawK (ops : List Oper) (K : Nat → AS → Prop) (n : Nat) (S : AS) : Prop :=
  match S.lg with
  | some lg => drawB ops lg = true ∧ K n ⟨S.t, S.s, none⟩
  | none => False

theorem mem_slots {ops : List Oper} {o : Oper} {t : Nat} : t ∈ slotsOf ops o ↔ .tmp t ∈ o.op.operands ∨ ∃ g w, o.guard = some (g, w) ∧ (ops[g]?).bind (·.dst) = some t := by
  unfold slotsOf
  rw [List.mem_append, List.mem_filterMap]
  constructor
  · rintro (⟨x, hx, h⟩ | h)
    · cases x <;> simp at h
      subst h
      exact .inl (by simpa using hx)
    · cases hg : o.guard with
      | none => rw [hg] at h; simp at h
      | some q => obtain ⟨g, w⟩ := q; rw [hg] at h; exact .inr ⟨g, w, rfl, by simpa using h⟩
  · rintro (h | ⟨g, w, h1, h2⟩)
    · exact .inl ⟨.tmp t, by simpa using h, rfl⟩
    · exact .inr (by rw [h1]; simpa using h2)
theorem crossB_none {ops : List Oper} {x y : Oper} (h : crossB ops x y = false) : (∀ d, x.dst = some d → d ∉ slotsOf ops y ∧ y.dst ≠ some d) ∧ (∀ d, y.dst = some d → d ∉ slotsOf ops x) := by
  unfold crossB at h
  rw [Bool.or_eq_false_iff] at h
  refine ⟨fun d hd => ?_, fun d hd => ?_⟩
  · have h1 := h.1
    rw [hd] at h1
    simp only [Bool.or_eq_false_iff] at h1
    exact ⟨by simpa using h1.1, by simpa using h1.2⟩
  · have h1 := h.2
    rw [hd] at h1
    simpa using h1
theorem meetB_none {a b : List Nat} (h : meetB a b = false) : ∀ i ∈ a, i ∉ b := fun i hi hb => by
  unfold meetB at h
  rw [List.any_eq_false] at h
  have := h i hi
  simp at this
  exact this hb
theorem find_keys {u : List (Nat × Option AO)} {i : Nat} : (find u i).isSome = true ↔ i ∈ u.map (·.1) := by
  induction u with
  | nil => simp [find]
  | cons a u ih =>
    obtain ⟨k, v⟩ := a
    simp only [find, List.map_cons, List.mem_cons]
    by_cases h : k = i
    · simp [h]
    · rw [if_neg h, ih]
      constructor
      · exact .inr
      · rintro (e | e)
        · exact absurd e.symm h
        · exact e

theorem wrs_get {ops : List Oper} {Es : List Eff} (k : Nat) (d : Option Nat) (E : Eff) : (wrs ops Es)[k]? = some (d, E) ↔ ∃ o, ops[k]? = some o ∧ Es[k]? = some E ∧ o.dst = d := by
  unfold wrs
  rw [List.getElem?_map]
  induction ops generalizing Es k with
  | nil => simp
  | cons o ops ih =>
    cases Es with
    | nil => simp
    | cons E' Es =>
      cases k with
      | zero => simp; exact and_comm
      | succ k => simpa using ih (Es := Es) k
theorem bfm_lt : ∀ (ops : List Oper) (acc : List Nat) (k0 : Nat), acc.length = k0 → (∀ i o, ops[i]? = some o → ∀ e ∈ o.after, Region.binds .any e = true → e.on < k0 + i) → (∀ (j m : Nat), acc[j]? = some m → ∀ i, m.testBit i = true → i < j) → ∀ (j m : Nat), (bfm ops acc)[j]? = some m → ∀ i, m.testBit i = true → i < j
  | [], acc, k0, _, _, h => h
  | o :: rest, acc, k0, hl, hc, h => by
    refine bfm_lt rest _ (k0 + 1) (by simp [hl]) (fun i o' ho e he hb => ?_) (fun j m hj i hi => ?_)
    · have := hc (i + 1) o' (by simpa using ho) e he hb
      omega
    · rcases Nat.lt_or_ge j acc.length with hlt | hge
      · rw [List.getElem?_append_left hlt] at hj
        exact h j m hj i hi
      · have hj2 : j = acc.length := by
          rcases Nat.lt_or_ge acc.length j with h1 | h1
          · rw [List.getElem?_eq_none (by simp; omega)] at hj; cases hj
          · omega
        subst hj2
        rw [List.getElem?_append_right (Nat.le_refl _)] at hj
        simp only [Nat.sub_self, List.getElem?_cons_zero, Option.some.injEq] at hj
        subst hj
        have hc0 := hc 0 o rfl
        have key : ∀ (es : List Edge) (s0 : Nat), (∀ e ∈ es, Region.binds .any e = true → e.on < acc.length) → (∀ i, s0.testBit i = true → i < acc.length) →
            ∀ i, (es.foldl (fun s e => if Region.binds .any e then s ||| 2 ^ e.on ||| (acc[e.on]?).getD 0 else s) s0).testBit i = true → i < acc.length := by
          intro es
          induction es with
          | nil => intro s0 _ hs i hi; exact hs i hi
          | cons e es ih =>
            intro s0 he hs i hi
            rw [List.foldl_cons] at hi
            refine ih _ (fun e' he' => he e' (List.mem_cons_of_mem _ he')) (fun i hi => ?_) i hi
            split at hi
            · next hb =>
              have hLe := he e List.mem_cons_self hb
              rw [Nat.testBit_or, Nat.testBit_or, Bool.or_eq_true, Bool.or_eq_true] at hi
              rcases hi with (hi | hi) | hi
              · exact hs i hi
              · rw [Nat.testBit_two_pow] at hi
                simp at hi
                subst hi
                exact hLe
              · cases ha : acc[e.on]? with
                | none => rw [ha] at hi; simp at hi
                | some m => rw [ha] at hi; have := h e.on m ha i hi; omega
            · exact hs i hi
        exact key o.after.toList 0 (fun e he hb => by have := hc0 e (by simpa using he) hb; omega) (fun i hi => by simp at hi) i hi

set_option maxHeartbeats 1000000 in
/-- **a statement whose order is open.** -/
theorem draw_sound {P : Program} {ops : List Oper} {K : Nat → AS → Prop} {n : Nat} {S : AS} (hmx : P.follows .mixedOrders = true) (h : AOps P (ops.map (·.dst)) ops (drawK ops K) n ⟨S.t, S.s, some []⟩) : ADraw P ops K n S := by
  intro rd m0 c id p ρ a w Q hd hmod hn ha hQ
  obtain ⟨Es, Sf, hch, hK⟩ := aops_chain ops n _ rfl h
  obtain ⟨hlen, hat, hfg, hfo, hfl⟩ := chain_at ops n _ Es Sf hch
  have hlg := hfl [] rfl
  unfold drawK at hK
  rw [hlg] at hK
  dsimp only at hK
  obtain ⟨hB, hK⟩ := hK
  unfold drawB at hB
  simp only [List.append_nil, List.reverse_reverse, Bool.and_eq_true] at hB
  obtain ⟨⟨-, hback⟩, hcross⟩ := hB
  have hback : ∀ i o, ops[i]? = some o → ∀ e ∈ o.after, Region.binds .any e = true → e.on < i := fun i o ho e he hb => by
    have h1 := List.all_eq_true.1 hback (o, i) (by rw [List.mem_iff_getElem?]; exact ⟨i, by simp [ho]⟩)
    have h2 := List.all_eq_true.1 h1 e (by simpa using he)
    simpa [hb] using h2
  -- two that are not ordered do not cross
  have hpair : ∀ i j x y Ex Ey, i < j → ops[i]? = some x → ops[j]? = some y → Es[i]? = some Ex → Es[j]? = some Ey → (((bfm ops [])[j]?).getD 0).testBit i = true ∨
      (crossB ops x y = false ∧ (∀ q ∈ Ex.objs.map (·.1), q ∉ Ey.reads ∧ q ∉ Ey.objs.map (·.1)) ∧ ∀ q ∈ Ey.objs.map (·.1), q ∉ Ex.reads) := by
    intro i j x y Ex Ey hij hx hy hEx hEy
    have hjl : j < ops.length := (List.getElem?_eq_some_iff.1 hy).1
    have h1 := List.all_eq_true.1 (List.all_eq_true.1 hcross j (List.mem_range.2 hjl)) i (List.mem_range.2 hij)
    rw [Bool.or_eq_true] at h1
    rcases h1 with h1 | h1
    · exact .inl h1
    · refine .inr ?_
      simp only [hx, hy, List.getElem?_map, hEx, hEy, Option.map_some, Bool.and_eq_true, Bool.not_eq_true'] at h1
      obtain ⟨⟨h2, h3⟩, h4⟩ := h1
      refine ⟨h2, fun q hq => ?_, meetB_none h4⟩
      have := meetB_none h3 q hq
      rw [List.mem_append] at this
      exact ⟨fun e => this (.inl e), fun e => this (.inr e)⟩
  have hEs : ∀ i o, ops[i]? = some o → ∃ E, Es[i]? = some E := fun i o ho => ⟨_, List.getElem?_eq_getElem (by rw [hlen]; exact (List.getElem?_eq_some_iff.1 ho).1)⟩
  have hwr := @wrs_get ops Es
  -- the blocks of names in use
  have key : ∀ (f : Nat) (listed : Array Bool) (ρ' : Env) (a' : Act) (w' : World), HeadInv .any ops.toArray ops.length listed → cnt (fun j => !listed.getD j false) ops.length = f →
      Mod c (fun i => p i ∨ ∃ j, j < ops.length ∧ listed.getD j false = true ∧ i / 8 = n + j) ρ' (ap (wrs ops Es) (fun j => listed.getD j false) S) a'.tmps w' → DefOk c a' w' → wpAnyIn (FW rd) m0 P .any ops.toArray Q f listed a' w' := by
    intro f
    induction f with
    | zero =>
      intro listed ρ' a' w' inv hc hm ha'
      have hall := cnt_zero _ hc
      have hl : ∀ j, j < ops.length → listed.getD j false = true := fun j hj => by simpa using hall j hj
      refine ⟨?_, ?_⟩
      · refine List.eq_nil_iff_forall_not_mem.2 fun i hi => ?_
        obtain ⟨h1, o, ho, -⟩ := mem_ready.1 hi
        have hi' : i < ops.length := by have := (Array.getElem?_eq_some_iff.1 ho).1; simpa using this
        have := hl i hi'
        rw [getD_both h1] at this
        cases this
      · refine hQ _ _ _ ρ' a' w' hK (hm.same (fun t => ?_) (fun q => ?_)) (fun i hi => ?_) ha'
        · rw [ap_get]
          exact (hfg t).trans (gL_congr fun k d E hk _ => by
            obtain ⟨o, ho, -⟩ := (hwr k d E).1 hk
            rw [hl k (List.getElem?_eq_some_iff.1 ho).1])
        · rw [ap_obj]
          exact (hfo q).trans (oL_congr fun k d E hk _ => by
            obtain ⟨o, ho, -⟩ := (hwr k d E).1 hk
            rw [hl k (List.getElem?_eq_some_iff.1 ho).1])
        · rcases hi with hi | ⟨j, h1, -, h3⟩
          · have := hn i hi; omega
          · omega
    | succ f ih =>
      intro listed ρ' a' w' inv hc hm ha'
      have hLcl : ∀ j m, (bfm ops [])[j]? = some m → listed.getD j false = true → ∀ i, m.testBit i = true → listed.getD i false = true := by
        refine bfm_closed (L := fun j => listed.getD j false) ops [] 0 rfl (fun i o ho hL e he hb => ?_) (fun j m hj => by simp at hj)
        rw [Nat.zero_add] at hL ⊢
        exact ⟨hback i o ho e he hb, inv.closed i o (by simpa using ho) hL e he hb⟩
      obtain ⟨m, hm', hm1, hm2⟩ := cnt_pos ops.length (by rw [hc]; omega)
      have hmun : listed.getD m false = false := by simpa using hm1
      have hmr : m ∈ Region.ready .any ops.toArray listed := by
        refine mem_ready.2 ⟨getD_in (by rw [inv.size]; simpa using hm') hmun, ops[m], by simp [hm'], fun e he hb => ?_⟩
        have := hm2 e.on (hback m ops[m] (List.getElem?_eq_getElem hm') e he hb)
        simpa using this
      refine ⟨fun h0 => (by rw [h0] at hmr; cases hmr), fun i hi => ?_⟩
      obtain ⟨hiun, o, ho, hall⟩ := mem_ready.1 hi
      have hiun' : listed.getD i false = false := getD_both hiun
      have ho' : ops[i]? = some o := by simpa using ho
      have hil : i < ops.length := (List.getElem?_eq_some_iff.1 ho').1
      obtain ⟨E, ran, Si, hE, ⟨hG, hD, hS⟩, hgi, hoi⟩ := hat i o ho'
      -- those who come up later don't reach here
      have hlater : ∀ k, listed.getD k false = true → (((bfm ops [])[k]?).getD 0).testBit i = true → False := fun k hk ht => by
        cases hb : (bfm ops [])[k]? with
        | none => rw [hb] at ht; simp at ht
        | some m => rw [hb] at ht; have := hLcl k m hb hk i ht; rw [hiun'] at this; cases this
      have hmine : ∀ k, (((bfm ops [])[i]?).getD 0).testBit k = true → listed.getD k false = true := fun k ht => by
        cases hb : (bfm ops [])[i]? with
        | none => rw [hb] at ht; simp at ht
        | some m =>
          rw [hb] at ht
          have hh : (fun j => listed.getD j false || decide (j = i)) k = true := by
            refine bfm_closed (L := fun j => listed.getD j false || decide (j = i)) ops [] 0 rfl (fun j oj hj hL e he hbd => ?_) (fun j m hj => by simp at hj) i m hb (by simp) k ht
            rw [Nat.zero_add] at hL ⊢
            refine ⟨hback j oj hj e he hbd, ?_⟩
            simp only [Bool.or_eq_true, decide_eq_true_eq] at hL ⊢
            rcases hL with hL | rfl
            · exact .inl (inv.closed j oj (by simpa using hj) hL e he hbd)
            · rw [ho'] at hj
              injection hj with hj
              subst hj
              exact .inl (hall e he hbd)
          simp only [Bool.or_eq_true, decide_eq_true_eq] at hh
          rcases hh with h | h
          · exact h
          · subst h
            exact absurd (bfm_lt ops [] 0 rfl (fun i o ho e he hb => by rw [Nat.zero_add]; exact hback i o ho e he hb) (fun j m hj => by simp at hj) k m hb k ht) (Nat.lt_irrefl _)
      -- what it looks at is as it was in the text's order
      have hsame : ∀ t, t ∈ slotsOf ops o → (ap (wrs ops Es) (fun j => listed.getD j false) S).get t = Si.get t := fun t ht => by
        rw [ap_get, hgi t]
        refine gL_congr fun k d Ek hk hdk => ?_
        obtain ⟨ok, hok, hEk, hdst⟩ := (hwr k d Ek).1 hk
        subst hdk
        rcases Nat.lt_trichotomy k i with hlt | heq | hgt
        · simp only [hlt, decide_true]
          rcases hpair k i ok o Ek E hlt hok ho' hEk hE with h1 | ⟨h1, -⟩
          · exact hmine k h1
          · exact absurd ht ((crossB_none h1).1 t hdst).1
        · subst heq; simp [hiun']
        · simp only [show ¬ k < i by omega, decide_false]
          rcases hpair i k o ok E Ek hgt ho' hok hE hEk with h1 | ⟨h1, -⟩
          · cases hL : listed.getD k false with
            | false => rfl
            | true => exact (hlater k hL h1).elim
          · exact absurd ht ((crossB_none h1).2 t hdst)
      have hsameo : ∀ q, q ∈ E.reads → (ap (wrs ops Es) (fun j => listed.getD j false) S).obj q = Si.obj q := fun q hq => by
        rw [ap_obj, hoi q]
        refine oL_congr fun k d Ek hk hfk => ?_
        obtain ⟨ok, hok, hEk, hdst⟩ := (hwr k d Ek).1 hk
        have hkey := find_keys.1 hfk
        rcases Nat.lt_trichotomy k i with hlt | heq | hgt
        · simp only [hlt, decide_true]
          rcases hpair k i ok o Ek E hlt hok ho' hEk hE with h1 | ⟨-, h1, -⟩
          · exact hmine k h1
          · exact absurd hq (h1 q hkey).1
        · subst heq; simp [hiun']
        · simp only [show ¬ k < i by omega, decide_false]
          rcases hpair i k o ok E Ek hgt ho' hok hE hEk with h1 | ⟨-, -, h1⟩
          · cases hL : listed.getD k false with
            | false => rfl
            | true => exact (hlater k hL h1).elim
          · exact absurd hq (h1 q hkey)
      -- the state behind it
      have hLi : (fun j => (listed.setIfInBounds i true).getD j false) = fun j => if j = i then true else listed.getD j false := by
        funext j
        by_cases hji : j = i
        · subst hji
          have : j < listed.size := by rw [inv.size]; simpa using hil
          simp [this]
        · rw [if_neg hji, getD_set_ne false (Ne.symm hji)]
      have hLi0 : (fun j => if j = i then false else listed.getD j false) = fun j => listed.getD j false := by
        funext j
        by_cases hji : j = i
        · subst hji; simp [hiun']
        · rw [if_neg hji]
      have hwi : (wrs ops Es)[i]? = some (o.dst, E) := (hwr i o.dst E).2 ⟨o, ho', hE, rfl⟩
      have hnew : ∀ S1 : AS, (∀ t, S1.get t = if o.dst = some t then E.val else (ap (wrs ops Es) (fun j => listed.getD j false) S).get t) → (∀ q, S1.obj q = match find E.objs q with | some r => r | none => (ap (wrs ops Es) (fun j => listed.getD j false) S).obj q) →
          (∀ t, (ap (wrs ops Es) (fun j => (listed.setIfInBounds i true).getD j false) S).get t = S1.get t) ∧ (∀ q, (ap (wrs ops Es) (fun j => (listed.setIfInBounds i true).getD j false) S).obj q = S1.obj q) := fun S1 e1 e2 => by
        refine ⟨fun t => ?_, fun q => ?_⟩
        · rw [e1 t, ap_get, ap_get, hLi, gL_add hwi (fun k d' E' hlt hk hd1 hd2 => ?_), hLi0]
          obtain ⟨ok, hok, hEk, hdst⟩ := (hwr k d' E').1 hk
          rcases hpair i k o ok E E' hlt ho' hok hE hEk with h1 | ⟨h1, -⟩
          · cases hL : listed.getD k false with
            | false => rfl
            | true => exact (hlater k hL h1).elim
          · exact absurd (hdst.trans (hd1.trans hd2)) ((crossB_none h1).1 t hd2).2
        · rw [e2 q, ap_obj, ap_obj, hLi, oL_add hwi (fun k d' E' hlt hk hd1 hd2 => ?_), hLi0]
          obtain ⟨ok, hok, hEk, hdst⟩ := (hwr k d' E').1 hk
          rcases hpair i k o ok E E' hlt ho' hok hE hEk with h1 | ⟨-, h1, -⟩
          · cases hL : listed.getD k false with
            | false => rfl
            | true => exact (hlater k hL h1).elim
          · exact absurd (find_keys.1 hd1) (h1 q (find_keys.1 hd2)).2
      have hpp : ∀ j, (fun q => p q ∨ ∃ j, j < ops.length ∧ listed.getD j false = true ∧ q / 8 = n + j) j ∨ j / 8 = n + i → p j ∨ ∃ k, k < ops.length ∧ (listed.setIfInBounds i true).getD k false = true ∧ j / 8 = n + k := by
        rintro j ((h | ⟨k, h1, h2, h3⟩) | h)
        · exact .inl h
        · exact .inr ⟨k, h1, getD_set_true h2, h3⟩
        · refine .inr ⟨i, hil, ?_, h⟩
          have := congrFun hLi i
          simpa using this
      have hcnt : cnt (fun j => !(listed.setIfInBounds i true).getD j false) ops.length = f := by
        have h1 := cnt_set (p := fun j => !listed.getD j false) (i := i) (by simp only [hiun']; rfl) ops.length hil
        have h2 : cnt (fun j => !(listed.setIfInBounds i true).getD j false) ops.length = cnt (set1 (fun j => !listed.getD j false) i false) ops.length := by
          refine cnt_congr _ fun j _ => ?_
          have := congrFun hLi j
          show (!(listed.setIfInBounds i true).getD j false) = set1 (fun j => !listed.getD j false) i false j
          rw [show (listed.setIfInBounds i true).getD j false = if j = i then true else listed.getD j false from this]
          unfold set1
          by_cases hji : j = i
          · simp [hji]
          · simp [hji]
        omega
      have hdd : ∀ v, DefOk c (a'.put o.dst v) w' := fun v => ha'.put o.dst v
      -- is it asked for?
      have hwant : Region.wanted o (yielded ops.toArray a'.tmps) = ran := by
        unfold GuardIs at hG
        unfold Region.wanted
        cases hg : o.guard with
        | none => rw [hg] at hG; simp [hG]
        | some q =>
          obtain ⟨j, want⟩ := q
          rw [hg] at hG
          obtain ⟨d, b, h1, h2, h3⟩ := hG
          have hbind : (ops.toArray[j]?).bind (·.dst) = some d := by
            rw [List.getElem?_map] at h1
            cases hoj : ops[j]? with
            | none => rw [hoj] at h1; simp at h1
            | some oj => rw [hoj] at h1; simp at h1; simp [hoj, h1]
          have hsl : d ∈ slotsOf ops o := mem_slots.2 (.inr ⟨j, want, hg, by simpa using hbind⟩)
          have hb : a'.tmps.getD d undef = b := by
            have := hm.tmps d
            rw [hsame d hsl, h2] at this
            simpa [Rep] using this
          simp only [yielded_bv hbind hb, h3]
      unfold wpOpIn
      rw [ho]
      show if Region.wanted o _ then _ else _
      rw [hwant]
      cases ran with
      | false =>
        rw [if_neg (by simp)]
        have hE0 := hS rfl
        subst hE0
        obtain ⟨n1, n2⟩ := hnew ((ap (wrs ops Es) (fun j => listed.getD j false) S).putO o.dst (.raw undef)) (fun t => putO_get _ _ _ t) (fun q => by rw [putO_obj]; rfl)
        refine ⟨fun _ _ => trivial, ?_⟩
        exact ih _ ρ' _ w' (inv.set hi (by simpa using hil)) hcnt (((hm.put o.dst (v := .raw undef) (by simp [Rep]) (hd o (List.mem_of_getElem? ho'))).same n1 n2).mono fun j hj => hpp j (.inl hj)) (hdd undef)
      | true =>
        rw [if_pos rfl]
        refine hD rfl (ap (wrs ops Es) (fun j => listed.getD j false) S) (fun x hx => ?_) hsameo rd m0 (c.anew (ap (wrs ops Es) (fun j => listed.getD j false) S) ρ' w') _ ρ' a' w' hm.rebase (fun q hq e => ?_) _ Q fun v ρ2 w2 hm2' hv => ?_
        · cases x with
          | tmp t => exact hsame t (mem_slots.2 (.inl hx))
          | _ => rfl
        · rcases hq with hq | ⟨j, h1, h2, h3⟩
          · have := hn q hq; omega
          · have : j = i := by omega
            subst this
            rw [hiun'] at h2
            cases h2
        · obtain ⟨n1, n2⟩ := hnew (((ap (wrs ops Es) (fun j => listed.getD j false) S).upd E.objs).putO o.dst E.val) (fun t => putO_get _ _ _ t) (fun q => (putO_obj _ _ _ q).trans (upd_obj _ _ q))
          have hm2 := hm.back hm2'
          exact ih _ ρ2 _ w2 (inv.set hi (by simpa using hil)) hcnt (((hm2.put o.dst hv (hd o (List.mem_of_getElem? ho'))).same n1 n2).mono hpp) ((ha'.keep hm hm2').put o.dst v)
  have hcn : ∀ k, cnt (fun j => !(Array.replicate ops.toArray.size false).getD j false) k = k := by
    intro k
    induction k with
    | zero => rfl
    | succ k ih => unfold cnt; rw [ih, getD_replicate_false]; rfl
  refine wpIn_region_any hmx ?_
  have := key ops.length (Array.replicate ops.toArray.size false) ρ a { w with drawn := w.drawn + 1 } ⟨by simp, fun j oj _ hl => (by rw [getD_replicate_false] at hl; cases hl), fun t h1 h2 => by simp at h2; omega⟩ (hcn _)
    ((hmod.drew.same (fun t => ?_) (fun q => ?_)).mono fun i hi => .inl hi) ha
  · simpa using this
  · rw [ap_get]
    exact (gL_congr (L' := fun _ => false) fun k _ _ _ _ => getD_replicate_false _ _).trans (gL_none _ _ _)
  · rw [ap_obj]
    exact (oL_congr (L' := fun _ => false) fun k _ _ _ _ => getD_replicate_false _ _).trans (oL_none _ _ _)
end Go.Proofs.YtblmebjhhanoaaaGreat
/- ENGINE (second) 8: what is shown as a proposition is so: statements and code; over any program. -/
set_option linter.unusedSimpArgs false
set_option linter.unusedVariables false
namespace Go.Proofs.YtblmebjhhanoaaaGreat
open Go.RowKit

/-- a slot is told again. -/
theorem Mod.again {c : Ctx} {p : Nat → Prop} {ρ : Env} {S : AS} {tm : Array Value} {w : World} (h : Mod c p ρ S tm w) {d : Nat} {v : AV} (e : S.get d = v) : Mod c p ρ (S.put d v) tm w := by
  refine ⟨h.size, h.base, h.baseR, h.lo, h.dom, fun k => ?_, h.objs, h.apart, h.old, h.ro, h.rsep, h.rnew, h.rdf, h.dfr, h.frame⟩
  unfold AS.put AS.get
  simp only [find]
  by_cases hk : d = k
  · subst hk
    rw [if_pos rfl]
    simp only [Option.getD_some]
    rw [← e]
    exact h.tmps d
  · rw [if_neg hk]
    exact h.tmps k

theorem Mod.note {c : Ctx} {p : Nat → Prop} {ρ : Env} {S : AS} {tm : Array Value} {w : World} (h : Mod c p ρ S tm w) (r u : List Nat) : Mod c p ρ (S.note r u) tm w :=
  ⟨h.size, h.base, h.baseR, h.lo, h.dom, h.tmps, h.objs, h.apart, h.old, h.ro, h.rsep, h.rnew, h.rdf, h.dfr, h.frame⟩

theorem aops_sound {rd : Option Nat} {m0 : Nat} {P : Program} {D : List (Option Nat)} {opsA : Array Oper} (hD : ∀ j : Nat, D[j]? = (opsA[j]?).map (·.dst)) {c : Ctx} {Q : Exit → Act → World → Prop} {K : Nat → AS → Prop}
    (hQ : ∀ n S p ρ a w, K n S → Mod c p ρ S a.tmps w → (∀ i, p i → i / 8 < n) → DefOk c a w → Q .normal a w) :
    ∀ (ops : List Oper) (n : Nat) (S : AS) (p : Nat → Prop) (ρ : Env) (a : Act) (w : World), (∀ o ∈ ops, ∀ d, o.dst = some d → d < c.N) → AOps P D ops K n S → Mod c p ρ S a.tmps w → (∀ i, p i → i / 8 < n) → DefOk c a w → wpListIn (FW rd) m0 P opsA Q ops a w
  | [], n, S, p, ρ, a, w, _, h, hm, hn, ha => hQ n S p ρ a w h hm hn ha
  | o :: rest, n, S, p, ρ, a, w, hd, h, hm, hn, ha => by
    have ih := aops_sound (rd := rd) (m0 := m0) (P := P) hD hQ rest
    have hd' : ∀ o' ∈ rest, ∀ d, o'.dst = some d → d < c.N := fun o' ho' => hd o' (List.mem_cons_of_mem _ ho')
    have hdo : ∀ d, o.dst = some d → d < c.N := hd o List.mem_cons_self
    have hdf : ∀ v, DefOk c (a.put o.dst v) w := fun v => ha.put o.dst v
    -- it is done
    have does : ∀ S', Mod c p ρ S' a.tmps w → aop P o.op o.type o.dst n (AOps P D rest K) S' → Region.wanted o (yielded opsA a.tmps) = true → wpListIn (FW rd) m0 P opsA Q (o :: rest) a w := fun S' hm' h' hw => by
      show if Region.wanted o (yielded opsA a.tmps) then _ else _
      rw [if_pos hw]
      rcases aop_sound h' with ⟨E, h1, h2⟩ | ⟨-, hN⟩
      case inr => exact hN rd m0 c p ρ a w hdo hm' hn ha _ Q fun n' S2 p' ρ' a' w' hK hm2 hn2 ha2 => ih n' S2 p' ρ' a' w' hd' hK hm2 hn2 ha2
      refine h1 S' (fun _ _ => rfl) (fun _ _ => rfl) rd m0 (c.anew S' ρ w) p ρ a w hm'.rebase (fun i hi e => by have := hn i hi; omega) _ Q fun v ρ' w' hm3 hv => ?_
      have hm2 := hm'.back hm3
      exact ih (n + 1) _ _ ρ' _ w' hd' h2 ((hm2.put o.dst hv hdo).note _ _) (fun i hi => by rcases hi with hi | hi <;> first | (have := hn i hi; omega) | omega) ((ha.keep hm' hm3).put o.dst v)
    -- it is left out
    have skips : ∀ S', Mod c p ρ S' a.tmps w → skipK o.dst (AOps P D rest K (n + 1)) S' → Region.wanted o (yielded opsA a.tmps) = false → wpListIn (FW rd) m0 P opsA Q (o :: rest) a w := fun S' hm' h' hw => by
      show if Region.wanted o (yielded opsA a.tmps) then _ else _
      rw [hw]
      refine ⟨fun _ _ => trivial, ?_⟩
      exact ih (n + 1) _ p ρ _ w hd' h' ((Mod.put (S := S'.upd []) hm' o.dst (by simp [Rep]) hdo).note _ _) (fun i hi => by have := hn i hi; omega) (hdf undef)
    have h : aguard D _ _ S o.guard := h
    cases hg : o.guard with
    | none =>
      rw [hg] at h
      exact does S hm h (by simp [Region.wanted, hg])
    | some q =>
      obtain ⟨j, want⟩ := q
      rw [hg] at h
      unfold aguard at h
      dsimp only at h
      split at h
      · next d hDj =>
        have hbind : (opsA[j]?).bind (·.dst) = some d := by
          have := hD j
          rw [hDj] at this
          cases ho : opsA[j]? with
          | none => rw [ho] at this; simp at this
          | some oj => rw [ho] at this; simp at this; simp [this]
        generalize hv : S.get d = v at h
        unfold gsplit at h
        split at h
        · next l =>
          have hb : a.tmps.getD d undef = .tuple l := by
            have := hm.tmps d
            rw [hv] at this
            simpa [Rep] using this
          exact skips _ hm h (by simp [Region.wanted, hg, yielded_bv hbind hb, bv])
        · next b =>
          have hb : a.tmps.getD d undef = .bool b := by
            have := hm.tmps d
            rw [hv] at this
            simpa [Rep] using this
          have hy : yielded opsA a.tmps j = some b := yielded_bv hbind hb
          by_cases e : b = want
          · subst e
            exact does _ (hm.again hv) (h.1 rfl) (by simp [Region.wanted, hg, hy])
          · have e' : b = !want := by cases b <;> cases want <;> simp_all
            exact skips _ (hm.again (hv.trans (by rw [e']))) (h.2 e') (by simp [Region.wanted, hg, hy, e'])
        · exact h.elim
      · exact h.elim

def seqK (B : Nat → AS → Prop) (Q : Exit → Nat → AS → Prop) : Exit → Nat → AS → Prop
  | .normal => B
  | e => Q e
def blockK (id : Nat) (Q : Exit → Nat → AS → Prop) : Exit → Nat → AS → Prop
  | .exit i => if i = id then Q .normal else Q (.exit i)
  | e => Q e
def kCond (T F : AS → Prop) (S : AS) : AV → Prop
  | .raw (.bool b) => (b = true → T S) ∧ (b = false → F S)
  | _ => False

/-! what a state says of another one's: names of objects are told anew -/
mutual
def AV.ren (m : Nat → Nat) : AV → AV
  | .dead => .dead
  | .raw v => .raw v
  | .sl s rows => .sl s rows
  | .hdr i => .hdr (m i)
  | .ptr i s k j => .ptr (m i) s k j
  | .vw i s l h => .vw (m i) s l h
  | .spt s rows k j => .spt s rows k j
  | .agg l => .agg (renL m l)
  | .tup l => .tup (renL m l)
  | .clo f l => .clo f (renL m l)
  | .bnd f l => .bnd f (renL m l)
def renL (m : Nat → Nat) : List AV → List AV
  | [] => []
  | a :: l => a.ren m :: renL m l
end
mutual
/-- all names that occur are below 8 n. -/
def AV.bd (n : Nat) : AV → Bool
  | .dead => true
  | .raw _ => true
  | .sl _ _ => true
  | .hdr i => decide (i / 8 < n)
  | .ptr i _ _ _ => decide (i / 8 < n)
  | .vw i _ _ _ => decide (i / 8 < n)
  | .spt _ _ _ _ => true
  | .agg l => bdL n l
  | .tup l => bdL n l
  | .clo _ l => bdL n l
  | .bnd _ l => bdL n l
def bdL (n : Nat) : List AV → Bool
  | [] => true
  | a :: l => a.bd n && bdL n l
end
def renT (m : Nat → Nat) : List (Nat × AV) → List (Nat × AV)
  | [] => []
  | (d, v) :: t => (d, v.ren m) :: renT m t
def bdT (n : Nat) : List (Nat × AV) → Bool
  | [] => true
  | (_, v) :: t => v.bd n && bdT n t
theorem find_renT {m : Nat → Nat} {d : Nat} : ∀ (t : List (Nat × AV)), find (renT m t) d = (find t d).map (AV.ren m)
  | [] => rfl
  | (k, v) :: t => by
    simp only [renT, find]
    split
    · rfl
    · exact find_renT t
theorem find_bdT {n d : Nat} : ∀ {t : List (Nat × AV)} {v : AV}, bdT n t = true → find t d = some v → v.bd n = true
  | [], _, _, h => by cases h
  | (k, u) :: t, v, hb, h => by
    simp only [bdT, Bool.and_eq_true] at hb
    simp only [find] at h
    split at h
    · injection h with h; subst h; exact hb.1
    · exact find_bdT hb.2 h
def AO.ren (m : Nat → Nat) : AO → AO
  | .cells t l => .cells t (renL m l)
  | .row e s r => .row e s r
  | .fro s r => .fro s r
  | .loop tm lc md => .loop tm lc md
  | .frm tm t => .frm tm (renT m t)
def AO.bd (n : Nat) : AO → Bool
  | .cells _ l => bdL n l
  | .frm _ t => bdT n t
  | _ => true
mutual
theorem Rep.ren {ρ ρ' : Env} {m : Nat → Nat} {n : Nat} (h : ∀ i x, i / 8 < n → ρ.f (m i) = some x → ρ'.f i = some x) (hR : SubR ρ.R ρ'.R) : ∀ (a : AV) (v : Value), a.bd n = true → Rep ρ (a.ren m) v → Rep ρ' a v
  | .dead, _, _, _ => by simp [Rep]
  | .raw _, _, _, e => by simpa [AV.ren, Rep] using e
  | .sl s rows, v, _, e => by simp only [AV.ren, Rep] at e ⊢; exact e.sub hR
  | .hdr i, v, hb, e => by simp only [AV.ren, Rep] at e ⊢; exact h i v (by simpa [AV.bd] using hb) e
  | .ptr i s k j, v, hb, e => by
    simp only [AV.ren, Rep] at e ⊢
    obtain ⟨x, b, o, h1, h2, h3⟩ := e
    exact ⟨x, b, o, h i x (by simpa [AV.bd] using hb) h1, h2, h3⟩
  | .vw i s l hh, v, hb, e => by
    simp only [AV.ren, Rep] at e ⊢
    obtain ⟨A, n', c, h1, h2⟩ := e
    exact ⟨A, n', c, h i _ (by simpa [AV.bd] using hb) h1, h2⟩
  | .spt s rows k j, v, _, e => by
    simp only [AV.ren, Rep] at e ⊢
    obtain ⟨b, o, h1, h2⟩ := e
    exact ⟨b, o, h1, h2.sub hR⟩
  | .agg l, v, hb, e => by
    simp only [AV.ren, Rep] at e ⊢
    obtain ⟨cs, h1, h2⟩ := e
    exact ⟨cs, h1, RepL.ren h hR l cs (by simpa [AV.bd] using hb) h2⟩
  | .tup l, v, hb, e => by
    simp only [AV.ren, Rep] at e ⊢
    obtain ⟨cs, h1, h2⟩ := e
    exact ⟨cs, h1, RepL.ren h hR l cs (by simpa [AV.bd] using hb) h2⟩
  | .clo f l, v, hb, e => by
    simp only [AV.ren, Rep] at e ⊢
    obtain ⟨cs, h1, h2⟩ := e
    exact ⟨cs, h1, RepL.ren h hR l cs (by simpa [AV.bd] using hb) h2⟩
  | .bnd f l, v, hb, e => by
    simp only [AV.ren, Rep] at e ⊢
    obtain ⟨cs, h1, h2⟩ := e
    exact ⟨cs, h1, RepL.ren h hR l cs (by simpa [AV.bd] using hb) h2⟩
theorem RepL.ren {ρ ρ' : Env} {m : Nat → Nat} {n : Nat} (h : ∀ i x, i / 8 < n → ρ.f (m i) = some x → ρ'.f i = some x) (hR : SubR ρ.R ρ'.R) : ∀ (l : List AV) (vs : List Value), bdL n l = true → RepL ρ (renL m l) vs → RepL ρ' l vs
  | [], [], _, _ => by simp [RepL]
  | [], _ :: _, _, e => by simp [renL, RepL] at e
  | _ :: _, [], _, e => by simp [renL, RepL] at e
  | a :: l, v :: vs, hb, e => by
    simp only [renL, RepL] at e ⊢
    simp only [bdL, Bool.and_eq_true] at hb
    exact ⟨Rep.ren h hR a v hb.1 e.1, RepL.ren h hR l vs hb.2 e.2⟩
end
theorem ObjAt.ren {ρ ρ' : Env} {m : Nat → Nat} {n : Nat} (h : ∀ i x, i / 8 < n → ρ.f (m i) = some x → ρ'.f i = some x) (hR : SubR ρ.R ρ'.R) {w : World} {x : Value} {o : AO} (hb : o.bd n = true) (ho : ObjAt ρ w x (o.ren m)) : ObjAt ρ' w x o := by
  cases o with
  | cells t l =>
    obtain ⟨g, cs, h1, h2, h3, h4⟩ := ho
    exact ⟨g, cs, h1, h2, RepL.ren h hR l cs hb h3, h4⟩
  | row e s r =>
    obtain ⟨vals, h1, h2⟩ := ho
    exact ⟨vals, h1.sub hR, h2⟩
  | fro s r => exact PRep.sub hR _ _ ho
  | loop tm lc md => exact ho
  | frm tm t =>
    intro d v hv
    rw [find'_eq] at hv
    have := ho d (v.ren m) (by rw [find'_eq, find_renT, hv]; rfl)
    exact Rep.ren h hR v _ (find_bdT hb hv) this
theorem oblk_ren (x : Value) (o : AO) (m : Nat → Nat) : oblk x (o.ren m) = oblk x o := by cases o <;> rfl
theorem find_mem {α : Type} {l : List (Nat × α)} {i : Nat} {v : α} (h : find l i = some v) : (i, v) ∈ l := by
  induction l with
  | nil => simp [find] at h
  | cons p l ih =>
    obtain ⟨k, u⟩ := p
    simp only [find] at h
    split at h
    · next e => subst e; cases h; exact List.mem_cons_self
    · exact List.mem_cons_of_mem _ (ih h)

def mapOf (L : List (Nat × Nat)) (i : Nat) : Nat := (find L i).getD i
/-- nothing serves as an empty slice. -/
def NilS : AV → AV → Prop
  | .sl _ [], .raw (.slice none 0 0) => True
  | _, _ => False
theorem NilS.cases_ {v a : AV} (h : NilS v a) : ∃ s, v = .sl s [] ∧ a = .raw (.slice none 0 0) := by
  unfold NilS at h
  split at h
  · exact ⟨_, rfl, rfl⟩
  · exact h.elim
/-- a value at hand serves as the one told. -/
def Serves (S : AS) (v a : AV) : Prop := v = a ∨ v = S.see a ∨ NilS v a
def ServesL (S : AS) : List AV → List AV → Prop
  | [], [] => True
  | v :: l, a :: m => Serves S v a ∧ ServesL S l m
  | _, _ => False
def ServesT (S : AS) (t' : List (Nat × AV)) : List (Nat × AV) → Prop
  | [] => True
  | (d, v) :: t => Serves S v ((find t' d).getD .dead) ∧ ServesT S t' t
def ServesO (S : AS) : AO → Option AO → Prop
  | .cells t l, some (.cells t' l') => t = t' ∧ ServesL S l l'
  | .frm tm t, some (.frm tm' t') => tm = tm' ∧ ServesT S t' t
  | o, some o' => o = o'
  | _, none => False
theorem Serves.rep {c : Ctx} {p : Nat → Prop} {ρ : Env} {S : AS} {tm : Array Value} {w : World} (hm : Mod c p ρ S tm w) {v a : AV} {u : Value} (h : Serves S v a) (hr : Rep ρ a u) : Rep ρ v u := by
  rcases h with rfl | rfl | h
  · exact hr
  · exact hm.see _ _ hr
  · obtain ⟨s, rfl, rfl⟩ := h.cases_
    simp only [Rep] at hr
    subst hr
    simp only [Rep, PRep]
    exact ⟨none, 0, rfl, Nat.le_refl _, by simp [PRows]⟩
theorem ServesL.rep {c : Ctx} {p : Nat → Prop} {ρ : Env} {S : AS} {tm : Array Value} {w : World} (hm : Mod c p ρ S tm w) : ∀ {l l' : List AV} {us : List Value}, ServesL S l l' → RepL ρ l' us → RepL ρ l us
  | [], [], _, _, h => h
  | v :: l, a :: m, [], _, h => by simp [RepL] at h
  | v :: l, a :: m, u :: us, h, hr => by
    simp only [RepL] at hr ⊢
    exact ⟨h.1.rep hm hr.1, ServesL.rep hm h.2 hr.2⟩
  | [], _ :: _, _, h, _ => h.elim
  | _ :: _, [], _, h, _ => h.elim
theorem ServesT.rep {c : Ctx} {p : Nat → Prop} {ρ : Env} {S : AS} {tm : Array Value} {w : World} (hm : Mod c p ρ S tm w) {t' : List (Nat × AV)} {tm' : Array Value} (ht : ∀ d v, find t' d = some v → Rep ρ v (tm'.getD d undef)) : ∀ {t : List (Nat × AV)}, ServesT S t' t → ∀ d v, find t d = some v → Rep ρ v (tm'.getD d undef)
  | [], _, d, v, h => by cases h
  | (k, u) :: t, hs, d, v, h => by
    simp only [find] at h
    split at h
    · next e =>
      subst e
      injection h with h
      subst h
      refine hs.1.rep hm ?_
      cases hq : find t' k with
      | none => simp [Rep]
      | some a => exact ht k a hq
    · exact ServesT.rep hm ht hs.2 d v h
theorem ServesO.at_ {c : Ctx} {p : Nat → Prop} {ρ : Env} {S : AS} {tm : Array Value} {w : World} (hm : Mod c p ρ S tm w) {o : AO} {q : Option AO} (h : ServesO S o q) : ∃ o', q = some o' ∧ (∀ x, ObjAt ρ w x o' → ObjAt ρ w x o) ∧ ∀ x, oblk x o = oblk x o' := by
  cases q with
  | none => cases o <;> exact h.elim
  | some o' =>
    refine ⟨o', rfl, ?_⟩
    cases o with
    | cells t l =>
      cases o' with
      | cells t' l' =>
        obtain ⟨rfl, h⟩ := h
        refine ⟨fun x ⟨g, cs, h1, h2, h3, h4⟩ => ⟨g, cs, h1, h2, h.rep hm h3, h4⟩, fun x => rfl⟩
      | _ => cases h
    | frm tm1 t =>
      cases o' with
      | frm tm2 t' =>
        obtain ⟨rfl, h⟩ := h
        refine ⟨fun x hx => ?_, fun x => rfl⟩
        intro d v hv
        rw [find'_eq] at hv
        exact h.rep hm (fun d v hv => hx d v (by rw [find'_eq]; exact hv)) d v hv
      | _ => cases h
    | row e s r => cases o' <;> first | (cases h; exact ⟨fun x hx => hx, fun x => rfl⟩) | cases h
    | fro s r => cases o' <;> first | (cases h; exact ⟨fun x hx => hx, fun x => rfl⟩) | cases h
    | loop tm1 lc md => cases o' <;> first | (cases h; exact ⟨fun x hx => hx, fun x => rfl⟩) | cases h
/-- the state S says what S' says, whose names are below 8 n; some of them are others in S. -/
def Ent (L : List (Nat × Nat)) (n : Nat) (S S' : AS) : Prop :=
  (0 < n ∧ ∀ q ∈ L, 8 ≤ q.1) ∧ (∀ q ∈ S'.t, q.2.bd n = true ∧ Serves S (q.2.ren (mapOf L)) (S.get q.1)) ∧
  (∀ q ∈ S'.s, q.1 / 8 < n ∧ match q.2 with | some o => o.bd n = true ∧ ServesO S (o.ren (mapOf L)) (S.obj (mapOf L q.1)) | none => False) ∧
  S'.s.Pairwise (fun q r => q.1 ≠ r.1 → mapOf L q.1 ≠ mapOf L r.1)
theorem pairwise_ne {l : List (Nat × Option AO)} {m : Nat → Nat} (h : l.Pairwise (fun q r => q.1 ≠ r.1 → m q.1 ≠ m r.1)) {q r : Nat × Option AO} (hq : q ∈ l) (hr : r ∈ l) (hne : q.1 ≠ r.1) : m q.1 ≠ m r.1 := by
  induction l with
  | nil => cases hq
  | cons a l ih =>
    rw [List.pairwise_cons] at h
    rcases List.mem_cons.1 hq with e1 | hq' <;> rcases List.mem_cons.1 hr with e2 | hr'
    · subst e1; subst e2; exact absurd rfl hne
    · subst e1; exact h.1 r hr' hne
    · subst e2; exact fun e => h.1 q hq' (Ne.symm hne) e.symm
    · exact ih h.2 hq' hr'
theorem Ent.mod {L : List (Nat × Nat)} {n : Nat} {S S' : AS} (h : Ent L n S S') {c : Ctx} {p : Nat → Prop} {ρ : Env} {tm : Array Value} {w : World} (hm : Mod c p ρ S tm w) :
    ∃ ρ', Mod c (fun i => i / 8 < n) ρ' S' tm w := by
  obtain ⟨⟨hn, hL⟩, ht, hs, hpw⟩ := h
  have hlow : ∀ i, i < 8 → mapOf L i = i := fun i hi => by
    unfold mapOf
    cases e : find L i with
    | none => rfl
    | some j => have := hL _ (find_mem e); dsimp only at this; omega
  have hren : ∀ i x, i / 8 < n → ρ.f (mapOf L i) = some x → (if i / 8 < n then ρ.f (mapOf L i) else none) = some x := fun i x hi e => by rw [if_pos hi]; exact e
  have hobj : ∀ i o, S'.obj i = some o → i / 8 < n ∧ o.bd n = true ∧ ServesO S (o.ren (mapOf L)) (S.obj (mapOf L i)) ∧ (i, some o) ∈ S'.s := fun i o e => by
    unfold AS.obj at e
    cases hf : find S'.s i with
    | none => rw [hf] at e; simp at e
    | some q =>
      rw [hf] at e
      simp only [Option.getD_some] at e
      subst e
      have hmem := find_mem hf
      have := hs _ hmem
      exact ⟨this.1, this.2.1, this.2.2, hmem⟩
  refine ⟨⟨fun i => if i / 8 < n then ρ.f (mapOf L i) else none, ρ.R⟩, hm.size, fun i hi => ?_, hm.baseR, fun i hi => by omega, fun i x e => ?_, fun d => ?_, fun i o e => ?_, ?_, ?_, hm.ro, ?_, hm.rnew, hm.rdf, hm.dfr, hm.frame⟩
  · show (if _ then _ else _) = _
    rw [if_pos (by omega), hlow i hi]; exact hm.base i hi
  · have e : (if i / 8 < n then ρ.f (mapOf L i) else none) = some x := e
    split at e
    · next hi => exact ⟨hi, (hm.dom _ x e).2⟩
    · cases e
  · unfold AS.get
    cases hf : find S'.t d with
    | none => simp [Rep]
    | some v =>
      have := ht _ (find_mem hf)
      simp only [Option.getD_some]
      exact Rep.ren (ρ' := ⟨_, ρ.R⟩) hren (SubR.refl _) v _ this.1 (this.2.rep hm (hm.tmps d))
  · obtain ⟨h1, h2, h3, -⟩ := hobj i o e
    obtain ⟨o', k1, k2, -⟩ := h3.at_ hm
    obtain ⟨x, h4, h5⟩ := hm.objs _ _ k1
    exact ⟨x, hren i x h1 h4, (k2 x h5).ren (ρ' := ⟨_, ρ.R⟩) hren (SubR.refl _) h2⟩
  · intro i j oi oj x y hne hi hj hx hy g hg hg'
    obtain ⟨h1, h2, h3, h4⟩ := hobj i oi hi
    obtain ⟨k1, k2, k3, k4⟩ := hobj j oj hj
    have hx : (if i / 8 < n then ρ.f (mapOf L i) else none) = some x := hx
    have hy : (if j / 8 < n then ρ.f (mapOf L j) else none) = some y := hy
    rw [if_pos h1] at hx
    rw [if_pos k1] at hy
    obtain ⟨o1, a1, -, a3⟩ := h3.at_ hm
    obtain ⟨o2, b1, -, b3⟩ := k3.at_ hm
    exact hm.apart _ _ _ _ x y (pairwise_ne hpw h4 k4 hne) a1 b1 hx hy g (by rw [← a3, oblk_ren]; exact hg) (by rw [← b3, oblk_ren]; exact hg')
  · intro i o x g hi hx hg
    obtain ⟨h1, h2, h3, h4⟩ := hobj i o hi
    have hx : (if i / 8 < n then ρ.f (mapOf L i) else none) = some x := hx
    rw [if_pos h1] at hx
    obtain ⟨o1, a1, -, a3⟩ := h3.at_ hm
    exact hm.old _ _ x g a1 hx (by rw [← a3, oblk_ren]; exact hg)
  · intro i o x g hi hx hg
    obtain ⟨h1, h2, h3, h4⟩ := hobj i o hi
    have hx : (if i / 8 < n then ρ.f (mapOf L i) else none) = some x := hx
    rw [if_pos h1] at hx
    obtain ⟨o1, a1, -, a3⟩ := h3.at_ hm
    exact hm.rsep _ _ x g a1 hx (by rw [← a3, oblk_ren]; exact hg)

/-- the same, some own rows never turning again. -/
def EntF (L : List (Nat × Nat)) (n : Nat) (fr : List Nat) (S S' : AS) : Prop := Ent L n (S.upd (frz S fr)) S'
theorem EntF.mod {L : List (Nat × Nat)} {n : Nat} {fr : List Nat} {S S' : AS} (h : EntF L n fr S S') {c : Ctx} {p : Nat → Prop} {ρ : Env} {tm : Array Value} {w : World} (hm : Mod c p ρ S tm w) :
    ∃ ρ', Mod c (fun i => i / 8 < n) ρ' S' tm w := by
  obtain ⟨R', -, h1⟩ := hm.frz fr
  exact Ent.mod h h1
def loopK (I : Nat → AS → Prop) (n0 m : Nat) (Q : Exit → Nat → AS → Prop) : Exit → Nat → AS → Prop
  | .normal => fun _ S => ∃ m' S' L fr, m' < m ∧ I m' S' ∧ EntF L n0 fr S S'
  | e => Q e
/-- a loop: what holds ahead of each round, and a number that falls. -/
def ALoop (F : (Exit → Nat → AS → Prop) → Nat → AS → Prop) (Q : Exit → Nat → AS → Prop) (S : AS) : Prop :=
  ∃ (I : Nat → AS → Prop) (n0 : Nat), (∃ m S' L fr, I m S' ∧ EntF L n0 fr S S') ∧ ∀ m S', I m S' → F (loopK I n0 m Q) n0 S'
def ARegion (P : Program) (ops : List Oper) (K : Nat → AS → Prop) (n : Nat) (S : AS) : Bool → Prop
  | true => P.follows .mixedOrders = true ∧ AOps P (ops.map (·.dst)) ops (drawK ops K) n ⟨S.t, S.s, some []⟩
  | false => AOps P (ops.map (·.dst)) ops K n S

def Lift (c : Ctx) (Q : Exit → Nat → AS → Prop) (e : Exit) (a : Act) (w : World) : Prop :=
  DefOk c a w ∧ ∃ n S p ρ, Q e n S ∧ Mod c p ρ S a.tmps w ∧ ∀ i, p i → i / 8 < n

/-- no loop over a function within. -/
def rgB : Code → Bool
  | .seq a b => rgB a && rgB b
  | .cond _ a b => rgB a && rgB b
  | .block _ b => rgB b
  | .loop b => rgB b
  | .scope b => rgB b
  | .rangeFunc .. => false
  | _ => true
def dstB (N : Nat) : Code → Bool
  | .region _ ops _ => ops.toList.all fun o => match o.dst with | some d => decide (d < N) | none => true
  | .seq a b => dstB N a && dstB N b
  | .cond _ a b => dstB N a && dstB N b
  | .block _ b => dstB N b
  | .loop b => dstB N b
  | .scope b => dstB N b
  | .rangeFunc _ ps a b => dstB N a && dstB N b && ps.all (decide <| · < N) && rgB a && rgB b
  | _ => true

/-- a loop over a function: what must be shown. -/
def ARange (P : Program) (g : Operand) (ps : Array Tmp) (asg body : Code) (Q : Exit → Nat → AS → Prop) (n : Nat) (S : AS) : Prop :=
  ∀ (m0 : Nat) (c : Ctx) (p : Nat → Prop) (ρ : Env) (a : Act) (w : World), dstB c.N asg = true → dstB c.N body = true → (∀ t ∈ ps, t < c.N) → rgB asg = true → rgB body = true → Mod c p ρ S a.tmps w → (∀ i, p i → i / 8 < n) → DefOk c a w →
    (Code.rangeFunc g ps asg body).wpIn (FW none) m0 P (Lift c Q) a w
/-- code. -/
def AWP (P : Program) : Code → (Exit → Nat → AS → Prop) → Nat → AS → Prop
  | .skip, Q, n, S => Q .normal n S
  | .region _ ops d, Q, n, S => ARegion P ops.toList (Q .normal) n S d
  | .seq a b, Q, n, S => AWP P a (seqK (AWP P b Q) Q) n S
  | .cond c x y, Q, n, S => kCond (AWP P x Q n) (AWP P y Q n) S (S.val c)
  | .block id b, Q, n, S => AWP P b (blockK id Q) n S
  | .loop b, Q, _, S => ALoop (AWP P b) Q S
  | .exit id, Q, n, S => Q (.exit id) n S
  | .ret, Q, n, S => Q .ret n S
  | .rangeFunc g ps asg body, Q, n, S => ARange P g ps asg body Q n S
  | _, _, _, _ => False

theorem least_of {p : Nat → Prop} (h : ∃ m, p m) : ∃ m, p m ∧ ∀ k, p k → m ≤ k := by
  classical
  obtain ⟨m, hm⟩ := h
  induction m using Nat.strongRecOn with
  | _ m ih =>
    by_cases hx : ∃ k, k < m ∧ p k
    · obtain ⟨k, hk, hp⟩ := hx
      exact ih k hk hp
    · exact ⟨m, hm, fun k hk => Nat.le_of_not_lt (fun hlt => hx ⟨k, hlt, hk⟩)⟩

theorem awp_sound {rd : Option Nat} {m0 : Nat} {P : Program} {c : Ctx} : ∀ (code : Code) (Q : Exit → Nat → AS → Prop) (n : Nat) (S : AS) (p : Nat → Prop) (ρ : Env) (a : Act) (w : World), (rd = none ∨ rgB code = true) → dstB c.N code = true → AWP P code Q n S → Mod c p ρ S a.tmps w → (∀ i, p i → i / 8 < n) → DefOk c a w →
    code.wpIn (FW rd) m0 P (Lift c Q) a w
  | .skip, Q, n, S, p, ρ, a, w, hrg, _, h, hm, hn, ha => wpIn_skip ⟨ha, n, S, p, ρ, h, hm, hn⟩
  | .exit id, Q, n, S, p, ρ, a, w, hrg, _, h, hm, hn, ha => wpIn_exit ⟨ha, n, S, p, ρ, h, hm, hn⟩
  | .ret, Q, n, S, p, ρ, a, w, hrg, _, h, hm, hn, ha => wpIn_ret ⟨ha, n, S, p, ρ, h, hm, hn⟩
  | .region id ops d, Q, n, S, p, ρ, a, w, hrg, hd, h, hm, hn, ha => by
    have hd' : ∀ o ∈ ops.toList, ∀ d, o.dst = some d → d < c.N := fun o ho d e => by
      have := List.all_eq_true.1 hd o ho
      rw [e] at this
      simpa using this
    have hK : ∀ n' S' p' ρ' (a' : Act) w', Q .normal n' S' → Mod c p' ρ' S' a'.tmps w' → (∀ i, p' i → i / 8 < n') → DefOk c a' w' → Lift c Q .normal a' w' := fun n' S' p' ρ' a' w' h1 h2 h3 h4 => ⟨h4, n', S', p', ρ', h1, h2, h3⟩
    cases d with
    | false =>
      have h : AOps P (ops.toList.map (·.dst)) ops.toList (Q .normal) n S := h
      refine wpIn_region_list ?_
      refine aops_sound (P := P) (D := ops.toList.map (·.dst)) (opsA := ops) (fun j => by simp) hK ops.toList n S p ρ a w hd' h hm hn ha
    | true =>
      have h : P.follows .mixedOrders = true ∧ AOps P (ops.toList.map (·.dst)) ops.toList (drawK ops.toList (Q .normal)) n ⟨S.t, S.s, some []⟩ := h
      have := draw_sound h.1 h.2 rd m0 c id p ρ a w (Lift c Q) hd' hm hn ha hK
      simpa using this
  | .seq x y, Q, n, S, p, ρ, a, w, hrg, hd, h, hm, hn, ha => by
    simp only [dstB, Bool.and_eq_true] at hd
    refine wpIn_seq (wpIn_mono (awp_sound x _ n S p ρ a w (hrg.imp_right fun e => (Bool.and_eq_true_iff.1 e).1) hd.1 h hm hn ha) ?_)
    rintro e a' w' ⟨h1, n', S', p', ρ', h2, h3, h4⟩
    cases e with
    | normal => exact awp_sound y Q n' S' p' ρ' a' w' (hrg.imp_right fun e => (Bool.and_eq_true_iff.1 e).2) hd.2 h2 h3 h4 h1
    | _ => exact ⟨h1, n', S', p', ρ', h2, h3, h4⟩
  | .cond cx x y, Q, n, S, p, ρ, a, w, hrg, hd, h, hm, hn, ha => by
    simp only [dstB, Bool.and_eq_true] at hd
    have h : kCond (AWP P x Q n) (AWP P y Q n) S (S.val cx) := h
    generalize hv : S.val cx = v at h
    unfold kCond at h
    split at h
    · next b =>
      refine wpIn_cond_split (hm.raw hv) (fun e => ?_) (fun e => ?_)
      · exact awp_sound x Q n S p ρ a w (hrg.imp_right fun e => (Bool.and_eq_true_iff.1 e).1) hd.1 (h.1 e) hm hn ha
      · exact awp_sound y Q n S p ρ a w (hrg.imp_right fun e => (Bool.and_eq_true_iff.1 e).2) hd.2 (h.2 e) hm hn ha
    · exact h.elim
  | .block id b, Q, n, S, p, ρ, a, w, hrg, hd, h, hm, hn, ha => by
    refine wpIn_block (wpIn_mono (awp_sound b _ n S p ρ a w hrg hd h hm hn ha) ?_)
    rintro e a' w' ⟨h1, n', S', p', ρ', h2, h3, h4⟩
    cases e with
    | exit i =>
      unfold blockK at h2
      unfold Exit.inBlock
      dsimp only at h2 ⊢
      split at h2
      · next e => rw [if_pos e]; exact ⟨h1, n', S', p', ρ', h2, h3, h4⟩
      · next e => rw [if_neg e]; exact ⟨h1, n', S', p', ρ', h2, h3, h4⟩
    | _ => exact ⟨h1, n', S', p', ρ', h2, h3, h4⟩
  | .loop b, Q, n, S, p, ρ, a, w, hrg, hd, h, hm, hn, ha => by
    obtain ⟨I, n0, ⟨m0, S0, L0, fr0, hI0, hE0⟩, hround⟩ := h
    let J : Nat → Act → World → Prop := fun m a w => DefOk c a w ∧ ∃ S' ρ', I m S' ∧ Mod c (fun i => i / 8 < n0) ρ' S' a.tmps w
    have hJ0 : J m0 a w := by
      obtain ⟨ρ', h1⟩ := hE0.mod hm
      exact ⟨ha, S0, ρ', hI0, h1⟩
    classical
    let μ : Act → World → Nat := fun a w => if h : ∃ m, J m a w then Classical.choose (least_of h) else 0
    have hμ : ∀ m a w, J m a w → μ a w ≤ m ∧ J (μ a w) a w := fun m a w hj => by
      have he : ∃ m, J m a w := ⟨m, hj⟩
      simp only [μ, dif_pos he]
      have hs := Classical.choose_spec (least_of he)
      exact ⟨hs.2 m hj, hs.1⟩
    refine wpIn_loop (fun a w => ∃ m, J m a w) μ ⟨m0, hJ0⟩ ?_
    rintro a' w' ⟨m, hj⟩
    obtain ⟨-, hj1, S', ρ', hI, hm'⟩ := hμ m a' w' hj
    refine wpIn_mono (awp_sound b _ n0 S' _ ρ' a' w' hrg hd (hround _ S' hI) hm' (fun i hi => hi) hj1) ?_
    rintro e a2 w2 ⟨h1, n2, S2, p2, ρ2, h2, h3, h4⟩
    cases e with
    | normal =>
      obtain ⟨m', S3, L, fr3, hlt, hI3, hE3⟩ := h2
      obtain ⟨ρ3, h5⟩ := hE3.mod h3
      have hj3 : J m' a2 w2 := ⟨h1, S3, ρ3, hI3, h5⟩
      exact ⟨⟨m', hj3⟩, Nat.lt_of_le_of_lt (hμ m' a2 w2 hj3).1 hlt⟩
    | _ => exact ⟨h1, n2, S2, p2, ρ2, h2, h3, h4⟩
  | .rangeFunc g ps asg body, Q, n, S, p, ρ, a, w, hrg, hd, h, hm, hn, ha => by
    rcases hrg with rfl | hrg
    · simp only [dstB, Bool.and_eq_true] at hd
      obtain ⟨⟨⟨⟨h1, h2⟩, h3⟩, h4⟩, h5⟩ := hd
      exact h m0 c p ρ a w h1 h2 (fun t ht => by have := Array.all_eq_true_iff_forall_mem.1 h3 t ht; simpa using this) h4 h5 hm hn ha
    · cases hrg
  | .scope .., _, _, _, _, _, _, _, _, _, h, _, _, _ => h.elim
  | .label .., _, _, _, _, _, _, _, _, _, h, _, _, _ => h.elim
  | .goto .., _, _, _, _, _, _, _, _, _, h, _, _, _ => h.elim
  | .refuse .., _, _, _, _, _, _, _, _, _, h, _, _, _ => h.elim
/-! what is shown of a text, as it is meant: to part a text, and to join its ways again -/
structure SWP (P : Program) (code : Code) (Q : Exit → Nat → AS → Prop) (n : Nat) (S : AS) : Prop where
  h : ∀ (rd : Option Nat) (m0 : Nat) (c : Ctx) (p : Nat → Prop) (ρ : Env) (a : Act) (w : World), (rd = none ∨ rgB code = true) → dstB c.N code = true → Mod c p ρ S a.tmps w → (∀ i, p i → i / 8 < n) → DefOk c a w → code.wpIn (FW rd) m0 P (Lift c Q) a w
theorem swp_awp {P : Program} {code : Code} {Q : Exit → Nat → AS → Prop} {n : Nat} {S : AS} (h : AWP P code Q n S) : SWP P code Q n S := .mk fun rd m0 c p ρ a w hrg hd hm hn ha => awp_sound code Q n S p ρ a w hrg hd h hm hn ha
def CutK {X : Type} (St : X → AS) (inv : X → Prop) (n0 : Nat) (_n : Nat) (S : AS) : Prop := ∃ x L fr, inv x ∧ EntF L n0 fr S (St x)
theorem swp_cut {P : Program} {x y : Code} {Q : Exit → Nat → AS → Prop} {n : Nat} {S : AS} {X : Type} (St : X → AS) (inv : X → Prop) (n0 : Nat) (h1 : SWP P x (seqK (CutK St inv n0) Q) n S) (h2 : ∀ x, inv x → SWP P y Q n0 (St x)) : SWP P (.seq x y) Q n S := by
  refine .mk ?_
  intro rd m0 c p ρ a w hrg hd hm hn ha
  simp only [dstB, Bool.and_eq_true] at hd
  refine wpIn_seq (wpIn_mono (h1.h rd m0 c p ρ a w (hrg.imp_right fun e => (Bool.and_eq_true_iff.1 e).1) hd.1 hm hn ha) ?_)
  rintro e a' w' ⟨k1, n', S', p', ρ', k2, k3, k4⟩
  cases e with
  | normal =>
    obtain ⟨z, L, fr, hi, hE⟩ := k2
    obtain ⟨ρ2, hm2⟩ := hE.mod k3
    exact (h2 z hi).h rd m0 c _ ρ2 a' w' (hrg.imp_right fun e => (Bool.and_eq_true_iff.1 e).2) hd.2 hm2 (fun i hi => hi) k1
  | _ => exact ⟨k1, n', S', p', ρ', k2, k3, k4⟩
theorem swp_block {P : Program} {id : Nat} {b : Code} {Q : Exit → Nat → AS → Prop} {n : Nat} {S : AS} (h : SWP P b (blockK id Q) n S) : SWP P (.block id b) Q n S := by
  refine .mk ?_
  intro rd m0 c p ρ a w hrg hd hm hn ha
  refine wpIn_block (wpIn_mono (h.h rd m0 c p ρ a w hrg hd hm hn ha) ?_)
  rintro e a' w' ⟨h1, n', S', p', ρ', h2, h3, h4⟩
  cases e with
  | exit i =>
    unfold blockK at h2
    unfold Exit.inBlock
    dsimp only at h2 ⊢
    split at h2
    · next e => rw [if_pos e]; exact ⟨h1, n', S', p', ρ', h2, h3, h4⟩
    · next e => rw [if_neg e]; exact ⟨h1, n', S', p', ρ', h2, h3, h4⟩
  | _ => exact ⟨h1, n', S', p', ρ', h2, h3, h4⟩
end Go.Proofs.YtblmebjhhanoaaaGreat
/- ENGINE (second) 9: contracts of functions, proved and used; over any program. -/
set_option linter.unusedSimpArgs false
set_option linter.unusedVariables false
namespace Go.Proofs.YtblmebjhhanoaaaGreat
open Go.RowKit

/-- the objects that a call is handed. -/
structure ArgsOk (ρ : Env) (w : World) (s : List (Nat × AO)) : Prop where
  dom : ∀ i x, ρ.f i = some x → i < 8 ∧ x.oneCell' = true
  objs : ∀ i o, find s i = some o → ∃ x, ρ.f i = some x ∧ ObjAt ρ w x o
  apart : ∀ i j oi oj x y, i ≠ j → find s i = some oi → find s j = some oj → ρ.f i = some x → ρ.f j = some y → ∀ g, oblk x oi = some g → oblk y oj ≠ some g
  ro : ∀ g o, ρ.R g = some o → w.heap[g]? = some o
  rsep : ∀ i o x g, find s i = some o → ρ.f i = some x → oblk x o = some g → ρ.R g = none
  rdf : ∀ g o, ρ.R g = some o → isDefd o = false
/-- the blocks that it may turn. -/
def liveB (ρ : Env) (s : List (Nat × AO)) (g : Nat) : Prop := ∃ i o x, find s i = some o ∧ ρ.f i = some x ∧ oblk x o = some g
def somes (l : List (Nat × AO)) : List (Nat × Option AO) := l.map fun q => (q.1, some q.2)
theorem find_somes (l : List (Nat × AO)) (i : Nat) : find (somes l) i = (find l i).map some := by
  induction l with
  | nil => rfl
  | cons q l ih =>
    obtain ⟨k, o⟩ := q
    simp only [somes, List.map_cons, find] at ih ⊢
    split
    · rfl
    · exact ih
def slots (args : List AV) : List (Nat × AV) := args.zipIdx.map fun q => (q.2, q.1)

/-- **a contract**: of a function that is handed such values and objects: what it hands back, and which objects there are then (those handed in that may be turned, and are not told again, are lost). -/
def FnOk (P : Program) (f : FuncId) (args : List AV) (s : List (Nat × AO)) (val : AV) (objs : List (Nat × AO)) : Prop :=
  fnB P f = true ∧ ∀ (ρ : Env) (w : World) (vs : List Value), ArgsOk ρ w s → RepL ρ args vs → Calls P f vs.toArray w fun e w' => ∃ v ρ', e = .returned v ∧
    Mod ⟨1, liveB ρ s, w, ρ, fun _ => False⟩ (fun i => i < 16) ρ' ⟨[(0, val)], somes objs, none⟩ #[v] w'

/-- what is handed back. -/
def resV (P : Program) (S : AS) : ResultVar → Option AV
  | .tmp t => some (S.get t)
  | .cell a t => match S.get a, tyI P t with
    | .hdr id, some i => match S.obj id with
      | some (.cells _ l) => if i.size ≤ l.length ∧ (i.agg = true ∨ i.size = 1) then some (ofCells i.agg (l.take i.size)) else none
      | _ => none
    | _, _ => none
def resL (P : Program) (S : AS) : List ResultVar → Option (List AV)
  | [] => some []
  | r :: l => match resV P S r, resL P S l with
    | some v, some vs => some (v :: vs)
    | _, _ => none
def resAV (P : Program) (S : AS) (rs : List ResultVar) : Option AV :=
  match rs with
  | [r] => resV P S r
  | rs => (resL P S rs).map .tup
def RetV (v val : AV) (objs : List (Nat × AO)) (s : List (Nat × Option AO)) : Prop := ∃ L fr, EntF L 2 fr ⟨[(0, v)], s, none⟩ ⟨[(0, val)], somes objs, none⟩
def RetOk (P : Program) (rs : List ResultVar) (val : AV) (objs : List (Nat × AO)) (S : AS) : Prop :=
  match resAV P S rs with
  | some v => RetV v val objs S.s
  | none => False
def retQ (P : Program) (rs : List ResultVar) (val : AV) (objs : List (Nat × AO)) : Exit → Nat → AS → Prop
  | .normal => fun _ S => RetOk P rs val objs S
  | .ret => fun _ S => RetOk P rs val objs S
  | _ => fun _ _ => False

def getV (tmps : Array Value) : ResultVar → Sem Value
  | .tmp t => pure (tmps.getD t undef)
  | .cell a t => do loadVar t (← asAddr (tmps.getD a undef))
theorem results_getV (fn : Func) (tmps : Array Value) : results fn tmps = (do
    let vs ← fn.results.mapM (getV tmps)
    pure (if h : vs.size = 1 then vs[0] else .tuple vs)) := by
  unfold results
  congr 1

theorem resV_sound {P : Program} {c : Ctx} {p : Nat → Prop} {ρ : Env} {S : AS} {a : Act} {w : World} (hm : Mod c p ρ S a.tmps w) {r : ResultVar} {v : AV} (h : resV P S r = some v) :
    ∃ u, (getV a.tmps r).run P w = .ok u w ∧ Rep ρ v u := by
  cases r with
  | tmp t =>
    simp only [resV, Option.some.injEq] at h
    subst h
    exact ⟨_, by simp [getV], hm.tmps t⟩
  | cell b t =>
    simp only [resV] at h
    split at h
    · next id i hg hi =>
      split at h
      · next t' l hob =>
        split at h
        · next hc =>
          simp only [Option.some.injEq] at h
          subst h
          obtain ⟨g, cs, h1, h2, h3, h4, -⟩ := hm.at_cells (x := .tmp b) (id := id) (s := 0) (k := 0) (j := 0) (by simp [AS.val, hg, AV.loc]) hob
          have hlen := h4.length
          have h2' : a.tmps.getD b undef = .pointer (some ⟨g, 0, none⟩) := by simpa [Act.eval] using h2
          have hload := run_loadAt_cells (P := P) (w := w) hi (b := g) (o := 0) (cs := cs.take i.size) (by simp; omega) (fun m v hv => by
            have hm' : m < i.size := by
              rcases Nat.lt_or_ge m i.size with h | h
              · exact h
              · rw [List.getElem?_eq_none (by simp; omega)] at hv; cases hv
            rw [List.getElem?_take_of_lt hm'] at hv
            rw [h3.cell, Nat.zero_add, ← hv]
            simp) hc.2
          refine ⟨_, ?_, rep_ofCells (h4.take i.size) i.agg⟩
          simp only [getV, h2', asAddr, Sem.run_bind, Sem.run_pure, Result.andThen_ok]
          simpa [Instr.loadAt, Instr.sureAddr] using hload
        · simp at h
      · simp at h
    · simp at h
theorem resL_sound {P : Program} {c : Ctx} {p : Nat → Prop} {ρ : Env} {S : AS} {a : Act} {w : World} (hm : Mod c p ρ S a.tmps w) : ∀ {rs : List ResultVar} {vs : List AV}, resL P S rs = some vs →
    ∃ us, (rs.mapM (getV a.tmps)).run P w = .ok us w ∧ RepL ρ vs us
  | [], vs, h => by
    simp only [resL, Option.some.injEq] at h
    subst h
    exact ⟨[], by simp, by simp [RepL]⟩
  | r :: rs, vs, h => by
    simp only [resL] at h
    cases h1 : resV P S r with
    | none => rw [h1] at h; simp at h
    | some v =>
      cases h2 : resL P S rs with
      | none => rw [h1, h2] at h; simp at h
      | some vs' =>
        rw [h1, h2] at h
        simp only [Option.some.injEq] at h
        subst h
        obtain ⟨u, e1, e2⟩ := resV_sound hm h1
        obtain ⟨us, e3, e4⟩ := resL_sound hm h2
        refine ⟨u :: us, ?_, by simp only [RepL]; exact ⟨e2, e4⟩⟩
        rw [List.mapM_cons, Sem.run_bind, e1]
        simp only [Result.andThen_ok, Sem.run_bind]
        rw [e3]
        rfl
theorem resAV_sound {P : Program} {c : Ctx} {p : Nat → Prop} {ρ : Env} {S : AS} {a : Act} {w : World} (hm : Mod c p ρ S a.tmps w) {fn : Func} {v : AV} (h : resAV P S fn.results.toList = some v) : ∃ u, (results fn a.tmps).run P w = .ok u w ∧ Rep ρ v u := by
  rw [results_getV, Array.mapM_eq_mapM_toList]
  simp only [Sem.run_bind, Sem.run_map]
  have one : ∀ {vs : List AV}, resL P S fn.results.toList = some vs → ∃ us, (fn.results.toList.mapM (getV a.tmps)).run P w = .ok us w ∧ RepL ρ vs us := fun h => resL_sound hm h
  unfold resAV at h
  split at h
  · next r hr =>
    obtain ⟨us, e1, e2⟩ := one (vs := [v]) (by rw [hr]; simp [resL, h])
    cases us with
    | nil => simp [RepL] at e2
    | cons u us =>
      simp only [RepL] at e2
      have : us = [] := by have := e2.2.length; exact List.eq_nil_of_length_eq_zero (by simpa using this)
      subst this
      refine ⟨u, ?_, e2.1⟩
      rw [e1]
      simp
  · next rs hne =>
    cases hl : resL P S fn.results.toList with
    | none => rw [hl] at h; simp at h
    | some vs =>
      rw [hl] at h
      simp only [Option.map_some, Option.some.injEq] at h
      subst h
      obtain ⟨us, e1, e2⟩ := one hl
      refine ⟨.tuple us.toArray, ?_, by simp only [Rep]; exact ⟨us, rfl, e2⟩⟩
      rw [e1]
      have hlen : us.length ≠ 1 := by
        rw [e2.length]
        have hll : ∀ (rs : List ResultVar) (vs : List AV), resL P S rs = some vs → vs.length = rs.length := by
          intro rs
          induction rs with
          | nil => intro vs h; simp only [resL, Option.some.injEq] at h; subst h; rfl
          | cons r rs ih =>
            intro vs h
            simp only [resL] at h
            cases h1 : resV P S r with
            | none => rw [h1] at h; simp at h
            | some v =>
              cases h2 : resL P S rs with
              | none => rw [h1, h2] at h; simp at h
              | some vs' => rw [h1, h2] at h; simp only [Option.some.injEq] at h; subst h; simp [ih vs' h2]
        rw [hll _ _ hl]
        intro e
        cases hr : fn.results.toList with
        | nil => rw [hr] at e; simp at e
        | cons r rs =>
          rw [hr] at e
          have : rs = [] := List.eq_nil_of_length_eq_zero (by simpa using e)
          subst this
          exact hne r hr
      simp [hlen]

theorem find_map_some (s : List (Nat × AO)) (i : Nat) : AS.obj ⟨[], somes s, none⟩ i = find s i := by
  unfold AS.obj
  rw [find_somes]
  cases find s i <;> rfl
theorem find_slots {args : List AV} {d : Nat} : find (slots args) d = args[d]? := by
  have key : ∀ (l : List AV) (k : Nat), find ((l.zipIdx k).map fun q => (q.2, q.1)) d = if k ≤ d then l[d - k]? else none := by
    intro l
    induction l with
    | nil => intro k; simp [find]
    | cons a l ih =>
      intro k
      simp only [List.zipIdx_cons, List.map_cons, find]
      by_cases h : k = d
      · subst h; simp
      · rw [if_neg h, ih]
        by_cases h2 : k ≤ d
        · have : d - k = (d - (k + 1)) + 1 := by omega
          rw [if_pos (by omega), if_pos h2, this]; simp
        · rw [if_neg (by omega), if_neg h2]
  unfold slots
  simpa using key args 0

/-- **a function's contract, out of what is shown of its text.** -/
theorem fn_of_swp {P : Program} {f : FuncId} {fn : Func} {code : Code} {args : List AV} {s : List (Nat × AO)} {val : AV} {objs : List (Nat × AO)} (hf : P.funcs[f]? = some fn) (hb : fn.body = some code) (hfn : fnB P f = true) (hd : dstB fn.ntmps code = true) (hl : args.length ≤ fn.ntmps) {rs : List ResultVar} (hrs : fn.results = rs.toArray)
    (h : SWP P code (retQ P rs val objs) 1 ⟨slots args, somes s, none⟩) : FnOk P f args s val objs := by
  obtain rfl : fn.results.toList = rs := by rw [hrs]
  refine ⟨hfn, fun ρ w vs hA hr => ?_⟩
  have hlen := hr.length
  let c : Ctx := ⟨fn.ntmps, liveB ρ s, w, ρ, fun _ => False⟩
  have hm : Mod c (fun i => i < 8) ρ ⟨slots args, somes s, none⟩ (vs.toArray ++ Array.replicate (fn.ntmps - vs.toArray.size) undef) w := by
    refine ⟨by simp [c]; omega, fun _ _ => rfl, SubR.refl _, fun _ h => h, hA.dom, fun d => ?_, fun i o e => ?_, fun i j oi oj x y hne hi hj => ?_, fun i o x g hi hx hg => ?_, hA.ro, fun i o x g hi hx hg => ?_, fun g o e => .inl e, hA.rdf, fun g e => e.elim, FrameM.refl _ _⟩
    · show Rep ρ (AS.get ⟨slots args, somes s, none⟩ d) _
      unfold AS.get
      dsimp only
      rw [find_slots]
      cases ha : args[d]? with
      | none => simp [Rep]
      | some v =>
        obtain ⟨u, h1, h2⟩ := RepL.get d hr ha
        simp only [Option.getD_some]
        have hdl : d < vs.length := (List.getElem?_eq_some_iff.1 h1).1
        have e1 : (vs.toArray ++ Array.replicate (fn.ntmps - vs.toArray.size) undef).getD d undef = u := by
          rw [Array.getD_eq_getD_getElem?, Array.getElem?_append_left (by simpa using hdl)]
          simp [h1]
        rw [e1]
        exact h2
    · exact hA.objs i o ((find_map_some s i).symm.trans e)
    · exact hA.apart i j oi oj x y hne ((find_map_some s i).symm.trans hi) ((find_map_some s j).symm.trans hj)
    · exact .inl ⟨i, o, x, (find_map_some s i).symm.trans hi, hx, hg⟩
    · exact hA.rsep i o x g ((find_map_some s i).symm.trans hi) hx hg
  refine (callsIn_wide (n := 0)).1 (callsIn_of_wp_marks hf hb trivial (wpIn_mono (h.h none 0 c _ ρ _ w (.inl rfl) hd hm (fun i hi => by omega) (.nil rfl)) ?_))
  have fin0 : ∀ (S' : AS) (p' : Nat → Prop) (ρ' : Env) (a' : Act) (w' : World), RetOk P fn.results.toList val objs S' → Mod c p' ρ' S' a'.tmps w' → ∃ v, (results fn a'.tmps).run P w' = .ok v w' ∧ ∃ v' ρ', (Ending.returned v) = .returned v' ∧
      Mod ⟨1, liveB ρ s, w, ρ, fun _ => False⟩ (fun i => i < 16) ρ' ⟨[(0, val)], somes objs, none⟩ #[v'] w' := by
    intro S' p' ρ' a' w' hr' hm'
    unfold RetOk at hr'
    split at hr'
    · next v hv =>
      obtain ⟨L, fr, hE⟩ := hr'
      obtain ⟨u, h1, h2⟩ := resAV_sound hm' hv
      have hm1 : Mod ⟨1, liveB ρ s, w, ρ, fun _ => False⟩ p' ρ' ⟨[(0, v)], S'.s, none⟩ #[u] w' := by
        refine ⟨rfl, hm'.base, hm'.baseR, hm'.lo, hm'.dom, fun d => ?_, hm'.objs, hm'.apart, hm'.old, hm'.ro, hm'.rsep, hm'.rnew, hm'.rdf, hm'.dfr, hm'.frame⟩
        unfold AS.get
        simp only [find]
        split
        · next e => subst e; simpa using h2
        · simp [Rep]
      obtain ⟨ρ2, hm2⟩ := hE.mod hm1
      exact ⟨u, h1, u, ρ2, rfl, hm2.mono fun i hi => by omega⟩
    · exact hr'.elim
  have fin : ∀ (Ds : List Nat) (S' : AS) (p' : Nat → Prop) (ρ' : Env) (a' : Act) (w' : World), RetOk P fn.results.toList val objs S' → Mod c p' ρ' S' a'.tmps w' → Ds.Nodup → (∀ D ∈ Ds, w.heap.size ≤ D ∧ ¬ False ∧ w'.heap[D]? = some (.deferred (some []))) →
      LeavesInM Fence.wide 0 P fn a'.tmps (fun e w' => ∃ v' ρ', e = .returned v' ∧ Mod ⟨1, liveB ρ s, w, ρ, fun _ => False⟩ (fun i => i < 16) ρ' ⟨[(0, val)], somes objs, none⟩ #[v'] w') (Ds.map markD) .returning w' := by
    intro Ds
    induction Ds with
    | nil => intro S' p' ρ' a' w' hr' hm' _ _; exact fin0 S' p' ρ' a' w' hr' hm'
    | cons D Ds ih =>
      intro S' p' ρ' a' w' hr' hm' hn hD
      obtain ⟨hb1, -, hD1⟩ := hD D (List.mem_cons_self ..)
      rw [List.nodup_cons] at hn
      refine ⟨by simp, .inl ⟨D, _, rfl, run_takeDeferred hD1, ih S' p' ρ' a' _ hr' (hm'.putObj _ hD1 rfl hb1 (fun h => h)) hn.2 fun D2 h2 => ?_⟩⟩
      obtain ⟨k1, k3, k2⟩ := hD D2 (List.mem_cons_of_mem _ h2)
      have hne : D2 ≠ D := fun e => by subst e; exact hn.1 h2
      exact ⟨k1, k3, (World.putObj_heap_other hne).trans k2⟩
  rintro e a' w' ⟨⟨Ds, e1, e2, e3⟩, n', S', p', ρ', h2, h3, h4⟩
  cases e with
  | normal => show LeavesInM _ _ _ _ _ _ a'.defers _ _; rw [e1]; exact fin Ds S' p' ρ' a' w' h2 h3 e2 e3
  | ret => show LeavesInM _ _ _ _ _ _ a'.defers _ _; rw [e1]; exact fin Ds S' p' ρ' a' w' h2 h3 e2 e3
  | _ => exact h2.elim

theorem fn_of_awp {P : Program} {f : FuncId} {fn : Func} {code : Code} {args : List AV} {s : List (Nat × AO)} {val : AV} {objs : List (Nat × AO)} (hf : P.funcs[f]? = some fn) (hb : fn.body = some code) (hfn : fnB P f = true) (hd : dstB fn.ntmps code = true) (hl : args.length ≤ fn.ntmps) {rs : List ResultVar} (hrs : fn.results = rs.toArray)
    (h : AWP P code (retQ P rs val objs) 1 ⟨slots args, somes s, none⟩) : FnOk P f args s val objs := fn_of_swp hf hb hfn hd hl hrs (swp_awp h)
/-- a contract's names, at a call: those handed in are the caller's; those made are named by the operation. -/
def callMap (ι : List Nat) (n i : Nat) : Nat := if i < 8 then (ι[i]?).getD 0 else 8 * n + (i - 8)
def deepO : Option AO → List Nat
  | some (.cells _ l) => deepL l
  | some (.frm _ t) => deepP t
  | _ => []
def deepS (S : AS) : List Nat → List Nat
  | [] => []
  | i :: l => i :: (deepO (S.obj i) ++ deepS S l)
def callEff (ι : List Nat) (n : Nat) (S : AS) (bor : List Nat) (actual : List AV) (s : List (Nat × AO)) (val : AV) (objs : List (Nat × AO)) : Eff :=
  ⟨val.ren (callMap ι n), (objs.map fun q => (callMap ι n q.1, some (q.2.ren (callMap ι n)))) ++ (s.map fun q => (callMap ι n q.1, none)), deepS S (s.map fun q => callMap ι n q.1) ++ (deepL actual ++ bor)⟩
mutual
/-- nothing within that never turns. -/
def AV.noR : AV → Bool
  | .dead => true
  | .raw _ => true
  | .sl _ rows => rows.isEmpty
  | .hdr _ => true
  | .ptr _ _ _ _ => true
  | .vw _ _ _ _ => true
  | .spt _ _ _ _ => false
  | .agg l => noRL l
  | .tup l => noRL l
  | .clo _ l => noRL l
  | .bnd _ l => noRL l
def noRL : List AV → Bool
  | [] => true
  | a :: l => a.noR && noRL l
end
def PV.noR : PV → Bool
  | .raw _ => true
  | .sl _ rows => rows.isEmpty
/-- elements that are cells alone. -/
def RawRows (rows : List (List PV)) : Prop := ∀ r ∈ rows, ∀ p ∈ r, p.noR = true
def AO.noR : AO → Prop
  | .cells _ l => noRL l = true
  | .row _ _ rows => RawRows rows
  | .fro _ rows => rows = []
  | .loop .. => True
  | .frm .. => False
/-- what must hold at a call (bor: own rows that are lent). -/
def CallFit (ι : List Nat) (n : Nat) (bor : List Nat) (args actual : List AV) (s : List (Nat × AO)) (val : AV) (objs : List (Nat × AO)) (S : AS) : Prop :=
  (ServesL (S.upd (frz S bor)) (renL (callMap ι n) args) actual ∧ bdL 1 args = true) ∧ (∀ q ∈ s, q.1 < 8 ∧ q.2.bd 1 = true ∧ ServesO (S.upd (frz S bor)) (q.2.ren (callMap ι n)) ((S.upd (frz S bor)).obj (callMap ι n q.1)) ∧ callMap ι n q.1 ∉ bor) ∧
  s.Pairwise (fun q r => q.1 ≠ r.1 ∧ callMap ι n q.1 ≠ callMap ι n r.1) ∧ (∀ q ∈ objs, q.1 < 16) ∧ objs.Pairwise (fun q r => q.1 ≠ r.1) ∧ (bor = [] ∨ (val.noR = true ∧ ∀ q ∈ objs, q.2.noR))

theorem PRep.noR {R R' : Frz} {p : PV} {v : Value} (h : p.noR = true) (e : PRep R p v) : PRep R' p v := by
  cases p with
  | raw u => simpa [PRep] using e
  | sl s rows =>
    obtain rfl : rows = [] := by simpa [PV.noR] using h
    simp only [PRep] at e ⊢
    obtain ⟨A, c, h1, h2, -⟩ := e
    exact ⟨A, c, h1, h2, by simp [PRows]⟩
theorem PRepL.noR {R R' : Frz} : ∀ {ps : List PV} {vs : List Value}, (∀ p ∈ ps, p.noR = true) → PRepL R ps vs → PRepL R' ps vs
  | [], [], _, _ => trivial
  | [], _ :: _, _, e => e.elim
  | _ :: _, [], _, e => e.elim
  | p :: ps, _ :: _, h, e => ⟨e.1.noR (h p List.mem_cons_self), PRepL.noR (fun q hq => h q (List.mem_cons_of_mem _ hq)) e.2⟩
theorem PRepLL.noR {R R' : Frz} : ∀ {ps : List (List PV)} {vs : List (List Value)}, RawRows ps → PRepLL R ps vs → PRepLL R' ps vs
  | [], [], _, _ => trivial
  | [], _ :: _, _, e => e.elim
  | _ :: _, [], _, e => e.elim
  | p :: ps, _ :: _, h, e => ⟨e.1.noR (h p List.mem_cons_self), PRepLL.noR (fun q hq => h q (List.mem_cons_of_mem _ hq)) e.2⟩
mutual
theorem Rep.renF {ρ ρ' : Env} {m : Nat → Nat} (h : ∀ i x, ρ.f i = some x → ρ'.f (m i) = some x) : ∀ (a : AV) (v : Value), (SubR ρ.R ρ'.R ∨ a.noR = true) → Rep ρ a v → Rep ρ' (a.ren m) v
  | .dead, _, _, _ => by simp [AV.ren, Rep]
  | .raw _, _, _, e => by simpa [AV.ren, Rep] using e
  | .sl s rows, v, hR, e => by
    simp only [AV.ren, Rep] at e ⊢
    rcases hR with hR | hR
    · exact e.sub hR
    · exact PRep.noR (p := .sl s rows) hR e
  | .hdr i, v, _, e => by simp only [AV.ren, Rep] at e ⊢; exact h i v e
  | .ptr i s k j, v, _, e => by
    simp only [AV.ren, Rep] at e ⊢
    obtain ⟨x, b, o, h1, h2, h3⟩ := e
    exact ⟨x, b, o, h i x h1, h2, h3⟩
  | .vw i s l hh, v, _, e => by
    simp only [AV.ren, Rep] at e ⊢
    obtain ⟨A, n', c, h1, h2⟩ := e
    exact ⟨A, n', c, h i _ h1, h2⟩
  | .spt s rows k j, v, hR, e => by
    simp only [AV.ren, Rep] at e ⊢
    rcases hR with hR | hR
    · obtain ⟨b, o, h1, h2⟩ := e
      exact ⟨b, o, h1, h2.sub hR⟩
    · cases hR
  | .agg l, v, hR, e => by
    simp only [AV.ren, Rep] at e ⊢
    obtain ⟨cs, h1, h2⟩ := e
    exact ⟨cs, h1, RepL.renF h l cs hR h2⟩
  | .tup l, v, hR, e => by
    simp only [AV.ren, Rep] at e ⊢
    obtain ⟨cs, h1, h2⟩ := e
    exact ⟨cs, h1, RepL.renF h l cs hR h2⟩
  | .clo f l, v, hR, e => by
    simp only [AV.ren, Rep] at e ⊢
    obtain ⟨cs, h1, h2⟩ := e
    exact ⟨cs, h1, RepL.renF h l cs hR h2⟩
  | .bnd f l, v, hR, e => by
    simp only [AV.ren, Rep] at e ⊢
    obtain ⟨cs, h1, h2⟩ := e
    exact ⟨cs, h1, RepL.renF h l cs hR h2⟩
theorem RepL.renF {ρ ρ' : Env} {m : Nat → Nat} (h : ∀ i x, ρ.f i = some x → ρ'.f (m i) = some x) : ∀ (l : List AV) (vs : List Value), (SubR ρ.R ρ'.R ∨ noRL l = true) → RepL ρ l vs → RepL ρ' (renL m l) vs
  | [], [], _, _ => by simp [renL, RepL]
  | [], _ :: _, _, e => by simp [RepL] at e
  | _ :: _, [], _, e => by simp [RepL] at e
  | a :: l, v :: vs, hR, e => by
    simp only [renL, RepL] at e ⊢
    have h2 : (SubR ρ.R ρ'.R ∨ a.noR = true) ∧ (SubR ρ.R ρ'.R ∨ noRL l = true) := by
      rcases hR with hR | hR
      · exact ⟨.inl hR, .inl hR⟩
      · simp only [noRL, Bool.and_eq_true] at hR
        exact ⟨.inr hR.1, .inr hR.2⟩
    exact ⟨Rep.renF h a v h2.1 e.1, RepL.renF h l vs h2.2 e.2⟩
end
theorem ObjAt.renF {ρ ρ' : Env} {m : Nat → Nat} (h : ∀ i x, ρ.f i = some x → ρ'.f (m i) = some x) {w : World} {x : Value} {o : AO} (hR : SubR ρ.R ρ'.R ∨ o.noR) (ho : ObjAt ρ w x o) : ObjAt ρ' w x (o.ren m) := by
  cases o with
  | cells t l =>
    obtain ⟨g, cs, h1, h2, h3, h4⟩ := ho
    exact ⟨g, cs, h1, h2, RepL.renF h l cs hR h3, h4⟩
  | row e s r =>
    obtain ⟨vals, h1, h2⟩ := ho
    refine ⟨vals, ?_, h2⟩
    rcases hR with hR | hR
    · exact h1.sub hR
    · exact h1.noR hR
  | fro s r =>
    rcases hR with hR | hR
    · exact PRep.sub hR _ _ ho
    · exact PRep.noR (p := .sl s r) (by have : r = [] := hR; subst this; rfl) ho
  | loop tm lc md => exact ho
  | frm tm t =>
    rcases hR with hR | hR
    · intro d v hv
      rw [find'_eq, find_renT] at hv
      cases hq : find t d with
      | none => rw [hq] at hv; cases hv
      | some u =>
        rw [hq] at hv
        simp only [Option.map_some, Option.some.injEq] at hv
        subst hv
        exact Rep.renF h u _ (.inl hR) (ho d u (by rw [find'_eq]; exact hq))
    · exact hR.elim

theorem find_objs {objs : List (Nat × AO)} {m : Nat → Nat} {i : Nat} {o : AO} (h : find (objs.map fun q => (m q.1, some (q.2.ren m))) i = some (some o)) : ∃ q ∈ objs, m q.1 = i ∧ q.2.ren m = o := by
  have := find_mem h
  simp only [List.mem_map, Prod.mk.injEq, Option.some.injEq] at this
  obtain ⟨q, hq, h1, h2⟩ := this
  exact ⟨q, hq, h1, h2⟩
theorem find_of_pair {α : Type} {l : List (Nat × α)} (hp : l.Pairwise (fun q r => q.1 ≠ r.1)) {q : Nat × α} (hq : q ∈ l) : find l q.1 = some q.2 := by
  induction l with
  | nil => cases hq
  | cons a l ih =>
    obtain ⟨k, v⟩ := a
    rw [List.pairwise_cons] at hp
    simp only [find]
    rcases List.mem_cons.1 hq with e | hq'
    · subst e; simp
    · rw [if_neg (hp.1 q hq'), ih hp.2 hq']

theorem pair_inj {s : List (Nat × AO)} {m : Nat → Nat} (hpw : s.Pairwise (fun q r => q.1 ≠ r.1 ∧ m q.1 ≠ m r.1)) : ∀ q ∈ s, ∀ r ∈ s, q.1 ≠ r.1 → m q.1 ≠ m r.1 := by
  intro q hq r hr' hne
  induction s with
  | nil => cases hq
  | cons a s ih =>
    rw [List.pairwise_cons] at hpw
    rcases List.mem_cons.1 hq with e1 | hq' <;> rcases List.mem_cons.1 hr' with e2 | hr2
    · subst e1; subst e2; exact absurd rfl hne
    · subst e1; exact (hpw.1 r hr2).2
    · subst e2; exact fun e => (hpw.1 q hq').2 e.symm
    · exact ih hpw.2 hq' hr2
theorem find_map_some' (objs : List (Nat × AO)) (hp : objs.Pairwise (fun q r => q.1 ≠ r.1)) (q : Nat × AO) (hq : q ∈ objs) {t : List (Nat × AV)} : AS.obj ⟨t, somes objs, none⟩ q.1 = some q.2 := by
  have h := find_map_some objs q.1
  rw [find_of_pair hp hq] at h
  exact h

theorem deepS_mem {S : AS} {i : Nat} : ∀ {l : List Nat}, i ∈ l → i ∈ deepS S l ∧ ∀ j ∈ deepO (S.obj i), j ∈ deepS S l
  | [], h => by cases h
  | k :: l, h => by
    unfold deepS
    rcases List.mem_cons.1 h with rfl | h
    · exact ⟨List.mem_cons_self, fun j hj => List.mem_cons_of_mem _ (List.mem_append_left _ hj)⟩
    · obtain ⟨h1, h2⟩ := deepS_mem h
      exact ⟨List.mem_cons_of_mem _ (List.mem_append_right _ h1), fun j hj => List.mem_cons_of_mem _ (List.mem_append_right _ (h2 j hj))⟩
theorem serves_congr {S S' : AS} {v a : AV} (h : ∀ i ∈ a.deep, S'.obj i = S.obj i) (hs : Serves S v a) : Serves S' v a := by
  rcases hs with hs | hs | hs
  · exact .inl hs
  · exact .inr (.inl (by rw [see_congr a h]; exact hs))
  · exact .inr (.inr hs)
theorem servesL_congr {S S' : AS} : ∀ {l m : List AV}, (∀ i ∈ deepL m, S'.obj i = S.obj i) → ServesL S l m → ServesL S' l m
  | [], [], _, _ => trivial
  | [], _ :: _, _, h => h.elim
  | _ :: _, [], _, h => h.elim
  | v :: l, a :: m, h, hs => by
    simp only [deepL, List.mem_append] at h
    exact ⟨serves_congr (fun i hi => h i (.inl hi)) hs.1, servesL_congr (fun i hi => h i (.inr hi)) hs.2⟩
theorem deepP_find {t : List (Nat × AV)} {d i : Nat} (h : i ∈ ((find t d).getD .dead).deep) : i ∈ deepP t := by
  induction t with
  | nil => simp [find, AV.deep] at h
  | cons q t ih =>
    obtain ⟨k, v⟩ := q
    simp only [find] at h
    simp only [deepP, List.mem_append]
    split at h
    · exact .inl h
    · exact .inr (ih h)
theorem servesT_congr {S S' : AS} {t' : List (Nat × AV)} (h : ∀ i ∈ deepP t', S'.obj i = S.obj i) : ∀ {t : List (Nat × AV)}, ServesT S t' t → ServesT S' t' t
  | [], _ => trivial
  | (d, v) :: t, hs => ⟨serves_congr (fun i hi => h i (deepP_find hi)) hs.1, servesT_congr h hs.2⟩
theorem servesO_congr {S S' : AS} {o : AO} {q : Option AO} (h : ∀ i ∈ deepO q, S'.obj i = S.obj i) (hs : ServesO S o q) : ServesO S' o q := by
  cases q with
  | none => cases o <;> exact hs.elim
  | some o' =>
    cases o <;> cases o' <;> first | exact hs | exact ⟨hs.1, servesL_congr h hs.2⟩ | exact ⟨hs.1, servesT_congr h hs.2⟩

set_option maxHeartbeats 1000000 in
/-- **a contract at a call.** -/
theorem call_ok {P : Program} {f : FuncId} {args actual : List AV} {s : List (Nat × AO)} {val : AV} {objs : List (Nat × AO)} (hf : FnOk P f args s val objs) {ι : List Nat} {n : Nat} {bor : List Nat} {S : AS} (h : CallFit ι n bor args actual s val objs S) :
    CallOk P f actual S n (callEff ι n S bor actual s val objs) := by
  obtain ⟨⟨hsv, hb⟩, hs, hpw, ho16, hopw, hnoR⟩ := h
  intro S' hag
  have ag1 : ∀ i ∈ bor, S'.obj i = S.obj i := fun i hi => hag i (List.mem_append_right _ (List.mem_append_right _ hi))
  have ag2 : ∀ i ∈ deepL actual, S'.obj i = S.obj i := fun i hi => hag i (List.mem_append_right _ (List.mem_append_left _ hi))
  have ag3 : ∀ q ∈ s, S'.obj (callMap ι n q.1) = S.obj (callMap ι n q.1) ∧ ∀ j ∈ deepO (S.obj (callMap ι n q.1)), S'.obj j = S.obj j := fun q hq => by
    obtain ⟨h1, h2⟩ := deepS_mem (S := S) (List.mem_map_of_mem (f := fun q => callMap ι n q.1) hq)
    exact ⟨hag _ (List.mem_append_left _ h1), fun j hj => hag _ (List.mem_append_left _ (h2 j hj))⟩
  have hfz : frz S' bor = frz S bor := frz_congr ag1
  have agf : ∀ i, S'.obj i = S.obj i → (S'.upd (frz S' bor)).obj i = (S.upd (frz S bor)).obj i := fun i hi => by rw [upd_obj, upd_obj, hfz, hi]
  have notb : ∀ (T : AS) i, i ∉ bor → (T.upd (frz T bor)).obj i = T.obj i := fun T i hi => by
    rw [upd_obj]
    cases hq : find (frz T bor) i with
    | none => rfl
    | some q => exact absurd (frz_find hq).1 hi
  have hs : ∀ q ∈ s, q.1 < 8 ∧ q.2.bd 1 = true ∧ ServesO (S'.upd (frz S' bor)) (q.2.ren (callMap ι n)) ((S'.upd (frz S' bor)).obj (callMap ι n q.1)) ∧ callMap ι n q.1 ∉ bor := fun q hq => by
    obtain ⟨h1, h2, h3, h4⟩ := hs q hq
    refine ⟨h1, h2, ?_, h4⟩
    rw [agf _ (ag3 q hq).1]
    refine servesO_congr (fun j hj => agf j ?_) h3
    rw [notb S _ h4] at hj
    exact (ag3 q hq).2 j hj
  have hsv : ServesL (S'.upd (frz S' bor)) (renL (callMap ι n) args) actual := servesL_congr (fun i hi => agf i (ag2 i hi)) hsv
  intro c p ρ tm w vs hm hn hr
  have hn0 := hm.n0 hn
  obtain ⟨Rf, hsub, hmf, hR0⟩ : ∃ Rf, SubR ρ.R Rf ∧ Mod c p ⟨ρ.f, Rf⟩ (S'.upd (frz S' bor)) tm w ∧ (bor = [] → Rf = ρ.R) := by
    by_cases hb0 : bor = []
    · subst hb0; exact ⟨ρ.R, SubR.refl _, hm, fun _ => rfl⟩
    · obtain ⟨Rf, h1, h2⟩ := hm.frz bor
      exact ⟨Rf, h1, h2, fun e => absurd e hb0⟩
  let ρl : Env := ⟨fun i => if i < 8 then ρ.f (callMap ι n i) else none, Rf⟩
  have hl : ∀ i x, i / 8 < 1 → ρ.f (callMap ι n i) = some x → ρl.f i = some x := fun i x hi e => by
    show (if _ then _ else _) = _
    rw [if_pos (by omega)]; exact e
  have hl2 : ∀ i x, ρl.f i = some x → i < 8 ∧ ρ.f (callMap ι n i) = some x := fun i x e => by
    have e : (if _ then _ else _) = some x := e
    split at e
    · next hc => exact ⟨hc, e⟩
    · cases e
  have hfs : ∀ i o, find s i = some o → i < 8 ∧ o.bd 1 = true ∧ (∃ o', (S'.upd (frz S' bor)).obj (callMap ι n i) = some o' ∧ S'.obj (callMap ι n i) = some o' ∧ (∀ x, ObjAt ⟨ρ.f, Rf⟩ w x o' → ObjAt ⟨ρ.f, Rf⟩ w x (o.ren (callMap ι n))) ∧ ∀ x, oblk x o = oblk x o') ∧ (i, o) ∈ s := fun i o e => by
    have hmem := find_mem e
    obtain ⟨h1, h2, h3, h4⟩ := hs _ hmem
    obtain ⟨o', k1, k2, k3⟩ := h3.at_ hmf
    exact ⟨h1, h2, ⟨o', k1, by rw [← notb S' _ h4]; exact k1, k2, fun x => by rw [← k3, oblk_ren]⟩, hmem⟩
  have hpw' : s.Pairwise (fun q r => q.1 ≠ r.1 ∧ callMap ι n q.1 ≠ callMap ι n r.1) := hpw
  have hinj := pair_inj hpw'
  have hA : ArgsOk ρl w s := by
    refine ⟨fun i x e => ⟨(hl2 i x e).1, (hm.dom _ x (hl2 i x e).2).2⟩, fun i o e => ?_, fun i j oi oj x y hne hi hj hx hy g hg hg' => ?_, hmf.ro, fun i o x g hi hx hg => ?_, hmf.rdf⟩
    · obtain ⟨h1, h2, ⟨o', h3, h3', h6, -⟩, -⟩ := hfs i o e
      obtain ⟨x, h4, h5⟩ := hmf.objs _ _ h3
      exact ⟨x, hl i x (by omega) h4, ObjAt.ren (ρ := ⟨ρ.f, Rf⟩) (ρ' := ρl) hl (SubR.refl _) h2 (h6 x h5)⟩
    · obtain ⟨h1, h2, ⟨o1, h3, -, -, h6⟩, h4⟩ := hfs i oi hi
      obtain ⟨k1, k2, ⟨o2, k3, -, -, k6⟩, k4⟩ := hfs j oj hj
      exact hmf.apart _ _ _ _ x y (hinj _ h4 _ k4 hne) h3 k3 (hl2 i x hx).2 (hl2 j y hy).2 g (by rw [← h6]; exact hg) (by rw [← k6]; exact hg')
    · obtain ⟨h1, h2, ⟨o1, h3, -, -, h6⟩, h4⟩ := hfs i o hi
      exact hmf.rsep _ _ x g h3 (hl2 i x hx).2 (by rw [← h6]; exact hg)
  have hra : RepL ρl args vs := RepL.ren (ρ := ⟨ρ.f, Rf⟩) (ρ' := ρl) hl (SubR.refl _) args vs hb (hsv.rep hmf (RepL.ext (ρ := ρ) (ρ' := ⟨ρ.f, Rf⟩) ⟨fun _ _ h => h, hsub⟩ _ _ hr))
  refine (hf.2 ρl w vs hA hra).mono ?_
  rintro e w' ⟨v, ρl', rfl, hml⟩
  -- what never turns, then
  obtain ⟨RR, hRR⟩ : ∃ RR : Frz, (RR = ρl'.R ∧ bor = []) ∨ (RR = ρ.R ∧ val.noR = true ∧ ∀ q ∈ objs, q.2.noR) := by
    rcases hnoR with h | h
    · exact ⟨_, .inl ⟨rfl, h⟩⟩
    · exact ⟨_, .inr ⟨rfl, h⟩⟩
  -- the caller's names
  let ρ' : Env := ⟨fun i => if i / 8 = n then ρl'.f (8 + (i - 8 * n)) else ρ.f i, RR⟩
  have he : ∀ i x, ρ.f i = some x → ρ'.f i = some x := fun i x e => by
    show (if _ then _ else _) = _
    rw [if_neg (hn i (hm.dom i x e).1)]; exact e
  have heR : SubR ρ.R RR := by
    rcases hRR with ⟨rfl, hb0⟩ | ⟨rfl, -⟩
    · exact hsub.trans hml.baseR
    · exact SubR.refl _
  have hF : ∀ i x, ρl'.f i = some x → ρ'.f (callMap ι n i) = some x := fun i x e => by
    have hi16 := (hml.dom i x e).1
    by_cases hi : i < 8
    · have h1 := hml.base i hi
      have h2 : ρl.f i = some x := by rw [← e]; exact h1.symm
      exact he _ x (hl2 i x h2).2
    · have e1 : callMap ι n i = 8 * n + (i - 8) := by unfold callMap; rw [if_neg hi]
      show (if _ then _ else _) = _
      rw [e1, if_pos (by omega)]
      rw [show 8 + (8 * n + (i - 8) - 8 * n) = i by omega]
      exact e
  have hval : Rep ρl' val v := by
    have := hml.tmps 0
    simpa [AS.get, find] using this
  have hob : ∀ q ∈ objs, ∃ x, ρl'.f q.1 = some x ∧ ObjAt ρl' w' x q.2 := fun q hq => hml.objs q.1 q.2 (by rw [find_map_some' objs hopw q hq])
  have hRv : SubR ρl'.R ρ'.R ∨ val.noR = true := by
    rcases hRR with ⟨h, -⟩ | ⟨-, h, -⟩
    · exact .inl (by show SubR _ RR; rw [h]; exact SubR.refl _)
    · exact .inr h
  have hRo : ∀ q ∈ objs, SubR ρl'.R ρ'.R ∨ q.2.noR := fun q hq => by
    rcases hRR with ⟨h, -⟩ | ⟨-, -, h⟩
    · exact .inl (by show SubR _ RR; rw [h]; exact SubR.refl _)
    · exact .inr (h q hq)
  have hfm : ∀ i, find ((callEff ι n S bor actual s val objs).objs) i = match find (objs.map fun q => (callMap ι n q.1, some (q.2.ren (callMap ι n)))) i with | some x => some x | none => find (s.map fun q => (callMap ι n q.1, (none : Option AO))) i := fun i => by
    show find (_ ++ _) i = _
    rw [find_append]
    cases find (objs.map fun q => (callMap ι n q.1, some (q.2.ren (callMap ι n)))) i <;> rfl
  have hliveT : ∀ g, liveB ρl s g → Touch ρ S' (callEff ι n S bor actual s val objs).objs g := fun g ⟨i, o, x, h1, h3, h4⟩ => by
    obtain ⟨k1, k2, ⟨o', k0, k3, -, k6⟩, k4⟩ := hfs i o h1
    have hin : ∃ q, find (callEff ι n S bor actual s val objs).objs (callMap ι n i) = some q := by
      rw [hfm]
      cases hz : find (objs.map fun q => (callMap ι n q.1, some (q.2.ren (callMap ι n)))) (callMap ι n i) with
      | some z => exact ⟨z, rfl⟩
      | none =>
        have : ∀ (l : List (Nat × AO)), (i, o) ∈ l → ∃ q, find (l.map fun q => (callMap ι n q.1, (none : Option AO))) (callMap ι n i) = some q := by
          intro l
          induction l with
          | nil => intro hc; cases hc
          | cons b l ih =>
            intro hc
            simp only [List.map_cons, find]
            split
            · exact ⟨_, rfl⟩
            · next hne =>
              rcases List.mem_cons.1 hc with e | hc
              · subst e; exact absurd rfl hne
              · exact ih hc
        exact this _ k4
    obtain ⟨q, hq⟩ := hin
    exact ⟨_, _, x, q, hq, k3, (hl2 i x h3).2, by rw [← k6]; exact h4⟩
  refine ⟨v, ρ', rfl, ?_, Rep.renF hF val v hRv hval⟩
  have hfr := hml.frame
  refine hm.step _ ⟨he, heR⟩ (fun i hi => if_neg (by omega)) (fun i h => .inl h) (fun i x e => ?_) hfr.os hfr.tape hfr.output hfr.size (fun g hg hT => hfr.block g hg (fun hc => hT (hliveT g hc))) ?_ ?_ ?_
  · have e : (if _ then _ else _) = some x := e
    split at e
    · next hi => exact ⟨.inr hi, (hml.dom _ x e).2⟩
    · exact ⟨.inl (hm.dom i x e).1, (hm.dom i x e).2⟩
  · intro g o hg
    have hg : RR g = some o := hg
    rcases hRR with ⟨rfl, hb0⟩ | ⟨rfl, -⟩
    · rcases hml.rnew g o hg with h1 | h1 | h1
      · exact .inl (by have : Rf g = some o := h1; rw [hR0 hb0] at this; exact this)
      · exact .inr ⟨.inr (hliveT g h1), hml.ro g o hg, hml.rdf g o hg⟩
      · exact .inr ⟨.inl h1, hml.ro g o hg, hml.rdf g o hg⟩
    · exact .inl hg
  · intro i o hfi
    rw [hfm] at hfi
    cases hz : find (objs.map fun q => (callMap ι n q.1, some (q.2.ren (callMap ι n)))) i with
    | none =>
      rw [hz] at hfi
      have := find_mem hfi
      simp at this
    | some z =>
      rw [hz] at hfi
      simp only [Option.some.injEq] at hfi
      subst hfi
      obtain ⟨q, hq, rfl, rfl⟩ := find_objs hz
      obtain ⟨x, h1, h2⟩ := hob q hq
      refine ⟨x, hF _ x h1, h2.renF hF (hRo q hq), fun g hg => ?_⟩
      rw [oblk_ren] at hg
      have hobj : AS.obj ⟨[(0, val)], somes objs, none⟩ q.1 = some q.2 := by rw [find_map_some' objs hopw q hq]
      have hgt : w.heap.size ≤ g ∨ Touch ρ S' (callEff ι n S bor actual s val objs).objs g := by
        rcases hml.old q.1 q.2 x g hobj h1 hg with h3 | h3
        · exact .inr (hliveT g h3)
        · exact .inl h3
      refine ⟨hgt, ?_⟩
      show RR g = none
      rcases hRR with ⟨rfl, -⟩ | ⟨rfl, -⟩
      · exact hml.rsep q.1 q.2 x g hobj h1 hg
      · rcases hgt with e | e
        · exact hm.new_R e
        · exact (hm.touch_lt e).2.1
  · intro i j oi oj x y hne hi hj hx hy g hg hg'
    rw [hfm] at hi hj
    cases hzi : find (objs.map fun q => (callMap ι n q.1, some (q.2.ren (callMap ι n)))) i with
    | none => rw [hzi] at hi; have := find_mem hi; simp at this
    | some zi =>
      cases hzj : find (objs.map fun q => (callMap ι n q.1, some (q.2.ren (callMap ι n)))) j with
      | none => rw [hzj] at hj; have := find_mem hj; simp at this
      | some zj =>
        rw [hzi] at hi
        rw [hzj] at hj
        simp only [Option.some.injEq] at hi hj
        subst hi; subst hj
        obtain ⟨q, hq, rfl, rfl⟩ := find_objs hzi
        obtain ⟨r, hr', rfl, rfl⟩ := find_objs hzj
        obtain ⟨x', h1, -⟩ := hob q hq
        obtain ⟨y', h2, -⟩ := hob r hr'
        have e1 := hF _ _ h1
        have e2 := hF _ _ h2
        rw [hx] at e1; rw [hy] at e2
        obtain rfl := Option.some.inj e1
        obtain rfl := Option.some.inj e2
        rw [oblk_ren] at hg hg'
        exact hml.apart q.1 r.1 q.2 r.2 x y (fun e => hne (by rw [e])) (by rw [find_map_some' objs hopw q hq]) (by rw [find_map_some' objs hopw r hr']) h1 h2 g hg hg'
end Go.Proofs.YtblmebjhhanoaaaGreat
/- ENGINE (second) 10: how propositions are reckoned; over any program. -/
set_option linter.unusedSimpArgs false
set_option linter.unusedVariables false
namespace Go.Proofs.YtblmebjhhanoaaaGreat
open Go.RowKit

/-- what is not looked into while a proposition is reckoned. -/
def W {α : Type} (a : α) : α := a
@[congr] theorem W_congr {α : Type} (a : α) : W a = W a := rfl

section
variable {P : Program} {D : List (Option Nat)} {K : Nat → AS → Prop} {Q : Exit → Nat → AS → Prop} {C T F : AS → Prop} {CN : Nat → AS → Prop} {n : Nat} {S : AS} {dst : Option Nat} {ty : TypeId}
@[go_sem ↓] theorem AWP_skip : AWP P .skip Q n S = Q .normal n S := rfl
@[go_sem ↓] theorem AWP_region (id : Nat) (ops : List Oper) : AWP P (.region id ops.toArray false) Q n S = AOps P (W (ops.map (·.dst))) (W ops) (Q .normal) n S := rfl
@[go_sem ↓] theorem W_app {α : Type} (a : α) (l m : List α) : W (List.append (a :: l) m) = W (a :: List.append l m) := rfl
@[go_sem ↓] theorem W_app_nil {α : Type} (m : List α) : W (List.append [] m) = W m := rfl
@[go_sem ↓] theorem W_map_app {α β : Type} (f : α → β) (l m : List α) : W (List.map f (List.append l m)) = W (List.append (List.map f l) (List.map f m)) := by
  show W (List.map f (l ++ m)) = W (List.map f l ++ List.map f m)
  rw [List.map_append]
@[go_sem ↓] theorem AWP_draw (id : Nat) (ops : List Oper) : AWP P (.region id ops.toArray true) Q n S = (P.follows .mixedOrders = true ∧ AOps P (W (ops.map (·.dst))) (W ops) (drawK (W ops) (Q .normal)) n ⟨S.t, S.s, some []⟩) := rfl
@[go_sem] theorem drawK_eq (ops : List Oper) (t : List (Nat × AV)) (s : List (Nat × Option AO)) (lg : List (List Nat × List Nat)) : drawK ops K n ⟨t, s, some lg⟩ = (drawB ops lg = true ∧ K n ⟨t, s, none⟩) := rfl
@[go_sem ↓] theorem AWP_seq (a b : Code) : AWP P (.seq a b) Q n S = AWP P a (seqK (W (AWP P b Q)) Q) n S := rfl
@[go_sem ↓] theorem AWP_cond (c : Operand) (x y : Code) : AWP P (.cond c x y) Q n S = kCond (W (AWP P x Q n)) (W (AWP P y Q n)) S (S.val c) := rfl
@[go_sem ↓] theorem AWP_block (id : Nat) (b : Code) : AWP P (.block id b) Q n S = AWP P b (blockK id Q) n S := rfl
@[go_sem ↓] theorem AWP_loop (b : Code) : AWP P (.loop b) Q n S = ALoop (W (AWP P b)) Q S := rfl
@[go_sem ↓] theorem AWP_exit (id : Nat) : AWP P (.exit id) Q n S = Q (.exit id) n S := rfl
@[go_sem ↓] theorem AWP_ret : AWP P .ret Q n S = Q .ret n S := rfl
@[go_sem ↓] theorem seqK_normal (B : Nat → AS → Prop) : seqK (W B) Q .normal n S = B n S := rfl
@[go_sem ↓] theorem seqK_ret (B : Nat → AS → Prop) : seqK B Q .ret n S = Q .ret n S := rfl
@[go_sem ↓] theorem seqK_exit (B : Nat → AS → Prop) (i : Nat) : seqK B Q (.exit i) n S = Q (.exit i) n S := rfl
@[go_sem ↓] theorem blockK_normal (i : Nat) : blockK i Q .normal n S = Q .normal n S := rfl
@[go_sem ↓] theorem blockK_ret (i : Nat) : blockK i Q .ret n S = Q .ret n S := rfl
@[go_sem ↓] theorem blockK_exit (i j : Nat) : blockK i Q (.exit j) n S = if j = i then Q .normal n S else Q (.exit j) n S := by unfold blockK; dsimp only; split <;> rfl
@[go_sem ↓] theorem retQ_ret (rs : List ResultVar) (val : AV) (objs : List (Nat × AO)) : retQ P rs val objs .ret n S = RetOk P rs val objs S := rfl
@[go_sem ↓] theorem retQ_normal (rs : List ResultVar) (val : AV) (objs : List (Nat × AO)) : retQ P rs val objs .normal n S = RetOk P rs val objs S := rfl
@[go_sem ↓] theorem loopK_ret (I : Nat → AS → Prop) (n0 m : Nat) : loopK I n0 m Q .ret n S = Q .ret n S := rfl
@[go_sem ↓] theorem loopK_exit (I : Nat → AS → Prop) (n0 m i : Nat) : loopK I n0 m Q (.exit i) n S = Q (.exit i) n S := rfl
@[go_sem ↓] theorem AOps_nil : AOps P D (W []) K n S = K n S := rfl
@[go_sem ↓] theorem AOps_cons (d : Option Nat) (op : Op) (t : TypeId) (pos : String) (af : Array Edge) (rest : List Oper) : AOps P D (W ({ dst := d, op := op, type := t, pos := pos, after := af, guard := none } :: rest)) K n S = aop P op t d n (AOps P D (W rest) K) S := rfl
@[go_sem ↓] theorem AOps_guard (d : Option Nat) (op : Op) (t : TypeId) (pos : String) (af : Array Edge) (j : Nat) (want : Bool) (rest : List Oper) : AOps P D (W ({ dst := d, op := op, type := t, pos := pos, after := af, guard := some (j, want) } :: rest)) K n S =
  aguard D (W (aop P op t d n (AOps P D (W rest) K))) (W (skipK d (AOps P D (W rest) K (n + 1)))) S (some (j, want)) := rfl
@[go_sem] theorem aguard_some (j : Nat) (want : Bool) : aguard (W D) T F S (some (j, want)) = match D[j]? with | some (some d) => gsplit want d T F S (S.get d) | _ => False := rfl
@[go_sem 20000] theorem gsplit_tt (d : Nat) : gsplit true d (W T) F S (.raw (.bool true)) = T (S.put d (.raw (.bool true))) := by simp [gsplit, W]
@[go_sem 20000] theorem gsplit_tf (d : Nat) : gsplit true d T (W F) S (.raw (.bool false)) = F (S.put d (.raw (.bool false))) := by simp [gsplit, W]
@[go_sem 20000] theorem gsplit_ft (d : Nat) : gsplit false d T (W F) S (.raw (.bool true)) = F (S.put d (.raw (.bool true))) := by simp [gsplit, W]
@[go_sem 20000] theorem gsplit_ff (d : Nat) : gsplit false d (W T) F S (.raw (.bool false)) = T (S.put d (.raw (.bool false))) := by simp [gsplit, W]
@[go_sem 20000] theorem gsplit_u (want : Bool) (d : Nat) : gsplit want d T (W F) S (.raw undef) = F S := rfl
@[go_sem high] theorem kCond_t : kCond (W T) F S (.raw (.bool true)) = T S := by simp [kCond, W]
@[go_sem high] theorem kCond_f : kCond T (W F) S (.raw (.bool false)) = F S := by simp [kCond, W]
@[go_sem high] theorem kPick_t (x y : AV) : kPick dst C S x y (.raw (.bool true)) = C (fin dst ⟨x, [], []⟩ S) := by simp [kPick]
@[go_sem high] theorem kPick_f (x y : AV) : kPick dst C S x y (.raw (.bool false)) = C (fin dst ⟨y, [], []⟩ S) := by simp [kPick]
@[go_sem] theorem kCond_b (b : Bool) : kCond (W T) (W F) S (.raw (.bool b)) = ((b = true → T S) ∧ (b = false → F S)) := rfl
@[go_sem] theorem kPick_b (x y : AV) (b : Bool) : kPick dst C S x y (.raw (.bool b)) = ((b = true → C (fin dst ⟨x, [], []⟩ S)) ∧ (b = false → C (fin dst ⟨y, [], []⟩ S))) := rfl
@[go_sem high] theorem gsplit_t (d : Nat) (b : Bool) : gsplit true d (W T) (W F) S (.raw (.bool b)) = ((b = true → T (S.put d (.raw (.bool true)))) ∧ (b = false → F (S.put d (.raw (.bool false))))) := rfl
@[go_sem high] theorem gsplit_f (d : Nat) (b : Bool) : gsplit false d (W T) (W F) S (.raw (.bool b)) = ((b = false → T (S.put d (.raw (.bool false)))) ∧ (b = true → F (S.put d (.raw (.bool true))))) := rfl
@[go_sem] theorem skipK_eq : skipK dst C S = C (fin dst ⟨.raw undef, [], []⟩ S) := rfl
@[go_sem ↓] theorem aop_move (x : Operand) : aop P (.move x) ty dst n CN S = kMove P ty dst n (CN (n + 1)) S (S.val x) := rfl
@[go_sem ↓] theorem aop_assign (x : Operand) : aop P (.assign x) ty dst n CN S = kMove P ty dst n (CN (n + 1)) S (S.val x) := rfl
@[go_sem ↓] theorem aop_pick (c x y : Operand) : aop P (.pick c x y) ty dst n CN S = kPick dst (CN (n + 1)) S (S.val x) (S.val y) (S.val c) := rfl
@[go_sem ↓] theorem aop_alloc (t : TypeId) : aop P (.alloc t) ty dst n CN S = kAlloc P dst t n (CN (n + 1)) S (tyI P t) := rfl
@[go_sem ↓] theorem aop_box (t : TypeId) (x : Operand) : aop P (.box t x) ty dst n CN S = kBoxV P dst t n (CN (n + 1)) S (S.val x) := rfl
@[go_sem ↓] theorem aop_build (t : TypeId) (l : List (Nat × Operand)) : aop P (.build t l.toArray) ty dst n CN S = kBuild P dst n t (CN (n + 1)) S l (tyI P t) := rfl
@[go_sem ↓] theorem aop_buildSlice (t : TypeId) (m : Nat) (l : List (Nat × Operand)) : aop P (.buildSlice t m l.toArray) ty dst n CN S = kSlice P dst m n (CN (n + 1)) S l (tyI P t) := rfl
@[go_sem ↓] theorem aop_load (t : TypeId) (x : Operand) : aop P (.load t x) ty dst n CN S = kLoad dst (CN (n + 1)) S (S.val x) (tyI P t) := rfl
@[go_sem ↓] theorem aop_store (t : TypeId) (x y : Operand) : aop P (.store t x y) ty dst n CN S = kStore dst (CN (n + 1)) S (S.val x) (S.val y) (tyI P t) := rfl
@[go_sem ↓] theorem aop_fieldAddr (t : TypeId) (x : Operand) (f : Nat) : aop P (.fieldAddr t x f) ty dst n CN S = kField dst (CN (n + 1)) S f (S.val x) (tyI P t) := rfl
@[go_sem ↓] theorem aop_indexAddr (t : TypeId) (x y : Operand) : aop P (.indexAddr t x y) ty dst n CN S = kIndex P dst (CN (n + 1)) S t (S.val x) (S.val y) (tyI P t) := rfl
@[go_sem ↓] theorem aop_binOp (op : BinOp) (t u : TypeId) (x y : Operand) : aop P (.binOp op t x y u) ty dst n CN S = kBin0 P dst n CN S op t (S.val x) (S.val y) := rfl
@[go_sem] theorem kBin0_nil (op : BinOp) (t : TypeId) (a : AV) : kBin0 P dst n CN S op t a (.raw (.slice none 0 0)) = kNilEq dst n CN S op a (tyI P t) := rfl
@[go_sem] theorem kBin0_int (op : BinOp) (t : TypeId) (a : AV) (k : IntKind) (q : Int) : kBin0 P dst n CN S op t a (.raw (.int k q)) = kBin P dst (CN (n + 1)) S op t a (.raw (.int k q)) := rfl
@[go_sem] theorem kBin0_bool (op : BinOp) (t : TypeId) (a : AV) (b : Bool) : kBin0 P dst n CN S op t a (.raw (.bool b)) = kBin P dst (CN (n + 1)) S op t a (.raw (.bool b)) := rfl
@[go_sem] theorem kBin0_str (op : BinOp) (t : TypeId) (a : AV) (b : ByteArray) : kBin0 P dst n CN S op t a (.raw (.string b)) = kBin P dst (CN (n + 1)) S op t a (.raw (.string b)) := rfl
@[go_sem] theorem kBin0_agg (op : BinOp) (t : TypeId) (a : AV) (l : List AV) : kBin0 P dst n CN S op t a (.agg l) = kBin P dst (CN (n + 1)) S op t a (.agg l) := rfl
@[go_sem ↓] theorem aop_makeSlice (t : TypeId) (x y : Operand) : aop P (.makeSlice t x y) ty dst n CN S = kMake P dst n (CN (n + 1)) S (S.val x) (S.val y) (tyI P t) := rfl
@[go_sem ↓] theorem aop_copy (x y : Operand) (t u : TypeId) : aop P (.call { callee := .builtin .copy, args := #[x, y], argTypes := #[t, u] }) ty dst n CN S = kCopy P dst (CN (n + 1)) S (S.val x) (S.val y) (tyI P t) := rfl
@[go_sem ↓] theorem aop_unOp (op : UnOp) (t : TypeId) (x : Operand) : aop P (.unOp op t x) ty dst n CN S = kUn dst (CN (n + 1)) S op (S.val x) := rfl
@[go_sem ↓] theorem aop_convert (t u : TypeId) (x : Operand) : aop P (.convert t u x) ty dst n CN S = kConv P dst (CN (n + 1)) S (P.underlying u) (S.val x) (tyI P t) := rfl
@[go_sem ↓] theorem aop_index (t : TypeId) (x y : Operand) : aop P (.index t x y) ty dst n CN S = kIdxV dst (CN (n + 1)) S (P.underlying t) (arrV P t) (S.val x) (S.val y) := rfl
@[go_sem ↓] theorem aop_field (t : TypeId) (x : Operand) (f : Nat) : aop P (.field t x f) ty dst n CN S = kPart dst (CN (n + 1)) S f (S.val x) ((fieldT P t f).bind (tyI P)) (tyI P t) := rfl
@[go_sem ↓] theorem aop_extract (x : Operand) (k : Nat) : aop P (.extract x k) ty dst n CN S = kExtract dst (CN (n + 1)) S k (S.val x) := rfl
@[go_sem ↓] theorem aop_nilCheck (x : Operand) : aop P (.nilCheck x) ty dst n CN S = kNil dst (CN (n + 1)) S (S.val x) := rfl
@[go_sem ↓] theorem aop_makeFunc (f : Fn) (l : List Operand) : aop P (.makeFunc f #[] l.toArray) ty dst n CN S = CN (n + 1) (fin dst ⟨.clo f (l.map S.val), [], []⟩ S) := by simp [aop]
@[go_sem ↓] theorem aop_makeBnd (f : Fn) (x : Operand) (l : List Operand) : aop P (.makeFunc f (x :: l).toArray #[]) ty dst n CN S = CN (n + 1) (fin dst ⟨.bnd f ((x :: l).map S.val), [], []⟩ S) := by simp [aop]
@[go_sem ↓] theorem aop_call (x : Operand) (l : List Operand) (ts : Array TypeId) : aop P (.call { callee := .value x, args := l.toArray, argTypes := ts }) ty dst n CN S = ACall P dst n CN S (l.map S.val) (S.val x) := rfl
@[go_sem ↓] theorem aop_len (x : Operand) (t : TypeId) : aop P (.call { callee := .builtin .len, args := #[x], argTypes := #[t] }) ty dst n CN S = kLenS dst (CN (n + 1)) S (P.underlying t) (tyI P t) (S.val x) := rfl
@[go_sem] theorem kLenS_str (d : Option TypeDesc) (ti : Option TI) (s : ByteArray) : kLenS dst C S d ti (.raw (.string s)) = (d = some .string ∧ C (fin dst ⟨.raw (.int .i64 s.size), [], []⟩ S)) := rfl
@[go_sem] theorem kLenS_slice (d : Option TypeDesc) (ti : Option TI) (A : Option Addr) (m q : Nat) : kLenS dst C S d ti (.raw (.slice A m q)) = kLen dst C S (.raw (.slice A m q)) ti := rfl
@[go_sem] theorem kLenS_hdr (d : Option TypeDesc) (ti : Option TI) (i : Nat) : kLenS dst C S d ti (.hdr i) = kLen dst C S (.hdr i) ti := rfl
@[go_sem] theorem kLenS_sl (d : Option TypeDesc) (ti : Option TI) (k : Nat) (r : List (List PV)) : kLenS dst C S d ti (.sl k r) = kLen dst C S (.sl k r) ti := rfl
@[go_sem] theorem kLenS_vw (d : Option TypeDesc) (ti : Option TI) (i s l h : Nat) : kLenS dst C S d ti (.vw i s l h) = kLen dst C S (.vw i s l h) ti := rfl
@[go_sem] theorem isNilA_int (k : IntKind) (v : Int) : isNilA (.raw (.int k v)) = false := rfl
@[go_sem] theorem isNilA_bool (b : Bool) : isNilA (.raw (.bool b)) = false := rfl
@[go_sem] theorem isNilA_str (b : ByteArray) : isNilA (.raw (.string b)) = false := rfl
@[go_sem] theorem isNilA_fn : isNilA (.raw .nilFunc) = false := rfl
@[go_sem] theorem isNilA_nil : isNilA (.raw (.slice none 0 0)) = true := rfl
@[go_sem] theorem isNilA_hdr (i : Nat) : isNilA (.hdr i) = false := rfl
@[go_sem] theorem isNilA_sl (s : Nat) (r : List (List PV)) : isNilA (.sl s r) = false := rfl
@[go_sem] theorem isNilA_vw (i s l h : Nat) : isNilA (.vw i s l h) = false := rfl
@[go_sem] theorem isNilA_ptr (i s k j : Nat) : isNilA (.ptr i s k j) = false := rfl
@[go_sem] theorem isNilA_spt (s : Nat) (r : List (List PV)) (k j : Nat) : isNilA (.spt s r k j) = false := rfl
@[go_sem] theorem isNilA_agg (l : List AV) : isNilA (.agg l) = false := rfl
@[go_sem] theorem isNilA_clo (f : Fn) (l : List AV) : isNilA (.clo f l) = false := rfl
@[go_sem] theorem isNilA_bnd (f : Fn) (l : List AV) : isNilA (.bnd f l) = false := rfl
@[go_sem] theorem isNilA_dead : isNilA .dead = false := rfl
@[go_sem] theorem nilL_nil (n j : Nat) (l : List AV) : nilL n j l [] = l := by cases l <;> rfl
@[go_sem] theorem nilL_none (n j : Nat) (a : AV) (l : List AV) (ts : List (Option (Nat × Nat))) : nilL n j (a :: l) (none :: ts) = a :: nilL n j l ts := rfl
@[go_sem] theorem nilL_some (n j : Nat) (a : AV) (l : List AV) (q : Nat × Nat) (ts : List (Option (Nat × Nat))) : nilL n j (a :: l) (some q :: ts) = if isNilA a = true then .hdr (8 * n + j) :: nilL n (j + 1) l ts else a :: nilL n j l ts := rfl
@[go_sem] theorem nilL_e (n j : Nat) (ts : List (Option (Nat × Nat))) : nilL n j [] ts = [] := by cases ts <;> rfl
@[go_sem] theorem nilT_nil (l : List AV) : nilT l [] = [] := by cases l <;> rfl
@[go_sem] theorem nilT_none (a : AV) (l : List AV) (ts : List (Option (Nat × Nat))) : nilT (a :: l) (none :: ts) = nilT l ts := rfl
@[go_sem] theorem nilT_some (a : AV) (l : List AV) (q : Nat × Nat) (ts : List (Option (Nat × Nat))) : nilT (a :: l) (some q :: ts) = if isNilA a = true then q :: nilT l ts else nilT l ts := rfl
@[go_sem] theorem nilT_e (ts : List (Option (Nat × Nat))) : nilT [] ts = [] := by cases ts <;> rfl
@[go_sem] theorem nilO_nil (n j : Nat) : nilO n j [] = [] := rfl
@[go_sem] theorem nilO_cons (n j e s : Nat) (l : List (Nat × Nat)) : nilO n j ((e, s) :: l) = nilO n (j + 1) l ++ [(8 * n + j, some (.row e s []))] := rfl
@[go_sem] theorem frzEff_eq0 (S : AS) (l : List Nat) (v : AV) (o : List (Nat × Option AO)) (r : List Nat) : frzEff S l ⟨v, o, r⟩ = ⟨v, o ++ frz S l, r ++ l⟩ := rfl
@[go_sem ↓] theorem aop_append (x y : Operand) (t : TypeId) : aop P (.call { callee := .builtin .append, args := #[x, y], argTypes := #[t, t] }) ty dst n CN S = kAppend P dst n (CN (n + 1)) S (S.val x) (S.val y) (tyI P t) := by simp [aop]
@[go_sem ↓] theorem aop_clear (x : Operand) (t : TypeId) : aop P (.call { callee := .builtin .clear, args := #[x], argTypes := #[t] }) ty dst n CN S = kClear P dst (CN (n + 1)) S (S.val x) (tyI P t) := rfl
@[go_sem ↓] theorem aop_max (l : List Operand) (ts : Array TypeId) : aop P (.call { callee := .builtin .max, args := l.toArray, argTypes := ts }) ty dst n CN S = kMinMax dst (CN (n + 1)) S true (l.map S.val) := rfl
@[go_sem ↓] theorem aop_min (l : List Operand) (ts : Array TypeId) : aop P (.call { callee := .builtin .min, args := l.toArray, argTypes := ts }) ty dst n CN S = kMinMax dst (CN (n + 1)) S false (l.map S.val) := rfl
@[go_sem ↓] theorem aop_slice (t : TypeId) (x : Operand) (lo hi mx : Option Operand) : aop P (.slice t x lo hi mx) ty dst n CN S = kSub P dst n (CN (n + 1)) S (S.val x) lo hi mx (tyI P t) := rfl
@[go_sem] theorem val_tmp (t : Nat) : S.val (.tmp t) = S.get t := rfl
@[go_sem] theorem val_const (v : Value) : S.val (.const v) = ofV v := rfl
@[go_sem] theorem val_func (f : Nat) : S.val (.func f) = .clo (.func f) [] := rfl
@[go_sem] theorem ofV_int (k : IntKind) (i : Int) : ofV (.int k i) = .raw (.int k i) := rfl
@[go_sem] theorem ofV_bool (b : Bool) : ofV (.bool b) = .raw (.bool b) := rfl
@[go_sem] theorem ofV_slice (a : Option Addr) (l c : Nat) : ofV (.slice a l c) = .raw (.slice a l c) := rfl
@[go_sem] theorem ofV_agg (l : List Value) : ofV (.agg l.toArray) = .agg (l.map .raw) := rfl
@[go_sem] theorem ofV_nilFunc : ofV .nilFunc = .raw .nilFunc := rfl
@[go_sem] theorem ofV_string (b : ByteArray) : ofV (.string b) = .raw (.string b) := rfl
@[go_sem] theorem get_eq (t : List (Nat × AV)) (s : List (Nat × Option AO)) (lg : Option (List (List Nat × List Nat))) (d : Nat) : AS.get ⟨t, s, lg⟩ d = (find t d).getD .dead := rfl
@[go_sem] theorem obj_eq (t : List (Nat × AV)) (s : List (Nat × Option AO)) (lg : Option (List (List Nat × List Nat))) (d : Nat) : AS.obj ⟨t, s, lg⟩ d = (find s d).getD none := rfl
@[go_sem] theorem put_eq (t : List (Nat × AV)) (s : List (Nat × Option AO)) (lg : Option (List (List Nat × List Nat))) (d : Nat) (v : AV) : AS.put ⟨t, s, lg⟩ d v = ⟨(d, v) :: t, s, lg⟩ := rfl
@[go_sem] theorem putO_some (t : List (Nat × AV)) (s : List (Nat × Option AO)) (lg : Option (List (List Nat × List Nat))) (d : Nat) (v : AV) : AS.putO ⟨t, s, lg⟩ (some d) v = ⟨(d, v) :: t, s, lg⟩ := rfl
@[go_sem] theorem putO_none (v : AV) : AS.putO S none v = S := rfl
@[go_sem] theorem fin_some (t : List (Nat × AV)) (s : List (Nat × Option AO)) (lg : Option (List (List Nat × List Nat))) (d : Nat) (v : AV) (u : List (Nat × Option AO)) (r : List Nat) : fin (some d) ⟨v, u, r⟩ ⟨t, s, lg⟩ = ⟨(d, v) :: t, u ++ s, lg.map ((r, u.map (·.1)) :: ·)⟩ := rfl
@[go_sem] theorem fin_none (t : List (Nat × AV)) (s : List (Nat × Option AO)) (lg : Option (List (List Nat × List Nat))) (v : AV) (u : List (Nat × Option AO)) (r : List Nat) : fin none ⟨v, u, r⟩ ⟨t, s, lg⟩ = ⟨t, u ++ s, lg.map ((r, u.map (·.1)) :: ·)⟩ := rfl
@[go_sem] theorem find_nil' {α : Type} (i : Nat) : find ([] : List (Nat × α)) i = none := rfl
@[go_sem] theorem find_cons' {α : Type} (k i : Nat) (v : α) (l : List (Nat × α)) : find ((k, v) :: l) i = if k = i then some v else find l i := rfl
@[go_sem ↓] theorem kRow_map {α : Type} (f : α → List PV) (xs : List α) (i : TI) (rd : List Nat) (j k : Nat) : kRow dst C S i rd j k (xs.map f) = ∃ x, xs[k]? = some x ∧ C (fin dst ⟨ofCells i.agg ((((f x).drop j).take i.size).map PV.av), [], rd⟩ S) := by
  unfold kRow
  refine propext ⟨?_, ?_⟩
  · rintro ⟨r, h1, h2⟩
    rw [List.getElem?_map] at h1
    cases hx : xs[k]? with
    | none => rw [hx] at h1; simp at h1
    | some x => rw [hx] at h1; simp at h1; subst h1; exact ⟨x, rfl, h2⟩
  · rintro ⟨x, h1, h2⟩
    exact ⟨f x, by rw [List.getElem?_map, h1]; rfl, h2⟩
@[go_sem ↓] theorem kRow_zero (r : List PV) (rows : List (List PV)) (i : TI) (rd : List Nat) (j : Nat) : kRow dst C S i rd j 0 (r :: rows) = C (fin dst ⟨ofCells i.agg (((r.drop j).take i.size).map PV.av), [], rd⟩ S) := by simp [kRow]
@[go_sem ↓] theorem kRow_succ (r : List PV) (rows : List (List PV)) (i : TI) (rd : List Nat) (j k : Nat) : kRow dst C S i rd j (k + 1) (r :: rows) = kRow dst C S i rd j k rows := by simp [kRow]
@[go_sem ↓] theorem kSet_map {α : Type} (f : α → List PV) (xs : List α) (e s id j k : Nat) (m : List PV) (rd : List Nat) : kSet dst C S e s id j k m rd (xs.map f) = ∃ x, xs[k]? = some x ∧ C (fin dst ⟨.dead, [(id, some (.row e s ((xs.map f).set k (splice (f x) j m))))], id :: rd⟩ S) := by
  unfold kSet
  refine propext ⟨?_, ?_⟩
  · rintro ⟨r, h1, h2⟩
    rw [List.getElem?_map] at h1
    cases hx : xs[k]? with
    | none => rw [hx] at h1; simp at h1
    | some x => rw [hx] at h1; simp at h1; subst h1; exact ⟨x, rfl, h2⟩
  · rintro ⟨x, h1, h2⟩
    exact ⟨f x, by rw [List.getElem?_map, h1]; rfl, h2⟩
@[go_sem] theorem kSet_zero (r : List PV) (rows : List (List PV)) (e s id j : Nat) (m : List PV) (rd : List Nat) : kSet dst C S e s id j 0 m rd (r :: rows) = C (fin dst ⟨.dead, [(id, some (.row e s (splice r j m :: rows)))], id :: rd⟩ S) := by simp [kSet]
@[go_sem ↓] theorem map_none' {α β : Type} (f : α → β) : Option.map f none = none := rfl
@[go_sem] theorem upd_eq (t : List (Nat × AV)) (s : List (Nat × Option AO)) (lg : Option (List (List Nat × List Nat))) (u : List (Nat × Option AO)) : AS.upd ⟨t, s, lg⟩ u = ⟨t, u ++ s, lg⟩ := rfl
@[go_sem] theorem drop_map' {α β : Type} (f : α → β) (xs : List α) (k : Nat) : (xs.map f).drop k = (xs.drop k).map f := List.map_drop.symm
@[go_sem] theorem take_map' {α β : Type} (f : α → β) (xs : List α) (k : Nat) : (xs.map f).take k = (xs.take k).map f := List.map_take.symm
@[go_sem] theorem av_raw (v : Value) : PV.av (.raw v) = .raw v := rfl
@[go_sem] theorem av_sl (s : Nat) (r : List (List PV)) : PV.av (.sl s r) = .sl s r := rfl
@[go_sem] theorem see_raw (v : Value) : S.see (.raw v) = .raw v := rfl
@[go_sem] theorem see_dead : S.see .dead = .dead := rfl
@[go_sem] theorem see_sl (s : Nat) (r : List (List PV)) : S.see (.sl s r) = .sl s r := rfl
@[go_sem] theorem see_ptr (i s k j : Nat) : S.see (.ptr i s k j) = .ptr i s k j := rfl
@[go_sem] theorem see_vw (i s k j : Nat) : S.see (.vw i s k j) = .vw i s k j := rfl
@[go_sem] theorem see_agg (l : List AV) : S.see (.agg l) = .agg (S.seeL l) := by simp only [AS.see]
@[go_sem] theorem see_tup (l : List AV) : S.see (.tup l) = .tup (S.seeL l) := by simp only [AS.see]
@[go_sem] theorem see_clo (f : Fn) (l : List AV) : S.see (.clo f l) = .clo f (S.seeL l) := by simp only [AS.see]
@[go_sem] theorem see_bnd (f : Fn) (l : List AV) : S.see (.bnd f l) = .bnd f (S.seeL l) := by simp only [AS.see]
@[go_sem] theorem see_hdr (i : Nat) : S.see (.hdr i) = match S.obj i with | some (.fro s rows) => .sl s rows | _ => .hdr i := by
  simp only [AS.see]
  cases S.obj i with
  | none => rfl
  | some o => cases o <;> rfl
@[go_sem] theorem seeL_nil : S.seeL [] = [] := rfl
@[go_sem] theorem seeL_cons (a : AV) (l : List AV) : S.seeL (a :: l) = S.see a :: S.seeL l := by simp only [AS.seeL]
@[go_sem] theorem serves_raw (u : Value) (a : AV) : Serves S (.raw u) a = (.raw u = a) := by
  refine propext ⟨fun h => ?_, fun h => .inl h⟩
  rcases h with h | h | h
  · exact h
  · cases a <;> simp [AS.see] at h ⊢
    · exact h
    · split at h <;> cases h
  · exact h.elim
@[go_sem] theorem serves_hdr (i : Nat) (a : AV) : Serves S (.hdr i) a = (.hdr i = a ∨ .hdr i = S.see a) := by
  refine propext ⟨fun h => ?_, fun h => h.imp_right .inl⟩
  rcases h with h | h | h
  · exact .inl h
  · exact .inr h
  · exact h.elim
@[go_sem] theorem serves_sl (s : Nat) (r : List (List PV)) (a : AV) : Serves S (.sl s r) a = (.sl s r = a ∨ .sl s r = S.see a ∨ NilS (.sl s r) a) := rfl
@[go_sem] theorem serves_agg (l : List AV) (a : AV) : Serves S (.agg l) a = (.agg l = a ∨ .agg l = S.see a) := by
  refine propext ⟨fun h => ?_, fun h => h.imp_right .inl⟩
  rcases h with h | h | h
  · exact .inl h
  · exact .inr h
  · exact h.elim
@[go_sem] theorem serves_tup (l : List AV) (a : AV) : Serves S (.tup l) a = (.tup l = a ∨ .tup l = S.see a) := by
  refine propext ⟨fun h => ?_, fun h => h.imp_right .inl⟩
  rcases h with h | h | h
  · exact .inl h
  · exact .inr h
  · exact h.elim
@[go_sem] theorem serves_clo (f : Fn) (l : List AV) (a : AV) : Serves S (.clo f l) a = (.clo f l = a ∨ .clo f l = S.see a) := by
  refine propext ⟨fun h => ?_, fun h => h.imp_right .inl⟩
  rcases h with h | h | h
  · exact .inl h
  · exact .inr h
  · exact h.elim
@[go_sem] theorem serves_bnd (f : Fn) (l : List AV) (a : AV) : Serves S (.bnd f l) a = (.bnd f l = a ∨ .bnd f l = S.see a) := by
  refine propext ⟨fun h => ?_, fun h => h.imp_right .inl⟩
  rcases h with h | h | h
  · exact .inl h
  · exact .inr h
  · exact h.elim
@[go_sem] theorem serves_ptr (i s k j : Nat) (a : AV) : Serves S (.ptr i s k j) a = (.ptr i s k j = a ∨ .ptr i s k j = S.see a) := by
  refine propext ⟨fun h => ?_, fun h => h.imp_right .inl⟩
  rcases h with h | h | h
  · exact .inl h
  · exact .inr h
  · exact h.elim
@[go_sem] theorem nils_sl (s k j : Nat) (r : List (List PV)) : NilS (.sl s []) (.sl k r) = False := rfl
@[go_sem] theorem nils_hdr (s k : Nat) (r : List (List PV)) : NilS (.sl s r) (.hdr k) = False := by cases r <;> rfl
@[go_sem] theorem nils_sl2 (s k : Nat) (r q : List (List PV)) : NilS (.sl s r) (.sl k q) = False := by cases r <;> rfl
@[go_sem] theorem nils_nil (s : Nat) : NilS (.sl s []) (.raw (.slice none 0 0)) = True := rfl
@[go_sem] theorem servesO_cells (t t' : TypeId) (l l' : List AV) : ServesO S (.cells t l) (some (.cells t' l')) = (t = t' ∧ ServesL S l l') := rfl
@[go_sem] theorem servesO_row (e s : Nat) (r : List (List PV)) (o : AO) : ServesO S (.row e s r) (some o) = (.row e s r = o) := by cases o <;> rfl
@[go_sem] theorem servesO_fro (s : Nat) (r : List (List PV)) (o : AO) : ServesO S (.fro s r) (some o) = (.fro s r = o) := by cases o <;> rfl
@[go_sem] theorem servesO_loop (tm : Array Value) (lc : LoopCode) (m : LM) (o : AO) : ServesO S (.loop tm lc m) (some o) = (.loop tm lc m = o) := by cases o <;> rfl
@[go_sem] theorem servesO_frm (tm tm' : Array Value) (t t' : List (Nat × AV)) : ServesO S (.frm tm t) (some (.frm tm' t')) = (tm = tm' ∧ ServesT S t' t) := rfl
end
attribute [go_sem] List.append_eq Option.map_none Option.map_some true_and or_true true_or false_or or_false Nat.le_refl and_self Int.toNat_natCast Int.toNat_natCast_add_one Int.toNat_zero Int.toNat_one and_true Bool.not_true Bool.not_false decide_eq_true_eq decide_eq_false_iff_not forall_const reduceCtorEq if_true if_false
attribute [go_sem] Option.getD_some Option.getD_none List.cons_append List.nil_append List.map_cons List.map_nil kMove kAlloc kAllocR kBox kBoxV kBuild kSlice kLoad kLoad2 kStore kStore2 kField kIndex kBin kShr kConv kPart kUn kExtract kNil kLen kAppend kMinMax intOp kEqs kEqs2 eqV kSub kSubSl kSubRow kSubNone kClear kClear2 kStore3 kIndexA kNilEq kMake kCopy AS.rowsOf AV.ids elAddr optInt AS.elem pvsOf elemsOf deepP AV.deep deepL ServesL ServesT or_self List.length_map Option.isSome_some Option.isSome_none
attribute [go_sem] cellsOf AV.one Value.oneCell' ofCells List.getElem?_cons_zero List.getElem?_cons_succ List.take_succ_cons List.take_zero List.drop_succ_cons List.drop_zero List.headD_cons List.length_cons List.length_nil
attribute [go_sem] kIdxV kStrIdx kCmp cmpOp kCat splice fillA TI.place rawsOf AO.rows Option.bind_some Option.bind_none

/-! ends, loops, calls -/
theorem ret_ent {v val : AV} {objs : List (Nat × AO)} {s : List (Nat × Option AO)} (L : List (Nat × Nat)) (fr : List Nat) (e : EntF L 2 fr ⟨[(0, v)], s, none⟩ ⟨[(0, val)], somes objs, none⟩) : RetV v val objs s := ⟨L, fr, e⟩
theorem raws_cons {l : List AV} {a : AV} (h : (rawsOf (a :: l)).isSome = true) : (∃ v, a = .raw v) ∧ (rawsOf l).isSome = true := by
  cases a with
  | raw v =>
    simp only [rawsOf] at h
    cases hl : rawsOf l with
    | none => rw [hl] at h; simp at h
    | some vs => exact ⟨⟨v, rfl⟩, rfl⟩
  | _ => simp [rawsOf] at h
theorem ren_raws {m : Nat → Nat} {n : Nat} : ∀ (l : List AV), (rawsOf l).isSome = true → renL m l = l ∧ bdL n l = true
  | [], _ => ⟨rfl, rfl⟩
  | a :: l, h => by
    obtain ⟨⟨v, rfl⟩, h'⟩ := raws_cons h
    obtain ⟨h1, h2⟩ := ren_raws (m := m) (n := n) l h'
    exact ⟨by simp [renL, AV.ren, h1], by simp [bdL, AV.bd, h2]⟩
theorem see_is_raw {S : AS} {a : AV} {v : Value} (h : S.see a = .raw v) : a = .raw v := by
  cases a <;> simp [AS.see] at h ⊢
  · exact h
  · split at h <;> cases h
theorem seeL_is_raws {S : AS} : ∀ {l m : List AV}, (rawsOf l).isSome = true → l = S.seeL m → l = m
  | [], [], _, _ => rfl
  | [], _ :: _, _, h => by simp [AS.seeL] at h
  | _ :: _, [], _, h => by simp [AS.seeL] at h
  | a :: l, b :: m, hr, h => by
    obtain ⟨⟨v, rfl⟩, hr'⟩ := raws_cons hr
    simp only [AS.seeL, List.cons.injEq] at h
    rw [see_is_raw h.1.symm, ← seeL_is_raws hr' h.2]
theorem retV_plain {v val : AV} {s : List (Nat × Option AO)} (h : ∀ m, val.ren m = val ∧ val.bd 2 = true) (hs : ∀ S : AS, val = S.see v → val = v) (hn : ¬ NilS val v) : RetV v val [] s = (val = v) := by
  refine propext ⟨?_, ?_⟩
  · rintro ⟨L, fr, hE⟩
    have := (hE.2.1 (0, val) (by simp)).2
    dsimp only at this
    rw [(h _).1] at this
    have hg : ((⟨[(0, v)], s, none⟩ : AS).upd (frz ⟨[(0, v)], s, none⟩ fr)).get 0 = v := by simp [AS.get, AS.upd, find]
    rw [hg] at this
    rcases this with e | e | e
    · exact e
    · exact hs _ e
    · exact absurd e hn
  · rintro rfl
    refine ⟨[], [], ⟨by omega, by simp⟩, ?_, by simp [somes], by simp [somes]⟩
    intro q hq
    simp at hq
    subst hq
    exact ⟨(h id).2, .inl (by rw [(h _).1]; simp [AS.get, AS.upd, find])⟩
@[go_sem] theorem retV_raw (v : AV) (u : Value) (s : List (Nat × Option AO)) : RetV v (.raw u) [] s = (.raw u = v) := retV_plain (fun _ => ⟨rfl, rfl⟩) (fun S h => (see_is_raw h.symm).symm) (fun h => h.elim)
def RetO (v val : AV) (s : List (Nat × Option AO)) : Prop := RetV v val [] s
def retB (v val : AV) (s : List (Nat × Option AO)) : Bool → Prop
  | true => val = v
  | false => RetO v val s
@[go_sem] theorem retV_agg (v : AV) (l : List AV) (s : List (Nat × Option AO)) : RetV v (.agg l) [] s = retB v (.agg l) s (rawsOf l).isSome := by
  cases h : (rawsOf l).isSome with
  | false => rfl
  | true =>
    refine retV_plain (fun m => ?_) (fun S hs => ?_) (fun h => h.elim)
    · obtain ⟨h1, h2⟩ := ren_raws (m := m) (n := 2) l h
      exact ⟨by simp [AV.ren, h1], by simp [AV.bd, h2]⟩
    · cases v <;> simp [AS.see] at hs
      · split at hs <;> cases hs
      · rw [← seeL_is_raws h hs]
@[go_sem] theorem retV_tup (v : AV) (l : List AV) (s : List (Nat × Option AO)) : RetV v (.tup l) [] s = retB v (.tup l) s (rawsOf l).isSome := by
  cases h : (rawsOf l).isSome with
  | false => rfl
  | true =>
    refine retV_plain (fun m => ?_) (fun S hs => ?_) (fun h => h.elim)
    · obtain ⟨h1, h2⟩ := ren_raws (m := m) (n := 2) l h
      exact ⟨by simp [AV.ren, h1], by simp [AV.bd, h2]⟩
    · cases v <;> simp [AS.see] at hs
      · split at hs <;> cases hs
      · rw [← seeL_is_raws h hs]
@[go_sem] theorem retB_t (v val : AV) (s : List (Nat × Option AO)) : retB v val s true = (val = v) := rfl
@[go_sem] theorem retOk_one (P : Program) (r : ResultVar) (val : AV) (objs : List (Nat × AO)) (t : List (Nat × AV)) (s : List (Nat × Option AO)) (lg : Option (List (List Nat × List Nat))) : RetOk P [r] val objs ⟨t, s, lg⟩ = match resV P ⟨t, s, lg⟩ r with | some v => RetV v val objs s | none => False := rfl
@[go_sem] theorem retOk_two (P : Program) (r q : ResultVar) (rs : List ResultVar) (val : AV) (objs : List (Nat × AO)) (t : List (Nat × AV)) (s : List (Nat × Option AO)) (lg : Option (List (List Nat × List Nat))) : RetOk P (r :: q :: rs) val objs ⟨t, s, lg⟩ = match resL P ⟨t, s, lg⟩ (r :: q :: rs) with | some l => RetV (.tup l) val objs s | none => False := by
  unfold RetOk
  simp only [resAV]
  cases resL P ⟨t, s, lg⟩ (r :: q :: rs) <;> rfl
@[go_sem] theorem retOk_none (P : Program) (val : AV) (objs : List (Nat × AO)) (t : List (Nat × AV)) (s : List (Nat × Option AO)) (lg : Option (List (List Nat × List Nat))) : RetOk P [] val objs ⟨t, s, lg⟩ = RetV (.tup []) val objs s := rfl
attribute [go_sem] resL resV List.all_cons List.all_nil Bool.and_self
/-- the end of a round. -/
def LoopEnd {X : Type} (St : X → AS) (inv : X → Prop) (μ : X → Nat) (n0 : Nat) (x : X) (S : AS) : Prop := ∃ x' L fr, inv x' ∧ μ x' < μ x ∧ EntF L n0 fr S (St x')
def loopX {X : Type} (St : X → AS) (inv : X → Prop) (μ : X → Nat) (n0 : Nat) (x : X) (Q : Exit → Nat → AS → Prop) : Exit → Nat → AS → Prop
  | .normal => fun _ S => LoopEnd St inv μ n0 x S
  | e => Q e
section
variable {P : Program} {X : Type} {St : X → AS} {inv : X → Prop} {μ : X → Nat} {n0 : Nat} {x : X} {Q : Exit → Nat → AS → Prop} {n : Nat} {S : AS}
@[go_sem ↓] theorem loopX_normal : loopX St inv μ n0 x Q .normal n S = LoopEnd St inv μ n0 x S := rfl
@[go_sem ↓] theorem loopX_ret : loopX St inv μ n0 x Q .ret n S = Q .ret n S := rfl
@[go_sem ↓] theorem loopX_exit (i : Nat) : loopX St inv μ n0 x Q (.exit i) n S = Q (.exit i) n S := rfl
end
theorem aloop {P : Program} {b : Code} {Q : Exit → Nat → AS → Prop} {S : AS} {X : Type} (St : X → AS) (inv : X → Prop) (μ : X → Nat) (n0 : Nat) (x0 : X) (L0 : List (Nat × Nat)) (fr0 : List Nat) (h0 : inv x0) (e0 : EntF L0 n0 fr0 S (St x0)) (hr : ∀ x, inv x → AWP P b (loopX St inv μ n0 x Q) n0 (St x)) :
    ALoop (W (AWP P b)) Q S := by
  refine ⟨fun m S' => ∃ x, inv x ∧ m = μ x ∧ S' = St x, n0, ⟨μ x0, St x0, L0, fr0, ⟨x0, h0, rfl, rfl⟩, e0⟩, ?_⟩
  rintro m S' ⟨x, hx, rfl, rfl⟩
  have h := hr x hx
  have e : loopX St inv μ n0 x Q = loopK (fun m S' => ∃ x, inv x ∧ m = μ x ∧ S' = St x) n0 (μ x) Q := by
    funext e n S
    cases e <;> try rfl
    refine propext ⟨fun ⟨x', L, fr, h1, h2, h3⟩ => ⟨μ x', St x', L, fr, h2, ⟨x', h1, rfl, rfl⟩, h3⟩, ?_⟩
    rintro ⟨m', S', L, fr, h1, ⟨x', h2, rfl, rfl⟩, h3⟩
    exact ⟨x', L, fr, h2, h1, h3⟩
  rw [e] at h
  exact h

/-! what an entailment comes to -/
def entT (L : List (Nat × Nat)) (n : Nat) (S : AS) : List (Nat × AV) → Prop
  | [] => True
  | (d, v) :: t => (v.bd n = true ∧ Serves S (v.ren (mapOf L)) (S.get d)) ∧ entT L n S t
def entS (L : List (Nat × Nat)) (n : Nat) (S : AS) : List (Nat × Option AO) → Prop
  | [] => True
  | (i, some o) :: s => (i / 8 < n ∧ o.bd n = true ∧ ServesO S (o.ren (mapOf L)) (S.obj (mapOf L i))) ∧ entS L n S s
  | (_, none) :: _ => False
def entP (L : List (Nat × Nat)) (i : Nat) : List (Nat × Option AO) → Prop
  | [] => True
  | (j, _) :: s => (i ≠ j → mapOf L i ≠ mapOf L j) ∧ entP L i s
def entPs (L : List (Nat × Nat)) : List (Nat × Option AO) → Prop
  | [] => True
  | (i, _) :: s => entP L i s ∧ entPs L s
def entL : List (Nat × Nat) → Prop
  | [] => True
  | (i, _) :: L => 8 ≤ i ∧ entL L
@[go_sem] theorem ent_eq {L : List (Nat × Nat)} {n : Nat} {S : AS} {t : List (Nat × AV)} {s : List (Nat × Option AO)} {lg : Option (List (List Nat × List Nat))} : Ent L n S ⟨t, s, lg⟩ = (0 < n ∧ entL L ∧ entT L n S t ∧ entS L n S s ∧ entPs L s) := by
  have h1 : ∀ L : List (Nat × Nat), entL L ↔ ∀ q ∈ L, 8 ≤ q.1 := by
    intro L
    induction L with
    | nil => simp [entL]
    | cons a L ih => simp [entL, ih]
  have h2 : ∀ t, entT L n S t ↔ ∀ q ∈ t, q.2.bd n = true ∧ Serves S (q.2.ren (mapOf L)) (S.get q.1) := by
    intro t
    induction t with
    | nil => simp [entT]
    | cons a t ih => obtain ⟨d, v⟩ := a; simp only [entT, ih, List.forall_mem_cons]
  have h3 : ∀ s, entS L n S s ↔ ∀ q ∈ s, q.1 / 8 < n ∧ match q.2 with | some o => o.bd n = true ∧ ServesO S (o.ren (mapOf L)) (S.obj (mapOf L q.1)) | none => False := by
    intro s
    induction s with
    | nil => simp [entS]
    | cons a s ih => obtain ⟨i, o⟩ := a; cases o <;> simp [entS, ih]
  have h4 : ∀ i s, entP L i s ↔ ∀ q ∈ s, i ≠ q.1 → mapOf L i ≠ mapOf L q.1 := by
    intro i s
    induction s with
    | nil => simp [entP]
    | cons a s ih => obtain ⟨j, o⟩ := a; simp only [entP, ih, List.forall_mem_cons]
  have h5 : ∀ s, entPs L s ↔ s.Pairwise (fun q r => q.1 ≠ r.1 → mapOf L q.1 ≠ mapOf L r.1) := by
    intro s
    induction s with
    | nil => simp [entPs]
    | cons a s ih => obtain ⟨j, o⟩ := a; simp only [entPs, ih, List.pairwise_cons, h4]
  refine propext ?_
  unfold Ent
  rw [h1, h2, h3, h5]
  constructor
  · rintro ⟨⟨a, b⟩, c, d, e⟩; exact ⟨a, b, c, d, e⟩
  · rintro ⟨a, b, c, d, e⟩; exact ⟨⟨a, b⟩, c, d, e⟩
@[go_sem] theorem entF_eq {L : List (Nat × Nat)} {n : Nat} {fr : List Nat} {S S' : AS} : EntF L n fr S S' = Ent L n (S.upd (frz S fr)) S' := rfl
attribute [go_sem] entT entS entP entPs entL mapOf frz renT bdT AV.bd AV.ren renL bdL AO.bd AO.ren somes AV.sl.injEq AV.spt.injEq AV.vw.injEq AO.fro.injEq AO.loop.injEq AV.raw.injEq Value.int.injEq AV.hdr.injEq AV.agg.injEq List.cons.injEq Option.some.injEq AO.row.injEq AO.cells.injEq Value.bool.injEq slots List.zipIdx_cons List.zipIdx_nil Bool.and_true Bool.true_and ne_eq not_false_eq_true not_true_eq_false AV.ptr.injEq AV.tup.injEq AV.clo.injEq
end Go.Proofs.YtblmebjhhanoaaaGreat
/- ENGINE (second) 12: contracts at calls; which name goes where is reckoned; laws' arguments; over any program. -/
set_option linter.unusedSimpArgs false
set_option linter.unusedVariables false
namespace Go.Proofs.YtblmebjhhanoaaaGreat
open Go.RowKit

attribute [go_sem] Nat.reduceAdd Nat.reduceMul Nat.reduceSub Nat.reduceEqDiff Nat.reduceDiv Nat.reduceLT Nat.reduceLeDiff reduceCtorEq decide_true Int.natCast_add Int.cast_ofNat_Int
def cInt (x : Int) : List PV := [.raw (.int .i64 x)]
attribute [go_sem] cInt
def callEffW (ι : List Nat) (n : Nat) (S : AS) (bor : List Nat) (actual : List AV) (s : List (Nat × AO)) (val : AV) (objs : List (Nat × AO)) : Eff :=
  ⟨val.ren (callMap ι n), (objs.map fun q => (callMap ι n q.1, some (q.2.ren (callMap ι n)))) ++ (s.map fun q => (callMap ι n q.1, none)), W (deepS S (s.map fun q => callMap ι n q.1) ++ (deepL actual ++ bor))⟩
/-! an own row that a call is handed for good -/
theorem call_frz {P : Program} {f : FuncId} {args : List AV} {S : AS} {n : Nat} {E : Eff} (l : List Nat) (h : CallOk P f args (S.upd (frz S l)) n E) : CallOk P f args S n (frzEff S l E) := by
  intro S' ha c p ρ tm w vs hm hn hr
  have hl : ∀ i ∈ l, S'.obj i = S.obj i := fun i hi => ha i (List.mem_append_right _ hi)
  obtain ⟨Rf, h1, h2⟩ := hm.frz l
  have hfz : frz S' l = frz S l := frz_congr hl
  have h3 := h (S'.upd (frz S' l)) (fun i hi => by rw [upd_obj, upd_obj, hfz, ha i (List.mem_append_left _ hi)]) c p _ tm w vs h2 hn (RepL.ext (ρ := ρ) (ρ' := ⟨ρ.f, Rf⟩) ⟨fun _ _ h => h, h1⟩ _ _ hr)
  refine h3.mono ?_
  rintro e w' ⟨v, ρ', h4, h5, h6⟩
  refine ⟨v, ρ', h4, ?_, h6⟩
  have e1 : (S'.upd (frz S' l)).upd E.objs = S'.upd (frzEff S l E).objs := by simp [AS.upd, frzEff, hfz]
  rw [← e1]
  exact h5
/-! an object that a call tells again as it was: it is only read -/
def memN (i : Nat) : List Nat → Bool
  | [] => false
  | j :: l => if j = i then true else memN i l
def dropL (l : List Nat) : List (Nat × Option AO) → List (Nat × Option AO)
  | [] => []
  | (i, o) :: r => if memN i l = true then dropL l r else (i, o) :: dropL l r
def keptB (E : Eff) (S : AS) : List Nat → Prop
  | [] => True
  | i :: l => (memN i E.reads = true ∧ find E.objs i = some (S.obj i)) ∧ keptB E S l
def dropE (l : List Nat) (E : Eff) : Eff := ⟨E.val, dropL l E.objs, E.reads⟩
theorem memN_iff {i : Nat} : ∀ {l : List Nat}, memN i l = true ↔ i ∈ l
  | [] => by simp [memN]
  | j :: l => by
    unfold memN
    split
    · next h => subst h; simp
    · next h => rw [memN_iff, List.mem_cons]; exact ⟨.inr, fun q => q.resolve_left fun e => h e.symm⟩
theorem keptB_mem {E : Eff} {S : AS} : ∀ {l : List Nat}, keptB E S l → ∀ i ∈ l, i ∈ E.reads ∧ find E.objs i = some (S.obj i)
  | [], _, i, hi => by cases hi
  | j :: l, h, i, hi => by
    rcases List.mem_cons.1 hi with rfl | hi
    · exact ⟨memN_iff.1 h.1.1, h.1.2⟩
    · exact keptB_mem h.2 i hi
theorem dropL_find (l : List Nat) (i : Nat) : ∀ r : List (Nat × Option AO), find (dropL l r) i = if memN i l = true then none else find r i
  | [] => by simp [dropL, find]
  | (j, o) :: r => by
    unfold dropL
    split
    · next h =>
      rw [dropL_find l i r]
      split
      · rfl
      · next h2 => rw [find]; rw [if_neg (fun e => by subst e; exact h2 h)]
    · next h =>
      rw [find, dropL_find l i r]
      split
      · next e => subst e; rw [if_neg h, find, if_pos rfl]
      · next e => split; · rfl
                  · rw [find, if_neg e]
theorem call_drop {P : Program} {f : FuncId} {args : List AV} {S : AS} {n : Nat} {E : Eff} (l : List Nat) (hk : keptB E S l) (h : CallOk P f args S n E) : CallOk P f args S n (dropE l E) := by
  intro S' ha c p ρ tm w vs hm hn hr
  have ha : ∀ i ∈ E.reads, S'.obj i = S.obj i := ha
  refine (h S' ha c p ρ tm w vs hm hn hr).mono ?_
  rintro e w' ⟨v, ρ', h2, h3, h4⟩
  refine ⟨v, ρ', h2, ?_, h4⟩
  refine h3.same (fun t => rfl) (fun i => ?_)
  rw [upd_obj, upd_obj]
  show (match find (dropL l E.objs) i with | some q => q | none => S'.obj i) = _
  rw [dropL_find]
  by_cases hm : memN i l = true
  · rw [if_pos hm]
    obtain ⟨k1, k2⟩ := keptB_mem hk i (memN_iff.1 hm)
    rw [k2]
    exact ha i k1
  · rw [if_neg hm]
    cases find E.objs i <;> rfl

section
variable {P : Program} {dst : Option Nat} {n : Nat} {CN : Nat → AS → Prop} {S : AS} {actual caps args : List AV} {s : List (Nat × AO)} {val : AV} {objs : List (Nat × AO)} {f : FuncId}
theorem acall {ι : List Nat} (bor : List Nat) (hf : FnOk P f args s val objs) (h : CallFit ι n bor args (actual ++ caps) s val objs S) (hC : CN (n + 1) (fin dst (callEffW ι n S bor (actual ++ caps) s val objs) S)) : ACall P dst n CN S actual (.clo (.func f) caps) :=
  ⟨_, hf.1, call_ok hf h, hC⟩
theorem acallF {ι : List Nat} (l bor : List Nat) (hf : FnOk P f args s val objs) (h : CallFit ι n bor args (actual ++ caps) s val objs (S.upd (frz S l))) (hC : CN (n + 1) (fin dst (frzEff S l (callEffW ι n (S.upd (frz S l)) bor (actual ++ caps) s val objs)) S)) : ACall P dst n CN S actual (.clo (.func f) caps) :=
  ⟨_, hf.1, call_frz l (call_ok hf h), hC⟩
theorem acallR {ι : List Nat} (l bor : List Nat) (hf : FnOk P f args s val objs) (h : CallFit ι n bor args (actual ++ caps) s val objs S) (hk : keptB (callEff ι n S bor (actual ++ caps) s val objs) S (l.map (callMap ι n))) (hC : CN (n + 1) (fin dst (dropE (l.map (callMap ι n)) (callEffW ι n S bor (actual ++ caps) s val objs)) S)) : ACall P dst n CN S actual (.clo (.func f) caps) :=
  ⟨_, hf.1, call_drop (l.map (callMap ι n)) hk (call_ok hf h), hC⟩
end
@[go_sem] theorem dropE_eq (l : List Nat) (v : AV) (o : List (Nat × Option AO)) (r : List Nat) : dropE l ⟨v, o, r⟩ = ⟨v, dropL l o, r⟩ := rfl
attribute [go_sem] memN dropL keptB callEffW List.append_nil

/-! what a call's fit comes to -/
def fitS (ι : List Nat) (n : Nat) (bor : List Nat) (S : AS) : List (Nat × AO) → Prop
  | [] => True
  | (i, o) :: s => (i < 8 ∧ o.bd 1 = true ∧ ServesO S (o.ren (callMap ι n)) (S.obj (callMap ι n i)) ∧ memN (callMap ι n i) bor = false) ∧ fitS ι n bor S s
def fitP (ι : List Nat) (n i : Nat) : List (Nat × AO) → Prop
  | [] => True
  | (j, _) :: s => (i ≠ j ∧ callMap ι n i ≠ callMap ι n j) ∧ fitP ι n i s
def fitPs (ι : List Nat) (n : Nat) : List (Nat × AO) → Prop
  | [] => True
  | (i, _) :: s => fitP ι n i s ∧ fitPs ι n s
def fitO : List (Nat × AO) → Prop
  | [] => True
  | (i, _) :: l => i < 16 ∧ fitO l
def fitN (i : Nat) : List (Nat × AO) → Prop
  | [] => True
  | (j, _) :: l => i ≠ j ∧ fitN i l
def fitNs : List (Nat × AO) → Prop
  | [] => True
  | (i, _) :: l => fitN i l ∧ fitNs l
def allNoR : List (Nat × AO) → Prop
  | [] => True
  | (_, o) :: l => o.noR ∧ allNoR l
def fitR (val : AV) (objs : List (Nat × AO)) : List Nat → Prop
  | [] => True
  | _ => val.noR = true ∧ allNoR objs
def rawP : List PV → Bool
  | [] => true
  | p :: l => p.noR && rawP l
theorem rawP_all {l : List PV} (h : rawP l = true) : ∀ p ∈ l, p.noR = true := by
  induction l with
  | nil => intro p hp; cases hp
  | cons q l ih =>
    simp only [rawP, Bool.and_eq_true] at h
    intro p hp
    rcases List.mem_cons.1 hp with rfl | hp
    · exact h.1
    · exact ih h.2 p hp
theorem rawP_of {l : List PV} (h : ∀ p ∈ l, p.noR = true) : rawP l = true := by
  induction l with
  | nil => rfl
  | cons q l ih =>
    simp only [rawP, Bool.and_eq_true]
    exact ⟨h q List.mem_cons_self, ih fun p hp => h p (List.mem_cons_of_mem _ hp)⟩
@[go_sem] theorem rawRows_map {α : Type} (f : α → List PV) (xs : List α) : RawRows (xs.map f) = ∀ x ∈ xs, rawP (f x) = true := by
  refine propext ⟨fun h x hx => rawP_of (h _ (List.mem_map_of_mem hx)), fun h r hr => ?_⟩
  obtain ⟨x, hx, rfl⟩ := List.mem_map.1 hr
  exact rawP_all (h x hx)
@[go_sem] theorem rawRows_nil : RawRows [] = True := propext ⟨fun _ => trivial, fun _ r hr => by cases hr⟩
@[go_sem] theorem rawRows_cons (r : List PV) (l : List (List PV)) : RawRows (r :: l) = (rawP r = true ∧ RawRows l) := propext ⟨fun h => ⟨rawP_of (h r List.mem_cons_self), fun q hq => h q (List.mem_cons_of_mem _ hq)⟩, fun h q hq => by
  rcases List.mem_cons.1 hq with rfl | hq
  · exact rawP_all h.1
  · exact h.2 q hq⟩
@[go_sem] theorem rawRows_append (l m : List (List PV)) : RawRows (l ++ m) = (RawRows l ∧ RawRows m) := propext ⟨fun h => ⟨fun q hq => h q (List.mem_append_left _ hq), fun q hq => h q (List.mem_append_right _ hq)⟩, fun h q hq => (List.mem_append.1 hq).elim (h.1 q) (h.2 q)⟩
theorem fit_of {ι : List Nat} {n : Nat} {bor : List Nat} {args actual : List AV} {s : List (Nat × AO)} {val : AV} {objs : List (Nat × AO)} {S : AS} (h0 : ServesL (S.upd (frz S bor)) (renL (callMap ι n) args) actual) (h1 : bdL 1 args = true) (h2 : fitS ι n bor (S.upd (frz S bor)) s) (h3 : fitPs ι n s) (h4 : fitO objs) (h5 : fitNs objs) (h6 : fitR val objs bor) : CallFit ι n bor args actual s val objs S := by
  have e2 : ∀ s, fitS ι n bor (S.upd (frz S bor)) s → ∀ q ∈ s, q.1 < 8 ∧ q.2.bd 1 = true ∧ ServesO (S.upd (frz S bor)) (q.2.ren (callMap ι n)) ((S.upd (frz S bor)).obj (callMap ι n q.1)) ∧ callMap ι n q.1 ∉ bor := by
    intro s
    induction s with
    | nil => intro _ q hq; cases hq
    | cons a s ih => obtain ⟨i, o⟩ := a; intro h q hq; rcases List.mem_cons.1 hq with rfl | hq
                     · exact ⟨h.1.1, h.1.2.1, h.1.2.2.1, fun hm => by have := memN_iff.2 hm; rw [h.1.2.2.2] at this; cases this⟩
                     · exact ih h.2 q hq
  have e3 : ∀ s i, fitP ι n i s → ∀ q ∈ s, i ≠ q.1 ∧ callMap ι n i ≠ callMap ι n q.1 := by
    intro s
    induction s with
    | nil => intro i _ q hq; cases hq
    | cons a s ih => obtain ⟨j, o⟩ := a; intro i h q hq; rcases List.mem_cons.1 hq with rfl | hq
                     · exact h.1
                     · exact ih i h.2 q hq
  have e4 : ∀ s, fitPs ι n s → s.Pairwise (fun q r => q.1 ≠ r.1 ∧ callMap ι n q.1 ≠ callMap ι n r.1) := by
    intro s
    induction s with
    | nil => intro _; exact List.Pairwise.nil
    | cons a s ih => obtain ⟨j, o⟩ := a; intro h; exact List.Pairwise.cons (e3 s j h.1) (ih h.2)
  have e5 : ∀ l, fitO l → ∀ q ∈ l, q.1 < 16 := by
    intro l
    induction l with
    | nil => intro _ q hq; cases hq
    | cons a l ih =>
      obtain ⟨i, o⟩ := a
      intro h q hq
      rcases List.mem_cons.1 hq with rfl | hq
      · exact h.1
      · exact ih h.2 q hq
  have e6 : ∀ l i, fitN i l → ∀ q ∈ l, i ≠ q.1 := by
    intro l
    induction l with
    | nil => intro i _ q hq; cases hq
    | cons a l ih => obtain ⟨j, o⟩ := a; intro i h q hq; rcases List.mem_cons.1 hq with rfl | hq
                     · exact h.1
                     · exact ih i h.2 q hq
  have e7 : ∀ l, fitNs l → l.Pairwise (fun (q r : Nat × AO) => q.1 ≠ r.1) := by
    intro l
    induction l with
    | nil => intro _; exact List.Pairwise.nil
    | cons a l ih => obtain ⟨j, o⟩ := a; intro h; exact List.Pairwise.cons (e6 l j h.1) (ih h.2)
  have e8 : ∀ l, allNoR l → ∀ q ∈ l, q.2.noR := by
    intro l
    induction l with
    | nil => intro _ q hq; cases hq
    | cons a l ih =>
      obtain ⟨i, o⟩ := a
      intro h q hq
      rcases List.mem_cons.1 hq with rfl | hq
      · exact h.1
      · exact ih h.2 q hq
  refine ⟨⟨h0, h1⟩, e2 s h2, e4 s h3, e5 objs h4, e7 objs h5, ?_⟩
  cases bor with
  | nil => exact .inl rfl
  | cons b l => exact .inr ⟨h6.1, e8 objs h6.2⟩
attribute [go_sem] false_implies implies_true List.all_nil List.all_cons callMap fitS fitPs fitP fitO fitN fitNs fitR allNoR rawP PV.noR AV.noR noRL AO.noR List.isEmpty_nil List.isEmpty_cons List.filter_nil List.getElem?_nil Bool.false_eq_true Nat.zero_lt_succ

/-! the names of a form beside those of what is at hand -/
mutual
def avPairs : AV → AV → List (Nat × Nat)
  | .hdr i, .hdr j => [(i, j)]
  | .ptr i _ _ _, .ptr j _ _ _ => [(i, j)]
  | .vw i _ _ _, .vw j _ _ _ => [(i, j)]
  | .agg l, .agg m => avPairsL l m
  | .tup l, .tup m => avPairsL l m
  | .clo _ l, .clo _ m => avPairsL l m
  | .bnd _ l, .bnd _ m => avPairsL l m
  | _, _ => []
def avPairsL : List AV → List AV → List (Nat × Nat)
  | a :: l, b :: m => avPairs a b ++ avPairsL l m
  | _, _ => []
end
@[go_sem] theorem avPairs_hdr (i j : Nat) : avPairs (.hdr i) (.hdr j) = [(i, j)] := rfl
@[go_sem] theorem avPairs_ptr (i j a b c d e f : Nat) : avPairs (.ptr i a b c) (.ptr j d e f) = [(i, j)] := rfl
@[go_sem] theorem avPairs_vw (i j a b c d e f : Nat) : avPairs (.vw i a b c) (.vw j d e f) = [(i, j)] := rfl
@[go_sem] theorem avPairs_agg (l m : List AV) : avPairs (.agg l) (.agg m) = avPairsL l m := rfl
@[go_sem] theorem avPairs_tup (l m : List AV) : avPairs (.tup l) (.tup m) = avPairsL l m := rfl
@[go_sem] theorem avPairs_clo (f g : Fn) (l m : List AV) : avPairs (.clo f l) (.clo g m) = avPairsL l m := rfl
@[go_sem] theorem avPairs_bnd (f g : Fn) (l m : List AV) : avPairs (.bnd f l) (.bnd g m) = avPairsL l m := rfl
@[go_sem] theorem avPairs_raw (v : Value) (a : AV) : avPairs (.raw v) a = [] := by cases a <;> rfl
@[go_sem] theorem avPairs_dead (a : AV) : avPairs .dead a = [] := by cases a <;> rfl
@[go_sem] theorem avPairs_sl (s : Nat) (r : List (List PV)) (a : AV) : avPairs (.sl s r) a = [] := by cases a <;> rfl
@[go_sem] theorem avPairs_spt (s : Nat) (r : List (List PV)) (k j : Nat) (a : AV) : avPairs (.spt s r k j) a = [] := by cases a <;> rfl
@[go_sem] theorem avPairs_hr (i : Nat) (v : Value) : avPairs (.hdr i) (.raw v) = [] := rfl
@[go_sem] theorem avPairsL_cons (a b : AV) (l m : List AV) : avPairsL (a :: l) (b :: m) = avPairs a b ++ avPairsL l m := rfl
@[go_sem] theorem avPairsL_nil (m : List AV) : avPairsL [] m = [] := by cases m <;> rfl
def lk (ps : List (Nat × Nat)) (i : Nat) : Nat := (find ps i).getD i
def avPairsT : List (Nat × AV) → List (Nat × AV) → List (Nat × Nat)
  | [], _ => []
  | (d, v) :: t, t' => avPairs v ((find t' d).getD .dead) ++ avPairsT t t'
def aoPairs : AO → Option AO → List (Nat × Nat)
  | .cells _ l, some (.cells _ m) => avPairsL l m
  | .frm _ t, some (.frm _ t') => avPairsT t t'
  | _, _ => []
@[go_sem] theorem aoPairs_cells (t u : TypeId) (l m : List AV) : aoPairs (.cells t l) (some (.cells u m)) = avPairsL l m := rfl
@[go_sem] theorem aoPairs_row (e s : Nat) (r : List (List PV)) (o : Option AO) : aoPairs (.row e s r) o = [] := by cases o <;> rfl
@[go_sem] theorem aoPairs_fro (s : Nat) (r : List (List PV)) (o : Option AO) : aoPairs (.fro s r) o = [] := by cases o <;> rfl
@[go_sem] theorem aoPairs_loop (tm : Array Value) (lc : LoopCode) (m : LM) (o : Option AO) : aoPairs (.loop tm lc m) o = [] := by cases o <;> rfl
@[go_sem] theorem aoPairs_frm (tm tm' : Array Value) (t t' : List (Nat × AV)) : aoPairs (.frm tm t) (some (.frm tm' t')) = avPairsT t t' := rfl
@[go_sem] theorem aoPairs_none (o : AO) : aoPairs o none = [] := by cases o <;> rfl
def stPairs (S : AS) : List (Nat × Option AO) → List (Nat × Nat) → List (Nat × Nat)
  | [], ps => ps
  | (i, some o) :: s, ps => stPairs S s (ps ++ aoPairs o (S.obj (lk ps i)))
  | (_, none) :: s, ps => stPairs S s ps
def up8 : List (Nat × Nat) → List (Nat × Nat)
  | [] => []
  | (i, j) :: l => if 8 ≤ i then (i, j) :: up8 l else up8 l
def tPairs (S : AS) : List (Nat × AV) → List (Nat × Nat)
  | [] => []
  | (d, v) :: t => avPairs v (S.get d) ++ tPairs S t
def loopL (S S' : AS) : List (Nat × Nat) := up8 (stPairs S S'.s (tPairs S S'.t))
def callL (S : AS) (args actual : List AV) (s : List (Nat × AO)) : List Nat :=
  let ps := stPairs S (somes s) (avPairsL args actual)
  [lk ps 0, lk ps 1, lk ps 2, lk ps 3, lk ps 4, lk ps 5, lk ps 6, lk ps 7]
def retL (v val : AV) (objs : List (Nat × AO)) (s : List (Nat × Option AO)) : List (Nat × Nat) := up8 (stPairs ⟨[], s, none⟩ (somes objs) (avPairs val v))
@[go_sem] theorem callL_eq (S : AS) (args actual : List AV) (s : List (Nat × AO)) : callL S args actual s = (fun ps => [lk ps 0, lk ps 1, lk ps 2, lk ps 3, lk ps 4, lk ps 5, lk ps 6, lk ps 7]) (stPairs S (somes s) (avPairsL args actual)) := rfl
attribute [go_sem] lk avPairsT stPairs up8 tPairs loopL retL somes

section
variable {P : Program} {dst : Option Nat} {n : Nat} {CN : Nat → AS → Prop} {S : AS} {actual caps args : List AV} {s : List (Nat × AO)} {val : AV} {objs : List (Nat × AO)} {f : FuncId}
/-- a call of a method with its receiver. -/
theorem acallM2 (bor : List Nat) (hf : FnOk P f args s val objs) {ι : List Nat} (_ : callL S args (caps ++ actual) s = ι) (h : CallFit ι n bor args (caps ++ actual) s val objs S) (hC : CN (n + 1) (fin dst (callEffW ι n S bor (caps ++ actual) s val objs) S)) : ACall P dst n CN S actual (.bnd (.func f) caps) :=
  ⟨_, hf.1, call_ok hf h, hC⟩
theorem acall2 (bor : List Nat) (hf : FnOk P f args s val objs) {ι : List Nat} (_ : callL S args (actual ++ caps) s = ι) (h : CallFit ι n bor args (actual ++ caps) s val objs S) (hC : CN (n + 1) (fin dst (callEffW ι n S bor (actual ++ caps) s val objs) S)) : ACall P dst n CN S actual (.clo (.func f) caps) :=
  acall bor hf h hC
theorem acallF2 (l bor : List Nat) (hf : FnOk P f args s val objs) {ι : List Nat} (_ : callL S args (actual ++ caps) s = ι) (h : CallFit ι n bor args (actual ++ caps) s val objs (S.upd (frz S l))) (hC : CN (n + 1) (fin dst (frzEff S l (callEffW ι n (S.upd (frz S l)) bor (actual ++ caps) s val objs)) S)) : ACall P dst n CN S actual (.clo (.func f) caps) :=
  acallF l bor hf h hC
theorem acallR2 (l bor : List Nat) (hf : FnOk P f args s val objs) {ι : List Nat} (_ : callL S args (actual ++ caps) s = ι) (h : CallFit ι n bor args (actual ++ caps) s val objs S) (hk : keptB (callEff ι n S bor (actual ++ caps) s val objs) S (l.map (callMap ι n))) (hC : CN (n + 1) (fin dst (dropE (l.map (callMap ι n)) (callEffW ι n S bor (actual ++ caps) s val objs)) S)) : ACall P dst n CN S actual (.clo (.func f) caps) :=
  acallR l bor hf h hk hC
end
theorem ret2 {v val : AV} {objs : List (Nat × AO)} {s : List (Nat × Option AO)} {L : List (Nat × Nat)} (fr : List Nat) (_ : retL v val objs s = L) (e : EntF L 2 fr ⟨[(0, v)], s, none⟩ ⟨[(0, val)], somes objs, none⟩) : RetV v val objs s := ret_ent L fr e
theorem loop_end {X : Type} {St : X → AS} {inv : X → Prop} {μ : X → Nat} {n0 : Nat} {x : X} {S : AS} (fr : List Nat) (x' : X) {L : List (Nat × Nat)} (_ : loopL S (St x') = L) (h1 : μ x' < μ x) (e : EntF L n0 fr S (St x')) (h2 : inv x') : LoopEnd St inv μ n0 x S := ⟨x', L, fr, h2, h1, e⟩
theorem aloop2 {P : Program} {b : Code} {Q : Exit → Nat → AS → Prop} {S : AS} {X : Type} (fr : List Nat) (St : X → AS) (inv : X → Prop) (μ : X → Nat) (n0 : Nat) (x0 : X) {L0 : List (Nat × Nat)} (_ : loopL S (St x0) = L0) (e0 : EntF L0 n0 fr S (St x0)) (h0 : inv x0) (hr : ∀ x, inv x → AWP P b (loopX St inv μ n0 x Q) n0 (St x)) :
    ALoop (W (AWP P b)) Q S := aloop St inv μ n0 x0 L0 fr h0 e0 hr

theorem ex_get {α : Type} {xs : List α} {k : Nat} {C : α → Prop} (h : k < xs.length) (hC : C xs[k]) : ∃ x, xs[k]? = some x ∧ C x := ⟨_, by simp, hC⟩

/-! a law's arguments: whatever lies there never turns -/
def frzOf (w : World) : Frz := fun g => match w.heap[g]? with
  | some o => if isDefd o then none else some o
  | none => none
theorem frzOf_ro {w : World} {g : Nat} {o : Obj} (h : frzOf w g = some o) : w.heap[g]? = some o ∧ isDefd o = false := by
  unfold frzOf at h
  split at h
  · next o' ho =>
    split at h
    · cases h
    · next hd => injection h with h; subst h; exact ⟨ho, by simpa using hd⟩
  · cases h
theorem rcell_of {w : World} {b o : Nat} {v : Value} (h : w.cell? ⟨b, o, none⟩ = some v) : rcell (frzOf w) b o = some v := by
  unfold World.cell? at h
  unfold rcell frzOf
  cases hb : w.heap[b]? with
  | none => rw [hb] at h; cases h
  | some ob =>
    rw [hb] at h
    cases ob <;> first | exact h | cases h
def lawEnv (w : World) : Env := ⟨fun _ => none, frzOf w⟩
theorem args_law (w : World) : ArgsOk (lawEnv w) w [] :=
  ⟨(fun i x e => by cases e), (fun i o e => by cases e), (fun i j oi oj x y hne hi => by cases hi), fun g o h => (frzOf_ro h).1, (fun i o x g e => by cases e), fun g o h => (frzOf_ro h).2⟩
/-- what a contract says of a law: it comes back with what is told, and below nothing is turned. -/
theorem calls_fn {P : Program} {f : FuncId} {args : List AV} {v : Value} (h : FnOk P f args [] (.raw v) []) {w : World} {vs : List Value} (hr : RepL (lawEnv w) args vs) : Calls P f vs.toArray w (RetB v w) := by
  refine (h.2 _ w vs (args_law w) hr).mono ?_
  rintro e w' ⟨u, ρ', rfl, hm⟩
  have hv := hm.tmps 0
  simp only [AS.get, find, if_true, Option.getD_some, Rep] at hv
  refine ⟨by rw [show u = v by simpa using hv], hm.frame.os, hm.frame.tape, hm.frame.output, hm.frame.size, fun g hg => hm.frame.block g hg ?_⟩
  rintro ⟨i, o, x, e1, -⟩
  cases e1
/-- a slice of structs of plain cells. -/
theorem rep_sl {α : Type} {w : World} {A : Option Addr} {c s : Nat} {f : α → List PV} {g : α → List Value} {xs : List α} (hfg : ∀ x, f x = (g x).map .raw) (hr : RowAt w A s g xs) (hl : ∀ x, (g x).length = s) (h1 : ∀ x, ∀ u ∈ g x, u.oneCell' = true) (hc : xs.length ≤ c) : Rep (lawEnv w) (.sl s (xs.map f)) (.slice A xs.length c) := by
  simp only [Rep, PRep]
  refine ⟨A, c, by rw [List.length_map], by rw [List.length_map]; exact hc, PRows.mk_ fun k r hk => ?_⟩
  rw [List.getElem?_map] at hk
  cases hx : xs[k]? with
  | none => rw [hx] at hk; cases hk
  | some x =>
    rw [hx] at hk
    simp only [Option.map_some, Option.some.injEq] at hk
    subst hk
    obtain ⟨hkl, rfl⟩ := List.getElem?_eq_some_iff.1 hx
    obtain ⟨b, off, rfl, hb, hcell⟩ := hr k hkl
    rw [hfg]
    refine ⟨by simp [hl], b, off, rfl, PCells.mk_ fun i p hi => ?_⟩
    rw [List.getElem?_map] at hi
    cases hu : (g xs[k])[i]? with
    | none => rw [hu] at hi; cases hi
    | some u =>
      rw [hu] at hi
      simp only [Option.map_some, Option.some.injEq] at hi
      subst hi
      have hil : i < s := by rw [← hl xs[k]]; exact (List.getElem?_eq_some_iff.1 hu).1
      refine ⟨u, rcell_of ?_, h1 _ u (List.mem_of_getElem? hu), by simp [PRep]⟩
      rw [Nat.zero_add]
      exact (hcell i hil).trans hu

/-! contracts that were proved otherwise -/
theorem mod_plain {ρ : Env} {w w' : World} {s : List (Nat × AO)} {val : AV} {u : Value} (hA : ArgsOk ρ w s) (hv : Rep ρ val u) (hb : Below w.heap.size w w') :
    Mod ⟨1, liveB ρ s, w, ρ, fun _ => False⟩ (fun i => i < 16) ρ ⟨[(0, val)], somes [], none⟩ #[u] w' := by
  refine ⟨rfl, fun _ _ => rfl, SubR.refl _, fun i hi => by omega, fun i x e => ⟨by have := (hA.dom i x e).1; omega, (hA.dom i x e).2⟩, fun d => ?_, fun i o e => by simp [somes, AS.obj, find] at e, fun i j oi oj x y _ e => by simp [somes, AS.obj, find] at e,
    fun i o x g e => by simp [somes, AS.obj, find] at e, fun g o e => ?_, fun i o x g e => by simp [somes, AS.obj, find] at e, fun g o e => .inl e, hA.rdf, fun g e => e.elim, ⟨hb.os, hb.tape, hb.output, hb.size, fun g hg _ => hb.block g hg⟩⟩
  · unfold AS.get
    simp only [find]
    split
    · next e => subst e; simpa using hv
    · simp [Rep]
  · have h := hA.ro g o e
    rw [hb.block g (Array.getElem?_eq_some_iff.1 h).1]
    exact h
theorem repL_raws : ∀ {ρ : Env} {l vs : List Value}, RepL ρ (l.map .raw) vs → vs = l
  | _, [], [], _ => rfl
  | _, [], _ :: _, h => by simp [RepL] at h
  | _, _ :: _, [], h => by simp [RepL] at h
  | ρ, a :: l, v :: vs, h => by
    simp only [List.map_cons, RepL, Rep] at h
    rw [h.1, repL_raws h.2]
/-- a contract of a function that is handed one slice of integers, and numbers. -/
theorem fn_ints {P : Program} {f : FuncId} {xs : List Int} {rest : List Value} {val : AV} {u : Value} (hfn : fnB P f = true) (hv : ∀ ρ, Rep ρ val u)
    (h : ∀ A c w, IntsAt w A xs → xs.length ≤ c → Calls P f (.slice A xs.length c :: rest).toArray w (RetB u w)) : FnOk P f (.sl 1 (xs.map cInt) :: rest.map .raw) [] val [] := by
  refine ⟨hfn, fun ρ w vs hA hr => ?_⟩
  cases vs with
  | nil => simp [RepL] at hr
  | cons x vs =>
    simp only [RepL] at hr
    obtain ⟨h0, hr⟩ := hr
    obtain rfl := repL_raws hr
    simp only [Rep, PRep] at h0
    obtain ⟨A, c, rfl, hc, hrows⟩ := h0
    rw [List.length_map] at hc ⊢
    refine (h A c w (fun k hk => ?_) hc).mono ?_
    · obtain ⟨b, off, vs', rfl, hel⟩ := hrows.elem hA.ro (k := k) (r := cInt xs[k]) (by simp [hk])
      have h1 := hel.cell 0 (by omega)
      obtain ⟨v0, h2, h3⟩ := hel.rep.get (i := 0) (p := .raw (.int .i64 xs[k])) rfl
      simp only [PRep] at h3
      subst h3
      rw [h2] at h1
      simp only [Nat.mul_one, Nat.add_zero] at h1
      refine ⟨b, off, rfl, ?_, h1⟩
      unfold World.cell? at h1
      split at h1
      · next c e f hq => exact (Array.getElem?_eq_some_iff.1 hq).1
      · cases h1
    · rintro e w' ⟨rfl, hb⟩
      exact ⟨u, ρ, rfl, mod_plain hA (hv ρ) hb⟩
/-- a contract of the plain kind, of numbers alone. -/
theorem fn_plain {P : Program} {f : FuncId} {rest : List Value} {val : AV} {u : Value} (hfn : fnB P f = true) (hv : ∀ ρ, Rep ρ val u) (h : ∀ w, Calls P f rest.toArray w (RetB u w)) : FnOk P f (rest.map .raw) [] val [] := by
  refine ⟨hfn, fun ρ w vs hA hr => ?_⟩
  obtain rfl := repL_raws hr
  refine (h w).mono ?_
  rintro e w' ⟨rfl, hb⟩
  exact ⟨u, ρ, rfl, mod_plain hA (hv ρ) hb⟩
end Go.Proofs.YtblmebjhhanoaaaGreat
