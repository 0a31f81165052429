/- ENGINE (second) 6: statements and code: what must be shown, as a proposition; over any program. -/
import Derived.Test.YtiidfcadmdahmaaG5D
set_option linter.unusedSimpArgs false
set_option linter.unusedVariables false
namespace Go.Proofs.Ytiidfcadmdahmaa
open Go.RowKit

/-- what is left when an operation is over. -/
def AS.note (S : AS) (r u : List Nat) : AS := ⟨S.t, S.s, S.lg.map ((r, u) :: ·)⟩
def fin (dst : Option Nat) (E : Eff) (S : AS) : AS := ((S.upd E.objs).putO dst E.val).note E.reads (E.objs.map (·.1))

/-- a call does what is told. -/
def CallOk (P : Program) (f : FuncId) (args : List AV) (S : AS) (n : Nat) (E : Eff) : Prop :=
  ∀ (S' : AS), (∀ i ∈ E.reads, S'.obj i = S.obj i) → ∀ (c : Ctx) (p : Nat → Prop) (ρ : Env) (tm : Array Value) (w : World) (vs : List Value), Mod c p ρ S' tm w → (∀ i, p i → i / 8 ≠ n) → RepL ρ args vs →
    Calls P f vs.toArray w fun e w' => ∃ v ρ', e = .returned v ∧ Mod c (fun i => p i ∨ i / 8 = n) ρ' (S'.upd E.objs) tm w' ∧ Rep ρ' E.val v

/-- what a statement over a function leaves to be done at the end: nothing. -/
def markD (D : Nat) : Deferred := { target := .collected D, args := #[] }
def DefOk (c : Ctx) (a : Act) (w : World) : Prop := ∃ Ds : List Nat, a.defers = Ds.map markD ∧ Ds.Nodup ∧ ∀ D ∈ Ds, c.w0.heap.size ≤ D ∧ ¬ c.D D ∧ w.heap[D]? = some (.deferred (some []))
/-- an operation leads on to one of the states told, whatever names it gave. -/
def DoesN (P : Program) (o : Oper) (n : Nat) (CN : Nat → AS → Prop) (S : AS) : Prop :=
  ∀ (rd : Option Nat) (m0 : Nat) (c : Ctx) (p : Nat → Prop) (ρ : Env) (a : Act) (w : World), (∀ d, o.dst = some d → d < c.N) → Mod c p ρ S a.tmps w → (∀ i, p i → i / 8 < n) → DefOk c a w → ∀ (K : Act → World → Prop) (Q : Exit → Act → World → Prop),
    (∀ n' S' p' ρ' a' w', CN n' S' → Mod c p' ρ' S' a'.tmps w' → (∀ i, p' i → i / 8 < n') → DefOk c a' w' → K a' w') → o.wpIn (FW rd) m0 P a w K Q
/-- a call of a round does what is told. -/
def YieldOk (P : Program) (dst : Option Nat) (n : Nat) (CN : Nat → AS → Prop) (S : AS) (args : List AV) (id : Nat) : Prop :=
  ∀ (o : Oper) (x : Operand) (xs : Array Operand) (ts : Array TypeId), o.op = .call { callee := .value x, args := xs, argTypes := ts } → o.dst = dst → xs.toList.map S.val = args → S.val x = .hdr id → DoesN P o n CN S

/-- a function with a text of its own. -/
def fnB (P : Program) (f : FuncId) : Bool := match P.funcs[f]? with
  | some fn => fn.name != "runtime.NumGoroutine" && fn.body.isSome
  | none => false

def kMove (P : Program) (ty : TypeId) (dst : Option Nat) (n : Nat) (C : AS → Prop) (S : AS) : AV → Prop
  | .raw (.slice none 0 0) => match tyI P ty with
    | some i => match tyI P i.elem with
      | some ie => C (fin dst ⟨.hdr (8 * n), [(8 * n, some (.row i.elem ie.size []))], []⟩ S)
      | none => False
    | none => False
  | v => C (fin dst ⟨v, [], []⟩ S)
def kPick (dst : Option Nat) (C : AS → Prop) (S : AS) (x y : AV) : AV → Prop
  | .raw (.bool t) => (t = true → C (fin dst ⟨x, [], []⟩ S)) ∧ (t = false → C (fin dst ⟨y, [], []⟩ S))
  | _ => False
def kAllocR (P : Program) (dst : Option Nat) (t : TypeId) (n : Nat) (C : AS → Prop) (S : AS) (e : Nat) : List Value → Prop
  | [.slice none 0 0] => match tyI P e with
    | some ie => C (fin dst ⟨.hdr (8 * n), [(8 * n, some (.cells t [.hdr (8 * n + 1)])), (8 * n + 1, some (.row e ie.size []))], []⟩ S)
    | none => False
  | _ => False
def kAlloc (P : Program) (dst : Option Nat) (t : TypeId) (n : Nat) (C : AS → Prop) (S : AS) : Option TI → Prop
  | some i => if i.kind = 1 then kAllocR P dst t n C S i.elem i.zero else (i.zero.all (·.oneCell') = true ∧ (nilT (i.zero.map .raw) (rowsTy P t)).length < 7) ∧ C (fin dst ⟨.hdr (8 * n), (8 * n, some (.cells t (nilL n 1 (i.zero.map .raw) (rowsTy P t)))) :: nilO n 1 (nilT (i.zero.map .raw) (rowsTy P t)), []⟩ S)
  | none => False
def kBox (dst : Option Nat) (t : TypeId) (n : Nat) (C : AS → Prop) (S : AS) : Option (List AV) → Prop
  | some l => C (fin dst ⟨.hdr (8 * n), [(8 * n, some (.cells t l))], []⟩ S)
  | none => False
def kBoxV (P : Program) (dst : Option Nat) (t : TypeId) (n : Nat) (C : AS → Prop) (S : AS) : AV → Prop
  | .raw (.slice none 0 0) => match tyI P t with
    | some i => match tyI P i.elem with
      | some ie => C (fin dst ⟨.hdr (8 * n), [(8 * n, some (.cells t [.hdr (8 * n + 1)])), (8 * n + 1, some (.row i.elem ie.size []))], []⟩ S)
      | none => False
    | none => False
  | v => kBox dst t n C S (cellsOf v)
def kBuild (P : Program) (dst : Option Nat) (n : Nat) (t : TypeId) (C : AS → Prop) (S : AS) (parts : List (Nat × Operand)) : Option TI → Prop
  | some i => ((i.kind = 2 ∨ i.kind = 3) ∧ (i.places.all fun q => decide (0 < q.2)) = true ∧ i.zero.all (·.oneCell') = true) ∧ match fillA i.place (i.zero.map .raw) (parts.map fun q => (q.1, S.val q.2)) with
    | some l => (nilT l (rowsTy P t)).length < 8 ∧ C (fin dst ⟨.agg (nilL n 0 l (rowsTy P t)), nilO n 0 (nilT l (rowsTy P t)), []⟩ S)
    | none => False
  | none => False
def kSlice (P : Program) (dst : Option Nat) (m n : Nat) (C : AS → Prop) (S : AS) (parts : List (Nat × Operand)) : Option TI → Prop
  | some i => match tyI P i.elem with
    | some ie => (i.kind = 1 ∧ 0 < ie.size ∧ m = parts.length ∧ m * ie.size ≤ 16777216) ∧ match elemsOf (S.upd (frz S (deepP (parts.map fun q => (q.1, S.val q.2))))) ie.size 0 (parts.map fun q => (q.1, S.val q.2)) with
      | some rows => C (fin dst (frzEff S (deepP (parts.map fun q => (q.1, S.val q.2))) ⟨.hdr (8 * n), [(8 * n, some (.row i.elem ie.size rows))], []⟩) S)
      | none => False
    | none => False
  | none => False
def kRow (dst : Option Nat) (C : AS → Prop) (S : AS) (i : TI) (rd : List Nat) (j k : Nat) (rows : List (List PV)) : Prop := ∃ r, rows[k]? = some r ∧ C (fin dst ⟨ofCells i.agg (((r.drop j).take i.size).map PV.av), [], rd⟩ S)
def kLoad2 (dst : Option Nat) (C : AS → Prop) (S : AS) (i : TI) (id s k j : Nat) : Option AO → Prop
  | some (.cells _ l) => (k * s + j + i.size ≤ l.length ∧ (i.agg = true ∨ i.size = 1)) ∧ C (fin dst ⟨ofCells i.agg ((l.drop (k * s + j)).take i.size), [], [id]⟩ S)
  | some (.row _ s' rows) | some (.fro s' rows) => (s = s' ∧ j + i.size ≤ s ∧ (i.agg = true ∨ i.size = 1)) ∧ kRow dst C S i [id] j k rows
  | _ => False
def kLoad (dst : Option Nat) (C : AS → Prop) (S : AS) (a : AV) : Option TI → Prop
  | some i => match a with
    | .hdr id => match S.obj id with
      | some (.cells _ l) => (i.size ≤ l.length ∧ (i.agg = true ∨ i.size = 1)) ∧ C (fin dst ⟨ofCells i.agg (l.take i.size), [], [id]⟩ S)
      | _ => False
    | .ptr id s k j => kLoad2 dst C S i id s k j (S.obj id)
    | .spt s rows k j => (j + i.size ≤ s ∧ (i.agg = true ∨ i.size = 1)) ∧ kRow dst C S i [] j k rows
    | _ => False
  | none => False
def kStore2 (dst : Option Nat) (C : AS → Prop) (S : AS) (i : TI) (m : List AV) (id j : Nat) : Option AO → Prop
  | some (.cells t l) => (m.length = i.size ∧ j + i.size ≤ l.length) ∧ C (fin dst ⟨.dead, [(id, some (.cells t (splice l j m)))], [id]⟩ S)
  | _ => False
def kSet (dst : Option Nat) (C : AS → Prop) (S : AS) (e s id j k : Nat) (m : List PV) (rd : List Nat) (rows : List (List PV)) : Prop := ∃ r, rows[k]? = some r ∧ C (fin dst ⟨.dead, [(id, some (.row e s (rows.set k (splice r j m))))], id :: rd⟩ S)
def kStore3 (dst : Option Nat) (C : AS → Prop) (S : AS) (i : TI) (v : AV) (id s k j : Nat) : Option AO → Prop
  | some (.row e s' rows) => match S.elem v with
    | some m => (s = s' ∧ m.length = i.size ∧ j + i.size ≤ s) ∧ kSet dst C S e s id j k m v.deep rows
    | none => False
  | ob => match cellsOf v with
    | some m => kStore2 dst C S i m id (k * s + j) ob
    | none => False
def kStore (dst : Option Nat) (C : AS → Prop) (S : AS) (a v : AV) : Option TI → Prop
  | some i => match a with
    | .hdr id => match cellsOf v with
      | some m => kStore2 dst C S i m id 0 (S.obj id)
      | none => False
    | .ptr id s k j => kStore3 dst C S i v id s k j (S.obj id)
    | _ => False
  | none => False
def kField (dst : Option Nat) (C : AS → Prop) (S : AS) (f : Nat) (a : AV) : Option TI → Prop
  | some i => i.kind = 3 ∧ match i.places[f]? with
    | some (off, s') => 0 < s' ∧ match a with
      | .hdr id => match S.obj id with
        | some (.cells _ _) => C (fin dst ⟨.ptr id 0 0 off, [], [id]⟩ S)
        | _ => False
      | .ptr id s k j => C (fin dst ⟨.ptr id s k (j + off), [], []⟩ S)
      | .spt s rows k j => C (fin dst ⟨.spt s rows k (j + off), [], []⟩ S)
      | _ => False
    | none => False
  | none => False
def kIndexA (dst : Option Nat) (C : AS → Prop) (S : AS) (a b : AV) : Option (Nat × Nat) → Prop
  | some (m, es) => match b with
    | .raw (.int _ q) => (0 ≤ q ∧ q < m) ∧ match a with
      | .hdr id => match S.obj id with
        | some (.cells _ _) => C (fin dst ⟨.ptr id 0 0 (q.toNat * es), [], [id]⟩ S)
        | _ => False
      | .ptr id s k j => match S.obj id with
        | some (.cells _ _) => C (fin dst ⟨.ptr id s k (j + q.toNat * es), [], [id]⟩ S)
        | _ => False
      | _ => False
    | _ => False
  | none => False
def kIndex (P : Program) (dst : Option Nat) (C : AS → Prop) (S : AS) (t : TypeId) (a b : AV) : Option TI → Prop
  | some i => if i.kind = 2 then kIndexA dst C S a b (arrOf P t) else i.kind = 1 ∧ match tyI P i.elem with
    | some ie => match S.rowsOf a with
      | some (s, rows) => ie.size = s ∧ match b with
          | .raw (.int _ q) => (0 ≤ q ∧ q < rows.length) ∧ match elAddr a s q.toNat with
            | some v => C (fin dst ⟨v, [], a.ids⟩ S)
            | none => False
          | _ => False
      | none => False
    | none => False
  | none => False
def kEqs2 (dst : Option Nat) (C : AS → Prop) (S : AS) (op : BinOp) : Option Bool → Prop
  | some r => match op with
    | .eql => C (fin dst ⟨.raw (.bool r), [], []⟩ S)
    | .neq => C (fin dst ⟨.raw (.bool (!r)), [], []⟩ S)
    | _ => False
  | none => False
def kEqs (dst : Option Nat) (C : AS → Prop) (S : AS) (op : BinOp) : Option (List Bool) → Option (List Value) → Option (List Value) → Prop
  | some ks, some xs, some ys => kEqs2 dst C S op (eqV ks xs ys)
  | _, _, _ => False
def kShr (dst : Option Nat) (C : AS → Prop) (S : AS) (op : BinOp) (a b : Int) : Prop :=
  match op with
  | .shr => 0 ≤ b ∧ C (fin dst ⟨.raw (.int .u64 (a.fdiv (2 ^ min b.toNat 64))), [], []⟩ S)
  | _ => False
def kConv (P : Program) (dst : Option Nat) (C : AS → Prop) (S : AS) (d : Option TypeDesc) (v : AV) : Option TI → Prop
  | some i => match d with
    | some .string => (i.kind = 1 ∧ P.underlying i.elem = some (.int .u8)) ∧ match S.rowsOf v with
      | some (1, [[.raw (.int .u8 c)]]) => C (fin dst ⟨.raw (.string (ByteArray.empty.push (UInt8.ofNat c.toNat))), [], v.ids⟩ S)
      | _ => False
    | some (.int k) => match v with
      | .raw (.int _ a) => C (fin dst ⟨.raw (.int k (k.wrap a)), [], []⟩ S)
      | _ => False
    | _ => False
  | none => False
def kPart (dst : Option Nat) (C : AS → Prop) (S : AS) (f : Nat) (v : AV) (fi : Option TI) : Option TI → Prop
  | some i => i.kind = 3 ∧ match i.places[f]? with
    | some (off, s') => 0 < s' ∧ match fi with
      | some fi => (fi.agg = true ∨ fi.size = 1) ∧ match v with
        | .agg l => off + fi.size ≤ l.length ∧ C (fin dst ⟨ofCells fi.agg ((l.drop off).take fi.size), [], []⟩ S)
        | _ => False
      | none => False
    | none => False
  | none => False
def kCmp (dst : Option Nat) (C : AS → Prop) (S : AS) (kd : IntKind) (op : BinOp) (a b : Int) : Prop :=
  match cmpOp op a b with
  | some v => C (fin dst ⟨.raw v, [], []⟩ S)
  | none => match op, kd with
    | .sub, .u8 => (0 ≤ a - b ∧ a - b ≤ 255) ∧ C (fin dst ⟨.raw (.int .u8 (a - b)), [], []⟩ S)
    | _, _ => False
def kCat (dst : Option Nat) (C : AS → Prop) (S : AS) (op : BinOp) (a b : ByteArray) : Prop :=
  match op with
  | .add => a.size + b.size ≤ 9223372036854775807 ∧ C (fin dst ⟨.raw (.string (a ++ b)), [], []⟩ S)
  | _ => False
def kBin (P : Program) (dst : Option Nat) (C : AS → Prop) (S : AS) (op : BinOp) (t : TypeId) : AV → AV → Prop
  | .raw (.int .i64 a), .raw (.int .i64 b) => match intOp op a b with
    | some (v, sd) => sd ∧ C (fin dst ⟨.raw v, [], []⟩ S)
    | none => False
  | .raw (.bool a), .raw (.bool b) => P.underlying t = some .bool ∧ match op with
    | .eql => C (fin dst ⟨.raw (.bool (a == b)), [], []⟩ S)
    | .neq => C (fin dst ⟨.raw (.bool (a != b)), [], []⟩ S)
    | _ => False
  | .agg la, .agg lb => kEqs dst C S op (flatK P t) (rawsOf la) (rawsOf lb)
  | .raw (.int .u64 a), .raw (.int _ b) => kShr dst C S op a b
  | .raw (.int .u8 a), .raw (.int .u8 b) => kCmp dst C S .u8 op a b
  | .raw (.int .i32 a), .raw (.int .i32 b) => kCmp dst C S .i32 op a b
  | .raw (.string a), .raw (.string b) => kCat dst C S op a b
  | _, _ => False
def kUn (dst : Option Nat) (C : AS → Prop) (S : AS) (op : UnOp) : AV → Prop
  | .raw (.bool b) => match op with
    | .not => C (fin dst ⟨.raw (.bool (!b)), [], []⟩ S)
    | _ => False
  | .raw (.int .i64 k) => match op with
    | .neg => (-9223372036854775808 ≤ -k ∧ -k ≤ 9223372036854775807) ∧ C (fin dst ⟨.raw (.int .i64 (-k)), [], []⟩ S)
    | _ => False
  | _ => False
def kExtract (dst : Option Nat) (C : AS → Prop) (S : AS) (k : Nat) : AV → Prop
  | .tup l => match l[k]? with
    | some v => C (fin dst ⟨v, [], []⟩ S)
    | none => False
  | _ => False
def kNil (dst : Option Nat) (C : AS → Prop) (S : AS) : AV → Prop
  | .hdr id => match S.obj id with
    | some (.cells _ _) => C (fin dst ⟨.hdr id, [], [id]⟩ S)
    | _ => False
  | .ptr id s k j => match S.obj id with
    | some (.cells _ _) => C (fin dst ⟨.ptr id s k j, [], [id]⟩ S)
    | _ => False
  | .clo (.func f) l => C (fin dst ⟨.clo (.func f) l, [], []⟩ S)
  | _ => False
def kLen (dst : Option Nat) (C : AS → Prop) (S : AS) (a : AV) : Option TI → Prop
  | some i => i.kind = 1 ∧ match a with
    | .raw (.slice _ m _) => C (fin dst ⟨.raw (.int .i64 m), [], []⟩ S)
    | a => match S.rowsOf a with
      | some (_, rows) => C (fin dst ⟨.raw (.int .i64 rows.length), [], a.ids⟩ S)
      | none => False
  | none => False
def kLenS (dst : Option Nat) (C : AS → Prop) (S : AS) (d : Option TypeDesc) (ti : Option TI) : AV → Prop
  | .raw (.string s) => d = some .string ∧ C (fin dst ⟨.raw (.int .i64 s.size), [], []⟩ S)
  | a => kLen dst C S a ti
def kStrIdx (dst : Option Nat) (C : AS → Prop) (S : AS) (d : Option TypeDesc) : AV → AV → Prop
  | .raw (.string s), .raw (.int _ q) => d = some .string ∧ (0 ≤ q ∧ q < s.size) ∧ C (fin dst ⟨.raw (.int .u8 (byteAt s q.toNat)), [], []⟩ S)
  | _, _ => False
def kAppend (P : Program) (dst : Option Nat) (n : Nat) (C : AS → Prop) (S : AS) (a b : AV) : Option TI → Prop
  | some i => i.kind = 1 ∧ match tyI P i.elem with
    | some ie => match a with
      | .hdr id1 => match S.obj id1, S.rowsOf b with
        | some (.row e s rows), some (s2, rows2) => (i.elem = e ∧ ie.size = s ∧ s2 = s ∧ 0 < s ∧ ie.zero.length = s) ∧ ((rows.length + rows2.length) * ie.bytes ≤ 140737488355328 ∧ rows.length + rows2.length ≤ 9223372036854775807) ∧
          C (fin dst ⟨.hdr (8 * n), [(id1, none), (8 * n, some (.row e s (rows ++ rows2)))], id1 :: b.ids⟩ S)
        | _, _ => False
      | _ => False
    | none => False
  | none => False
def kClear2 (dst : Option Nat) (C : AS → Prop) (S : AS) (ie : TI) (id l : Nat) (h : Option (Nat × Nat)) : Option AO → Prop
  | some (.row e s rows) => (ie.zero.length = s ∧ 0 < s ∧ ie.zero.all (·.oneCell') = true) ∧ match h with
    | none => C (fin dst ⟨.tup [], [(id, some (.row e s (splice rows 0 (List.replicate rows.length (ie.zero.map .raw)))))], [id]⟩ S)
    | some (s', h) => (s' = s ∧ l ≤ h ∧ h ≤ rows.length) ∧ C (fin dst ⟨.tup [], [(id, some (.row e s (splice rows l (List.replicate (h - l) (ie.zero.map .raw)))))], [id]⟩ S)
  | _ => False
def kClear (P : Program) (dst : Option Nat) (C : AS → Prop) (S : AS) (a : AV) : Option TI → Prop
  | some i => i.kind = 1 ∧ match tyI P i.elem with
    | some ie => match a with
      | .hdr id => kClear2 dst C S ie id 0 none (S.obj id)
      | .vw id s l h => kClear2 dst C S ie id l (some (s, h)) (S.obj id)
      | _ => False
    | none => False
  | none => False
def kNilEq (dst : Option Nat) (n : Nat) (CN : Nat → AS → Prop) (S : AS) (op : BinOp) (a : AV) : Option TI → Prop
  | some i => i.kind = 1 ∧ match S.rowsOf a with
    | some (_, rows) => S.lg = none ∧ match op with
      | .eql => ∀ b : Bool, (b = true → rows.length = 0) → CN (n + 1) (fin dst ⟨.raw (.bool b), [], []⟩ S)
      | .neq => ∀ b : Bool, (b = true → rows.length = 0) → CN (n + 1) (fin dst ⟨.raw (.bool (!b)), [], []⟩ S)
      | _ => False
    | none => False
  | none => False
def kBin0 (P : Program) (dst : Option Nat) (n : Nat) (CN : Nat → AS → Prop) (S : AS) (op : BinOp) (t : TypeId) (a : AV) : AV → Prop
  | .raw (.slice none 0 0) => kNilEq dst n CN S op a (tyI P t)
  | b => kBin P dst (CN (n + 1)) S op t a b
def kMake (P : Program) (dst : Option Nat) (n : Nat) (C : AS → Prop) (S : AS) (a b : AV) : Option TI → Prop
  | some i => i.kind = 1 ∧ match tyI P i.elem with
    | some ie => match a with
      | .raw (.int .i64 q) => match b with
        | .raw (.int .i64 q') => (q = q' ∧ 0 < ie.size ∧ ie.zero.length = ie.size ∧ ie.zero.all (·.oneCell') = true) ∧ (0 ≤ q ∧ q * ie.size ≤ 16777216 ∧ ie.bytes * q ≤ 281474976710656) ∧
          C (fin dst ⟨.hdr (8 * n), [(8 * n, some (.row i.elem ie.size (List.replicate q.toNat (ie.zero.map .raw))))], []⟩ S)
        | _ => False
      | _ => False
    | none => False
  | none => False
def kCopy (P : Program) (dst : Option Nat) (C : AS → Prop) (S : AS) (a b : AV) : Option TI → Prop
  | some i => i.kind = 1 ∧ match tyI P i.elem with
    | some ie => match a with
      | .hdr id => match S.obj id with
        | some (.row e s rows) => match S.rowsOf b with
          | some (s2, rows2) => (ie.size = s ∧ s2 = s ∧ 0 < s) ∧ rows2.length = rows.length ∧ C (fin dst ⟨.raw (.int .i64 rows.length), [(id, some (.row e s rows2))], id :: b.ids⟩ S)
          | none => False
        | _ => False
      | _ => False
    | none => False
  | none => False
def ACall (P : Program) (dst : Option Nat) (n : Nat) (CN : Nat → AS → Prop) (S : AS) (args : List AV) : AV → Prop
  | .clo (.func f) caps => ∃ E, fnB P f = true ∧ CallOk P f (args ++ caps) S n E ∧ CN (n + 1) (fin dst E S)
  | .hdr id => S.lg = none ∧ YieldOk P dst n CN S args id
  | _ => False
def kMinMax (dst : Option Nat) (C : AS → Prop) (S : AS) (mx : Bool) : List AV → Prop
  | [.raw (.int .i64 a), .raw (.int .i64 b)] => C (fin dst ⟨.raw (.int .i64 (if mx then max a b else min a b)), [], []⟩ S)
  | [.raw (.int .i64 a), .raw (.int .i64 b), .raw (.int .i64 c)] => C (fin dst ⟨.raw (.int .i64 (if mx then max (max a b) c else min (min a b) c)), [], []⟩ S)
  | [.raw (.int .i64 a), .raw (.int .i64 b), .raw (.int .i64 c), .raw (.int .i64 d)] => C (fin dst ⟨.raw (.int .i64 (if mx then max (max (max a b) c) d else min (min (min a b) c) d)), [], []⟩ S)
  | [.raw (.int .i64 a), .raw (.int .i64 b), .raw (.int .i64 c), .raw (.int .i64 d), .raw (.int .i64 e)] => C (fin dst ⟨.raw (.int .i64 (if mx then max (max (max (max a b) c) d) e else min (min (min (min a b) c) d) e)), [], []⟩ S)
  | _ => False

def kSubSl (dst : Option Nat) (C : AS → Prop) (S : AS) (rd : List Nat) (s : Nat) (rows : List (List PV)) : Option (Option Int) → Option (Option Int) → Option (Option Int) → Prop
  | some ql, some qh, some qm => (qm.isSome = true → qh.isSome = true) ∧ (0 ≤ ql.getD 0 ∧ ql.getD 0 ≤ qh.getD rows.length ∧ qh.getD rows.length ≤ rows.length) ∧ (match qm with | some q => qh.getD rows.length ≤ q ∧ q ≤ rows.length | none => True) ∧
      C (fin dst ⟨.sl s ((rows.drop (ql.getD 0).toNat).take ((qh.getD rows.length).toNat - (ql.getD 0).toNat)), [], rd⟩ S)
  | _, _, _ => False
def kSubRow (dst : Option Nat) (n : Nat) (C : AS → Prop) (S : AS) (id e s : Nat) (rows : List (List PV)) (lo : Option Operand) : Option (Option Int) → Option (Option Int) → Prop
  | some ql, some qh => match lo with
    | none => (0 ≤ qh.getD rows.length ∧ qh.getD rows.length ≤ rows.length) ∧ C (fin dst ⟨.hdr (8 * n), [(id, none), (8 * n, some (.row e s (rows.take (qh.getD rows.length).toNat)))], [id]⟩ S)
    | some _ => (0 ≤ ql.getD 0 ∧ ql.getD 0 ≤ qh.getD rows.length ∧ qh.getD rows.length ≤ rows.length) ∧ C (fin dst ⟨.vw id s (ql.getD 0).toNat (qh.getD rows.length).toNat, [], [id]⟩ S)
  | _, _ => False
def kSubNone (P : Program) (dst : Option Nat) (n : Nat) (C : AS → Prop) (S : AS) (i : TI) (a : AV) (ql qh qm : Option (Option Int)) : Prop :=
  match S.rowsOf a with
  | some (s, _) => match ql, qh, qm with
    | some ql, some (some h), some (some m) => (ql.getD 0 = 0 ∧ h = 0 ∧ m = 0) ∧ C (fin dst ⟨.hdr (8 * n), [(8 * n, some (.row i.elem s []))], a.ids⟩ S)
    | _, _, _ => False
  | none => False
def kSub (P : Program) (dst : Option Nat) (n : Nat) (C : AS → Prop) (S : AS) (a : AV) (lo hi mx : Option Operand) : Option TI → Prop
  | some i => i.kind = 1 ∧ match tyI P i.elem with
    | some ie => match S.rowsOf a with
      | some (s, rows) => ie.size = s ∧ match mx with
        | some _ => kSubNone P dst n C S i a (optInt S lo) (optInt S hi) (optInt S mx)
        | none => match S.see a with
          | .sl s' rows => s' = s ∧ kSubSl dst C S a.deep s rows (optInt S lo) (optInt S hi) (some none)
          | .hdr id => match S.obj id with
            | some (.row e s' rows) => s' = s ∧ kSubRow dst n C S id e s rows lo (optInt S lo) (optInt S hi)
            | _ => False
          | _ => False
      | none => False
    | none => False
  | none => False
/-- one operation. -/
def aop (P : Program) (op : Op) (ty : TypeId) (dst : Option Nat) (n : Nat) (CN : Nat → AS → Prop) (S : AS) : Prop :=
  match op with
  | .move x => kMove P ty dst n (CN (n + 1)) S (S.val x)
  | .assign x => kMove P ty dst n (CN (n + 1)) S (S.val x)
  | .pick c x y => kPick dst (CN (n + 1)) S (S.val x) (S.val y) (S.val c)
  | .alloc t => kAlloc P dst t n (CN (n + 1)) S (tyI P t)
  | .box t x => kBoxV P dst t n (CN (n + 1)) S (S.val x)
  | .build t parts => kBuild P dst n t (CN (n + 1)) S parts.toList (tyI P t)
  | .buildSlice t m parts => kSlice P dst m n (CN (n + 1)) S parts.toList (tyI P t)
  | .load t x => kLoad dst (CN (n + 1)) S (S.val x) (tyI P t)
  | .store t x y => kStore dst (CN (n + 1)) S (S.val x) (S.val y) (tyI P t)
  | .fieldAddr t x f => kField dst (CN (n + 1)) S f (S.val x) (tyI P t)
  | .indexAddr t x y => kIndex P dst (CN (n + 1)) S t (S.val x) (S.val y) (tyI P t)
  | .index t x y => kStrIdx dst (CN (n + 1)) S (P.underlying t) (S.val x) (S.val y)
  | .binOp op t x y _ => kBin0 P dst n CN S op t (S.val x) (S.val y)
  | .makeSlice t x y => kMake P dst n (CN (n + 1)) S (S.val x) (S.val y) (tyI P t)
  | .unOp op _ x => kUn dst (CN (n + 1)) S op (S.val x)
  | .convert t u x => kConv P dst (CN (n + 1)) S (P.underlying u) (S.val x) (tyI P t)
  | .field t x f => kPart dst (CN (n + 1)) S f (S.val x) ((fieldT P t f).bind (tyI P)) (tyI P t)
  | .extract x k => kExtract dst (CN (n + 1)) S k (S.val x)
  | .nilCheck x => kNil dst (CN (n + 1)) S (S.val x)
  | .slice t x lo hi mx => kSub P dst n (CN (n + 1)) S (S.val x) lo hi mx (tyI P t)
  | .makeFunc f fs xs => fs.toList = [] ∧ CN (n + 1) (fin dst ⟨.clo f (xs.toList.map S.val), [], []⟩ S)
  | .call { callee := .value f, args, argTypes := _ } => ACall P dst n CN S (args.toList.map S.val) (S.val f)
  | .call { callee := .builtin b, args, argTypes } => match b with
    | .len => match args.toList, argTypes.toList with
      | [x], [t] => kLenS dst (CN (n + 1)) S (P.underlying t) (tyI P t) (S.val x)
      | _, _ => False
    | .append => match args.toList, argTypes.toList with
      | [x, y], [t, u] => t = u ∧ kAppend P dst n (CN (n + 1)) S (S.val x) (S.val y) (tyI P t)
      | _, _ => False
    | .copy => match args.toList, argTypes.toList with
      | [x, y], [t, _] => kCopy P dst (CN (n + 1)) S (S.val x) (S.val y) (tyI P t)
      | _, _ => False
    | .clear => match args.toList, argTypes.toList with
      | [x], [t] => kClear P dst (CN (n + 1)) S (S.val x) (tyI P t)
      | _, _ => False
    | .max => kMinMax dst (CN (n + 1)) S true (args.toList.map S.val)
    | .min => kMinMax dst (CN (n + 1)) S false (args.toList.map S.val)
    | _ => False
  | _ => False
def skipK (dst : Option Nat) (C : AS → Prop) (S : AS) : Prop := C (fin dst ⟨.raw undef, [], []⟩ S)
/-- what a guard reads: a bool; of what was left out nothing. -/
def bv : Value → Option Bool
  | .bool b => some b
  | _ => none
theorem yielded_bv {ops : Array Oper} {tm : Array Value} {j d : Nat} {v : Value} (hb : (ops[j]?).bind (·.dst) = some d) (h : tm.getD d undef = v) : yielded ops tm j = bv v := by
  unfold yielded
  rw [hb]
  simp only [Array.getD_eq_getD_getElem?] at h
  subst h
  simp only [Option.bind_some]
  cases tm[d]? with
  | none => rfl
  | some t => cases t <;> rfl
def gsplit (want : Bool) (d : Nat) (T F : AS → Prop) (S : AS) : AV → Prop
  | .raw (.tuple _) => F S
  | .raw (.bool b) => (b = want → T (S.put d (.raw (.bool want)))) ∧ (b = !want → F (S.put d (.raw (.bool (!want)))))
  | _ => False
def aguard (D : List (Option Nat)) (T F : AS → Prop) (S : AS) : Option (Nat × Bool) → Prop
  | none => T S
  | some (j, want) => match D[j]? with
    | some (some d) => gsplit want d T F S (S.get d)
    | _ => False
/-- operations, one behind the other. -/
def AOps (P : Program) (D : List (Option Nat)) : List Oper → (Nat → AS → Prop) → Nat → AS → Prop
  | [], K, n, S => K n S
  | o :: rest, K, n, S => aguard D (aop P o.op o.type o.dst n (AOps P D rest K)) (skipK o.dst (AOps P D rest K (n + 1))) S o.guard
end Go.Proofs.Ytiidfcadmdahmaa
