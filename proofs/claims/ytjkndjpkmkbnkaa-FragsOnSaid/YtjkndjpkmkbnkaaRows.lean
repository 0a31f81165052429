/-
  No cell of these rows narrows 'for every input' (looked for: loops, veiled, ifaces, maps, wideKeys, modest, calm, conditions, laid).
  DERIVED. THE GIVEN ROWS OF THIS SEAT. 5 by the template 'for every input the law returns true; each argument reads behind the call as it read before'; 0 by the template 'total and deterministic' (their statements: YtjkndjpkmkbnkaaTotals.lean).
  GIVEN WITH THE SEED: the statements are not yours to turn. If you find one false, say at which input.
  Laid BY PROGRAM, IN A SANDBOX (cutbox-rows.mjs): the forced cells as the released guide's own fill.sh prints them over the translation 08dd9a5544f90b20… (all of the seat's roots in one cut). By AI agents, Wed Nov 11 2026. No macro, syntax, notation, axiom, sorry.
-/
import Derived.Test.YtjkndjpkmkbnkaaChecked
import GoSem.Claim
import GoSem.ClaimJoined
import GoSem.ClaimMapViews
import Derived.JoinedTies
import Derived.KernelRfl
namespace Go.Proofs.Ytjkndjpkmkbnkaa
/- THE CELL 'sum', in the pinned program and in every row, IS THE sha256 OF THE DUMP (.gsa) THAT YtjkndjpkmkbnkaaProg.lean LOADS. Nothing in Lean hashes anything: it is a label: what it is worth is what the hold of that sum in a sandbox is worth. -/
noncomputable def Try.pinned : Pinned := { name := "ytjkndjpkmkbnkaa", sum := "08dd9a5544f90b2036863e8687c729ae8daf6ebcfba43ccc42674fc56f37c1d0", checked := Try.checked }
namespace Rows
def none {H : Type} : Left H := { results := [], args := [] }

/-- 'gatefoldlaw20.HeadsStay': WHATEVER THE INPUT: true; the input reads as it did. -/
def headsStaySpec : ChangeSpec := { name := "headsStay", fn := fun _ => fun
  | [d1, d2, d3] => { results := [.lit (.bool true)], args := [d1, d2, d3] }
  | _ => none }
def headsStayRow : OpenClaim := { program := "ytjkndjpkmkbnkaa", sum := "08dd9a5544f90b2036863e8687c729ae8daf6ebcfba43ccc42674fc56f37c1d0", func := "gatefold/gatefoldlaw20.HeadsStay", spec := "headsStay", unfollowed := true, recurses := true, apart := false }
def HeadsStaySaid : Prop := headsStayRow.holds Try.pinned (OpenSpec.ofChange headsStaySpec)

/-- ITS FALSE NEIGHBOUR: 'it returns false'. Refute it at one input. -/
def headsStayWrong : ChangeSpec := { name := "headsStay", fn := fun _ => fun
  | [d1, d2, d3] => { results := [.lit (.bool false)], args := [d1, d2, d3] }
  | _ => none }
def HeadsStayWrongFalsely : Prop := headsStayRow.holds Try.pinned (OpenSpec.ofChange headsStayWrong)

/-- 'gatefoldlaw20.HeadsWhole': WHATEVER THE INPUT: true; the input reads as it did. -/
def headsWholeSpec : ChangeSpec := { name := "headsWhole", fn := fun _ => fun
  | [d1, d2, d3] => { results := [.lit (.bool true)], args := [d1, d2, d3] }
  | _ => none }
def headsWholeRow : OpenClaim := { program := "ytjkndjpkmkbnkaa", sum := "08dd9a5544f90b2036863e8687c729ae8daf6ebcfba43ccc42674fc56f37c1d0", func := "gatefold/gatefoldlaw20.HeadsWhole", spec := "headsWhole", unfollowed := true, recurses := true, apart := false }
def HeadsWholeSaid : Prop := headsWholeRow.holds Try.pinned (OpenSpec.ofChange headsWholeSpec)

/-- ITS FALSE NEIGHBOUR: 'it returns false'. Refute it at one input. -/
def headsWholeWrong : ChangeSpec := { name := "headsWhole", fn := fun _ => fun
  | [d1, d2, d3] => { results := [.lit (.bool false)], args := [d1, d2, d3] }
  | _ => none }
def HeadsWholeWrongFalsely : Prop := headsWholeRow.holds Try.pinned (OpenSpec.ofChange headsWholeWrong)

/-- 'gatefoldlaw20.HeadsAll': WHATEVER THE INPUT: true; the input reads as it did. -/
def headsAllSpec : ChangeSpec := { name := "headsAll", fn := fun _ => fun
  | [d1, d2, d3] => { results := [.lit (.bool true)], args := [d1, d2, d3] }
  | _ => none }
def headsAllRow : OpenClaim := { program := "ytjkndjpkmkbnkaa", sum := "08dd9a5544f90b2036863e8687c729ae8daf6ebcfba43ccc42674fc56f37c1d0", func := "gatefold/gatefoldlaw20.HeadsAll", spec := "headsAll", unfollowed := true, recurses := true, apart := false }
def HeadsAllSaid : Prop := headsAllRow.holds Try.pinned (OpenSpec.ofChange headsAllSpec)

/-- ITS FALSE NEIGHBOUR: 'it returns false'. Refute it at one input. -/
def headsAllWrong : ChangeSpec := { name := "headsAll", fn := fun _ => fun
  | [d1, d2, d3] => { results := [.lit (.bool false)], args := [d1, d2, d3] }
  | _ => none }
def HeadsAllWrongFalsely : Prop := headsAllRow.holds Try.pinned (OpenSpec.ofChange headsAllWrong)

/-- 'gatefoldlaw27.FragsPieces': WHATEVER THE INPUT: true; the input reads as it did. -/
def fragsPiecesSpec : ChangeSpec := { name := "fragsPieces", fn := fun _ => fun
  | [d1, d2, d3] => { results := [.lit (.bool true)], args := [d1, d2, d3] }
  | _ => none }
def fragsPiecesRow : OpenClaim := { program := "ytjkndjpkmkbnkaa", sum := "08dd9a5544f90b2036863e8687c729ae8daf6ebcfba43ccc42674fc56f37c1d0", func := "gatefold/gatefoldlaw27.FragsPieces", spec := "fragsPieces", unfollowed := true, recurses := true, apart := false }
def FragsPiecesSaid : Prop := fragsPiecesRow.holds Try.pinned (OpenSpec.ofChange fragsPiecesSpec)

/-- ITS FALSE NEIGHBOUR: 'it returns false'. Refute it at one input. -/
def fragsPiecesWrong : ChangeSpec := { name := "fragsPieces", fn := fun _ => fun
  | [d1, d2, d3] => { results := [.lit (.bool false)], args := [d1, d2, d3] }
  | _ => none }
def FragsPiecesWrongFalsely : Prop := fragsPiecesRow.holds Try.pinned (OpenSpec.ofChange fragsPiecesWrong)

/-- 'gatefoldlaw27.FragsOn': WHATEVER THE INPUT: true; the input reads as it did. -/
def fragsOnSpec : ChangeSpec := { name := "fragsOn", fn := fun _ => fun
  | [d1, d2, d3] => { results := [.lit (.bool true)], args := [d1, d2, d3] }
  | _ => none }
def fragsOnRow : OpenClaim := { program := "ytjkndjpkmkbnkaa", sum := "08dd9a5544f90b2036863e8687c729ae8daf6ebcfba43ccc42674fc56f37c1d0", func := "gatefold/gatefoldlaw27.FragsOn", spec := "fragsOn", unfollowed := true, recurses := true, apart := false }
def FragsOnSaid : Prop := fragsOnRow.holds Try.pinned (OpenSpec.ofChange fragsOnSpec)

/-- ITS FALSE NEIGHBOUR: 'it returns false'. Refute it at one input. -/
def fragsOnWrong : ChangeSpec := { name := "fragsOn", fn := fun _ => fun
  | [d1, d2, d3] => { results := [.lit (.bool false)], args := [d1, d2, d3] }
  | _ => none }
def FragsOnWrongFalsely : Prop := fragsOnRow.holds Try.pinned (OpenSpec.ofChange fragsOnWrong)

/- THE SECOND FORM. 'bulk': how many values and letters a reading holds, each counted each time it is reached (what is shared counts as often as it is met; a slice's spare places count too). A statement '..UptoSaid' is the law's where the arguments, and the package variables that the reading takes, are together of bulk at most 1048576: NARROWER than '..Said'. Prove '..Said' where nothing that the law and all that it calls make is longer than what came in: it says more and counts as full. Else prove '..UptoSaid'. A law counts once. -/
mutual
def uptoBulk {H : Type} : DataW H → Nat
  | .lit (.string bytes) => bytes.length + 1
  | .lit _ => 1
  | .nil => 1
  | .ptr d => uptoBulk d + 1
  | .slice elems spare => uptoBulkAll elems + uptoBulkAll spare + 1
  | .agg parts => uptoBulkAll parts + 1
  | .iface _ d => uptoBulk d + 1
  | .map entries => uptoBulkEntries entries + 1
  | .held _ => 1
def uptoBulkAll {H : Type} : List (DataW H) → Nat
  | [] => 0
  | d :: r => uptoBulk d + uptoBulkAll r
def uptoBulkEntries {H : Type} : List (Lit × DataW H) → Nat
  | [] => 0
  | x :: r => uptoBulkEntry x + uptoBulkEntries r
def uptoBulkEntry {H : Type} : Lit × DataW H → Nat
  | (.string bytes, d) => bytes.length + uptoBulk d + 1
  | (_, d) => uptoBulk d + 1
 end
def uptoSmall : (H : Type) → List (DataW H) → Bool := fun _ ds => decide (uptoBulkAll ds ≤ 1048576)
def OpenSpec.upto (s : _root_.Go.ChangeSpec) : _root_.Go.OpenSpec := { _root_.Go.OpenSpec.ofChange s with cond := some uptoSmall }

/-- 'gatefoldlaw20.HeadsStay', WHERE WHAT IT READS IS OF BULK AT MOST 1048576: true; the input reads as it did. -/
def headsStayUptoRow : OpenClaim := { program := "ytjkndjpkmkbnkaa", sum := "08dd9a5544f90b2036863e8687c729ae8daf6ebcfba43ccc42674fc56f37c1d0", func := "gatefold/gatefoldlaw20.HeadsStay", spec := "headsStay", unfollowed := true, recurses := true, apart := false, narrowed := true }
def HeadsStayUptoSaid : Prop := headsStayUptoRow.holds Try.pinned (OpenSpec.upto headsStaySpec)

/-- 'gatefoldlaw20.HeadsWhole', WHERE WHAT IT READS IS OF BULK AT MOST 1048576: true; the input reads as it did. -/
def headsWholeUptoRow : OpenClaim := { program := "ytjkndjpkmkbnkaa", sum := "08dd9a5544f90b2036863e8687c729ae8daf6ebcfba43ccc42674fc56f37c1d0", func := "gatefold/gatefoldlaw20.HeadsWhole", spec := "headsWhole", unfollowed := true, recurses := true, apart := false, narrowed := true }
def HeadsWholeUptoSaid : Prop := headsWholeUptoRow.holds Try.pinned (OpenSpec.upto headsWholeSpec)

/-- 'gatefoldlaw20.HeadsAll', WHERE WHAT IT READS IS OF BULK AT MOST 1048576: true; the input reads as it did. -/
def headsAllUptoRow : OpenClaim := { program := "ytjkndjpkmkbnkaa", sum := "08dd9a5544f90b2036863e8687c729ae8daf6ebcfba43ccc42674fc56f37c1d0", func := "gatefold/gatefoldlaw20.HeadsAll", spec := "headsAll", unfollowed := true, recurses := true, apart := false, narrowed := true }
def HeadsAllUptoSaid : Prop := headsAllUptoRow.holds Try.pinned (OpenSpec.upto headsAllSpec)

/-- 'gatefoldlaw27.FragsPieces', WHERE WHAT IT READS IS OF BULK AT MOST 1048576: true; the input reads as it did. -/
def fragsPiecesUptoRow : OpenClaim := { program := "ytjkndjpkmkbnkaa", sum := "08dd9a5544f90b2036863e8687c729ae8daf6ebcfba43ccc42674fc56f37c1d0", func := "gatefold/gatefoldlaw27.FragsPieces", spec := "fragsPieces", unfollowed := true, recurses := true, apart := false, narrowed := true }
def FragsPiecesUptoSaid : Prop := fragsPiecesUptoRow.holds Try.pinned (OpenSpec.upto fragsPiecesSpec)

/-- 'gatefoldlaw27.FragsOn', WHERE WHAT IT READS IS OF BULK AT MOST 1048576: true; the input reads as it did. -/
def fragsOnUptoRow : OpenClaim := { program := "ytjkndjpkmkbnkaa", sum := "08dd9a5544f90b2036863e8687c729ae8daf6ebcfba43ccc42674fc56f37c1d0", func := "gatefold/gatefoldlaw27.FragsOn", spec := "fragsOn", unfollowed := true, recurses := true, apart := false, narrowed := true }
def FragsOnUptoSaid : Prop := fragsOnUptoRow.holds Try.pinned (OpenSpec.upto fragsOnSpec)

end Rows
end Go.Proofs.Ytjkndjpkmkbnkaa
