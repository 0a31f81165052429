/-
  No cell of these rows narrows 'for every input' (looked for: loops, veiled, ifaces, maps, wideKeys, modest, calm, conditions, laid).
  DERIVED. THE GIVEN ROWS OF THIS SEAT. 4 by the template 'for every input the law returns true; each argument reads behind the call as it read before'; 0 by the template 'total and deterministic' (their statements: YtblmebjhhanoaaaTotals.lean).
  GIVEN WITH THE SEED: the statements are not yours to turn. If you find one false, say at which input.
  Laid BY PROGRAM, IN A SANDBOX (cutbox-rows.mjs): the forced cells as the released guide's own fill.sh prints them over the translation 9ead63e748040b38… (all of the seat's roots in one cut). By AI agents, Wed Nov 11 2026. No macro, syntax, notation, axiom, sorry.
-/
import Derived.Test.YtblmebjhhanoaaaChecked
import GoSem.Claim
import GoSem.ClaimJoined
import GoSem.ClaimMapViews
import Derived.JoinedTies
import Derived.KernelRfl
namespace Go.Proofs.Ytblmebjhhanoaaa
/- THE CELL 'sum', in the pinned program and in every row, IS THE sha256 OF THE DUMP (.gsa) THAT YtblmebjhhanoaaaProg.lean LOADS. Nothing in Lean hashes anything: it is a label: what it is worth is what the hold of that sum in a sandbox is worth. -/
noncomputable def Try.pinned : Pinned := { name := "ytblmebjhhanoaaa", sum := "9ead63e748040b38474f9116f779d0daf0fb5fa2d97e7fab9fa0b6cfa9ce20fa", checked := Try.checked }
namespace Rows
def none {H : Type} : Left H := { results := [], args := [] }

/-- 'gatefoldlaw14.FlowOnce': WHATEVER THE INPUT: true; the input reads as it did. -/
def flowOnceSpec : ChangeSpec := { name := "flowOnce", fn := fun _ => fun
  | [d1, d2] => { results := [.lit (.bool true)], args := [d1, d2] }
  | _ => none }
def flowOnceRow : OpenClaim := { program := "ytblmebjhhanoaaa", sum := "9ead63e748040b38474f9116f779d0daf0fb5fa2d97e7fab9fa0b6cfa9ce20fa", func := "gatefold/gatefoldlaw14.FlowOnce", spec := "flowOnce", unfollowed := true, recurses := true, apart := false }
def FlowOnceSaid : Prop := flowOnceRow.holds Try.pinned (OpenSpec.ofChange flowOnceSpec)

/-- ITS FALSE NEIGHBOUR: 'it returns false'. Refute it at one input. -/
def flowOnceWrong : ChangeSpec := { name := "flowOnce", fn := fun _ => fun
  | [d1, d2] => { results := [.lit (.bool false)], args := [d1, d2] }
  | _ => none }
def FlowOnceWrongFalsely : Prop := flowOnceRow.holds Try.pinned (OpenSpec.ofChange flowOnceWrong)

/-- 'gatefoldlaw14.FlowApart': WHATEVER THE INPUT: true; the input reads as it did. -/
def flowApartSpec : ChangeSpec := { name := "flowApart", fn := fun _ => fun
  | [d1, d2] => { results := [.lit (.bool true)], args := [d1, d2] }
  | _ => none }
def flowApartRow : OpenClaim := { program := "ytblmebjhhanoaaa", sum := "9ead63e748040b38474f9116f779d0daf0fb5fa2d97e7fab9fa0b6cfa9ce20fa", func := "gatefold/gatefoldlaw14.FlowApart", spec := "flowApart", unfollowed := true, recurses := true, apart := false }
def FlowApartSaid : Prop := flowApartRow.holds Try.pinned (OpenSpec.ofChange flowApartSpec)

/-- ITS FALSE NEIGHBOUR: 'it returns false'. Refute it at one input. -/
def flowApartWrong : ChangeSpec := { name := "flowApart", fn := fun _ => fun
  | [d1, d2] => { results := [.lit (.bool false)], args := [d1, d2] }
  | _ => none }
def FlowApartWrongFalsely : Prop := flowApartRow.holds Try.pinned (OpenSpec.ofChange flowApartWrong)

/-- 'gatefoldlaw15.AtomsWithin': WHATEVER THE INPUT: true; the input reads as it did. -/
def atomsWithinSpec : ChangeSpec := { name := "atomsWithin", fn := fun _ => fun
  | [d1, d2, d3] => { results := [.lit (.bool true)], args := [d1, d2, d3] }
  | _ => none }
def atomsWithinRow : OpenClaim := { program := "ytblmebjhhanoaaa", sum := "9ead63e748040b38474f9116f779d0daf0fb5fa2d97e7fab9fa0b6cfa9ce20fa", func := "gatefold/gatefoldlaw15.AtomsWithin", spec := "atomsWithin", unfollowed := true, recurses := true, apart := false }
def AtomsWithinSaid : Prop := atomsWithinRow.holds Try.pinned (OpenSpec.ofChange atomsWithinSpec)

/-- ITS FALSE NEIGHBOUR: 'it returns false'. Refute it at one input. -/
def atomsWithinWrong : ChangeSpec := { name := "atomsWithin", fn := fun _ => fun
  | [d1, d2, d3] => { results := [.lit (.bool false)], args := [d1, d2, d3] }
  | _ => none }
def AtomsWithinWrongFalsely : Prop := atomsWithinRow.holds Try.pinned (OpenSpec.ofChange atomsWithinWrong)

/-- 'gatefoldlaw15.AtomsSums': WHATEVER THE INPUT: true; the input reads as it did. -/
def atomsSumsSpec : ChangeSpec := { name := "atomsSums", fn := fun _ => fun
  | [d1, d2, d3, d4] => { results := [.lit (.bool true)], args := [d1, d2, d3, d4] }
  | _ => none }
def atomsSumsRow : OpenClaim := { program := "ytblmebjhhanoaaa", sum := "9ead63e748040b38474f9116f779d0daf0fb5fa2d97e7fab9fa0b6cfa9ce20fa", func := "gatefold/gatefoldlaw15.AtomsSums", spec := "atomsSums", unfollowed := true, recurses := true, apart := false }
def AtomsSumsSaid : Prop := atomsSumsRow.holds Try.pinned (OpenSpec.ofChange atomsSumsSpec)

/-- ITS FALSE NEIGHBOUR: 'it returns false'. Refute it at one input. -/
def atomsSumsWrong : ChangeSpec := { name := "atomsSums", fn := fun _ => fun
  | [d1, d2, d3, d4] => { results := [.lit (.bool false)], args := [d1, d2, d3, d4] }
  | _ => none }
def AtomsSumsWrongFalsely : Prop := atomsSumsRow.holds Try.pinned (OpenSpec.ofChange atomsSumsWrong)

/- THE SECOND FORM. 'bulk': how many values and letters a reading holds, each counted each time it is reached (what is shared counts as often as it is met; a slice's spare places count too). A statement '..UptoSaid' is the law's where the arguments, and the package variables that the reading takes, are together of bulk at most 1048576: NARROWER than '..Said'. Prove '..Said' where nothing that the law and all that it calls make is longer than what came in: it says more and counts as full. Else prove '..UptoSaid'. A law counts once. -/
mutual
def uptoBulk {H : Type} : DataW H → Nat
  | .lit (.string bytes) => bytes.length + 1
  | .lit _ => 1
  | .nil => 1
  | .ptr d => uptoBulk d + 1
  | .slice elems spare => uptoBulkAll elems + uptoBulkAll spare + 1
  | .agg parts => uptoBulkAll parts + 1
  | .iface _ d => uptoBulk d + 1
  | .map entries => uptoBulkEntries entries + 1
  | .held _ => 1
def uptoBulkAll {H : Type} : List (DataW H) → Nat
  | [] => 0
  | d :: r => uptoBulk d + uptoBulkAll r
def uptoBulkEntries {H : Type} : List (Lit × DataW H) → Nat
  | [] => 0
  | x :: r => uptoBulkEntry x + uptoBulkEntries r
def uptoBulkEntry {H : Type} : Lit × DataW H → Nat
  | (.string bytes, d) => bytes.length + uptoBulk d + 1
  | (_, d) => uptoBulk d + 1
 end
def uptoSmall : (H : Type) → List (DataW H) → Bool := fun _ ds => decide (uptoBulkAll ds ≤ 1048576)
def OpenSpec.upto (s : _root_.Go.ChangeSpec) : _root_.Go.OpenSpec := { _root_.Go.OpenSpec.ofChange s with cond := some uptoSmall }

/-- 'gatefoldlaw14.FlowOnce', WHERE WHAT IT READS IS OF BULK AT MOST 1048576: true; the input reads as it did. -/
def flowOnceUptoRow : OpenClaim := { program := "ytblmebjhhanoaaa", sum := "9ead63e748040b38474f9116f779d0daf0fb5fa2d97e7fab9fa0b6cfa9ce20fa", func := "gatefold/gatefoldlaw14.FlowOnce", spec := "flowOnce", unfollowed := true, recurses := true, apart := false, narrowed := true }
def FlowOnceUptoSaid : Prop := flowOnceUptoRow.holds Try.pinned (OpenSpec.upto flowOnceSpec)

/-- 'gatefoldlaw14.FlowApart', WHERE WHAT IT READS IS OF BULK AT MOST 1048576: true; the input reads as it did. -/
def flowApartUptoRow : OpenClaim := { program := "ytblmebjhhanoaaa", sum := "9ead63e748040b38474f9116f779d0daf0fb5fa2d97e7fab9fa0b6cfa9ce20fa", func := "gatefold/gatefoldlaw14.FlowApart", spec := "flowApart", unfollowed := true, recurses := true, apart := false, narrowed := true }
def FlowApartUptoSaid : Prop := flowApartUptoRow.holds Try.pinned (OpenSpec.upto flowApartSpec)

/-- 'gatefoldlaw15.AtomsWithin', WHERE WHAT IT READS IS OF BULK AT MOST 1048576: true; the input reads as it did. -/
def atomsWithinUptoRow : OpenClaim := { program := "ytblmebjhhanoaaa", sum := "9ead63e748040b38474f9116f779d0daf0fb5fa2d97e7fab9fa0b6cfa9ce20fa", func := "gatefold/gatefoldlaw15.AtomsWithin", spec := "atomsWithin", unfollowed := true, recurses := true, apart := false, narrowed := true }
def AtomsWithinUptoSaid : Prop := atomsWithinUptoRow.holds Try.pinned (OpenSpec.upto atomsWithinSpec)

/-- 'gatefoldlaw15.AtomsSums', WHERE WHAT IT READS IS OF BULK AT MOST 1048576: true; the input reads as it did. -/
def atomsSumsUptoRow : OpenClaim := { program := "ytblmebjhhanoaaa", sum := "9ead63e748040b38474f9116f779d0daf0fb5fa2d97e7fab9fa0b6cfa9ce20fa", func := "gatefold/gatefoldlaw15.AtomsSums", spec := "atomsSums", unfollowed := true, recurses := true, apart := false, narrowed := true }
def AtomsSumsUptoSaid : Prop := atomsSumsUptoRow.holds Try.pinned (OpenSpec.upto atomsSumsSpec)

end Rows
end Go.Proofs.Ytblmebjhhanoaaa
