/-
  No cell of these rows narrows 'for every input' (looked for: loops, veiled, ifaces, maps, wideKeys, modest, calm, conditions, laid).
  DERIVED. THE GIVEN ROWS OF THIS SEAT. 3 by the template 'for every input the law returns true; each argument reads behind the call as it read before'; 0 by the template 'total and deterministic' (their statements: YtblmebjhhanoaaaGreatTotals.lean).
  GIVEN WITH THE SEED: the statements are not yours to turn. If you find one false, say at which input.
  Laid BY PROGRAM, IN A SANDBOX (cutbox-rows.mjs): the forced cells as the released guide's own fill.sh prints them over the translation 7ab0d8644ff1cff8… (all of the seat's roots in one cut). By AI agents, Wed Nov 11 2026. No macro, syntax, notation, axiom, sorry.
-/
import Derived.Test.YtblmebjhhanoaaaGreatChecked
import GoSem.Claim
import GoSem.ClaimJoined
import GoSem.ClaimMapViews
import Derived.JoinedTies
import Derived.KernelRfl
namespace Go.Proofs.YtblmebjhhanoaaaGreat
/- THE CELL 'sum', in the pinned program and in every row, IS THE sha256 OF THE DUMP (.gsa) THAT YtblmebjhhanoaaaGreatProg.lean LOADS. Nothing in Lean hashes anything: it is a label: what it is worth is what the hold of that sum in a sandbox is worth. -/
noncomputable def Tryz.pinned : Pinned := { name := "ytblmebjhhanoaaagreat", sum := "7ab0d8644ff1cff89ce617f10735fc56b7c54c44785bc0b60411e1a1b4da8f04", checked := Tryz.checked }
namespace Rows
def none {H : Type} : Left H := { results := [], args := [] }

/-- 'gatefoldlaw14.FlowGalleys': WHATEVER THE INPUT: true; the input reads as it did. -/
def flowGalleysSpec : ChangeSpec := { name := "flowGalleys", fn := fun _ => fun
  | [d1, d2] => { results := [.lit (.bool true)], args := [d1, d2] }
  | _ => none }
def flowGalleysRow : OpenClaim := { program := "ytblmebjhhanoaaagreat", sum := "7ab0d8644ff1cff89ce617f10735fc56b7c54c44785bc0b60411e1a1b4da8f04", func := "gatefold/gatefoldlaw14.FlowGalleys", spec := "flowGalleys", unfollowed := true, recurses := true, apart := false }
def FlowGalleysSaid : Prop := flowGalleysRow.holds Tryz.pinned (OpenSpec.ofChange flowGalleysSpec)

/-- ITS FALSE NEIGHBOUR: 'it returns false'. Refute it at one input. -/
def flowGalleysWrong : ChangeSpec := { name := "flowGalleys", fn := fun _ => fun
  | [d1, d2] => { results := [.lit (.bool false)], args := [d1, d2] }
  | _ => none }
def FlowGalleysWrongFalsely : Prop := flowGalleysRow.holds Tryz.pinned (OpenSpec.ofChange flowGalleysWrong)

/-- 'gatefoldlaw14.FlowSteps': WHATEVER THE INPUT: true; the input reads as it did. -/
def flowStepsSpec : ChangeSpec := { name := "flowSteps", fn := fun _ => fun
  | [d1, d2] => { results := [.lit (.bool true)], args := [d1, d2] }
  | _ => none }
def flowStepsRow : OpenClaim := { program := "ytblmebjhhanoaaagreat", sum := "7ab0d8644ff1cff89ce617f10735fc56b7c54c44785bc0b60411e1a1b4da8f04", func := "gatefold/gatefoldlaw14.FlowSteps", spec := "flowSteps", unfollowed := true, recurses := true, apart := false }
def FlowStepsSaid : Prop := flowStepsRow.holds Tryz.pinned (OpenSpec.ofChange flowStepsSpec)

/-- ITS FALSE NEIGHBOUR: 'it returns false'. Refute it at one input. -/
def flowStepsWrong : ChangeSpec := { name := "flowSteps", fn := fun _ => fun
  | [d1, d2] => { results := [.lit (.bool false)], args := [d1, d2] }
  | _ => none }
def FlowStepsWrongFalsely : Prop := flowStepsRow.holds Tryz.pinned (OpenSpec.ofChange flowStepsWrong)

/-- 'gatefoldlaw15.AtomsParts': WHATEVER THE INPUT: true; the input reads as it did. -/
def atomsPartsSpec : ChangeSpec := { name := "atomsParts", fn := fun _ => fun
  | [d1, d2, d3, d4] => { results := [.lit (.bool true)], args := [d1, d2, d3, d4] }
  | _ => none }
def atomsPartsRow : OpenClaim := { program := "ytblmebjhhanoaaagreat", sum := "7ab0d8644ff1cff89ce617f10735fc56b7c54c44785bc0b60411e1a1b4da8f04", func := "gatefold/gatefoldlaw15.AtomsParts", spec := "atomsParts", unfollowed := true, recurses := true, apart := false }
def AtomsPartsSaid : Prop := atomsPartsRow.holds Tryz.pinned (OpenSpec.ofChange atomsPartsSpec)

/-- ITS FALSE NEIGHBOUR: 'it returns false'. Refute it at one input. -/
def atomsPartsWrong : ChangeSpec := { name := "atomsParts", fn := fun _ => fun
  | [d1, d2, d3, d4] => { results := [.lit (.bool false)], args := [d1, d2, d3, d4] }
  | _ => none }
def AtomsPartsWrongFalsely : Prop := atomsPartsRow.holds Tryz.pinned (OpenSpec.ofChange atomsPartsWrong)

/- THE SECOND FORM. 'bulk': how many values and letters a reading holds, each counted each time it is reached (what is shared counts as often as it is met; a slice's spare places count too). A statement '..UptoSaid' is the law's where the arguments, and the package variables that the reading takes, are together of bulk at most 1048576: NARROWER than '..Said'. Prove '..Said' where nothing that the law and all that it calls make is longer than what came in: it says more and counts as full. Else prove '..UptoSaid'. A law counts once. -/
mutual
def uptoBulk {H : Type} : DataW H → Nat
  | .lit (.string bytes) => bytes.length + 1
  | .lit _ => 1
  | .nil => 1
  | .ptr d => uptoBulk d + 1
  | .slice elems spare => uptoBulkAll elems + uptoBulkAll spare + 1
  | .agg parts => uptoBulkAll parts + 1
  | .iface _ d => uptoBulk d + 1
  | .map entries => uptoBulkEntries entries + 1
  | .held _ => 1
def uptoBulkAll {H : Type} : List (DataW H) → Nat
  | [] => 0
  | d :: r => uptoBulk d + uptoBulkAll r
def uptoBulkEntries {H : Type} : List (Lit × DataW H) → Nat
  | [] => 0
  | x :: r => uptoBulkEntry x + uptoBulkEntries r
def uptoBulkEntry {H : Type} : Lit × DataW H → Nat
  | (.string bytes, d) => bytes.length + uptoBulk d + 1
  | (_, d) => uptoBulk d + 1
 end
def uptoSmall : (H : Type) → List (DataW H) → Bool := fun _ ds => decide (uptoBulkAll ds ≤ 1048576)
def OpenSpec.upto (s : _root_.Go.ChangeSpec) : _root_.Go.OpenSpec := { _root_.Go.OpenSpec.ofChange s with cond := some uptoSmall }

/-- 'gatefoldlaw14.FlowGalleys', WHERE WHAT IT READS IS OF BULK AT MOST 1048576: true; the input reads as it did. -/
def flowGalleysUptoRow : OpenClaim := { program := "ytblmebjhhanoaaagreat", sum := "7ab0d8644ff1cff89ce617f10735fc56b7c54c44785bc0b60411e1a1b4da8f04", func := "gatefold/gatefoldlaw14.FlowGalleys", spec := "flowGalleys", unfollowed := true, recurses := true, apart := false, narrowed := true }
def FlowGalleysUptoSaid : Prop := flowGalleysUptoRow.holds Tryz.pinned (OpenSpec.upto flowGalleysSpec)

/-- 'gatefoldlaw14.FlowSteps', WHERE WHAT IT READS IS OF BULK AT MOST 1048576: true; the input reads as it did. -/
def flowStepsUptoRow : OpenClaim := { program := "ytblmebjhhanoaaagreat", sum := "7ab0d8644ff1cff89ce617f10735fc56b7c54c44785bc0b60411e1a1b4da8f04", func := "gatefold/gatefoldlaw14.FlowSteps", spec := "flowSteps", unfollowed := true, recurses := true, apart := false, narrowed := true }
def FlowStepsUptoSaid : Prop := flowStepsUptoRow.holds Tryz.pinned (OpenSpec.upto flowStepsSpec)

/-- 'gatefoldlaw15.AtomsParts', WHERE WHAT IT READS IS OF BULK AT MOST 1048576: true; the input reads as it did. -/
def atomsPartsUptoRow : OpenClaim := { program := "ytblmebjhhanoaaagreat", sum := "7ab0d8644ff1cff89ce617f10735fc56b7c54c44785bc0b60411e1a1b4da8f04", func := "gatefold/gatefoldlaw15.AtomsParts", spec := "atomsParts", unfollowed := true, recurses := true, apart := false, narrowed := true }
def AtomsPartsUptoSaid : Prop := atomsPartsUptoRow.holds Tryz.pinned (OpenSpec.upto atomsPartsSpec)

end Rows
end Go.Proofs.YtblmebjhhanoaaaGreat
