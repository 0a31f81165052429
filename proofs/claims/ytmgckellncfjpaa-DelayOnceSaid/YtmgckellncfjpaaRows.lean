/-
  No cell of these rows narrows 'for every input' (looked for: loops, veiled, ifaces, maps, wideKeys, modest, calm, conditions, laid).
  DERIVED. THE GIVEN ROWS OF THIS SEAT. 7 by the template 'for every input the law returns true; each argument reads behind the call as it read before'; 0 by the template 'total and deterministic' (their statements: YtmgckellncfjpaaTotals.lean).
  GIVEN WITH THE SEED: the statements are not yours to turn. If you find one false, say at which input.
  Laid BY PROGRAM, IN A SANDBOX (cutbox-rows.mjs): the forced cells as the released guide's own fill.sh prints them over the translation c4ce75430ed584b9… (all of the seat's roots in one cut). By AI agents, Wed Nov 11 2026. No macro, syntax, notation, axiom, sorry.
-/
import Derived.Test.YtmgckellncfjpaaChecked
import GoSem.Claim
import GoSem.ClaimJoined
import GoSem.ClaimMapViews
import Derived.JoinedTies
import Derived.KernelRfl
namespace Go.Proofs.Ytmgckellncfjpaa
/- THE CELL 'sum', in the pinned program and in every row, IS THE sha256 OF THE DUMP (.gsa) THAT YtmgckellncfjpaaProg.lean LOADS. Nothing in Lean hashes anything: it is a label: what it is worth is what the hold of that sum in a sandbox is worth. -/
noncomputable def Try.pinned : Pinned := { name := "ytmgckellncfjpaa", sum := "c4ce75430ed584b9af884653b315ca2e3302075f80b7e4a5845a95ce7666f880", checked := Try.checked }
namespace Rows
def none {H : Type} : Left H := { results := [], args := [] }

/-- 'gatefoldlaw24.SliceAll': WHATEVER THE INPUT: true; the input reads as it did. -/
def sliceAllSpec : ChangeSpec := { name := "sliceAll", fn := fun _ => fun
  | [d1, d2, d3] => { results := [.lit (.bool true)], args := [d1, d2, d3] }
  | _ => none }
def sliceAllRow : OpenClaim := { program := "ytmgckellncfjpaa", sum := "c4ce75430ed584b9af884653b315ca2e3302075f80b7e4a5845a95ce7666f880", func := "gatefold/gatefoldlaw24.SliceAll", spec := "sliceAll", apart := false }
def SliceAllSaid : Prop := sliceAllRow.holds Try.pinned (OpenSpec.ofChange sliceAllSpec)

/-- ITS FALSE NEIGHBOUR: 'it returns false'. Refute it at one input. -/
def sliceAllWrong : ChangeSpec := { name := "sliceAll", fn := fun _ => fun
  | [d1, d2, d3] => { results := [.lit (.bool false)], args := [d1, d2, d3] }
  | _ => none }
def SliceAllWrongFalsely : Prop := sliceAllRow.holds Try.pinned (OpenSpec.ofChange sliceAllWrong)

/-- 'gatefoldlaw21.FitTells': WHATEVER THE INPUT: true; the input reads as it did. -/
def fitTellsSpec : ChangeSpec := { name := "fitTells", fn := fun _ => fun
  | [d1, d2, d3, d4, d5, d6] => { results := [.lit (.bool true)], args := [d1, d2, d3, d4, d5, d6] }
  | _ => none }
def fitTellsRow : OpenClaim := { program := "ytmgckellncfjpaa", sum := "c4ce75430ed584b9af884653b315ca2e3302075f80b7e4a5845a95ce7666f880", func := "gatefold/gatefoldlaw21.FitTells", spec := "fitTells", unfollowed := true, recurses := true, apart := false }
def FitTellsSaid : Prop := fitTellsRow.holds Try.pinned (OpenSpec.ofChange fitTellsSpec)

/-- ITS FALSE NEIGHBOUR: 'it returns false'. Refute it at one input. -/
def fitTellsWrong : ChangeSpec := { name := "fitTells", fn := fun _ => fun
  | [d1, d2, d3, d4, d5, d6] => { results := [.lit (.bool false)], args := [d1, d2, d3, d4, d5, d6] }
  | _ => none }
def FitTellsWrongFalsely : Prop := fitTellsRow.holds Try.pinned (OpenSpec.ofChange fitTellsWrong)

/-- 'gatefoldlaw23.DelayTells': WHATEVER THE INPUT: true; the input reads as it did. -/
def delayTellsSpec : ChangeSpec := { name := "delayTells", fn := fun _ => fun
  | [d1, d2, d3, d4, d5, d6, d7, d8] => { results := [.lit (.bool true)], args := [d1, d2, d3, d4, d5, d6, d7, d8] }
  | _ => none }
def delayTellsRow : OpenClaim := { program := "ytmgckellncfjpaa", sum := "c4ce75430ed584b9af884653b315ca2e3302075f80b7e4a5845a95ce7666f880", func := "gatefold/gatefoldlaw23.DelayTells", spec := "delayTells", unfollowed := true, recurses := true, apart := false }
def DelayTellsSaid : Prop := delayTellsRow.holds Try.pinned (OpenSpec.ofChange delayTellsSpec)

/-- ITS FALSE NEIGHBOUR: 'it returns false'. Refute it at one input. -/
def delayTellsWrong : ChangeSpec := { name := "delayTells", fn := fun _ => fun
  | [d1, d2, d3, d4, d5, d6, d7, d8] => { results := [.lit (.bool false)], args := [d1, d2, d3, d4, d5, d6, d7, d8] }
  | _ => none }
def DelayTellsWrongFalsely : Prop := delayTellsRow.holds Try.pinned (OpenSpec.ofChange delayTellsWrong)

/-- 'gatefoldlaw23.DelayOnce': WHATEVER THE INPUT: true; the input reads as it did. -/
def delayOnceSpec : ChangeSpec := { name := "delayOnce", fn := fun _ => fun
  | [d1, d2, d3, d4, d5, d6, d7, d8] => { results := [.lit (.bool true)], args := [d1, d2, d3, d4, d5, d6, d7, d8] }
  | _ => none }
def delayOnceRow : OpenClaim := { program := "ytmgckellncfjpaa", sum := "c4ce75430ed584b9af884653b315ca2e3302075f80b7e4a5845a95ce7666f880", func := "gatefold/gatefoldlaw23.DelayOnce", spec := "delayOnce", unfollowed := true, recurses := true, apart := false }
def DelayOnceSaid : Prop := delayOnceRow.holds Try.pinned (OpenSpec.ofChange delayOnceSpec)

/-- ITS FALSE NEIGHBOUR: 'it returns false'. Refute it at one input. -/
def delayOnceWrong : ChangeSpec := { name := "delayOnce", fn := fun _ => fun
  | [d1, d2, d3, d4, d5, d6, d7, d8] => { results := [.lit (.bool false)], args := [d1, d2, d3, d4, d5, d6, d7, d8] }
  | _ => none }
def DelayOnceWrongFalsely : Prop := delayOnceRow.holds Try.pinned (OpenSpec.ofChange delayOnceWrong)

/-- 'gatefoldlaw24.SliceWhole': WHATEVER THE INPUT: true; the input reads as it did. -/
def sliceWholeSpec : ChangeSpec := { name := "sliceWhole", fn := fun _ => fun
  | [d1, d2, d3, d4, d5] => { results := [.lit (.bool true)], args := [d1, d2, d3, d4, d5] }
  | _ => none }
def sliceWholeRow : OpenClaim := { program := "ytmgckellncfjpaa", sum := "c4ce75430ed584b9af884653b315ca2e3302075f80b7e4a5845a95ce7666f880", func := "gatefold/gatefoldlaw24.SliceWhole", spec := "sliceWhole", unfollowed := true, recurses := true, apart := false }
def SliceWholeSaid : Prop := sliceWholeRow.holds Try.pinned (OpenSpec.ofChange sliceWholeSpec)

/-- ITS FALSE NEIGHBOUR: 'it returns false'. Refute it at one input. -/
def sliceWholeWrong : ChangeSpec := { name := "sliceWhole", fn := fun _ => fun
  | [d1, d2, d3, d4, d5] => { results := [.lit (.bool false)], args := [d1, d2, d3, d4, d5] }
  | _ => none }
def SliceWholeWrongFalsely : Prop := sliceWholeRow.holds Try.pinned (OpenSpec.ofChange sliceWholeWrong)

/-- 'gatefoldlaw15.AtomsWithin': WHATEVER THE INPUT: true; the input reads as it did. -/
def atomsWithinSpec : ChangeSpec := { name := "atomsWithin", fn := fun _ => fun
  | [d1, d2, d3] => { results := [.lit (.bool true)], args := [d1, d2, d3] }
  | _ => none }
def atomsWithinRow : OpenClaim := { program := "ytmgckellncfjpaa", sum := "c4ce75430ed584b9af884653b315ca2e3302075f80b7e4a5845a95ce7666f880", func := "gatefold/gatefoldlaw15.AtomsWithin", spec := "atomsWithin", unfollowed := true, recurses := true, apart := false }
def AtomsWithinSaid : Prop := atomsWithinRow.holds Try.pinned (OpenSpec.ofChange atomsWithinSpec)

/-- ITS FALSE NEIGHBOUR: 'it returns false'. Refute it at one input. -/
def atomsWithinWrong : ChangeSpec := { name := "atomsWithin", fn := fun _ => fun
  | [d1, d2, d3] => { results := [.lit (.bool false)], args := [d1, d2, d3] }
  | _ => none }
def AtomsWithinWrongFalsely : Prop := atomsWithinRow.holds Try.pinned (OpenSpec.ofChange atomsWithinWrong)

/-- 'gatefoldlaw15.AtomsSums': WHATEVER THE INPUT: true; the input reads as it did. -/
def atomsSumsSpec : ChangeSpec := { name := "atomsSums", fn := fun _ => fun
  | [d1, d2, d3, d4] => { results := [.lit (.bool true)], args := [d1, d2, d3, d4] }
  | _ => none }
def atomsSumsRow : OpenClaim := { program := "ytmgckellncfjpaa", sum := "c4ce75430ed584b9af884653b315ca2e3302075f80b7e4a5845a95ce7666f880", func := "gatefold/gatefoldlaw15.AtomsSums", spec := "atomsSums", unfollowed := true, recurses := true, apart := false }
def AtomsSumsSaid : Prop := atomsSumsRow.holds Try.pinned (OpenSpec.ofChange atomsSumsSpec)

/-- ITS FALSE NEIGHBOUR: 'it returns false'. Refute it at one input. -/
def atomsSumsWrong : ChangeSpec := { name := "atomsSums", fn := fun _ => fun
  | [d1, d2, d3, d4] => { results := [.lit (.bool false)], args := [d1, d2, d3, d4] }
  | _ => none }
def AtomsSumsWrongFalsely : Prop := atomsSumsRow.holds Try.pinned (OpenSpec.ofChange atomsSumsWrong)

/- THE SECOND FORM. 'bulk': how many values and letters a reading holds, each counted each time it is reached (what is shared counts as often as it is met; a slice's spare places count too). A statement '..UptoSaid' is the law's where the arguments, and the package variables that the reading takes, are together of bulk at most 1048576: NARROWER than '..Said'. Prove '..Said' where nothing that the law and all that it calls make is longer than what came in: it says more and counts as full. Else prove '..UptoSaid'. A law counts once. -/
mutual
def uptoBulk {H : Type} : DataW H → Nat
  | .lit (.string bytes) => bytes.length + 1
  | .lit _ => 1
  | .nil => 1
  | .ptr d => uptoBulk d + 1
  | .slice elems spare => uptoBulkAll elems + uptoBulkAll spare + 1
  | .agg parts => uptoBulkAll parts + 1
  | .iface _ d => uptoBulk d + 1
  | .map entries => uptoBulkEntries entries + 1
  | .held _ => 1
def uptoBulkAll {H : Type} : List (DataW H) → Nat
  | [] => 0
  | d :: r => uptoBulk d + uptoBulkAll r
def uptoBulkEntries {H : Type} : List (Lit × DataW H) → Nat
  | [] => 0
  | x :: r => uptoBulkEntry x + uptoBulkEntries r
def uptoBulkEntry {H : Type} : Lit × DataW H → Nat
  | (.string bytes, d) => bytes.length + uptoBulk d + 1
  | (_, d) => uptoBulk d + 1
 end
def uptoSmall : (H : Type) → List (DataW H) → Bool := fun _ ds => decide (uptoBulkAll ds ≤ 1048576)
def OpenSpec.upto (s : _root_.Go.ChangeSpec) : _root_.Go.OpenSpec := { _root_.Go.OpenSpec.ofChange s with cond := some uptoSmall }

/-- 'gatefoldlaw24.SliceAll', WHERE WHAT IT READS IS OF BULK AT MOST 1048576: true; the input reads as it did. -/
def sliceAllUptoRow : OpenClaim := { program := "ytmgckellncfjpaa", sum := "c4ce75430ed584b9af884653b315ca2e3302075f80b7e4a5845a95ce7666f880", func := "gatefold/gatefoldlaw24.SliceAll", spec := "sliceAll", apart := false, narrowed := true }
def SliceAllUptoSaid : Prop := sliceAllUptoRow.holds Try.pinned (OpenSpec.upto sliceAllSpec)

/-- 'gatefoldlaw21.FitTells', WHERE WHAT IT READS IS OF BULK AT MOST 1048576: true; the input reads as it did. -/
def fitTellsUptoRow : OpenClaim := { program := "ytmgckellncfjpaa", sum := "c4ce75430ed584b9af884653b315ca2e3302075f80b7e4a5845a95ce7666f880", func := "gatefold/gatefoldlaw21.FitTells", spec := "fitTells", unfollowed := true, recurses := true, apart := false, narrowed := true }
def FitTellsUptoSaid : Prop := fitTellsUptoRow.holds Try.pinned (OpenSpec.upto fitTellsSpec)

/-- 'gatefoldlaw23.DelayTells', WHERE WHAT IT READS IS OF BULK AT MOST 1048576: true; the input reads as it did. -/
def delayTellsUptoRow : OpenClaim := { program := "ytmgckellncfjpaa", sum := "c4ce75430ed584b9af884653b315ca2e3302075f80b7e4a5845a95ce7666f880", func := "gatefold/gatefoldlaw23.DelayTells", spec := "delayTells", unfollowed := true, recurses := true, apart := false, narrowed := true }
def DelayTellsUptoSaid : Prop := delayTellsUptoRow.holds Try.pinned (OpenSpec.upto delayTellsSpec)

/-- 'gatefoldlaw23.DelayOnce', WHERE WHAT IT READS IS OF BULK AT MOST 1048576: true; the input reads as it did. -/
def delayOnceUptoRow : OpenClaim := { program := "ytmgckellncfjpaa", sum := "c4ce75430ed584b9af884653b315ca2e3302075f80b7e4a5845a95ce7666f880", func := "gatefold/gatefoldlaw23.DelayOnce", spec := "delayOnce", unfollowed := true, recurses := true, apart := false, narrowed := true }
def DelayOnceUptoSaid : Prop := delayOnceUptoRow.holds Try.pinned (OpenSpec.upto delayOnceSpec)

/-- 'gatefoldlaw24.SliceWhole', WHERE WHAT IT READS IS OF BULK AT MOST 1048576: true; the input reads as it did. -/
def sliceWholeUptoRow : OpenClaim := { program := "ytmgckellncfjpaa", sum := "c4ce75430ed584b9af884653b315ca2e3302075f80b7e4a5845a95ce7666f880", func := "gatefold/gatefoldlaw24.SliceWhole", spec := "sliceWhole", unfollowed := true, recurses := true, apart := false, narrowed := true }
def SliceWholeUptoSaid : Prop := sliceWholeUptoRow.holds Try.pinned (OpenSpec.upto sliceWholeSpec)

/-- 'gatefoldlaw15.AtomsWithin', WHERE WHAT IT READS IS OF BULK AT MOST 1048576: true; the input reads as it did. -/
def atomsWithinUptoRow : OpenClaim := { program := "ytmgckellncfjpaa", sum := "c4ce75430ed584b9af884653b315ca2e3302075f80b7e4a5845a95ce7666f880", func := "gatefold/gatefoldlaw15.AtomsWithin", spec := "atomsWithin", unfollowed := true, recurses := true, apart := false, narrowed := true }
def AtomsWithinUptoSaid : Prop := atomsWithinUptoRow.holds Try.pinned (OpenSpec.upto atomsWithinSpec)

/-- 'gatefoldlaw15.AtomsSums', WHERE WHAT IT READS IS OF BULK AT MOST 1048576: true; the input reads as it did. -/
def atomsSumsUptoRow : OpenClaim := { program := "ytmgckellncfjpaa", sum := "c4ce75430ed584b9af884653b315ca2e3302075f80b7e4a5845a95ce7666f880", func := "gatefold/gatefoldlaw15.AtomsSums", spec := "atomsSums", unfollowed := true, recurses := true, apart := false, narrowed := true }
def AtomsSumsUptoSaid : Prop := atomsSumsUptoRow.holds Try.pinned (OpenSpec.upto atomsSumsSpec)

end Rows
end Go.Proofs.Ytmgckellncfjpaa
