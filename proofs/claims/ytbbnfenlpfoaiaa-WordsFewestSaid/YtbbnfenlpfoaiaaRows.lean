/-
  No cell of these rows narrows 'for every input' (looked for: loops, veiled, ifaces, maps, wideKeys, modest, calm, conditions, laid).
  DERIVED. THE GIVEN ROWS OF THIS SEAT. 9 by the template 'for every input the law returns true; each argument reads behind the call as it read before'; 0 by the template 'total and deterministic' (their statements: YtbbnfenlpfoaiaaTotals.lean).
  GIVEN WITH THE SEED: the statements are not yours to turn. If you find one false, say at which input.
  Laid BY PROGRAM, IN A SANDBOX (cutbox-rows.mjs): the forced cells as the released guide's own fill.sh prints them over the translation 77b3bdcb0af92d97… (all of the seat's roots in one cut). By AI agents, Wed Nov 11 2026. No macro, syntax, notation, axiom, sorry.
-/
import Derived.Test.YtbbnfenlpfoaiaaChecked
import GoSem.Claim
import GoSem.ClaimJoined
import GoSem.ClaimMapViews
import Derived.JoinedTies
import Derived.KernelRfl
namespace Go.Proofs.Ytbbnfenlpfoaiaa
/- THE CELL 'sum', in the pinned program and in every row, IS THE sha256 OF THE DUMP (.gsa) THAT YtbbnfenlpfoaiaaProg.lean LOADS. Nothing in Lean hashes anything: it is a label: what it is worth is what the hold of that sum in a sandbox is worth. -/
noncomputable def Try.pinned : Pinned := { name := "ytbbnfenlpfoaiaa", sum := "77b3bdcb0af92d97fe673be920f8ccccaac31accf4fe6d37f0df31c1c83ff88c", checked := Try.checked }
namespace Rows
def none {H : Type} : Left H := { results := [], args := [] }

/-- 'gatefoldlaw13.MarginSteps': WHATEVER THE INPUT: true; the input reads as it did. -/
def marginStepsSpec : ChangeSpec := { name := "marginSteps", fn := fun _ => fun
  | [d1, d2, d3, d4] => { results := [.lit (.bool true)], args := [d1, d2, d3, d4] }
  | _ => none }
def marginStepsRow : OpenClaim := { program := "ytbbnfenlpfoaiaa", sum := "77b3bdcb0af92d97fe673be920f8ccccaac31accf4fe6d37f0df31c1c83ff88c", func := "gatefold/gatefoldlaw13.MarginSteps", spec := "marginSteps", unfollowed := true, recurses := true, apart := false }
def MarginStepsSaid : Prop := marginStepsRow.holds Try.pinned (OpenSpec.ofChange marginStepsSpec)

/-- ITS FALSE NEIGHBOUR: 'it returns false'. Refute it at one input. -/
def marginStepsWrong : ChangeSpec := { name := "marginSteps", fn := fun _ => fun
  | [d1, d2, d3, d4] => { results := [.lit (.bool false)], args := [d1, d2, d3, d4] }
  | _ => none }
def MarginStepsWrongFalsely : Prop := marginStepsRow.holds Try.pinned (OpenSpec.ofChange marginStepsWrong)

/-- 'gatefoldlaw13.MarginCollapsed': WHATEVER THE INPUT: true; the input reads as it did. -/
def marginCollapsedSpec : ChangeSpec := { name := "marginCollapsed", fn := fun _ => fun
  | [d1, d2, d3] => { results := [.lit (.bool true)], args := [d1, d2, d3] }
  | _ => none }
def marginCollapsedRow : OpenClaim := { program := "ytbbnfenlpfoaiaa", sum := "77b3bdcb0af92d97fe673be920f8ccccaac31accf4fe6d37f0df31c1c83ff88c", func := "gatefold/gatefoldlaw13.MarginCollapsed", spec := "marginCollapsed", unfollowed := true, recurses := true, apart := false }
def MarginCollapsedSaid : Prop := marginCollapsedRow.holds Try.pinned (OpenSpec.ofChange marginCollapsedSpec)

/-- ITS FALSE NEIGHBOUR: 'it returns false'. Refute it at one input. -/
def marginCollapsedWrong : ChangeSpec := { name := "marginCollapsed", fn := fun _ => fun
  | [d1, d2, d3] => { results := [.lit (.bool false)], args := [d1, d2, d3] }
  | _ => none }
def MarginCollapsedWrongFalsely : Prop := marginCollapsedRow.holds Try.pinned (OpenSpec.ofChange marginCollapsedWrong)

/-- 'gatefoldlaw01.UnitReckons': WHATEVER THE INPUT: true; the input reads as it did. -/
def unitReckonsSpec : ChangeSpec := { name := "unitReckons", fn := fun _ => fun
  | [d1, d2] => { results := [.lit (.bool true)], args := [d1, d2] }
  | _ => none }
def unitReckonsRow : OpenClaim := { program := "ytbbnfenlpfoaiaa", sum := "77b3bdcb0af92d97fe673be920f8ccccaac31accf4fe6d37f0df31c1c83ff88c", func := "gatefold/gatefoldlaw01.UnitReckons", spec := "unitReckons", unfollowed := true, recurses := true, apart := false }
def UnitReckonsSaid : Prop := unitReckonsRow.holds Try.pinned (OpenSpec.ofChange unitReckonsSpec)

/-- ITS FALSE NEIGHBOUR: 'it returns false'. Refute it at one input. -/
def unitReckonsWrong : ChangeSpec := { name := "unitReckons", fn := fun _ => fun
  | [d1, d2] => { results := [.lit (.bool false)], args := [d1, d2] }
  | _ => none }
def UnitReckonsWrongFalsely : Prop := unitReckonsRow.holds Try.pinned (OpenSpec.ofChange unitReckonsWrong)

/-- 'gatefoldlaw01.UnitRows': WHATEVER THE INPUT: true; the input reads as it did. -/
def unitRowsSpec : ChangeSpec := { name := "unitRows", fn := fun _ => fun
  | [d] => { results := [.lit (.bool true)], args := [d] }
  | _ => none }
def unitRowsRow : OpenClaim := { program := "ytbbnfenlpfoaiaa", sum := "77b3bdcb0af92d97fe673be920f8ccccaac31accf4fe6d37f0df31c1c83ff88c", func := "gatefold/gatefoldlaw01.UnitRows", spec := "unitRows", unfollowed := true, recurses := true, apart := false }
def UnitRowsSaid : Prop := unitRowsRow.holds Try.pinned (OpenSpec.ofChange unitRowsSpec)

/-- ITS FALSE NEIGHBOUR: 'it returns false'. Refute it at one input. -/
def unitRowsWrong : ChangeSpec := { name := "unitRows", fn := fun _ => fun
  | [d] => { results := [.lit (.bool false)], args := [d] }
  | _ => none }
def UnitRowsWrongFalsely : Prop := unitRowsRow.holds Try.pinned (OpenSpec.ofChange unitRowsWrong)

/-- 'gatefoldlaw01.UnitWithin': WHATEVER THE INPUT: true; the input reads as it did. -/
def unitWithinSpec : ChangeSpec := { name := "unitWithin", fn := fun _ => fun
  | [d1, d2, d3] => { results := [.lit (.bool true)], args := [d1, d2, d3] }
  | _ => none }
def unitWithinRow : OpenClaim := { program := "ytbbnfenlpfoaiaa", sum := "77b3bdcb0af92d97fe673be920f8ccccaac31accf4fe6d37f0df31c1c83ff88c", func := "gatefold/gatefoldlaw01.UnitWithin", spec := "unitWithin", unfollowed := true, recurses := true, apart := false }
def UnitWithinSaid : Prop := unitWithinRow.holds Try.pinned (OpenSpec.ofChange unitWithinSpec)

/-- ITS FALSE NEIGHBOUR: 'it returns false'. Refute it at one input. -/
def unitWithinWrong : ChangeSpec := { name := "unitWithin", fn := fun _ => fun
  | [d1, d2, d3] => { results := [.lit (.bool false)], args := [d1, d2, d3] }
  | _ => none }
def UnitWithinWrongFalsely : Prop := unitWithinRow.holds Try.pinned (OpenSpec.ofChange unitWithinWrong)

/-- 'gatefoldlaw01.UnitParts': WHATEVER THE INPUT: true; the input reads as it did. -/
def unitPartsSpec : ChangeSpec := { name := "unitParts", fn := fun _ => fun
  | [d1, d2] => { results := [.lit (.bool true)], args := [d1, d2] }
  | _ => none }
def unitPartsRow : OpenClaim := { program := "ytbbnfenlpfoaiaa", sum := "77b3bdcb0af92d97fe673be920f8ccccaac31accf4fe6d37f0df31c1c83ff88c", func := "gatefold/gatefoldlaw01.UnitParts", spec := "unitParts", unfollowed := true, recurses := true, apart := false }
def UnitPartsSaid : Prop := unitPartsRow.holds Try.pinned (OpenSpec.ofChange unitPartsSpec)

/-- ITS FALSE NEIGHBOUR: 'it returns false'. Refute it at one input. -/
def unitPartsWrong : ChangeSpec := { name := "unitParts", fn := fun _ => fun
  | [d1, d2] => { results := [.lit (.bool false)], args := [d1, d2] }
  | _ => none }
def UnitPartsWrongFalsely : Prop := unitPartsRow.holds Try.pinned (OpenSpec.ofChange unitPartsWrong)

/-- 'gatefoldlaw09.WordsLines': WHATEVER THE INPUT: true; the input reads as it did. -/
def wordsLinesSpec : ChangeSpec := { name := "wordsLines", fn := fun _ => fun
  | [d1, d2, d3, d4, d5] => { results := [.lit (.bool true)], args := [d1, d2, d3, d4, d5] }
  | _ => none }
def wordsLinesRow : OpenClaim := { program := "ytbbnfenlpfoaiaa", sum := "77b3bdcb0af92d97fe673be920f8ccccaac31accf4fe6d37f0df31c1c83ff88c", func := "gatefold/gatefoldlaw09.WordsLines", spec := "wordsLines", unfollowed := true, recurses := true, apart := false }
def WordsLinesSaid : Prop := wordsLinesRow.holds Try.pinned (OpenSpec.ofChange wordsLinesSpec)

/-- ITS FALSE NEIGHBOUR: 'it returns false'. Refute it at one input. -/
def wordsLinesWrong : ChangeSpec := { name := "wordsLines", fn := fun _ => fun
  | [d1, d2, d3, d4, d5] => { results := [.lit (.bool false)], args := [d1, d2, d3, d4, d5] }
  | _ => none }
def WordsLinesWrongFalsely : Prop := wordsLinesRow.holds Try.pinned (OpenSpec.ofChange wordsLinesWrong)

/-- 'gatefoldlaw09.WordsParted': WHATEVER THE INPUT: true; the input reads as it did. -/
def wordsPartedSpec : ChangeSpec := { name := "wordsParted", fn := fun _ => fun
  | [d1, d2, d3] => { results := [.lit (.bool true)], args := [d1, d2, d3] }
  | _ => none }
def wordsPartedRow : OpenClaim := { program := "ytbbnfenlpfoaiaa", sum := "77b3bdcb0af92d97fe673be920f8ccccaac31accf4fe6d37f0df31c1c83ff88c", func := "gatefold/gatefoldlaw09.WordsParted", spec := "wordsParted", unfollowed := true, recurses := true, apart := false }
def WordsPartedSaid : Prop := wordsPartedRow.holds Try.pinned (OpenSpec.ofChange wordsPartedSpec)

/-- ITS FALSE NEIGHBOUR: 'it returns false'. Refute it at one input. -/
def wordsPartedWrong : ChangeSpec := { name := "wordsParted", fn := fun _ => fun
  | [d1, d2, d3] => { results := [.lit (.bool false)], args := [d1, d2, d3] }
  | _ => none }
def WordsPartedWrongFalsely : Prop := wordsPartedRow.holds Try.pinned (OpenSpec.ofChange wordsPartedWrong)

/-- 'gatefoldlaw09.WordsFewest': WHATEVER THE INPUT: true; the input reads as it did. -/
def wordsFewestSpec : ChangeSpec := { name := "wordsFewest", fn := fun _ => fun
  | [d1, d2, d3, d4, d5] => { results := [.lit (.bool true)], args := [d1, d2, d3, d4, d5] }
  | _ => none }
def wordsFewestRow : OpenClaim := { program := "ytbbnfenlpfoaiaa", sum := "77b3bdcb0af92d97fe673be920f8ccccaac31accf4fe6d37f0df31c1c83ff88c", func := "gatefold/gatefoldlaw09.WordsFewest", spec := "wordsFewest", unfollowed := true, recurses := true, apart := false }
def WordsFewestSaid : Prop := wordsFewestRow.holds Try.pinned (OpenSpec.ofChange wordsFewestSpec)

/-- ITS FALSE NEIGHBOUR: 'it returns false'. Refute it at one input. -/
def wordsFewestWrong : ChangeSpec := { name := "wordsFewest", fn := fun _ => fun
  | [d1, d2, d3, d4, d5] => { results := [.lit (.bool false)], args := [d1, d2, d3, d4, d5] }
  | _ => none }
def WordsFewestWrongFalsely : Prop := wordsFewestRow.holds Try.pinned (OpenSpec.ofChange wordsFewestWrong)

/- THE SECOND FORM. 'bulk': how many values and letters a reading holds, each counted each time it is reached (what is shared counts as often as it is met; a slice's spare places count too). A statement '..UptoSaid' is the law's where the arguments, and the package variables that the reading takes, are together of bulk at most 1048576: NARROWER than '..Said'. Prove '..Said' where nothing that the law and all that it calls make is longer than what came in: it says more and counts as full. Else prove '..UptoSaid'. A law counts once. -/
mutual
def uptoBulk {H : Type} : DataW H → Nat
  | .lit (.string bytes) => bytes.length + 1
  | .lit _ => 1
  | .nil => 1
  | .ptr d => uptoBulk d + 1
  | .slice elems spare => uptoBulkAll elems + uptoBulkAll spare + 1
  | .agg parts => uptoBulkAll parts + 1
  | .iface _ d => uptoBulk d + 1
  | .map entries => uptoBulkEntries entries + 1
  | .held _ => 1
def uptoBulkAll {H : Type} : List (DataW H) → Nat
  | [] => 0
  | d :: r => uptoBulk d + uptoBulkAll r
def uptoBulkEntries {H : Type} : List (Lit × DataW H) → Nat
  | [] => 0
  | x :: r => uptoBulkEntry x + uptoBulkEntries r
def uptoBulkEntry {H : Type} : Lit × DataW H → Nat
  | (.string bytes, d) => bytes.length + uptoBulk d + 1
  | (_, d) => uptoBulk d + 1
 end
def uptoSmall : (H : Type) → List (DataW H) → Bool := fun _ ds => decide (uptoBulkAll ds ≤ 1048576)
def OpenSpec.upto (s : _root_.Go.ChangeSpec) : _root_.Go.OpenSpec := { _root_.Go.OpenSpec.ofChange s with cond := some uptoSmall }

/-- 'gatefoldlaw13.MarginSteps', WHERE WHAT IT READS IS OF BULK AT MOST 1048576: true; the input reads as it did. -/
def marginStepsUptoRow : OpenClaim := { program := "ytbbnfenlpfoaiaa", sum := "77b3bdcb0af92d97fe673be920f8ccccaac31accf4fe6d37f0df31c1c83ff88c", func := "gatefold/gatefoldlaw13.MarginSteps", spec := "marginSteps", unfollowed := true, recurses := true, apart := false, narrowed := true }
def MarginStepsUptoSaid : Prop := marginStepsUptoRow.holds Try.pinned (OpenSpec.upto marginStepsSpec)

/-- 'gatefoldlaw13.MarginCollapsed', WHERE WHAT IT READS IS OF BULK AT MOST 1048576: true; the input reads as it did. -/
def marginCollapsedUptoRow : OpenClaim := { program := "ytbbnfenlpfoaiaa", sum := "77b3bdcb0af92d97fe673be920f8ccccaac31accf4fe6d37f0df31c1c83ff88c", func := "gatefold/gatefoldlaw13.MarginCollapsed", spec := "marginCollapsed", unfollowed := true, recurses := true, apart := false, narrowed := true }
def MarginCollapsedUptoSaid : Prop := marginCollapsedUptoRow.holds Try.pinned (OpenSpec.upto marginCollapsedSpec)

/-- 'gatefoldlaw01.UnitReckons', WHERE WHAT IT READS IS OF BULK AT MOST 1048576: true; the input reads as it did. -/
def unitReckonsUptoRow : OpenClaim := { program := "ytbbnfenlpfoaiaa", sum := "77b3bdcb0af92d97fe673be920f8ccccaac31accf4fe6d37f0df31c1c83ff88c", func := "gatefold/gatefoldlaw01.UnitReckons", spec := "unitReckons", unfollowed := true, recurses := true, apart := false, narrowed := true }
def UnitReckonsUptoSaid : Prop := unitReckonsUptoRow.holds Try.pinned (OpenSpec.upto unitReckonsSpec)

/-- 'gatefoldlaw01.UnitRows', WHERE WHAT IT READS IS OF BULK AT MOST 1048576: true; the input reads as it did. -/
def unitRowsUptoRow : OpenClaim := { program := "ytbbnfenlpfoaiaa", sum := "77b3bdcb0af92d97fe673be920f8ccccaac31accf4fe6d37f0df31c1c83ff88c", func := "gatefold/gatefoldlaw01.UnitRows", spec := "unitRows", unfollowed := true, recurses := true, apart := false, narrowed := true }
def UnitRowsUptoSaid : Prop := unitRowsUptoRow.holds Try.pinned (OpenSpec.upto unitRowsSpec)

/-- 'gatefoldlaw01.UnitWithin', WHERE WHAT IT READS IS OF BULK AT MOST 1048576: true; the input reads as it did. -/
def unitWithinUptoRow : OpenClaim := { program := "ytbbnfenlpfoaiaa", sum := "77b3bdcb0af92d97fe673be920f8ccccaac31accf4fe6d37f0df31c1c83ff88c", func := "gatefold/gatefoldlaw01.UnitWithin", spec := "unitWithin", unfollowed := true, recurses := true, apart := false, narrowed := true }
def UnitWithinUptoSaid : Prop := unitWithinUptoRow.holds Try.pinned (OpenSpec.upto unitWithinSpec)

/-- 'gatefoldlaw01.UnitParts', WHERE WHAT IT READS IS OF BULK AT MOST 1048576: true; the input reads as it did. -/
def unitPartsUptoRow : OpenClaim := { program := "ytbbnfenlpfoaiaa", sum := "77b3bdcb0af92d97fe673be920f8ccccaac31accf4fe6d37f0df31c1c83ff88c", func := "gatefold/gatefoldlaw01.UnitParts", spec := "unitParts", unfollowed := true, recurses := true, apart := false, narrowed := true }
def UnitPartsUptoSaid : Prop := unitPartsUptoRow.holds Try.pinned (OpenSpec.upto unitPartsSpec)

/-- 'gatefoldlaw09.WordsLines', WHERE WHAT IT READS IS OF BULK AT MOST 1048576: true; the input reads as it did. -/
def wordsLinesUptoRow : OpenClaim := { program := "ytbbnfenlpfoaiaa", sum := "77b3bdcb0af92d97fe673be920f8ccccaac31accf4fe6d37f0df31c1c83ff88c", func := "gatefold/gatefoldlaw09.WordsLines", spec := "wordsLines", unfollowed := true, recurses := true, apart := false, narrowed := true }
def WordsLinesUptoSaid : Prop := wordsLinesUptoRow.holds Try.pinned (OpenSpec.upto wordsLinesSpec)

/-- 'gatefoldlaw09.WordsParted', WHERE WHAT IT READS IS OF BULK AT MOST 1048576: true; the input reads as it did. -/
def wordsPartedUptoRow : OpenClaim := { program := "ytbbnfenlpfoaiaa", sum := "77b3bdcb0af92d97fe673be920f8ccccaac31accf4fe6d37f0df31c1c83ff88c", func := "gatefold/gatefoldlaw09.WordsParted", spec := "wordsParted", unfollowed := true, recurses := true, apart := false, narrowed := true }
def WordsPartedUptoSaid : Prop := wordsPartedUptoRow.holds Try.pinned (OpenSpec.upto wordsPartedSpec)

/-- 'gatefoldlaw09.WordsFewest', WHERE WHAT IT READS IS OF BULK AT MOST 1048576: true; the input reads as it did. -/
def wordsFewestUptoRow : OpenClaim := { program := "ytbbnfenlpfoaiaa", sum := "77b3bdcb0af92d97fe673be920f8ccccaac31accf4fe6d37f0df31c1c83ff88c", func := "gatefold/gatefoldlaw09.WordsFewest", spec := "wordsFewest", unfollowed := true, recurses := true, apart := false, narrowed := true }
def WordsFewestUptoSaid : Prop := wordsFewestUptoRow.holds Try.pinned (OpenSpec.upto wordsFewestSpec)

end Rows
end Go.Proofs.Ytbbnfenlpfoaiaa
