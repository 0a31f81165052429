/-
  No cell of these rows narrows 'for every input' (looked for: loops, veiled, ifaces, maps, wideKeys, modest, calm, conditions, laid).
  DERIVED. THE GIVEN ROWS OF THIS SEAT. 12 by the template 'for every input the law returns true; each argument reads behind the call as it read before'; 0 by the template 'total and deterministic' (their statements: YtbgcmnccjfdooaaTotals.lean).
  GIVEN WITH THE SEED: the statements are not yours to turn. If you find one false, say at which input.
  Laid BY PROGRAM, IN A SANDBOX (cutbox-rows.mjs): the forced cells as the released guide's own fill.sh prints them over the translation 1773189591aaadec… (all of the seat's roots in one cut). By AI agents, Wed Nov 11 2026. No macro, syntax, notation, axiom, sorry.
-/
import Derived.Test.YtbgcmnccjfdooaaChecked
import GoSem.Claim
import GoSem.ClaimJoined
import GoSem.ClaimMapViews
import Derived.JoinedTies
import Derived.KernelRfl
namespace Go.Proofs.Ytbgcmnccjfdooaa
/- THE CELL 'sum', in the pinned program and in every row, IS THE sha256 OF THE DUMP (.gsa) THAT YtbgcmnccjfdooaaProg.lean LOADS. Nothing in Lean hashes anything: it is a label: what it is worth is what the hold of that sum in a sandbox is worth. -/
noncomputable def Try.pinned : Pinned := { name := "ytbgcmnccjfdooaa", sum := "1773189591aaadecdbbd216bc0bbcd4604a47d0a235f0c1666959941c7858c9c", checked := Try.checked }
namespace Rows
def none {H : Type} : Left H := { results := [], args := [] }

/-- 'gatefoldlaw16.KinTells': WHATEVER THE INPUT: true; the input reads as it did. -/
def kinTellsSpec : ChangeSpec := { name := "kinTells", fn := fun _ => fun
  | [d1, d2, d3, d4] => { results := [.lit (.bool true)], args := [d1, d2, d3, d4] }
  | _ => none }
def kinTellsRow : OpenClaim := { program := "ytbgcmnccjfdooaa", sum := "1773189591aaadecdbbd216bc0bbcd4604a47d0a235f0c1666959941c7858c9c", func := "gatefold/gatefoldlaw16.KinTells", spec := "kinTells", unfollowed := true, recurses := true, apart := false }
def KinTellsSaid : Prop := kinTellsRow.holds Try.pinned (OpenSpec.ofChange kinTellsSpec)

/-- ITS FALSE NEIGHBOUR: 'it returns false'. Refute it at one input. -/
def kinTellsWrong : ChangeSpec := { name := "kinTells", fn := fun _ => fun
  | [d1, d2, d3, d4] => { results := [.lit (.bool false)], args := [d1, d2, d3, d4] }
  | _ => none }
def KinTellsWrongFalsely : Prop := kinTellsRow.holds Try.pinned (OpenSpec.ofChange kinTellsWrong)

/-- 'gatefoldlaw16.KinOnce': WHATEVER THE INPUT: true; the input reads as it did. -/
def kinOnceSpec : ChangeSpec := { name := "kinOnce", fn := fun _ => fun
  | [d1, d2] => { results := [.lit (.bool true)], args := [d1, d2] }
  | _ => none }
def kinOnceRow : OpenClaim := { program := "ytbgcmnccjfdooaa", sum := "1773189591aaadecdbbd216bc0bbcd4604a47d0a235f0c1666959941c7858c9c", func := "gatefold/gatefoldlaw16.KinOnce", spec := "kinOnce", unfollowed := true, recurses := true, apart := false }
def KinOnceSaid : Prop := kinOnceRow.holds Try.pinned (OpenSpec.ofChange kinOnceSpec)

/-- ITS FALSE NEIGHBOUR: 'it returns false'. Refute it at one input. -/
def kinOnceWrong : ChangeSpec := { name := "kinOnce", fn := fun _ => fun
  | [d1, d2] => { results := [.lit (.bool false)], args := [d1, d2] }
  | _ => none }
def KinOnceWrongFalsely : Prop := kinOnceRow.holds Try.pinned (OpenSpec.ofChange kinOnceWrong)

/-- 'gatefoldlaw16.KinNested': WHATEVER THE INPUT: true; the input reads as it did. -/
def kinNestedSpec : ChangeSpec := { name := "kinNested", fn := fun _ => fun
  | [d1, d2, d3] => { results := [.lit (.bool true)], args := [d1, d2, d3] }
  | _ => none }
def kinNestedRow : OpenClaim := { program := "ytbgcmnccjfdooaa", sum := "1773189591aaadecdbbd216bc0bbcd4604a47d0a235f0c1666959941c7858c9c", func := "gatefold/gatefoldlaw16.KinNested", spec := "kinNested", unfollowed := true, recurses := true, apart := false }
def KinNestedSaid : Prop := kinNestedRow.holds Try.pinned (OpenSpec.ofChange kinNestedSpec)

/-- ITS FALSE NEIGHBOUR: 'it returns false'. Refute it at one input. -/
def kinNestedWrong : ChangeSpec := { name := "kinNested", fn := fun _ => fun
  | [d1, d2, d3] => { results := [.lit (.bool false)], args := [d1, d2, d3] }
  | _ => none }
def KinNestedWrongFalsely : Prop := kinNestedRow.holds Try.pinned (OpenSpec.ofChange kinNestedWrong)

/-- 'gatefoldlaw17.ForcedLast': WHATEVER THE INPUT: true; the input reads as it did. -/
def forcedLastSpec : ChangeSpec := { name := "forcedLast", fn := fun _ => fun
  | [d1, d2, d3] => { results := [.lit (.bool true)], args := [d1, d2, d3] }
  | _ => none }
def forcedLastRow : OpenClaim := { program := "ytbgcmnccjfdooaa", sum := "1773189591aaadecdbbd216bc0bbcd4604a47d0a235f0c1666959941c7858c9c", func := "gatefold/gatefoldlaw17.ForcedLast", spec := "forcedLast", unfollowed := true, recurses := true, apart := false }
def ForcedLastSaid : Prop := forcedLastRow.holds Try.pinned (OpenSpec.ofChange forcedLastSpec)

/-- ITS FALSE NEIGHBOUR: 'it returns false'. Refute it at one input. -/
def forcedLastWrong : ChangeSpec := { name := "forcedLast", fn := fun _ => fun
  | [d1, d2, d3] => { results := [.lit (.bool false)], args := [d1, d2, d3] }
  | _ => none }
def ForcedLastWrongFalsely : Prop := forcedLastRow.holds Try.pinned (OpenSpec.ofChange forcedLastWrong)

/-- 'gatefoldlaw17.ForcedTells': WHATEVER THE INPUT: true; the input reads as it did. -/
def forcedTellsSpec : ChangeSpec := { name := "forcedTells", fn := fun _ => fun
  | [d1, d2, d3] => { results := [.lit (.bool true)], args := [d1, d2, d3] }
  | _ => none }
def forcedTellsRow : OpenClaim := { program := "ytbgcmnccjfdooaa", sum := "1773189591aaadecdbbd216bc0bbcd4604a47d0a235f0c1666959941c7858c9c", func := "gatefold/gatefoldlaw17.ForcedTells", spec := "forcedTells", unfollowed := true, recurses := true, apart := false }
def ForcedTellsSaid : Prop := forcedTellsRow.holds Try.pinned (OpenSpec.ofChange forcedTellsSpec)

/-- ITS FALSE NEIGHBOUR: 'it returns false'. Refute it at one input. -/
def forcedTellsWrong : ChangeSpec := { name := "forcedTells", fn := fun _ => fun
  | [d1, d2, d3] => { results := [.lit (.bool false)], args := [d1, d2, d3] }
  | _ => none }
def ForcedTellsWrongFalsely : Prop := forcedTellsRow.holds Try.pinned (OpenSpec.ofChange forcedTellsWrong)

/-- 'gatefoldlaw17.ForcedHeads': WHATEVER THE INPUT: true; the input reads as it did. -/
def forcedHeadsSpec : ChangeSpec := { name := "forcedHeads", fn := fun _ => fun
  | [d1, d2] => { results := [.lit (.bool true)], args := [d1, d2] }
  | _ => none }
def forcedHeadsRow : OpenClaim := { program := "ytbgcmnccjfdooaa", sum := "1773189591aaadecdbbd216bc0bbcd4604a47d0a235f0c1666959941c7858c9c", func := "gatefold/gatefoldlaw17.ForcedHeads", spec := "forcedHeads", unfollowed := true, recurses := true, apart := false }
def ForcedHeadsSaid : Prop := forcedHeadsRow.holds Try.pinned (OpenSpec.ofChange forcedHeadsSpec)

/-- ITS FALSE NEIGHBOUR: 'it returns false'. Refute it at one input. -/
def forcedHeadsWrong : ChangeSpec := { name := "forcedHeads", fn := fun _ => fun
  | [d1, d2] => { results := [.lit (.bool false)], args := [d1, d2] }
  | _ => none }
def ForcedHeadsWrongFalsely : Prop := forcedHeadsRow.holds Try.pinned (OpenSpec.ofChange forcedHeadsWrong)

/-- 'gatefoldlaw18.RankTells': WHATEVER THE INPUT: true; the input reads as it did. -/
def rankTellsSpec : ChangeSpec := { name := "rankTells", fn := fun _ => fun
  | [d1, d2, d3] => { results := [.lit (.bool true)], args := [d1, d2, d3] }
  | _ => none }
def rankTellsRow : OpenClaim := { program := "ytbgcmnccjfdooaa", sum := "1773189591aaadecdbbd216bc0bbcd4604a47d0a235f0c1666959941c7858c9c", func := "gatefold/gatefoldlaw18.RankTells", spec := "rankTells", unfollowed := true, recurses := true, apart := false }
def RankTellsSaid : Prop := rankTellsRow.holds Try.pinned (OpenSpec.ofChange rankTellsSpec)

/-- ITS FALSE NEIGHBOUR: 'it returns false'. Refute it at one input. -/
def rankTellsWrong : ChangeSpec := { name := "rankTells", fn := fun _ => fun
  | [d1, d2, d3] => { results := [.lit (.bool false)], args := [d1, d2, d3] }
  | _ => none }
def RankTellsWrongFalsely : Prop := rankTellsRow.holds Try.pinned (OpenSpec.ofChange rankTellsWrong)

/-- 'gatefoldlaw18.RankParts': WHATEVER THE INPUT: true; the input reads as it did. -/
def rankPartsSpec : ChangeSpec := { name := "rankParts", fn := fun _ => fun
  | [d1, d2] => { results := [.lit (.bool true)], args := [d1, d2] }
  | _ => none }
def rankPartsRow : OpenClaim := { program := "ytbgcmnccjfdooaa", sum := "1773189591aaadecdbbd216bc0bbcd4604a47d0a235f0c1666959941c7858c9c", func := "gatefold/gatefoldlaw18.RankParts", spec := "rankParts", unfollowed := true, recurses := true, apart := false }
def RankPartsSaid : Prop := rankPartsRow.holds Try.pinned (OpenSpec.ofChange rankPartsSpec)

/-- ITS FALSE NEIGHBOUR: 'it returns false'. Refute it at one input. -/
def rankPartsWrong : ChangeSpec := { name := "rankParts", fn := fun _ => fun
  | [d1, d2] => { results := [.lit (.bool false)], args := [d1, d2] }
  | _ => none }
def RankPartsWrongFalsely : Prop := rankPartsRow.holds Try.pinned (OpenSpec.ofChange rankPartsWrong)

/-- 'gatefoldlaw18.RankMinds': WHATEVER THE INPUT: true; the input reads as it did. -/
def rankMindsSpec : ChangeSpec := { name := "rankMinds", fn := fun _ => fun
  | [d1, d2, d3] => { results := [.lit (.bool true)], args := [d1, d2, d3] }
  | _ => none }
def rankMindsRow : OpenClaim := { program := "ytbgcmnccjfdooaa", sum := "1773189591aaadecdbbd216bc0bbcd4604a47d0a235f0c1666959941c7858c9c", func := "gatefold/gatefoldlaw18.RankMinds", spec := "rankMinds", unfollowed := true, recurses := true, apart := false }
def RankMindsSaid : Prop := rankMindsRow.holds Try.pinned (OpenSpec.ofChange rankMindsSpec)

/-- ITS FALSE NEIGHBOUR: 'it returns false'. Refute it at one input. -/
def rankMindsWrong : ChangeSpec := { name := "rankMinds", fn := fun _ => fun
  | [d1, d2, d3] => { results := [.lit (.bool false)], args := [d1, d2, d3] }
  | _ => none }
def RankMindsWrongFalsely : Prop := rankMindsRow.holds Try.pinned (OpenSpec.ofChange rankMindsWrong)

/-- 'gatefoldlaw19.BreaksFind': WHATEVER THE INPUT: true; the input reads as it did. -/
def breaksFindSpec : ChangeSpec := { name := "breaksFind", fn := fun _ => fun
  | [d1, d2, d3] => { results := [.lit (.bool true)], args := [d1, d2, d3] }
  | _ => none }
def breaksFindRow : OpenClaim := { program := "ytbgcmnccjfdooaa", sum := "1773189591aaadecdbbd216bc0bbcd4604a47d0a235f0c1666959941c7858c9c", func := "gatefold/gatefoldlaw19.BreaksFind", spec := "breaksFind", unfollowed := true, recurses := true, apart := false }
def BreaksFindSaid : Prop := breaksFindRow.holds Try.pinned (OpenSpec.ofChange breaksFindSpec)

/-- ITS FALSE NEIGHBOUR: 'it returns false'. Refute it at one input. -/
def breaksFindWrong : ChangeSpec := { name := "breaksFind", fn := fun _ => fun
  | [d1, d2, d3] => { results := [.lit (.bool false)], args := [d1, d2, d3] }
  | _ => none }
def BreaksFindWrongFalsely : Prop := breaksFindRow.holds Try.pinned (OpenSpec.ofChange breaksFindWrong)

/-- 'gatefoldlaw19.BreaksMay': WHATEVER THE INPUT: true; the input reads as it did. -/
def breaksMaySpec : ChangeSpec := { name := "breaksMay", fn := fun _ => fun
  | [d1, d2] => { results := [.lit (.bool true)], args := [d1, d2] }
  | _ => none }
def breaksMayRow : OpenClaim := { program := "ytbgcmnccjfdooaa", sum := "1773189591aaadecdbbd216bc0bbcd4604a47d0a235f0c1666959941c7858c9c", func := "gatefold/gatefoldlaw19.BreaksMay", spec := "breaksMay", unfollowed := true, recurses := true, apart := false }
def BreaksMaySaid : Prop := breaksMayRow.holds Try.pinned (OpenSpec.ofChange breaksMaySpec)

/-- ITS FALSE NEIGHBOUR: 'it returns false'. Refute it at one input. -/
def breaksMayWrong : ChangeSpec := { name := "breaksMay", fn := fun _ => fun
  | [d1, d2] => { results := [.lit (.bool false)], args := [d1, d2] }
  | _ => none }
def BreaksMayWrongFalsely : Prop := breaksMayRow.holds Try.pinned (OpenSpec.ofChange breaksMayWrong)

/-- 'gatefoldlaw19.BreaksParts': WHATEVER THE INPUT: true; the input reads as it did. -/
def breaksPartsSpec : ChangeSpec := { name := "breaksParts", fn := fun _ => fun
  | [d1, d2, d3, d4] => { results := [.lit (.bool true)], args := [d1, d2, d3, d4] }
  | _ => none }
def breaksPartsRow : OpenClaim := { program := "ytbgcmnccjfdooaa", sum := "1773189591aaadecdbbd216bc0bbcd4604a47d0a235f0c1666959941c7858c9c", func := "gatefold/gatefoldlaw19.BreaksParts", spec := "breaksParts", unfollowed := true, recurses := true, apart := false }
def BreaksPartsSaid : Prop := breaksPartsRow.holds Try.pinned (OpenSpec.ofChange breaksPartsSpec)

/-- ITS FALSE NEIGHBOUR: 'it returns false'. Refute it at one input. -/
def breaksPartsWrong : ChangeSpec := { name := "breaksParts", fn := fun _ => fun
  | [d1, d2, d3, d4] => { results := [.lit (.bool false)], args := [d1, d2, d3, d4] }
  | _ => none }
def BreaksPartsWrongFalsely : Prop := breaksPartsRow.holds Try.pinned (OpenSpec.ofChange breaksPartsWrong)

/- THE SECOND FORM. 'bulk': how many values and letters a reading holds, each counted each time it is reached (what is shared counts as often as it is met; a slice's spare places count too). A statement '..UptoSaid' is the law's where the arguments, and the package variables that the reading takes, are together of bulk at most 1048576: NARROWER than '..Said'. Prove '..Said' where nothing that the law and all that it calls make is longer than what came in: it says more and counts as full. Else prove '..UptoSaid'. A law counts once. -/
mutual
def uptoBulk {H : Type} : DataW H → Nat
  | .lit (.string bytes) => bytes.length + 1
  | .lit _ => 1
  | .nil => 1
  | .ptr d => uptoBulk d + 1
  | .slice elems spare => uptoBulkAll elems + uptoBulkAll spare + 1
  | .agg parts => uptoBulkAll parts + 1
  | .iface _ d => uptoBulk d + 1
  | .map entries => uptoBulkEntries entries + 1
  | .held _ => 1
def uptoBulkAll {H : Type} : List (DataW H) → Nat
  | [] => 0
  | d :: r => uptoBulk d + uptoBulkAll r
def uptoBulkEntries {H : Type} : List (Lit × DataW H) → Nat
  | [] => 0
  | x :: r => uptoBulkEntry x + uptoBulkEntries r
def uptoBulkEntry {H : Type} : Lit × DataW H → Nat
  | (.string bytes, d) => bytes.length + uptoBulk d + 1
  | (_, d) => uptoBulk d + 1
 end
def uptoSmall : (H : Type) → List (DataW H) → Bool := fun _ ds => decide (uptoBulkAll ds ≤ 1048576)
def OpenSpec.upto (s : _root_.Go.ChangeSpec) : _root_.Go.OpenSpec := { _root_.Go.OpenSpec.ofChange s with cond := some uptoSmall }

/-- 'gatefoldlaw16.KinTells', WHERE WHAT IT READS IS OF BULK AT MOST 1048576: true; the input reads as it did. -/
def kinTellsUptoRow : OpenClaim := { program := "ytbgcmnccjfdooaa", sum := "1773189591aaadecdbbd216bc0bbcd4604a47d0a235f0c1666959941c7858c9c", func := "gatefold/gatefoldlaw16.KinTells", spec := "kinTells", unfollowed := true, recurses := true, apart := false, narrowed := true }
def KinTellsUptoSaid : Prop := kinTellsUptoRow.holds Try.pinned (OpenSpec.upto kinTellsSpec)

/-- 'gatefoldlaw16.KinOnce', WHERE WHAT IT READS IS OF BULK AT MOST 1048576: true; the input reads as it did. -/
def kinOnceUptoRow : OpenClaim := { program := "ytbgcmnccjfdooaa", sum := "1773189591aaadecdbbd216bc0bbcd4604a47d0a235f0c1666959941c7858c9c", func := "gatefold/gatefoldlaw16.KinOnce", spec := "kinOnce", unfollowed := true, recurses := true, apart := false, narrowed := true }
def KinOnceUptoSaid : Prop := kinOnceUptoRow.holds Try.pinned (OpenSpec.upto kinOnceSpec)

/-- 'gatefoldlaw16.KinNested', WHERE WHAT IT READS IS OF BULK AT MOST 1048576: true; the input reads as it did. -/
def kinNestedUptoRow : OpenClaim := { program := "ytbgcmnccjfdooaa", sum := "1773189591aaadecdbbd216bc0bbcd4604a47d0a235f0c1666959941c7858c9c", func := "gatefold/gatefoldlaw16.KinNested", spec := "kinNested", unfollowed := true, recurses := true, apart := false, narrowed := true }
def KinNestedUptoSaid : Prop := kinNestedUptoRow.holds Try.pinned (OpenSpec.upto kinNestedSpec)

/-- 'gatefoldlaw17.ForcedLast', WHERE WHAT IT READS IS OF BULK AT MOST 1048576: true; the input reads as it did. -/
def forcedLastUptoRow : OpenClaim := { program := "ytbgcmnccjfdooaa", sum := "1773189591aaadecdbbd216bc0bbcd4604a47d0a235f0c1666959941c7858c9c", func := "gatefold/gatefoldlaw17.ForcedLast", spec := "forcedLast", unfollowed := true, recurses := true, apart := false, narrowed := true }
def ForcedLastUptoSaid : Prop := forcedLastUptoRow.holds Try.pinned (OpenSpec.upto forcedLastSpec)

/-- 'gatefoldlaw17.ForcedTells', WHERE WHAT IT READS IS OF BULK AT MOST 1048576: true; the input reads as it did. -/
def forcedTellsUptoRow : OpenClaim := { program := "ytbgcmnccjfdooaa", sum := "1773189591aaadecdbbd216bc0bbcd4604a47d0a235f0c1666959941c7858c9c", func := "gatefold/gatefoldlaw17.ForcedTells", spec := "forcedTells", unfollowed := true, recurses := true, apart := false, narrowed := true }
def ForcedTellsUptoSaid : Prop := forcedTellsUptoRow.holds Try.pinned (OpenSpec.upto forcedTellsSpec)

/-- 'gatefoldlaw17.ForcedHeads', WHERE WHAT IT READS IS OF BULK AT MOST 1048576: true; the input reads as it did. -/
def forcedHeadsUptoRow : OpenClaim := { program := "ytbgcmnccjfdooaa", sum := "1773189591aaadecdbbd216bc0bbcd4604a47d0a235f0c1666959941c7858c9c", func := "gatefold/gatefoldlaw17.ForcedHeads", spec := "forcedHeads", unfollowed := true, recurses := true, apart := false, narrowed := true }
def ForcedHeadsUptoSaid : Prop := forcedHeadsUptoRow.holds Try.pinned (OpenSpec.upto forcedHeadsSpec)

/-- 'gatefoldlaw18.RankTells', WHERE WHAT IT READS IS OF BULK AT MOST 1048576: true; the input reads as it did. -/
def rankTellsUptoRow : OpenClaim := { program := "ytbgcmnccjfdooaa", sum := "1773189591aaadecdbbd216bc0bbcd4604a47d0a235f0c1666959941c7858c9c", func := "gatefold/gatefoldlaw18.RankTells", spec := "rankTells", unfollowed := true, recurses := true, apart := false, narrowed := true }
def RankTellsUptoSaid : Prop := rankTellsUptoRow.holds Try.pinned (OpenSpec.upto rankTellsSpec)

/-- 'gatefoldlaw18.RankParts', WHERE WHAT IT READS IS OF BULK AT MOST 1048576: true; the input reads as it did. -/
def rankPartsUptoRow : OpenClaim := { program := "ytbgcmnccjfdooaa", sum := "1773189591aaadecdbbd216bc0bbcd4604a47d0a235f0c1666959941c7858c9c", func := "gatefold/gatefoldlaw18.RankParts", spec := "rankParts", unfollowed := true, recurses := true, apart := false, narrowed := true }
def RankPartsUptoSaid : Prop := rankPartsUptoRow.holds Try.pinned (OpenSpec.upto rankPartsSpec)

/-- 'gatefoldlaw18.RankMinds', WHERE WHAT IT READS IS OF BULK AT MOST 1048576: true; the input reads as it did. -/
def rankMindsUptoRow : OpenClaim := { program := "ytbgcmnccjfdooaa", sum := "1773189591aaadecdbbd216bc0bbcd4604a47d0a235f0c1666959941c7858c9c", func := "gatefold/gatefoldlaw18.RankMinds", spec := "rankMinds", unfollowed := true, recurses := true, apart := false, narrowed := true }
def RankMindsUptoSaid : Prop := rankMindsUptoRow.holds Try.pinned (OpenSpec.upto rankMindsSpec)

/-- 'gatefoldlaw19.BreaksFind', WHERE WHAT IT READS IS OF BULK AT MOST 1048576: true; the input reads as it did. -/
def breaksFindUptoRow : OpenClaim := { program := "ytbgcmnccjfdooaa", sum := "1773189591aaadecdbbd216bc0bbcd4604a47d0a235f0c1666959941c7858c9c", func := "gatefold/gatefoldlaw19.BreaksFind", spec := "breaksFind", unfollowed := true, recurses := true, apart := false, narrowed := true }
def BreaksFindUptoSaid : Prop := breaksFindUptoRow.holds Try.pinned (OpenSpec.upto breaksFindSpec)

/-- 'gatefoldlaw19.BreaksMay', WHERE WHAT IT READS IS OF BULK AT MOST 1048576: true; the input reads as it did. -/
def breaksMayUptoRow : OpenClaim := { program := "ytbgcmnccjfdooaa", sum := "1773189591aaadecdbbd216bc0bbcd4604a47d0a235f0c1666959941c7858c9c", func := "gatefold/gatefoldlaw19.BreaksMay", spec := "breaksMay", unfollowed := true, recurses := true, apart := false, narrowed := true }
def BreaksMayUptoSaid : Prop := breaksMayUptoRow.holds Try.pinned (OpenSpec.upto breaksMaySpec)

/-- 'gatefoldlaw19.BreaksParts', WHERE WHAT IT READS IS OF BULK AT MOST 1048576: true; the input reads as it did. -/
def breaksPartsUptoRow : OpenClaim := { program := "ytbgcmnccjfdooaa", sum := "1773189591aaadecdbbd216bc0bbcd4604a47d0a235f0c1666959941c7858c9c", func := "gatefold/gatefoldlaw19.BreaksParts", spec := "breaksParts", unfollowed := true, recurses := true, apart := false, narrowed := true }
def BreaksPartsUptoSaid : Prop := breaksPartsUptoRow.holds Try.pinned (OpenSpec.upto breaksPartsSpec)

end Rows
end Go.Proofs.Ytbgcmnccjfdooaa
