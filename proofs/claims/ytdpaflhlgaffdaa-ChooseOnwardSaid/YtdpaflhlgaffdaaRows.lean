/-
  No cell of these rows narrows 'for every input' (looked for: loops, veiled, ifaces, maps, wideKeys, modest, calm, conditions, laid).
  DERIVED. THE GIVEN ROWS OF THIS SEAT. 7 by the template 'for every input the law returns true; each argument reads behind the call as it read before'; 0 by the template 'total and deterministic' (their statements: YtdpaflhlgaffdaaTotals.lean).
  GIVEN WITH THE SEED: the statements are not yours to turn. If you find one false, say at which input.
  Laid BY PROGRAM, IN A SANDBOX (cutbox-rows.mjs): the forced cells as the released guide's own fill.sh prints them over the translation a08ba07c7f914dac… (all of the seat's roots in one cut). By AI agents, Wed Nov 11 2026. No macro, syntax, notation, axiom, sorry.
-/
import Derived.Test.YtdpaflhlgaffdaaChecked
import GoSem.Claim
import GoSem.ClaimJoined
import GoSem.ClaimMapViews
import Derived.JoinedTies
import Derived.KernelRfl
namespace Go.Proofs.Ytdpaflhlgaffdaa
/- THE CELL 'sum', in the pinned program and in every row, IS THE sha256 OF THE DUMP (.gsa) THAT YtdpaflhlgaffdaaProg.lean LOADS. Nothing in Lean hashes anything: it is a label: what it is worth is what the hold of that sum in a sandbox is worth. -/
noncomputable def Try.pinned : Pinned := { name := "ytdpaflhlgaffdaa", sum := "a08ba07c7f914dac7e44087710194dae386f8603218c02d79a7d3d1f2035f03e", checked := Try.checked }
namespace Rows
def none {H : Type} : Left H := { results := [], args := [] }

/-- 'gatefoldlaw03.RectRows': WHATEVER THE INPUT: true; the input reads as it did. -/
def rectRowsSpec : ChangeSpec := { name := "rectRows", fn := fun _ => fun
  | [d1, d2, d3] => { results := [.lit (.bool true)], args := [d1, d2, d3] }
  | _ => none }
def rectRowsRow : OpenClaim := { program := "ytdpaflhlgaffdaa", sum := "a08ba07c7f914dac7e44087710194dae386f8603218c02d79a7d3d1f2035f03e", func := "gatefold/gatefoldlaw03.RectRows", spec := "rectRows", apart := false }
def RectRowsSaid : Prop := rectRowsRow.holds Try.pinned (OpenSpec.ofChange rectRowsSpec)

/-- ITS FALSE NEIGHBOUR: 'it returns false'. Refute it at one input. -/
def rectRowsWrong : ChangeSpec := { name := "rectRows", fn := fun _ => fun
  | [d1, d2, d3] => { results := [.lit (.bool false)], args := [d1, d2, d3] }
  | _ => none }
def RectRowsWrongFalsely : Prop := rectRowsRow.holds Try.pinned (OpenSpec.ofChange rectRowsWrong)

/-- 'gatefoldlaw10.BandsTell': WHATEVER THE INPUT: true; the input reads as it did. -/
def bandsTellSpec : ChangeSpec := { name := "bandsTell", fn := fun _ => fun
  | [d1, d2, d3, d4, d5] => { results := [.lit (.bool true)], args := [d1, d2, d3, d4, d5] }
  | _ => none }
def bandsTellRow : OpenClaim := { program := "ytdpaflhlgaffdaa", sum := "a08ba07c7f914dac7e44087710194dae386f8603218c02d79a7d3d1f2035f03e", func := "gatefold/gatefoldlaw10.BandsTell", spec := "bandsTell", unfollowed := true, recurses := true, apart := false }
def BandsTellSaid : Prop := bandsTellRow.holds Try.pinned (OpenSpec.ofChange bandsTellSpec)

/-- ITS FALSE NEIGHBOUR: 'it returns false'. Refute it at one input. -/
def bandsTellWrong : ChangeSpec := { name := "bandsTell", fn := fun _ => fun
  | [d1, d2, d3, d4, d5] => { results := [.lit (.bool false)], args := [d1, d2, d3, d4, d5] }
  | _ => none }
def BandsTellWrongFalsely : Prop := bandsTellRow.holds Try.pinned (OpenSpec.ofChange bandsTellWrong)

/-- 'gatefoldlaw03.RectSlices': WHATEVER THE INPUT: true; the input reads as it did. -/
def rectSlicesSpec : ChangeSpec := { name := "rectSlices", fn := fun _ => fun
  | [d1, d2, d3, d4] => { results := [.lit (.bool true)], args := [d1, d2, d3, d4] }
  | _ => none }
def rectSlicesRow : OpenClaim := { program := "ytdpaflhlgaffdaa", sum := "a08ba07c7f914dac7e44087710194dae386f8603218c02d79a7d3d1f2035f03e", func := "gatefold/gatefoldlaw03.RectSlices", spec := "rectSlices", apart := false }
def RectSlicesSaid : Prop := rectSlicesRow.holds Try.pinned (OpenSpec.ofChange rectSlicesSpec)

/-- ITS FALSE NEIGHBOUR: 'it returns false'. Refute it at one input. -/
def rectSlicesWrong : ChangeSpec := { name := "rectSlices", fn := fun _ => fun
  | [d1, d2, d3, d4] => { results := [.lit (.bool false)], args := [d1, d2, d3, d4] }
  | _ => none }
def RectSlicesWrongFalsely : Prop := rectSlicesRow.holds Try.pinned (OpenSpec.ofChange rectSlicesWrong)

/-- 'gatefoldlaw11.PlaceSpots': WHATEVER THE INPUT: true; the input reads as it did. -/
def placeSpotsSpec : ChangeSpec := { name := "placeSpots", fn := fun _ => fun
  | [d1, d2, d3, d4] => { results := [.lit (.bool true)], args := [d1, d2, d3, d4] }
  | _ => none }
def placeSpotsRow : OpenClaim := { program := "ytdpaflhlgaffdaa", sum := "a08ba07c7f914dac7e44087710194dae386f8603218c02d79a7d3d1f2035f03e", func := "gatefold/gatefoldlaw11.PlaceSpots", spec := "placeSpots", unfollowed := true, recurses := true, apart := false }
def PlaceSpotsSaid : Prop := placeSpotsRow.holds Try.pinned (OpenSpec.ofChange placeSpotsSpec)

/-- ITS FALSE NEIGHBOUR: 'it returns false'. Refute it at one input. -/
def placeSpotsWrong : ChangeSpec := { name := "placeSpots", fn := fun _ => fun
  | [d1, d2, d3, d4] => { results := [.lit (.bool false)], args := [d1, d2, d3, d4] }
  | _ => none }
def PlaceSpotsWrongFalsely : Prop := placeSpotsRow.holds Try.pinned (OpenSpec.ofChange placeSpotsWrong)

/-- 'gatefoldlaw22.ChooseCuts': WHATEVER THE INPUT: true; the input reads as it did. -/
def chooseCutsSpec : ChangeSpec := { name := "chooseCuts", fn := fun _ => fun
  | [d1, d2, d3, d4] => { results := [.lit (.bool true)], args := [d1, d2, d3, d4] }
  | _ => none }
def chooseCutsRow : OpenClaim := { program := "ytdpaflhlgaffdaa", sum := "a08ba07c7f914dac7e44087710194dae386f8603218c02d79a7d3d1f2035f03e", func := "gatefold/gatefoldlaw22.ChooseCuts", spec := "chooseCuts", unfollowed := true, recurses := true, apart := false }
def ChooseCutsSaid : Prop := chooseCutsRow.holds Try.pinned (OpenSpec.ofChange chooseCutsSpec)

/-- ITS FALSE NEIGHBOUR: 'it returns false'. Refute it at one input. -/
def chooseCutsWrong : ChangeSpec := { name := "chooseCuts", fn := fun _ => fun
  | [d1, d2, d3, d4] => { results := [.lit (.bool false)], args := [d1, d2, d3, d4] }
  | _ => none }
def ChooseCutsWrongFalsely : Prop := chooseCutsRow.holds Try.pinned (OpenSpec.ofChange chooseCutsWrong)

/-- 'gatefoldlaw22.ChooseBest': WHATEVER THE INPUT: true; the input reads as it did. -/
def chooseBestSpec : ChangeSpec := { name := "chooseBest", fn := fun _ => fun
  | [d1, d2, d3] => { results := [.lit (.bool true)], args := [d1, d2, d3] }
  | _ => none }
def chooseBestRow : OpenClaim := { program := "ytdpaflhlgaffdaa", sum := "a08ba07c7f914dac7e44087710194dae386f8603218c02d79a7d3d1f2035f03e", func := "gatefold/gatefoldlaw22.ChooseBest", spec := "chooseBest", unfollowed := true, recurses := true, apart := false }
def ChooseBestSaid : Prop := chooseBestRow.holds Try.pinned (OpenSpec.ofChange chooseBestSpec)

/-- ITS FALSE NEIGHBOUR: 'it returns false'. Refute it at one input. -/
def chooseBestWrong : ChangeSpec := { name := "chooseBest", fn := fun _ => fun
  | [d1, d2, d3] => { results := [.lit (.bool false)], args := [d1, d2, d3] }
  | _ => none }
def ChooseBestWrongFalsely : Prop := chooseBestRow.holds Try.pinned (OpenSpec.ofChange chooseBestWrong)

/-- 'gatefoldlaw22.ChooseOnward': WHATEVER THE INPUT: true; the input reads as it did. -/
def chooseOnwardSpec : ChangeSpec := { name := "chooseOnward", fn := fun _ => fun
  | [d1, d2] => { results := [.lit (.bool true)], args := [d1, d2] }
  | _ => none }
def chooseOnwardRow : OpenClaim := { program := "ytdpaflhlgaffdaa", sum := "a08ba07c7f914dac7e44087710194dae386f8603218c02d79a7d3d1f2035f03e", func := "gatefold/gatefoldlaw22.ChooseOnward", spec := "chooseOnward", unfollowed := true, recurses := true, apart := false }
def ChooseOnwardSaid : Prop := chooseOnwardRow.holds Try.pinned (OpenSpec.ofChange chooseOnwardSpec)

/-- ITS FALSE NEIGHBOUR: 'it returns false'. Refute it at one input. -/
def chooseOnwardWrong : ChangeSpec := { name := "chooseOnward", fn := fun _ => fun
  | [d1, d2] => { results := [.lit (.bool false)], args := [d1, d2] }
  | _ => none }
def ChooseOnwardWrongFalsely : Prop := chooseOnwardRow.holds Try.pinned (OpenSpec.ofChange chooseOnwardWrong)

/- THE SECOND FORM. 'bulk': how many values and letters a reading holds, each counted each time it is reached (what is shared counts as often as it is met; a slice's spare places count too). A statement '..UptoSaid' is the law's where the arguments, and the package variables that the reading takes, are together of bulk at most 1048576: NARROWER than '..Said'. Prove '..Said' where nothing that the law and all that it calls make is longer than what came in: it says more and counts as full. Else prove '..UptoSaid'. A law counts once. -/
mutual
def uptoBulk {H : Type} : DataW H → Nat
  | .lit (.string bytes) => bytes.length + 1
  | .lit _ => 1
  | .nil => 1
  | .ptr d => uptoBulk d + 1
  | .slice elems spare => uptoBulkAll elems + uptoBulkAll spare + 1
  | .agg parts => uptoBulkAll parts + 1
  | .iface _ d => uptoBulk d + 1
  | .map entries => uptoBulkEntries entries + 1
  | .held _ => 1
def uptoBulkAll {H : Type} : List (DataW H) → Nat
  | [] => 0
  | d :: r => uptoBulk d + uptoBulkAll r
def uptoBulkEntries {H : Type} : List (Lit × DataW H) → Nat
  | [] => 0
  | x :: r => uptoBulkEntry x + uptoBulkEntries r
def uptoBulkEntry {H : Type} : Lit × DataW H → Nat
  | (.string bytes, d) => bytes.length + uptoBulk d + 1
  | (_, d) => uptoBulk d + 1
 end
def uptoSmall : (H : Type) → List (DataW H) → Bool := fun _ ds => decide (uptoBulkAll ds ≤ 1048576)
def OpenSpec.upto (s : _root_.Go.ChangeSpec) : _root_.Go.OpenSpec := { _root_.Go.OpenSpec.ofChange s with cond := some uptoSmall }

/-- 'gatefoldlaw03.RectRows', WHERE WHAT IT READS IS OF BULK AT MOST 1048576: true; the input reads as it did. -/
def rectRowsUptoRow : OpenClaim := { program := "ytdpaflhlgaffdaa", sum := "a08ba07c7f914dac7e44087710194dae386f8603218c02d79a7d3d1f2035f03e", func := "gatefold/gatefoldlaw03.RectRows", spec := "rectRows", apart := false, narrowed := true }
def RectRowsUptoSaid : Prop := rectRowsUptoRow.holds Try.pinned (OpenSpec.upto rectRowsSpec)

/-- 'gatefoldlaw10.BandsTell', WHERE WHAT IT READS IS OF BULK AT MOST 1048576: true; the input reads as it did. -/
def bandsTellUptoRow : OpenClaim := { program := "ytdpaflhlgaffdaa", sum := "a08ba07c7f914dac7e44087710194dae386f8603218c02d79a7d3d1f2035f03e", func := "gatefold/gatefoldlaw10.BandsTell", spec := "bandsTell", unfollowed := true, recurses := true, apart := false, narrowed := true }
def BandsTellUptoSaid : Prop := bandsTellUptoRow.holds Try.pinned (OpenSpec.upto bandsTellSpec)

/-- 'gatefoldlaw03.RectSlices', WHERE WHAT IT READS IS OF BULK AT MOST 1048576: true; the input reads as it did. -/
def rectSlicesUptoRow : OpenClaim := { program := "ytdpaflhlgaffdaa", sum := "a08ba07c7f914dac7e44087710194dae386f8603218c02d79a7d3d1f2035f03e", func := "gatefold/gatefoldlaw03.RectSlices", spec := "rectSlices", apart := false, narrowed := true }
def RectSlicesUptoSaid : Prop := rectSlicesUptoRow.holds Try.pinned (OpenSpec.upto rectSlicesSpec)

/-- 'gatefoldlaw11.PlaceSpots', WHERE WHAT IT READS IS OF BULK AT MOST 1048576: true; the input reads as it did. -/
def placeSpotsUptoRow : OpenClaim := { program := "ytdpaflhlgaffdaa", sum := "a08ba07c7f914dac7e44087710194dae386f8603218c02d79a7d3d1f2035f03e", func := "gatefold/gatefoldlaw11.PlaceSpots", spec := "placeSpots", unfollowed := true, recurses := true, apart := false, narrowed := true }
def PlaceSpotsUptoSaid : Prop := placeSpotsUptoRow.holds Try.pinned (OpenSpec.upto placeSpotsSpec)

/-- 'gatefoldlaw22.ChooseCuts', WHERE WHAT IT READS IS OF BULK AT MOST 1048576: true; the input reads as it did. -/
def chooseCutsUptoRow : OpenClaim := { program := "ytdpaflhlgaffdaa", sum := "a08ba07c7f914dac7e44087710194dae386f8603218c02d79a7d3d1f2035f03e", func := "gatefold/gatefoldlaw22.ChooseCuts", spec := "chooseCuts", unfollowed := true, recurses := true, apart := false, narrowed := true }
def ChooseCutsUptoSaid : Prop := chooseCutsUptoRow.holds Try.pinned (OpenSpec.upto chooseCutsSpec)

/-- 'gatefoldlaw22.ChooseBest', WHERE WHAT IT READS IS OF BULK AT MOST 1048576: true; the input reads as it did. -/
def chooseBestUptoRow : OpenClaim := { program := "ytdpaflhlgaffdaa", sum := "a08ba07c7f914dac7e44087710194dae386f8603218c02d79a7d3d1f2035f03e", func := "gatefold/gatefoldlaw22.ChooseBest", spec := "chooseBest", unfollowed := true, recurses := true, apart := false, narrowed := true }
def ChooseBestUptoSaid : Prop := chooseBestUptoRow.holds Try.pinned (OpenSpec.upto chooseBestSpec)

/-- 'gatefoldlaw22.ChooseOnward', WHERE WHAT IT READS IS OF BULK AT MOST 1048576: true; the input reads as it did. -/
def chooseOnwardUptoRow : OpenClaim := { program := "ytdpaflhlgaffdaa", sum := "a08ba07c7f914dac7e44087710194dae386f8603218c02d79a7d3d1f2035f03e", func := "gatefold/gatefoldlaw22.ChooseOnward", spec := "chooseOnward", unfollowed := true, recurses := true, apart := false, narrowed := true }
def ChooseOnwardUptoSaid : Prop := chooseOnwardUptoRow.holds Try.pinned (OpenSpec.upto chooseOnwardSpec)

end Rows
end Go.Proofs.Ytdpaflhlgaffdaa
