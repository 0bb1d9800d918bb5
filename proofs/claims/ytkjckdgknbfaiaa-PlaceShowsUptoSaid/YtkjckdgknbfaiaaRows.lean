/-
  No cell of these rows narrows 'for every input' (looked for: loops, veiled, ifaces, maps, wideKeys, modest, calm, conditions, laid).
  DERIVED. THE GIVEN ROWS OF THIS SEAT. 11 by the template 'for every input the law returns true; each argument reads behind the call as it read before'; 0 by the template 'total and deterministic' (their statements: YtkjckdgknbfaiaaTotals.lean).
  GIVEN WITH THE SEED: the statements are not yours to turn. If you find one false, say at which input.
  Laid BY PROGRAM, IN A SANDBOX (cutbox-rows.mjs): the forced cells as the released guide's own fill.sh prints them over the translation d28c7c152799a210… (all of the seat's roots in one cut). By AI agents, Wed Nov 11 2026. No macro, syntax, notation, axiom, sorry.
-/
import Derived.Test.YtkjckdgknbfaiaaChecked
import GoSem.Claim
import GoSem.ClaimJoined
import GoSem.ClaimMapViews
import Derived.JoinedTies
import Derived.KernelRfl
namespace Go.Proofs.Ytkjckdgknbfaiaa
/- THE CELL 'sum', in the pinned program and in every row, IS THE sha256 OF THE DUMP (.gsa) THAT YtkjckdgknbfaiaaProg.lean LOADS. Nothing in Lean hashes anything: it is a label: what it is worth is what the hold of that sum in a sandbox is worth. -/
noncomputable def Try.pinned : Pinned := { name := "ytkjckdgknbfaiaa", sum := "d28c7c152799a210238a087606724d2f1964ea2cc51a8c2b6fdb686529f0e817", checked := Try.checked }
namespace Rows
def none {H : Type} : Left H := { results := [], args := [] }

/-- 'dowellaw02.PlaceNames': WHATEVER THE INPUT: true; the input reads as it did. -/
def placeNamesSpec : ChangeSpec := { name := "placeNames", fn := fun _ => fun
  | [] => { results := [.lit (.bool true)], args := [] }
  | _ => none }
def placeNamesRow : OpenClaim := { program := "ytkjckdgknbfaiaa", sum := "d28c7c152799a210238a087606724d2f1964ea2cc51a8c2b6fdb686529f0e817", func := "dowel/dowellaw02.PlaceNames", spec := "placeNames", apart := false }
def PlaceNamesSaid : Prop := placeNamesRow.holds Try.pinned (OpenSpec.ofChange placeNamesSpec)

/-- ITS FALSE NEIGHBOUR: 'it returns false'. Refute it at one input. -/
def placeNamesWrong : ChangeSpec := { name := "placeNames", fn := fun _ => fun
  | [] => { results := [.lit (.bool false)], args := [] }
  | _ => none }
def PlaceNamesWrongFalsely : Prop := placeNamesRow.holds Try.pinned (OpenSpec.ofChange placeNamesWrong)

/-- 'dowellaw02.PlaceRunes': WHATEVER THE INPUT: true; the input reads as it did. -/
def placeRunesSpec : ChangeSpec := { name := "placeRunes", fn := fun _ => fun
  | [d1, d2, d3] => { results := [.lit (.bool true)], args := [d1, d2, d3] }
  | _ => none }
def placeRunesRow : OpenClaim := { program := "ytkjckdgknbfaiaa", sum := "d28c7c152799a210238a087606724d2f1964ea2cc51a8c2b6fdb686529f0e817", func := "dowel/dowellaw02.PlaceRunes", spec := "placeRunes", unfollowed := true, recurses := true, apart := false }
def PlaceRunesSaid : Prop := placeRunesRow.holds Try.pinned (OpenSpec.ofChange placeRunesSpec)

/-- ITS FALSE NEIGHBOUR: 'it returns false'. Refute it at one input. -/
def placeRunesWrong : ChangeSpec := { name := "placeRunes", fn := fun _ => fun
  | [d1, d2, d3] => { results := [.lit (.bool false)], args := [d1, d2, d3] }
  | _ => none }
def PlaceRunesWrongFalsely : Prop := placeRunesRow.holds Try.pinned (OpenSpec.ofChange placeRunesWrong)

/-- 'dowellaw02.PlaceAts': WHATEVER THE INPUT: true; the input reads as it did. -/
def placeAtsSpec : ChangeSpec := { name := "placeAts", fn := fun _ => fun
  | [d1, d2, d3] => { results := [.lit (.bool true)], args := [d1, d2, d3] }
  | _ => none }
def placeAtsRow : OpenClaim := { program := "ytkjckdgknbfaiaa", sum := "d28c7c152799a210238a087606724d2f1964ea2cc51a8c2b6fdb686529f0e817", func := "dowel/dowellaw02.PlaceAts", spec := "placeAts", inPlace := ["internal/bytealg.IndexByteString"], apart := false }
def PlaceAtsSaid : Prop := placeAtsRow.holds Try.pinned (OpenSpec.ofChange placeAtsSpec)

/-- ITS FALSE NEIGHBOUR: 'it returns false'. Refute it at one input. -/
def placeAtsWrong : ChangeSpec := { name := "placeAts", fn := fun _ => fun
  | [d1, d2, d3] => { results := [.lit (.bool false)], args := [d1, d2, d3] }
  | _ => none }
def PlaceAtsWrongFalsely : Prop := placeAtsRow.holds Try.pinned (OpenSpec.ofChange placeAtsWrong)

/-- 'dowellaw02.PlaceLines': WHATEVER THE INPUT: true; the input reads as it did. -/
def placeLinesSpec : ChangeSpec := { name := "placeLines", fn := fun _ => fun
  | [d1, d2] => { results := [.lit (.bool true)], args := [d1, d2] }
  | _ => none }
def placeLinesRow : OpenClaim := { program := "ytkjckdgknbfaiaa", sum := "d28c7c152799a210238a087606724d2f1964ea2cc51a8c2b6fdb686529f0e817", func := "dowel/dowellaw02.PlaceLines", spec := "placeLines", inPlace := ["internal/bytealg.CountString", "internal/bytealg.IndexByteString", "internal/bytealg.IndexString"], named := ["internal/bytealg.MaxLen"], apart := false }
def PlaceLinesSaid : Prop := placeLinesRow.holds Try.pinned (OpenSpec.ofChange placeLinesSpec)

/-- ITS FALSE NEIGHBOUR: 'it returns false'. Refute it at one input. -/
def placeLinesWrong : ChangeSpec := { name := "placeLines", fn := fun _ => fun
  | [d1, d2] => { results := [.lit (.bool false)], args := [d1, d2] }
  | _ => none }
def PlaceLinesWrongFalsely : Prop := placeLinesRow.holds Try.pinned (OpenSpec.ofChange placeLinesWrong)

/-- 'dowellaw02.PlaceSpots': WHATEVER THE INPUT: true; the input reads as it did. -/
def placeSpotsSpec : ChangeSpec := { name := "placeSpots", fn := fun _ => fun
  | [d1, d2] => { results := [.lit (.bool true)], args := [d1, d2] }
  | _ => none }
def placeSpotsRow : OpenClaim := { program := "ytkjckdgknbfaiaa", sum := "d28c7c152799a210238a087606724d2f1964ea2cc51a8c2b6fdb686529f0e817", func := "dowel/dowellaw02.PlaceSpots", spec := "placeSpots", inPlace := ["internal/bytealg.IndexByteString", "internal/bytealg.CountString", "internal/bytealg.IndexString"], named := ["internal/bytealg.MaxLen"], apart := false }
def PlaceSpotsSaid : Prop := placeSpotsRow.holds Try.pinned (OpenSpec.ofChange placeSpotsSpec)

/-- ITS FALSE NEIGHBOUR: 'it returns false'. Refute it at one input. -/
def placeSpotsWrong : ChangeSpec := { name := "placeSpots", fn := fun _ => fun
  | [d1, d2] => { results := [.lit (.bool false)], args := [d1, d2] }
  | _ => none }
def PlaceSpotsWrongFalsely : Prop := placeSpotsRow.holds Try.pinned (OpenSpec.ofChange placeSpotsWrong)

/-- 'dowellaw02.PlaceExcerpts': WHATEVER THE INPUT: true; the input reads as it did. -/
def placeExcerptsSpec : ChangeSpec := { name := "placeExcerpts", fn := fun _ => fun
  | [d1, d2, d3] => { results := [.lit (.bool true)], args := [d1, d2, d3] }
  | _ => none }
def placeExcerptsRow : OpenClaim := { program := "ytkjckdgknbfaiaa", sum := "d28c7c152799a210238a087606724d2f1964ea2cc51a8c2b6fdb686529f0e817", func := "dowel/dowellaw02.PlaceExcerpts", spec := "placeExcerpts", inPlace := ["internal/bytealg.IndexByteString", "internal/abi.NoEscape", "internal/bytealg.MakeNoZero"], apart := false }
def PlaceExcerptsSaid : Prop := placeExcerptsRow.holds Try.pinned (OpenSpec.ofChange placeExcerptsSpec)

/-- ITS FALSE NEIGHBOUR: 'it returns false'. Refute it at one input. -/
def placeExcerptsWrong : ChangeSpec := { name := "placeExcerpts", fn := fun _ => fun
  | [d1, d2, d3] => { results := [.lit (.bool false)], args := [d1, d2, d3] }
  | _ => none }
def PlaceExcerptsWrongFalsely : Prop := placeExcerptsRow.holds Try.pinned (OpenSpec.ofChange placeExcerptsWrong)

/-- 'dowellaw02.PlaceBack': WHATEVER THE INPUT: true; the input reads as it did. -/
def placeBackSpec : ChangeSpec := { name := "placeBack", fn := fun _ => fun
  | [d1, d2, d3, d4] => { results := [.lit (.bool true)], args := [d1, d2, d3, d4] }
  | _ => none }
def placeBackRow : OpenClaim := { program := "ytkjckdgknbfaiaa", sum := "d28c7c152799a210238a087606724d2f1964ea2cc51a8c2b6fdb686529f0e817", func := "dowel/dowellaw02.PlaceBack", spec := "placeBack", inPlace := ["internal/bytealg.IndexByteString", "internal/bytealg.CountString", "internal/bytealg.IndexString", "internal/abi.NoEscape", "internal/bytealg.MakeNoZero"], named := ["internal/bytealg.MaxLen"], apart := false }
def PlaceBackSaid : Prop := placeBackRow.holds Try.pinned (OpenSpec.ofChange placeBackSpec)

/-- ITS FALSE NEIGHBOUR: 'it returns false'. Refute it at one input. -/
def placeBackWrong : ChangeSpec := { name := "placeBack", fn := fun _ => fun
  | [d1, d2, d3, d4] => { results := [.lit (.bool false)], args := [d1, d2, d3, d4] }
  | _ => none }
def PlaceBackWrongFalsely : Prop := placeBackRow.holds Try.pinned (OpenSpec.ofChange placeBackWrong)

/-- 'dowellaw02.PlaceJoins': WHATEVER THE INPUT: true; the input reads as it did. -/
def placeJoinsSpec : ChangeSpec := { name := "placeJoins", fn := fun _ => fun
  | [d] => { results := [.lit (.bool true)], args := [d] }
  | _ => none }
def placeJoinsRow : OpenClaim := { program := "ytkjckdgknbfaiaa", sum := "d28c7c152799a210238a087606724d2f1964ea2cc51a8c2b6fdb686529f0e817", func := "dowel/dowellaw02.PlaceJoins", spec := "placeJoins", inPlace := ["internal/bytealg.IndexByteString", "internal/bytealg.CountString", "internal/bytealg.IndexString", "internal/abi.NoEscape", "internal/bytealg.MakeNoZero"], named := ["internal/bytealg.MaxLen"], apart := false }
def PlaceJoinsSaid : Prop := placeJoinsRow.holds Try.pinned (OpenSpec.ofChange placeJoinsSpec)

/-- ITS FALSE NEIGHBOUR: 'it returns false'. Refute it at one input. -/
def placeJoinsWrong : ChangeSpec := { name := "placeJoins", fn := fun _ => fun
  | [d] => { results := [.lit (.bool false)], args := [d] }
  | _ => none }
def PlaceJoinsWrongFalsely : Prop := placeJoinsRow.holds Try.pinned (OpenSpec.ofChange placeJoinsWrong)

/-- 'dowellaw02.PlaceRises': WHATEVER THE INPUT: true; the input reads as it did. -/
def placeRisesSpec : ChangeSpec := { name := "placeRises", fn := fun _ => fun
  | [d1, d2, d3] => { results := [.lit (.bool true)], args := [d1, d2, d3] }
  | _ => none }
def placeRisesRow : OpenClaim := { program := "ytkjckdgknbfaiaa", sum := "d28c7c152799a210238a087606724d2f1964ea2cc51a8c2b6fdb686529f0e817", func := "dowel/dowellaw02.PlaceRises", spec := "placeRises", inPlace := ["internal/bytealg.IndexByteString", "internal/bytealg.CountString", "internal/bytealg.IndexString", "internal/abi.NoEscape", "internal/bytealg.MakeNoZero"], named := ["internal/bytealg.MaxLen"], apart := false }
def PlaceRisesSaid : Prop := placeRisesRow.holds Try.pinned (OpenSpec.ofChange placeRisesSpec)

/-- ITS FALSE NEIGHBOUR: 'it returns false'. Refute it at one input. -/
def placeRisesWrong : ChangeSpec := { name := "placeRises", fn := fun _ => fun
  | [d1, d2, d3] => { results := [.lit (.bool false)], args := [d1, d2, d3] }
  | _ => none }
def PlaceRisesWrongFalsely : Prop := placeRisesRow.holds Try.pinned (OpenSpec.ofChange placeRisesWrong)

/-- 'dowellaw02.PlaceTiles': WHATEVER THE INPUT: true; the input reads as it did. -/
def placeTilesSpec : ChangeSpec := { name := "placeTiles", fn := fun _ => fun
  | [d] => { results := [.lit (.bool true)], args := [d] }
  | _ => none }
def placeTilesRow : OpenClaim := { program := "ytkjckdgknbfaiaa", sum := "d28c7c152799a210238a087606724d2f1964ea2cc51a8c2b6fdb686529f0e817", func := "dowel/dowellaw02.PlaceTiles", spec := "placeTiles", inPlace := ["internal/bytealg.IndexByteString", "internal/bytealg.CountString", "internal/bytealg.IndexString", "internal/abi.NoEscape", "internal/bytealg.MakeNoZero"], unfollowed := true, recurses := true, named := ["internal/bytealg.MaxLen"], apart := false }
def PlaceTilesSaid : Prop := placeTilesRow.holds Try.pinned (OpenSpec.ofChange placeTilesSpec)

/-- ITS FALSE NEIGHBOUR: 'it returns false'. Refute it at one input. -/
def placeTilesWrong : ChangeSpec := { name := "placeTiles", fn := fun _ => fun
  | [d] => { results := [.lit (.bool false)], args := [d] }
  | _ => none }
def PlaceTilesWrongFalsely : Prop := placeTilesRow.holds Try.pinned (OpenSpec.ofChange placeTilesWrong)

/-- 'dowellaw02.PlaceShows': WHATEVER THE INPUT: true; the input reads as it did. -/
def placeShowsSpec : ChangeSpec := { name := "placeShows", fn := fun _ => fun
  | [d1, d2, d3] => { results := [.lit (.bool true)], args := [d1, d2, d3] }
  | _ => none }
def placeShowsRow : OpenClaim := { program := "ytkjckdgknbfaiaa", sum := "d28c7c152799a210238a087606724d2f1964ea2cc51a8c2b6fdb686529f0e817", func := "dowel/dowellaw02.PlaceShows", spec := "placeShows", inPlace := ["internal/bytealg.IndexByteString", "internal/bytealg.CountString", "internal/bytealg.IndexString", "internal/abi.NoEscape", "internal/bytealg.MakeNoZero"], unfollowed := true, recurses := true, named := ["internal/bytealg.MaxLen"], apart := false }
def PlaceShowsSaid : Prop := placeShowsRow.holds Try.pinned (OpenSpec.ofChange placeShowsSpec)

/-- ITS FALSE NEIGHBOUR: 'it returns false'. Refute it at one input. -/
def placeShowsWrong : ChangeSpec := { name := "placeShows", fn := fun _ => fun
  | [d1, d2, d3] => { results := [.lit (.bool false)], args := [d1, d2, d3] }
  | _ => none }
def PlaceShowsWrongFalsely : Prop := placeShowsRow.holds Try.pinned (OpenSpec.ofChange placeShowsWrong)

/- THE SECOND FORM. 'bulk': how many values and letters a reading holds, each counted each time it is reached (what is shared counts as often as it is met; a slice's spare places count too). A statement '..UptoSaid' is the law's where the arguments, and the package variables that the reading takes, are together of bulk at most 1048576: NARROWER than '..Said'. Prove '..Said' where nothing that the law and all that it calls make is longer than what came in: it says more and counts as full. Else prove '..UptoSaid'. A law counts once. -/
mutual
def uptoBulk {H : Type} : DataW H → Nat
  | .lit (.string bytes) => bytes.length + 1
  | .lit _ => 1
  | .nil => 1
  | .ptr d => uptoBulk d + 1
  | .slice elems spare => uptoBulkAll elems + uptoBulkAll spare + 1
  | .agg parts => uptoBulkAll parts + 1
  | .iface _ d => uptoBulk d + 1
  | .map entries => uptoBulkEntries entries + 1
  | .held _ => 1
def uptoBulkAll {H : Type} : List (DataW H) → Nat
  | [] => 0
  | d :: r => uptoBulk d + uptoBulkAll r
def uptoBulkEntries {H : Type} : List (Lit × DataW H) → Nat
  | [] => 0
  | x :: r => uptoBulkEntry x + uptoBulkEntries r
def uptoBulkEntry {H : Type} : Lit × DataW H → Nat
  | (.string bytes, d) => bytes.length + uptoBulk d + 1
  | (_, d) => uptoBulk d + 1
 end
def uptoSmall : (H : Type) → List (DataW H) → Bool := fun _ ds => decide (uptoBulkAll ds ≤ 1048576)
def OpenSpec.upto (s : _root_.Go.ChangeSpec) : _root_.Go.OpenSpec := { _root_.Go.OpenSpec.ofChange s with cond := some uptoSmall }

/-- 'dowellaw02.PlaceNames', WHERE WHAT IT READS IS OF BULK AT MOST 1048576: true; the input reads as it did. -/
def placeNamesUptoRow : OpenClaim := { program := "ytkjckdgknbfaiaa", sum := "d28c7c152799a210238a087606724d2f1964ea2cc51a8c2b6fdb686529f0e817", func := "dowel/dowellaw02.PlaceNames", spec := "placeNames", apart := false, narrowed := true }
def PlaceNamesUptoSaid : Prop := placeNamesUptoRow.holds Try.pinned (OpenSpec.upto placeNamesSpec)

/-- 'dowellaw02.PlaceRunes', WHERE WHAT IT READS IS OF BULK AT MOST 1048576: true; the input reads as it did. -/
def placeRunesUptoRow : OpenClaim := { program := "ytkjckdgknbfaiaa", sum := "d28c7c152799a210238a087606724d2f1964ea2cc51a8c2b6fdb686529f0e817", func := "dowel/dowellaw02.PlaceRunes", spec := "placeRunes", unfollowed := true, recurses := true, apart := false, narrowed := true }
def PlaceRunesUptoSaid : Prop := placeRunesUptoRow.holds Try.pinned (OpenSpec.upto placeRunesSpec)

/-- 'dowellaw02.PlaceAts', WHERE WHAT IT READS IS OF BULK AT MOST 1048576: true; the input reads as it did. -/
def placeAtsUptoRow : OpenClaim := { program := "ytkjckdgknbfaiaa", sum := "d28c7c152799a210238a087606724d2f1964ea2cc51a8c2b6fdb686529f0e817", func := "dowel/dowellaw02.PlaceAts", spec := "placeAts", inPlace := ["internal/bytealg.IndexByteString"], apart := false, narrowed := true }
def PlaceAtsUptoSaid : Prop := placeAtsUptoRow.holds Try.pinned (OpenSpec.upto placeAtsSpec)

/-- 'dowellaw02.PlaceLines', WHERE WHAT IT READS IS OF BULK AT MOST 1048576: true; the input reads as it did. -/
def placeLinesUptoRow : OpenClaim := { program := "ytkjckdgknbfaiaa", sum := "d28c7c152799a210238a087606724d2f1964ea2cc51a8c2b6fdb686529f0e817", func := "dowel/dowellaw02.PlaceLines", spec := "placeLines", inPlace := ["internal/bytealg.CountString", "internal/bytealg.IndexByteString", "internal/bytealg.IndexString"], named := ["internal/bytealg.MaxLen"], apart := false, narrowed := true }
def PlaceLinesUptoSaid : Prop := placeLinesUptoRow.holds Try.pinned (OpenSpec.upto placeLinesSpec)

/-- 'dowellaw02.PlaceSpots', WHERE WHAT IT READS IS OF BULK AT MOST 1048576: true; the input reads as it did. -/
def placeSpotsUptoRow : OpenClaim := { program := "ytkjckdgknbfaiaa", sum := "d28c7c152799a210238a087606724d2f1964ea2cc51a8c2b6fdb686529f0e817", func := "dowel/dowellaw02.PlaceSpots", spec := "placeSpots", inPlace := ["internal/bytealg.IndexByteString", "internal/bytealg.CountString", "internal/bytealg.IndexString"], named := ["internal/bytealg.MaxLen"], apart := false, narrowed := true }
def PlaceSpotsUptoSaid : Prop := placeSpotsUptoRow.holds Try.pinned (OpenSpec.upto placeSpotsSpec)

/-- 'dowellaw02.PlaceExcerpts', WHERE WHAT IT READS IS OF BULK AT MOST 1048576: true; the input reads as it did. -/
def placeExcerptsUptoRow : OpenClaim := { program := "ytkjckdgknbfaiaa", sum := "d28c7c152799a210238a087606724d2f1964ea2cc51a8c2b6fdb686529f0e817", func := "dowel/dowellaw02.PlaceExcerpts", spec := "placeExcerpts", inPlace := ["internal/bytealg.IndexByteString", "internal/abi.NoEscape", "internal/bytealg.MakeNoZero"], apart := false, narrowed := true }
def PlaceExcerptsUptoSaid : Prop := placeExcerptsUptoRow.holds Try.pinned (OpenSpec.upto placeExcerptsSpec)

/-- 'dowellaw02.PlaceBack', WHERE WHAT IT READS IS OF BULK AT MOST 1048576: true; the input reads as it did. -/
def placeBackUptoRow : OpenClaim := { program := "ytkjckdgknbfaiaa", sum := "d28c7c152799a210238a087606724d2f1964ea2cc51a8c2b6fdb686529f0e817", func := "dowel/dowellaw02.PlaceBack", spec := "placeBack", inPlace := ["internal/bytealg.IndexByteString", "internal/bytealg.CountString", "internal/bytealg.IndexString", "internal/abi.NoEscape", "internal/bytealg.MakeNoZero"], named := ["internal/bytealg.MaxLen"], apart := false, narrowed := true }
def PlaceBackUptoSaid : Prop := placeBackUptoRow.holds Try.pinned (OpenSpec.upto placeBackSpec)

/-- 'dowellaw02.PlaceJoins', WHERE WHAT IT READS IS OF BULK AT MOST 1048576: true; the input reads as it did. -/
def placeJoinsUptoRow : OpenClaim := { program := "ytkjckdgknbfaiaa", sum := "d28c7c152799a210238a087606724d2f1964ea2cc51a8c2b6fdb686529f0e817", func := "dowel/dowellaw02.PlaceJoins", spec := "placeJoins", inPlace := ["internal/bytealg.IndexByteString", "internal/bytealg.CountString", "internal/bytealg.IndexString", "internal/abi.NoEscape", "internal/bytealg.MakeNoZero"], named := ["internal/bytealg.MaxLen"], apart := false, narrowed := true }
def PlaceJoinsUptoSaid : Prop := placeJoinsUptoRow.holds Try.pinned (OpenSpec.upto placeJoinsSpec)

/-- 'dowellaw02.PlaceRises', WHERE WHAT IT READS IS OF BULK AT MOST 1048576: true; the input reads as it did. -/
def placeRisesUptoRow : OpenClaim := { program := "ytkjckdgknbfaiaa", sum := "d28c7c152799a210238a087606724d2f1964ea2cc51a8c2b6fdb686529f0e817", func := "dowel/dowellaw02.PlaceRises", spec := "placeRises", inPlace := ["internal/bytealg.IndexByteString", "internal/bytealg.CountString", "internal/bytealg.IndexString", "internal/abi.NoEscape", "internal/bytealg.MakeNoZero"], named := ["internal/bytealg.MaxLen"], apart := false, narrowed := true }
def PlaceRisesUptoSaid : Prop := placeRisesUptoRow.holds Try.pinned (OpenSpec.upto placeRisesSpec)

/-- 'dowellaw02.PlaceTiles', WHERE WHAT IT READS IS OF BULK AT MOST 1048576: true; the input reads as it did. -/
def placeTilesUptoRow : OpenClaim := { program := "ytkjckdgknbfaiaa", sum := "d28c7c152799a210238a087606724d2f1964ea2cc51a8c2b6fdb686529f0e817", func := "dowel/dowellaw02.PlaceTiles", spec := "placeTiles", inPlace := ["internal/bytealg.IndexByteString", "internal/bytealg.CountString", "internal/bytealg.IndexString", "internal/abi.NoEscape", "internal/bytealg.MakeNoZero"], unfollowed := true, recurses := true, named := ["internal/bytealg.MaxLen"], apart := false, narrowed := true }
def PlaceTilesUptoSaid : Prop := placeTilesUptoRow.holds Try.pinned (OpenSpec.upto placeTilesSpec)

/-- 'dowellaw02.PlaceShows', WHERE WHAT IT READS IS OF BULK AT MOST 1048576: true; the input reads as it did. -/
def placeShowsUptoRow : OpenClaim := { program := "ytkjckdgknbfaiaa", sum := "d28c7c152799a210238a087606724d2f1964ea2cc51a8c2b6fdb686529f0e817", func := "dowel/dowellaw02.PlaceShows", spec := "placeShows", inPlace := ["internal/bytealg.IndexByteString", "internal/bytealg.CountString", "internal/bytealg.IndexString", "internal/abi.NoEscape", "internal/bytealg.MakeNoZero"], unfollowed := true, recurses := true, named := ["internal/bytealg.MaxLen"], apart := false, narrowed := true }
def PlaceShowsUptoSaid : Prop := placeShowsUptoRow.holds Try.pinned (OpenSpec.upto placeShowsSpec)

end Rows
end Go.Proofs.Ytkjckdgknbfaiaa
