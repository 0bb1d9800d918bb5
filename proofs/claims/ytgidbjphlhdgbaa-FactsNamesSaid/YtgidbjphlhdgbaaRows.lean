/-
  No cell of these rows narrows 'for every input' (looked for: loops, veiled, ifaces, maps, wideKeys, modest, calm, conditions, laid).
  DERIVED. THE GIVEN ROWS OF THIS SEAT. 7 by the template 'for every input the law returns true; each argument reads behind the call as it read before'; 0 by the template 'total and deterministic' (their statements: YtgidbjphlhdgbaaTotals.lean).
  GIVEN WITH THE SEED: the statements are not yours to turn. If you find one false, say at which input.
  Laid BY PROGRAM, IN A SANDBOX (cutbox-rows.mjs): the forced cells as the released guide's own fill.sh prints them over the translation 4dd0069a7839369c… (all of the seat's roots in one cut). By AI agents, Wed Nov 11 2026. No macro, syntax, notation, axiom, sorry.
-/
import Derived.Test.YtgidbjphlhdgbaaChecked
import GoSem.Claim
import GoSem.ClaimJoined
import GoSem.ClaimMapViews
import Derived.JoinedTies
import Derived.KernelRfl
namespace Go.Proofs.Ytgidbjphlhdgbaa
/- THE CELL 'sum', in the pinned program and in every row, IS THE sha256 OF THE DUMP (.gsa) THAT YtgidbjphlhdgbaaProg.lean LOADS. Nothing in Lean hashes anything: it is a label: what it is worth is what the hold of that sum in a sandbox is worth. -/
noncomputable def Try.pinned : Pinned := { name := "ytgidbjphlhdgbaa", sum := "4dd0069a7839369cdb32589a0657caab97d3a6b96bbf9fb160a9accdaa060947", checked := Try.checked }
namespace Rows
def none {H : Type} : Left H := { results := [], args := [] }

/-- 'dowellaw10.FactsNames': WHATEVER THE INPUT: true; the input reads as it did. -/
def factsNamesSpec : ChangeSpec := { name := "factsNames", fn := fun _ => fun
  | [] => { results := [.lit (.bool true)], args := [] }
  | _ => none }
def factsNamesRow : OpenClaim := { program := "ytgidbjphlhdgbaa", sum := "4dd0069a7839369cdb32589a0657caab97d3a6b96bbf9fb160a9accdaa060947", func := "dowel/dowellaw10.FactsNames", spec := "factsNames", apart := false }
def FactsNamesSaid : Prop := factsNamesRow.holds Try.pinned (OpenSpec.ofChange factsNamesSpec)

/-- ITS FALSE NEIGHBOUR: 'it returns false'. Refute it at one input. -/
def factsNamesWrong : ChangeSpec := { name := "factsNames", fn := fun _ => fun
  | [] => { results := [.lit (.bool false)], args := [] }
  | _ => none }
def FactsNamesWrongFalsely : Prop := factsNamesRow.holds Try.pinned (OpenSpec.ofChange factsNamesWrong)

/-- 'dowellaw10.FactsRules': WHATEVER THE INPUT: true; the input reads as it did. -/
def factsRulesSpec : ChangeSpec := { name := "factsRules", fn := fun _ => fun
  | [d] => { results := [.lit (.bool true)], args := [d] }
  | _ => none }
def factsRulesRow : OpenClaim := { program := "ytgidbjphlhdgbaa", sum := "4dd0069a7839369cdb32589a0657caab97d3a6b96bbf9fb160a9accdaa060947", func := "dowel/dowellaw10.FactsRules", spec := "factsRules", inPlace := ["internal/bytealg.IndexByteString", "internal/bytealg.IndexString"], unfollowed := true, recurses := true, named := ["internal/bytealg.MaxLen"], apart := false }
def FactsRulesSaid : Prop := factsRulesRow.holds Try.pinned (OpenSpec.ofChange factsRulesSpec)

/-- ITS FALSE NEIGHBOUR: 'it returns false'. Refute it at one input. -/
def factsRulesWrong : ChangeSpec := { name := "factsRules", fn := fun _ => fun
  | [d] => { results := [.lit (.bool false)], args := [d] }
  | _ => none }
def FactsRulesWrongFalsely : Prop := factsRulesRow.holds Try.pinned (OpenSpec.ofChange factsRulesWrong)

/-- 'dowellaw10.FactsApart': WHATEVER THE INPUT: true; the input reads as it did. -/
def factsApartSpec : ChangeSpec := { name := "factsApart", fn := fun _ => fun
  | [d1, d2] => { results := [.lit (.bool true)], args := [d1, d2] }
  | _ => none }
def factsApartRow : OpenClaim := { program := "ytgidbjphlhdgbaa", sum := "4dd0069a7839369cdb32589a0657caab97d3a6b96bbf9fb160a9accdaa060947", func := "dowel/dowellaw10.FactsApart", spec := "factsApart", inPlace := ["internal/bytealg.IndexByteString", "internal/bytealg.IndexString"], unfollowed := true, recurses := true, named := ["internal/bytealg.MaxLen"], apart := false }
def FactsApartSaid : Prop := factsApartRow.holds Try.pinned (OpenSpec.ofChange factsApartSpec)

/-- ITS FALSE NEIGHBOUR: 'it returns false'. Refute it at one input. -/
def factsApartWrong : ChangeSpec := { name := "factsApart", fn := fun _ => fun
  | [d1, d2] => { results := [.lit (.bool false)], args := [d1, d2] }
  | _ => none }
def FactsApartWrongFalsely : Prop := factsApartRow.holds Try.pinned (OpenSpec.ofChange factsApartWrong)

/-- 'dowellaw10.FactsHold': WHATEVER THE INPUT: true; the input reads as it did. -/
def factsHoldSpec : ChangeSpec := { name := "factsHold", fn := fun _ => fun
  | [d1, d2, d3, d4] => { results := [.lit (.bool true)], args := [d1, d2, d3, d4] }
  | _ => none }
def factsHoldRow : OpenClaim := { program := "ytgidbjphlhdgbaa", sum := "4dd0069a7839369cdb32589a0657caab97d3a6b96bbf9fb160a9accdaa060947", func := "dowel/dowellaw10.FactsHold", spec := "factsHold", inPlace := ["internal/bytealg.IndexByteString", "internal/bytealg.IndexString"], unfollowed := true, recurses := true, named := ["internal/bytealg.MaxLen"], apart := false }
def FactsHoldSaid : Prop := factsHoldRow.holds Try.pinned (OpenSpec.ofChange factsHoldSpec)

/-- ITS FALSE NEIGHBOUR: 'it returns false'. Refute it at one input. -/
def factsHoldWrong : ChangeSpec := { name := "factsHold", fn := fun _ => fun
  | [d1, d2, d3, d4] => { results := [.lit (.bool false)], args := [d1, d2, d3, d4] }
  | _ => none }
def FactsHoldWrongFalsely : Prop := factsHoldRow.holds Try.pinned (OpenSpec.ofChange factsHoldWrong)

/-- 'dowellaw10.FactsBodies': WHATEVER THE INPUT: true; the input reads as it did. -/
def factsBodiesSpec : ChangeSpec := { name := "factsBodies", fn := fun _ => fun
  | [d1, d2, d3] => { results := [.lit (.bool true)], args := [d1, d2, d3] }
  | _ => none }
def factsBodiesRow : OpenClaim := { program := "ytgidbjphlhdgbaa", sum := "4dd0069a7839369cdb32589a0657caab97d3a6b96bbf9fb160a9accdaa060947", func := "dowel/dowellaw10.FactsBodies", spec := "factsBodies", inPlace := ["internal/bytealg.IndexByteString", "internal/bytealg.IndexString"], unfollowed := true, recurses := true, named := ["internal/bytealg.MaxLen"], apart := false }
def FactsBodiesSaid : Prop := factsBodiesRow.holds Try.pinned (OpenSpec.ofChange factsBodiesSpec)

/-- ITS FALSE NEIGHBOUR: 'it returns false'. Refute it at one input. -/
def factsBodiesWrong : ChangeSpec := { name := "factsBodies", fn := fun _ => fun
  | [d1, d2, d3] => { results := [.lit (.bool false)], args := [d1, d2, d3] }
  | _ => none }
def FactsBodiesWrongFalsely : Prop := factsBodiesRow.holds Try.pinned (OpenSpec.ofChange factsBodiesWrong)

/-- 'dowellaw10.FactsParts': WHATEVER THE INPUT: true; the input reads as it did. -/
def factsPartsSpec : ChangeSpec := { name := "factsParts", fn := fun _ => fun
  | [d1, d2, d3, d4, d5] => { results := [.lit (.bool true)], args := [d1, d2, d3, d4, d5] }
  | _ => none }
def factsPartsRow : OpenClaim := { program := "ytgidbjphlhdgbaa", sum := "4dd0069a7839369cdb32589a0657caab97d3a6b96bbf9fb160a9accdaa060947", func := "dowel/dowellaw10.FactsParts", spec := "factsParts", inPlace := ["internal/bytealg.IndexByteString", "internal/bytealg.IndexString"], unfollowed := true, recurses := true, named := ["internal/bytealg.MaxLen"], apart := false }
def FactsPartsSaid : Prop := factsPartsRow.holds Try.pinned (OpenSpec.ofChange factsPartsSpec)

/-- ITS FALSE NEIGHBOUR: 'it returns false'. Refute it at one input. -/
def factsPartsWrong : ChangeSpec := { name := "factsParts", fn := fun _ => fun
  | [d1, d2, d3, d4, d5] => { results := [.lit (.bool false)], args := [d1, d2, d3, d4, d5] }
  | _ => none }
def FactsPartsWrongFalsely : Prop := factsPartsRow.holds Try.pinned (OpenSpec.ofChange factsPartsWrong)

/-- 'dowellaw10.FactsClosed': WHATEVER THE INPUT: true; the input reads as it did. -/
def factsClosedSpec : ChangeSpec := { name := "factsClosed", fn := fun _ => fun
  | [d1, d2] => { results := [.lit (.bool true)], args := [d1, d2] }
  | _ => none }
def factsClosedRow : OpenClaim := { program := "ytgidbjphlhdgbaa", sum := "4dd0069a7839369cdb32589a0657caab97d3a6b96bbf9fb160a9accdaa060947", func := "dowel/dowellaw10.FactsClosed", spec := "factsClosed", inPlace := ["internal/bytealg.IndexByteString", "internal/bytealg.IndexString"], unfollowed := true, recurses := true, named := ["internal/bytealg.MaxLen"], apart := false }
def FactsClosedSaid : Prop := factsClosedRow.holds Try.pinned (OpenSpec.ofChange factsClosedSpec)

/-- ITS FALSE NEIGHBOUR: 'it returns false'. Refute it at one input. -/
def factsClosedWrong : ChangeSpec := { name := "factsClosed", fn := fun _ => fun
  | [d1, d2] => { results := [.lit (.bool false)], args := [d1, d2] }
  | _ => none }
def FactsClosedWrongFalsely : Prop := factsClosedRow.holds Try.pinned (OpenSpec.ofChange factsClosedWrong)

/- THE SECOND FORM. 'bulk': how many values and letters a reading holds, each counted each time it is reached (what is shared counts as often as it is met; a slice's spare places count too). A statement '..UptoSaid' is the law's where the arguments, and the package variables that the reading takes, are together of bulk at most 1048576: NARROWER than '..Said'. Prove '..Said' where nothing that the law and all that it calls make is longer than what came in: it says more and counts as full. Else prove '..UptoSaid'. A law counts once. -/
mutual
def uptoBulk {H : Type} : DataW H → Nat
  | .lit (.string bytes) => bytes.length + 1
  | .lit _ => 1
  | .nil => 1
  | .ptr d => uptoBulk d + 1
  | .slice elems spare => uptoBulkAll elems + uptoBulkAll spare + 1
  | .agg parts => uptoBulkAll parts + 1
  | .iface _ d => uptoBulk d + 1
  | .map entries => uptoBulkEntries entries + 1
  | .held _ => 1
def uptoBulkAll {H : Type} : List (DataW H) → Nat
  | [] => 0
  | d :: r => uptoBulk d + uptoBulkAll r
def uptoBulkEntries {H : Type} : List (Lit × DataW H) → Nat
  | [] => 0
  | x :: r => uptoBulkEntry x + uptoBulkEntries r
def uptoBulkEntry {H : Type} : Lit × DataW H → Nat
  | (.string bytes, d) => bytes.length + uptoBulk d + 1
  | (_, d) => uptoBulk d + 1
 end
def uptoSmall : (H : Type) → List (DataW H) → Bool := fun _ ds => decide (uptoBulkAll ds ≤ 1048576)
def OpenSpec.upto (s : _root_.Go.ChangeSpec) : _root_.Go.OpenSpec := { _root_.Go.OpenSpec.ofChange s with cond := some uptoSmall }

/-- 'dowellaw10.FactsNames', WHERE WHAT IT READS IS OF BULK AT MOST 1048576: true; the input reads as it did. -/
def factsNamesUptoRow : OpenClaim := { program := "ytgidbjphlhdgbaa", sum := "4dd0069a7839369cdb32589a0657caab97d3a6b96bbf9fb160a9accdaa060947", func := "dowel/dowellaw10.FactsNames", spec := "factsNames", apart := false, narrowed := true }
def FactsNamesUptoSaid : Prop := factsNamesUptoRow.holds Try.pinned (OpenSpec.upto factsNamesSpec)

/-- 'dowellaw10.FactsRules', WHERE WHAT IT READS IS OF BULK AT MOST 1048576: true; the input reads as it did. -/
def factsRulesUptoRow : OpenClaim := { program := "ytgidbjphlhdgbaa", sum := "4dd0069a7839369cdb32589a0657caab97d3a6b96bbf9fb160a9accdaa060947", func := "dowel/dowellaw10.FactsRules", spec := "factsRules", inPlace := ["internal/bytealg.IndexByteString", "internal/bytealg.IndexString"], unfollowed := true, recurses := true, named := ["internal/bytealg.MaxLen"], apart := false, narrowed := true }
def FactsRulesUptoSaid : Prop := factsRulesUptoRow.holds Try.pinned (OpenSpec.upto factsRulesSpec)

/-- 'dowellaw10.FactsApart', WHERE WHAT IT READS IS OF BULK AT MOST 1048576: true; the input reads as it did. -/
def factsApartUptoRow : OpenClaim := { program := "ytgidbjphlhdgbaa", sum := "4dd0069a7839369cdb32589a0657caab97d3a6b96bbf9fb160a9accdaa060947", func := "dowel/dowellaw10.FactsApart", spec := "factsApart", inPlace := ["internal/bytealg.IndexByteString", "internal/bytealg.IndexString"], unfollowed := true, recurses := true, named := ["internal/bytealg.MaxLen"], apart := false, narrowed := true }
def FactsApartUptoSaid : Prop := factsApartUptoRow.holds Try.pinned (OpenSpec.upto factsApartSpec)

/-- 'dowellaw10.FactsHold', WHERE WHAT IT READS IS OF BULK AT MOST 1048576: true; the input reads as it did. -/
def factsHoldUptoRow : OpenClaim := { program := "ytgidbjphlhdgbaa", sum := "4dd0069a7839369cdb32589a0657caab97d3a6b96bbf9fb160a9accdaa060947", func := "dowel/dowellaw10.FactsHold", spec := "factsHold", inPlace := ["internal/bytealg.IndexByteString", "internal/bytealg.IndexString"], unfollowed := true, recurses := true, named := ["internal/bytealg.MaxLen"], apart := false, narrowed := true }
def FactsHoldUptoSaid : Prop := factsHoldUptoRow.holds Try.pinned (OpenSpec.upto factsHoldSpec)

/-- 'dowellaw10.FactsBodies', WHERE WHAT IT READS IS OF BULK AT MOST 1048576: true; the input reads as it did. -/
def factsBodiesUptoRow : OpenClaim := { program := "ytgidbjphlhdgbaa", sum := "4dd0069a7839369cdb32589a0657caab97d3a6b96bbf9fb160a9accdaa060947", func := "dowel/dowellaw10.FactsBodies", spec := "factsBodies", inPlace := ["internal/bytealg.IndexByteString", "internal/bytealg.IndexString"], unfollowed := true, recurses := true, named := ["internal/bytealg.MaxLen"], apart := false, narrowed := true }
def FactsBodiesUptoSaid : Prop := factsBodiesUptoRow.holds Try.pinned (OpenSpec.upto factsBodiesSpec)

/-- 'dowellaw10.FactsParts', WHERE WHAT IT READS IS OF BULK AT MOST 1048576: true; the input reads as it did. -/
def factsPartsUptoRow : OpenClaim := { program := "ytgidbjphlhdgbaa", sum := "4dd0069a7839369cdb32589a0657caab97d3a6b96bbf9fb160a9accdaa060947", func := "dowel/dowellaw10.FactsParts", spec := "factsParts", inPlace := ["internal/bytealg.IndexByteString", "internal/bytealg.IndexString"], unfollowed := true, recurses := true, named := ["internal/bytealg.MaxLen"], apart := false, narrowed := true }
def FactsPartsUptoSaid : Prop := factsPartsUptoRow.holds Try.pinned (OpenSpec.upto factsPartsSpec)

/-- 'dowellaw10.FactsClosed', WHERE WHAT IT READS IS OF BULK AT MOST 1048576: true; the input reads as it did. -/
def factsClosedUptoRow : OpenClaim := { program := "ytgidbjphlhdgbaa", sum := "4dd0069a7839369cdb32589a0657caab97d3a6b96bbf9fb160a9accdaa060947", func := "dowel/dowellaw10.FactsClosed", spec := "factsClosed", inPlace := ["internal/bytealg.IndexByteString", "internal/bytealg.IndexString"], unfollowed := true, recurses := true, named := ["internal/bytealg.MaxLen"], apart := false, narrowed := true }
def FactsClosedUptoSaid : Prop := factsClosedUptoRow.holds Try.pinned (OpenSpec.upto factsClosedSpec)

end Rows
end Go.Proofs.Ytgidbjphlhdgbaa
