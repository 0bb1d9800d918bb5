/-
  No cell of these rows narrows 'for every input' (looked for: loops, veiled, ifaces, maps, wideKeys, modest, calm, conditions, laid).
  DERIVED. THE GIVEN ROWS OF THIS SEAT. 6 by the template 'for every input the law returns true; each argument reads behind the call as it read before'; 0 by the template 'total and deterministic' (their statements: YtmifaoafgnaabaaTotals.lean).
  GIVEN WITH THE SEED: the statements are not yours to turn. If you find one false, say at which input.
  Laid BY PROGRAM, IN A SANDBOX (cutbox-rows.mjs): the forced cells as the released guide's own fill.sh prints them over the translation 303b81af5d134469… (all of the seat's roots in one cut). By AI agents, Wed Nov 11 2026. No macro, syntax, notation, axiom, sorry.
-/
import Derived.Test.YtmifaoafgnaabaaChecked
import GoSem.Claim
import GoSem.ClaimJoined
import GoSem.ClaimMapViews
import Derived.JoinedTies
import Derived.KernelRfl
namespace Go.Proofs.Ytmifaoafgnaabaa
/- THE CELL 'sum', in the pinned program and in every row, IS THE sha256 OF THE DUMP (.gsa) THAT YtmifaoafgnaabaaProg.lean LOADS. Nothing in Lean hashes anything: it is a label: what it is worth is what the hold of that sum in a sandbox is worth. -/
noncomputable def Try.pinned : Pinned := { name := "ytmifaoafgnaabaa", sum := "303b81af5d1344697b4c346a8b712500600a6b7ad54c0af44f82e7e8a2d2ce31", checked := Try.checked }
namespace Rows
def none {H : Type} : Left H := { results := [], args := [] }

/-- 'dowellaw21.EngineNames': WHATEVER THE INPUT: true; the input reads as it did. -/
def engineNamesSpec : ChangeSpec := { name := "engineNames", fn := fun _ => fun
  | [] => { results := [.lit (.bool true)], args := [] }
  | _ => none }
def engineNamesRow : OpenClaim := { program := "ytmifaoafgnaabaa", sum := "303b81af5d1344697b4c346a8b712500600a6b7ad54c0af44f82e7e8a2d2ce31", func := "dowel/dowellaw21.EngineNames", spec := "engineNames", apart := false }
def EngineNamesSaid : Prop := engineNamesRow.holds Try.pinned (OpenSpec.ofChange engineNamesSpec)

/-- ITS FALSE NEIGHBOUR: 'it returns false'. Refute it at one input. -/
def engineNamesWrong : ChangeSpec := { name := "engineNames", fn := fun _ => fun
  | [] => { results := [.lit (.bool false)], args := [] }
  | _ => none }
def EngineNamesWrongFalsely : Prop := engineNamesRow.holds Try.pinned (OpenSpec.ofChange engineNamesWrong)

/-- 'dowellaw21.EngineRuns': WHATEVER THE INPUT: true; the input reads as it did. -/
def engineRunsSpec : ChangeSpec := { name := "engineRuns", fn := fun _ => fun
  | [d1, d2, d3, d4] => { results := [.lit (.bool true)], args := [d1, d2, d3, d4] }
  | _ => none }
def engineRunsRow : OpenClaim := { program := "ytmifaoafgnaabaa", sum := "303b81af5d1344697b4c346a8b712500600a6b7ad54c0af44f82e7e8a2d2ce31", func := "dowel/dowellaw21.EngineRuns", spec := "engineRuns", inPlace := ["internal/bytealg.IndexByteString", "internal/bytealg.IndexString"], named := ["internal/bytealg.MaxLen"], apart := false }
def EngineRunsSaid : Prop := engineRunsRow.holds Try.pinned (OpenSpec.ofChange engineRunsSpec)

/-- ITS FALSE NEIGHBOUR: 'it returns false'. Refute it at one input. -/
def engineRunsWrong : ChangeSpec := { name := "engineRuns", fn := fun _ => fun
  | [d1, d2, d3, d4] => { results := [.lit (.bool false)], args := [d1, d2, d3, d4] }
  | _ => none }
def EngineRunsWrongFalsely : Prop := engineRunsRow.holds Try.pinned (OpenSpec.ofChange engineRunsWrong)

/-- 'dowellaw21.EngineLimits': WHATEVER THE INPUT: true; the input reads as it did. -/
def engineLimitsSpec : ChangeSpec := { name := "engineLimits", fn := fun _ => fun
  | [d1, d2, d3, d4] => { results := [.lit (.bool true)], args := [d1, d2, d3, d4] }
  | _ => none }
def engineLimitsRow : OpenClaim := { program := "ytmifaoafgnaabaa", sum := "303b81af5d1344697b4c346a8b712500600a6b7ad54c0af44f82e7e8a2d2ce31", func := "dowel/dowellaw21.EngineLimits", spec := "engineLimits", inPlace := ["internal/bytealg.IndexByteString", "internal/bytealg.IndexString"], named := ["internal/bytealg.MaxLen"], apart := false }
def EngineLimitsSaid : Prop := engineLimitsRow.holds Try.pinned (OpenSpec.ofChange engineLimitsSpec)

/-- ITS FALSE NEIGHBOUR: 'it returns false'. Refute it at one input. -/
def engineLimitsWrong : ChangeSpec := { name := "engineLimits", fn := fun _ => fun
  | [d1, d2, d3, d4] => { results := [.lit (.bool false)], args := [d1, d2, d3, d4] }
  | _ => none }
def EngineLimitsWrongFalsely : Prop := engineLimitsRow.holds Try.pinned (OpenSpec.ofChange engineLimitsWrong)

/-- 'dowellaw21.EngineWithin': WHATEVER THE INPUT: true; the input reads as it did. -/
def engineWithinSpec : ChangeSpec := { name := "engineWithin", fn := fun _ => fun
  | [d1, d2, d3] => { results := [.lit (.bool true)], args := [d1, d2, d3] }
  | _ => none }
def engineWithinRow : OpenClaim := { program := "ytmifaoafgnaabaa", sum := "303b81af5d1344697b4c346a8b712500600a6b7ad54c0af44f82e7e8a2d2ce31", func := "dowel/dowellaw21.EngineWithin", spec := "engineWithin", inPlace := ["internal/bytealg.IndexByteString", "internal/bytealg.IndexString"], named := ["internal/bytealg.MaxLen"], apart := false }
def EngineWithinSaid : Prop := engineWithinRow.holds Try.pinned (OpenSpec.ofChange engineWithinSpec)

/-- ITS FALSE NEIGHBOUR: 'it returns false'. Refute it at one input. -/
def engineWithinWrong : ChangeSpec := { name := "engineWithin", fn := fun _ => fun
  | [d1, d2, d3] => { results := [.lit (.bool false)], args := [d1, d2, d3] }
  | _ => none }
def EngineWithinWrongFalsely : Prop := engineWithinRow.holds Try.pinned (OpenSpec.ofChange engineWithinWrong)

/-- 'dowellaw21.EngineMeans': WHATEVER THE INPUT: true; the input reads as it did. -/
def engineMeansSpec : ChangeSpec := { name := "engineMeans", fn := fun _ => fun
  | [d1, d2, d3] => { results := [.lit (.bool true)], args := [d1, d2, d3] }
  | _ => none }
def engineMeansRow : OpenClaim := { program := "ytmifaoafgnaabaa", sum := "303b81af5d1344697b4c346a8b712500600a6b7ad54c0af44f82e7e8a2d2ce31", func := "dowel/dowellaw21.EngineMeans", spec := "engineMeans", inPlace := ["internal/bytealg.IndexByteString", "internal/bytealg.IndexString"], unfollowed := true, recurses := true, named := ["internal/bytealg.MaxLen"], apart := false }
def EngineMeansSaid : Prop := engineMeansRow.holds Try.pinned (OpenSpec.ofChange engineMeansSpec)

/-- ITS FALSE NEIGHBOUR: 'it returns false'. Refute it at one input. -/
def engineMeansWrong : ChangeSpec := { name := "engineMeans", fn := fun _ => fun
  | [d1, d2, d3] => { results := [.lit (.bool false)], args := [d1, d2, d3] }
  | _ => none }
def EngineMeansWrongFalsely : Prop := engineMeansRow.holds Try.pinned (OpenSpec.ofChange engineMeansWrong)

/-- 'dowellaw21.EngineBehind': WHATEVER THE INPUT: true; the input reads as it did. -/
def engineBehindSpec : ChangeSpec := { name := "engineBehind", fn := fun _ => fun
  | [d1, d2, d3, d4] => { results := [.lit (.bool true)], args := [d1, d2, d3, d4] }
  | _ => none }
def engineBehindRow : OpenClaim := { program := "ytmifaoafgnaabaa", sum := "303b81af5d1344697b4c346a8b712500600a6b7ad54c0af44f82e7e8a2d2ce31", func := "dowel/dowellaw21.EngineBehind", spec := "engineBehind", inPlace := ["internal/bytealg.IndexByteString", "internal/bytealg.IndexString"], unfollowed := true, recurses := true, named := ["internal/bytealg.MaxLen"], apart := false }
def EngineBehindSaid : Prop := engineBehindRow.holds Try.pinned (OpenSpec.ofChange engineBehindSpec)

/-- ITS FALSE NEIGHBOUR: 'it returns false'. Refute it at one input. -/
def engineBehindWrong : ChangeSpec := { name := "engineBehind", fn := fun _ => fun
  | [d1, d2, d3, d4] => { results := [.lit (.bool false)], args := [d1, d2, d3, d4] }
  | _ => none }
def EngineBehindWrongFalsely : Prop := engineBehindRow.holds Try.pinned (OpenSpec.ofChange engineBehindWrong)

/- THE SECOND FORM. 'bulk': how many values and letters a reading holds, each counted each time it is reached (what is shared counts as often as it is met; a slice's spare places count too). A statement '..UptoSaid' is the law's where the arguments, and the package variables that the reading takes, are together of bulk at most 1048576: NARROWER than '..Said'. Prove '..Said' where nothing that the law and all that it calls make is longer than what came in: it says more and counts as full. Else prove '..UptoSaid'. A law counts once. -/
mutual
def uptoBulk {H : Type} : DataW H → Nat
  | .lit (.string bytes) => bytes.length + 1
  | .lit _ => 1
  | .nil => 1
  | .ptr d => uptoBulk d + 1
  | .slice elems spare => uptoBulkAll elems + uptoBulkAll spare + 1
  | .agg parts => uptoBulkAll parts + 1
  | .iface _ d => uptoBulk d + 1
  | .map entries => uptoBulkEntries entries + 1
  | .held _ => 1
def uptoBulkAll {H : Type} : List (DataW H) → Nat
  | [] => 0
  | d :: r => uptoBulk d + uptoBulkAll r
def uptoBulkEntries {H : Type} : List (Lit × DataW H) → Nat
  | [] => 0
  | x :: r => uptoBulkEntry x + uptoBulkEntries r
def uptoBulkEntry {H : Type} : Lit × DataW H → Nat
  | (.string bytes, d) => bytes.length + uptoBulk d + 1
  | (_, d) => uptoBulk d + 1
 end
def uptoSmall : (H : Type) → List (DataW H) → Bool := fun _ ds => decide (uptoBulkAll ds ≤ 1048576)
def OpenSpec.upto (s : _root_.Go.ChangeSpec) : _root_.Go.OpenSpec := { _root_.Go.OpenSpec.ofChange s with cond := some uptoSmall }

/-- 'dowellaw21.EngineNames', WHERE WHAT IT READS IS OF BULK AT MOST 1048576: true; the input reads as it did. -/
def engineNamesUptoRow : OpenClaim := { program := "ytmifaoafgnaabaa", sum := "303b81af5d1344697b4c346a8b712500600a6b7ad54c0af44f82e7e8a2d2ce31", func := "dowel/dowellaw21.EngineNames", spec := "engineNames", apart := false, narrowed := true }
def EngineNamesUptoSaid : Prop := engineNamesUptoRow.holds Try.pinned (OpenSpec.upto engineNamesSpec)

/-- 'dowellaw21.EngineRuns', WHERE WHAT IT READS IS OF BULK AT MOST 1048576: true; the input reads as it did. -/
def engineRunsUptoRow : OpenClaim := { program := "ytmifaoafgnaabaa", sum := "303b81af5d1344697b4c346a8b712500600a6b7ad54c0af44f82e7e8a2d2ce31", func := "dowel/dowellaw21.EngineRuns", spec := "engineRuns", inPlace := ["internal/bytealg.IndexByteString", "internal/bytealg.IndexString"], named := ["internal/bytealg.MaxLen"], apart := false, narrowed := true }
def EngineRunsUptoSaid : Prop := engineRunsUptoRow.holds Try.pinned (OpenSpec.upto engineRunsSpec)

/-- 'dowellaw21.EngineLimits', WHERE WHAT IT READS IS OF BULK AT MOST 1048576: true; the input reads as it did. -/
def engineLimitsUptoRow : OpenClaim := { program := "ytmifaoafgnaabaa", sum := "303b81af5d1344697b4c346a8b712500600a6b7ad54c0af44f82e7e8a2d2ce31", func := "dowel/dowellaw21.EngineLimits", spec := "engineLimits", inPlace := ["internal/bytealg.IndexByteString", "internal/bytealg.IndexString"], named := ["internal/bytealg.MaxLen"], apart := false, narrowed := true }
def EngineLimitsUptoSaid : Prop := engineLimitsUptoRow.holds Try.pinned (OpenSpec.upto engineLimitsSpec)

/-- 'dowellaw21.EngineWithin', WHERE WHAT IT READS IS OF BULK AT MOST 1048576: true; the input reads as it did. -/
def engineWithinUptoRow : OpenClaim := { program := "ytmifaoafgnaabaa", sum := "303b81af5d1344697b4c346a8b712500600a6b7ad54c0af44f82e7e8a2d2ce31", func := "dowel/dowellaw21.EngineWithin", spec := "engineWithin", inPlace := ["internal/bytealg.IndexByteString", "internal/bytealg.IndexString"], named := ["internal/bytealg.MaxLen"], apart := false, narrowed := true }
def EngineWithinUptoSaid : Prop := engineWithinUptoRow.holds Try.pinned (OpenSpec.upto engineWithinSpec)

/-- 'dowellaw21.EngineMeans', WHERE WHAT IT READS IS OF BULK AT MOST 1048576: true; the input reads as it did. -/
def engineMeansUptoRow : OpenClaim := { program := "ytmifaoafgnaabaa", sum := "303b81af5d1344697b4c346a8b712500600a6b7ad54c0af44f82e7e8a2d2ce31", func := "dowel/dowellaw21.EngineMeans", spec := "engineMeans", inPlace := ["internal/bytealg.IndexByteString", "internal/bytealg.IndexString"], unfollowed := true, recurses := true, named := ["internal/bytealg.MaxLen"], apart := false, narrowed := true }
def EngineMeansUptoSaid : Prop := engineMeansUptoRow.holds Try.pinned (OpenSpec.upto engineMeansSpec)

/-- 'dowellaw21.EngineBehind', WHERE WHAT IT READS IS OF BULK AT MOST 1048576: true; the input reads as it did. -/
def engineBehindUptoRow : OpenClaim := { program := "ytmifaoafgnaabaa", sum := "303b81af5d1344697b4c346a8b712500600a6b7ad54c0af44f82e7e8a2d2ce31", func := "dowel/dowellaw21.EngineBehind", spec := "engineBehind", inPlace := ["internal/bytealg.IndexByteString", "internal/bytealg.IndexString"], unfollowed := true, recurses := true, named := ["internal/bytealg.MaxLen"], apart := false, narrowed := true }
def EngineBehindUptoSaid : Prop := engineBehindUptoRow.holds Try.pinned (OpenSpec.upto engineBehindSpec)

end Rows
end Go.Proofs.Ytmifaoafgnaabaa
