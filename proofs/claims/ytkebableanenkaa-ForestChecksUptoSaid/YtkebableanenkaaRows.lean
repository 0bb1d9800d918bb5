/-
  No cell of these rows narrows 'for every input' (looked for: loops, veiled, ifaces, maps, wideKeys, modest, calm, conditions, laid).
  DERIVED. THE GIVEN ROWS OF THIS SEAT. 5 by the template 'for every input the law returns true; each argument reads behind the call as it read before'; 0 by the template 'total and deterministic' (their statements: YtkebableanenkaaTotals.lean).
  GIVEN WITH THE SEED: the statements are not yours to turn. If you find one false, say at which input.
  Laid BY PROGRAM, IN A SANDBOX (cutbox-rows.mjs): the forced cells as the released guide's own fill.sh prints them over the translation 752992f934d0ff25… (all of the seat's roots in one cut). By AI agents, Wed Nov 11 2026. No macro, syntax, notation, axiom, sorry.
-/
import Derived.Test.YtkebableanenkaaChecked
import GoSem.Claim
import GoSem.ClaimJoined
import GoSem.ClaimMapViews
import Derived.JoinedTies
import Derived.KernelRfl
namespace Go.Proofs.Ytkebableanenkaa
/- THE CELL 'sum', in the pinned program and in every row, IS THE sha256 OF THE DUMP (.gsa) THAT YtkebableanenkaaProg.lean LOADS. Nothing in Lean hashes anything: it is a label: what it is worth is what the hold of that sum in a sandbox is worth. -/
noncomputable def Try.pinned : Pinned := { name := "ytkebableanenkaa", sum := "752992f934d0ff259977730e2d4511826344d5b7d4cae6bdb9485bbf9f9584e8", checked := Try.checked }
namespace Rows
def none {H : Type} : Left H := { results := [], args := [] }

/-- 'dowellaw12.ForestNames': WHATEVER THE INPUT: true; the input reads as it did. -/
def forestNamesSpec : ChangeSpec := { name := "forestNames", fn := fun _ => fun
  | [] => { results := [.lit (.bool true)], args := [] }
  | _ => none }
def forestNamesRow : OpenClaim := { program := "ytkebableanenkaa", sum := "752992f934d0ff259977730e2d4511826344d5b7d4cae6bdb9485bbf9f9584e8", func := "dowel/dowellaw12.ForestNames", spec := "forestNames", apart := false }
def ForestNamesSaid : Prop := forestNamesRow.holds Try.pinned (OpenSpec.ofChange forestNamesSpec)

/-- ITS FALSE NEIGHBOUR: 'it returns false'. Refute it at one input. -/
def forestNamesWrong : ChangeSpec := { name := "forestNames", fn := fun _ => fun
  | [] => { results := [.lit (.bool false)], args := [] }
  | _ => none }
def ForestNamesWrongFalsely : Prop := forestNamesRow.holds Try.pinned (OpenSpec.ofChange forestNamesWrong)

/-- 'dowellaw12.ForestWalks': WHATEVER THE INPUT: true; the input reads as it did. -/
def forestWalksSpec : ChangeSpec := { name := "forestWalks", fn := fun _ => fun
  | [d1, d2, d3] => { results := [.lit (.bool true)], args := [d1, d2, d3] }
  | _ => none }
def forestWalksRow : OpenClaim := { program := "ytkebableanenkaa", sum := "752992f934d0ff259977730e2d4511826344d5b7d4cae6bdb9485bbf9f9584e8", func := "dowel/dowellaw12.ForestWalks", spec := "forestWalks", unfollowed := true, recurses := true, apart := false }
def ForestWalksSaid : Prop := forestWalksRow.holds Try.pinned (OpenSpec.ofChange forestWalksSpec)

/-- ITS FALSE NEIGHBOUR: 'it returns false'. Refute it at one input. -/
def forestWalksWrong : ChangeSpec := { name := "forestWalks", fn := fun _ => fun
  | [d1, d2, d3] => { results := [.lit (.bool false)], args := [d1, d2, d3] }
  | _ => none }
def ForestWalksWrongFalsely : Prop := forestWalksRow.holds Try.pinned (OpenSpec.ofChange forestWalksWrong)

/-- 'dowellaw12.ForestKids': WHATEVER THE INPUT: true; the input reads as it did. -/
def forestKidsSpec : ChangeSpec := { name := "forestKids", fn := fun _ => fun
  | [d1, d2, d3] => { results := [.lit (.bool true)], args := [d1, d2, d3] }
  | _ => none }
def forestKidsRow : OpenClaim := { program := "ytkebableanenkaa", sum := "752992f934d0ff259977730e2d4511826344d5b7d4cae6bdb9485bbf9f9584e8", func := "dowel/dowellaw12.ForestKids", spec := "forestKids", apart := false }
def ForestKidsSaid : Prop := forestKidsRow.holds Try.pinned (OpenSpec.ofChange forestKidsSpec)

/-- ITS FALSE NEIGHBOUR: 'it returns false'. Refute it at one input. -/
def forestKidsWrong : ChangeSpec := { name := "forestKids", fn := fun _ => fun
  | [d1, d2, d3] => { results := [.lit (.bool false)], args := [d1, d2, d3] }
  | _ => none }
def ForestKidsWrongFalsely : Prop := forestKidsRow.holds Try.pinned (OpenSpec.ofChange forestKidsWrong)

/-- 'dowellaw12.ForestChecks': WHATEVER THE INPUT: true; the input reads as it did. -/
def forestChecksSpec : ChangeSpec := { name := "forestChecks", fn := fun _ => fun
  | [d1, d2] => { results := [.lit (.bool true)], args := [d1, d2] }
  | _ => none }
def forestChecksRow : OpenClaim := { program := "ytkebableanenkaa", sum := "752992f934d0ff259977730e2d4511826344d5b7d4cae6bdb9485bbf9f9584e8", func := "dowel/dowellaw12.ForestChecks", spec := "forestChecks", apart := false }
def ForestChecksSaid : Prop := forestChecksRow.holds Try.pinned (OpenSpec.ofChange forestChecksSpec)

/-- ITS FALSE NEIGHBOUR: 'it returns false'. Refute it at one input. -/
def forestChecksWrong : ChangeSpec := { name := "forestChecks", fn := fun _ => fun
  | [d1, d2] => { results := [.lit (.bool false)], args := [d1, d2] }
  | _ => none }
def ForestChecksWrongFalsely : Prop := forestChecksRow.holds Try.pinned (OpenSpec.ofChange forestChecksWrong)

/-- 'dowellaw12.ForestFinds': WHATEVER THE INPUT: true; the input reads as it did. -/
def forestFindsSpec : ChangeSpec := { name := "forestFinds", fn := fun _ => fun
  | [d1, d2, d3] => { results := [.lit (.bool true)], args := [d1, d2, d3] }
  | _ => none }
def forestFindsRow : OpenClaim := { program := "ytkebableanenkaa", sum := "752992f934d0ff259977730e2d4511826344d5b7d4cae6bdb9485bbf9f9584e8", func := "dowel/dowellaw12.ForestFinds", spec := "forestFinds", unfollowed := true, recurses := true, apart := false }
def ForestFindsSaid : Prop := forestFindsRow.holds Try.pinned (OpenSpec.ofChange forestFindsSpec)

/-- ITS FALSE NEIGHBOUR: 'it returns false'. Refute it at one input. -/
def forestFindsWrong : ChangeSpec := { name := "forestFinds", fn := fun _ => fun
  | [d1, d2, d3] => { results := [.lit (.bool false)], args := [d1, d2, d3] }
  | _ => none }
def ForestFindsWrongFalsely : Prop := forestFindsRow.holds Try.pinned (OpenSpec.ofChange forestFindsWrong)

/- THE SECOND FORM. 'bulk': how many values and letters a reading holds, each counted each time it is reached (what is shared counts as often as it is met; a slice's spare places count too). A statement '..UptoSaid' is the law's where the arguments, and the package variables that the reading takes, are together of bulk at most 1048576: NARROWER than '..Said'. Prove '..Said' where nothing that the law and all that it calls make is longer than what came in: it says more and counts as full. Else prove '..UptoSaid'. A law counts once. -/
mutual
def uptoBulk {H : Type} : DataW H → Nat
  | .lit (.string bytes) => bytes.length + 1
  | .lit _ => 1
  | .nil => 1
  | .ptr d => uptoBulk d + 1
  | .slice elems spare => uptoBulkAll elems + uptoBulkAll spare + 1
  | .agg parts => uptoBulkAll parts + 1
  | .iface _ d => uptoBulk d + 1
  | .map entries => uptoBulkEntries entries + 1
  | .held _ => 1
def uptoBulkAll {H : Type} : List (DataW H) → Nat
  | [] => 0
  | d :: r => uptoBulk d + uptoBulkAll r
def uptoBulkEntries {H : Type} : List (Lit × DataW H) → Nat
  | [] => 0
  | x :: r => uptoBulkEntry x + uptoBulkEntries r
def uptoBulkEntry {H : Type} : Lit × DataW H → Nat
  | (.string bytes, d) => bytes.length + uptoBulk d + 1
  | (_, d) => uptoBulk d + 1
 end
def uptoSmall : (H : Type) → List (DataW H) → Bool := fun _ ds => decide (uptoBulkAll ds ≤ 1048576)
def OpenSpec.upto (s : _root_.Go.ChangeSpec) : _root_.Go.OpenSpec := { _root_.Go.OpenSpec.ofChange s with cond := some uptoSmall }

/-- 'dowellaw12.ForestNames', WHERE WHAT IT READS IS OF BULK AT MOST 1048576: true; the input reads as it did. -/
def forestNamesUptoRow : OpenClaim := { program := "ytkebableanenkaa", sum := "752992f934d0ff259977730e2d4511826344d5b7d4cae6bdb9485bbf9f9584e8", func := "dowel/dowellaw12.ForestNames", spec := "forestNames", apart := false, narrowed := true }
def ForestNamesUptoSaid : Prop := forestNamesUptoRow.holds Try.pinned (OpenSpec.upto forestNamesSpec)

/-- 'dowellaw12.ForestWalks', WHERE WHAT IT READS IS OF BULK AT MOST 1048576: true; the input reads as it did. -/
def forestWalksUptoRow : OpenClaim := { program := "ytkebableanenkaa", sum := "752992f934d0ff259977730e2d4511826344d5b7d4cae6bdb9485bbf9f9584e8", func := "dowel/dowellaw12.ForestWalks", spec := "forestWalks", unfollowed := true, recurses := true, apart := false, narrowed := true }
def ForestWalksUptoSaid : Prop := forestWalksUptoRow.holds Try.pinned (OpenSpec.upto forestWalksSpec)

/-- 'dowellaw12.ForestKids', WHERE WHAT IT READS IS OF BULK AT MOST 1048576: true; the input reads as it did. -/
def forestKidsUptoRow : OpenClaim := { program := "ytkebableanenkaa", sum := "752992f934d0ff259977730e2d4511826344d5b7d4cae6bdb9485bbf9f9584e8", func := "dowel/dowellaw12.ForestKids", spec := "forestKids", apart := false, narrowed := true }
def ForestKidsUptoSaid : Prop := forestKidsUptoRow.holds Try.pinned (OpenSpec.upto forestKidsSpec)

/-- 'dowellaw12.ForestChecks', WHERE WHAT IT READS IS OF BULK AT MOST 1048576: true; the input reads as it did. -/
def forestChecksUptoRow : OpenClaim := { program := "ytkebableanenkaa", sum := "752992f934d0ff259977730e2d4511826344d5b7d4cae6bdb9485bbf9f9584e8", func := "dowel/dowellaw12.ForestChecks", spec := "forestChecks", apart := false, narrowed := true }
def ForestChecksUptoSaid : Prop := forestChecksUptoRow.holds Try.pinned (OpenSpec.upto forestChecksSpec)

/-- 'dowellaw12.ForestFinds', WHERE WHAT IT READS IS OF BULK AT MOST 1048576: true; the input reads as it did. -/
def forestFindsUptoRow : OpenClaim := { program := "ytkebableanenkaa", sum := "752992f934d0ff259977730e2d4511826344d5b7d4cae6bdb9485bbf9f9584e8", func := "dowel/dowellaw12.ForestFinds", spec := "forestFinds", unfollowed := true, recurses := true, apart := false, narrowed := true }
def ForestFindsUptoSaid : Prop := forestFindsUptoRow.holds Try.pinned (OpenSpec.upto forestFindsSpec)

end Rows
end Go.Proofs.Ytkebableanenkaa
