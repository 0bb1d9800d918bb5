/-
  No cell of these rows narrows 'for every input' (looked for: loops, veiled, ifaces, maps, wideKeys, modest, calm, conditions, laid).
  DERIVED. THE GIVEN ROWS OF THIS SEAT. 2 by the template 'for every input the law returns true; each argument reads behind the call as it read before'; 0 by the template 'total and deterministic' (their statements: YtkhpjcahncepnaaTotals.lean).
  GIVEN WITH THE SEED: the statements are not yours to turn. If you find one false, say at which input.
  Laid BY PROGRAM, IN A SANDBOX (cutbox-rows.mjs): the forced cells as the released guide's own fill.sh prints them over the translation 52402cdca3d67656… (all of the seat's roots in one cut). By AI agents, Wed Nov 11 2026. No macro, syntax, notation, axiom, sorry.
-/
import Derived.Test.YtkhpjcahncepnaaChecked
import GoSem.Claim
import GoSem.ClaimJoined
import GoSem.ClaimMapViews
import Derived.JoinedTies
import Derived.KernelRfl
namespace Go.Proofs.Ytkhpjcahncepnaa
/- THE CELL 'sum', in the pinned program and in every row, IS THE sha256 OF THE DUMP (.gsa) THAT YtkhpjcahncepnaaProg.lean LOADS. Nothing in Lean hashes anything: it is a label: what it is worth is what the hold of that sum in a sandbox is worth. -/
noncomputable def Try.pinned : Pinned := { name := "ytkhpjcahncepnaa", sum := "52402cdca3d67656d8e917a3dcfa1f6bcc6d7dfa8749c1e023f13f87b1bf75a6", checked := Try.checked }
namespace Rows
def none {H : Type} : Left H := { results := [], args := [] }

/-- 'dowellaw15.BlameNames': WHATEVER THE INPUT: true; the input reads as it did. -/
def blameNamesSpec : ChangeSpec := { name := "blameNames", fn := fun _ => fun
  | [] => { results := [.lit (.bool true)], args := [] }
  | _ => none }
def blameNamesRow : OpenClaim := { program := "ytkhpjcahncepnaa", sum := "52402cdca3d67656d8e917a3dcfa1f6bcc6d7dfa8749c1e023f13f87b1bf75a6", func := "dowel/dowellaw15.BlameNames", spec := "blameNames", apart := false }
def BlameNamesSaid : Prop := blameNamesRow.holds Try.pinned (OpenSpec.ofChange blameNamesSpec)

/-- ITS FALSE NEIGHBOUR: 'it returns false'. Refute it at one input. -/
def blameNamesWrong : ChangeSpec := { name := "blameNames", fn := fun _ => fun
  | [] => { results := [.lit (.bool false)], args := [] }
  | _ => none }
def BlameNamesWrongFalsely : Prop := blameNamesRow.holds Try.pinned (OpenSpec.ofChange blameNamesWrong)

/-- 'dowellaw15.BlameExplains': WHATEVER THE INPUT: true; the input reads as it did. -/
def blameExplainsSpec : ChangeSpec := { name := "blameExplains", fn := fun _ => fun
  | [d1, d2, d3] => { results := [.lit (.bool true)], args := [d1, d2, d3] }
  | _ => none }
def blameExplainsRow : OpenClaim := { program := "ytkhpjcahncepnaa", sum := "52402cdca3d67656d8e917a3dcfa1f6bcc6d7dfa8749c1e023f13f87b1bf75a6", func := "dowel/dowellaw15.BlameExplains", spec := "blameExplains", inPlace := ["internal/bytealg.IndexByteString", "internal/bytealg.IndexString"], unfollowed := true, recurses := true, named := ["internal/bytealg.MaxLen"], apart := false }
def BlameExplainsSaid : Prop := blameExplainsRow.holds Try.pinned (OpenSpec.ofChange blameExplainsSpec)

/-- ITS FALSE NEIGHBOUR: 'it returns false'. Refute it at one input. -/
def blameExplainsWrong : ChangeSpec := { name := "blameExplains", fn := fun _ => fun
  | [d1, d2, d3] => { results := [.lit (.bool false)], args := [d1, d2, d3] }
  | _ => none }
def BlameExplainsWrongFalsely : Prop := blameExplainsRow.holds Try.pinned (OpenSpec.ofChange blameExplainsWrong)

/- THE SECOND FORM. 'bulk': how many values and letters a reading holds, each counted each time it is reached (what is shared counts as often as it is met; a slice's spare places count too). A statement '..UptoSaid' is the law's where the arguments, and the package variables that the reading takes, are together of bulk at most 1048576: NARROWER than '..Said'. Prove '..Said' where nothing that the law and all that it calls make is longer than what came in: it says more and counts as full. Else prove '..UptoSaid'. A law counts once. -/
mutual
def uptoBulk {H : Type} : DataW H → Nat
  | .lit (.string bytes) => bytes.length + 1
  | .lit _ => 1
  | .nil => 1
  | .ptr d => uptoBulk d + 1
  | .slice elems spare => uptoBulkAll elems + uptoBulkAll spare + 1
  | .agg parts => uptoBulkAll parts + 1
  | .iface _ d => uptoBulk d + 1
  | .map entries => uptoBulkEntries entries + 1
  | .held _ => 1
def uptoBulkAll {H : Type} : List (DataW H) → Nat
  | [] => 0
  | d :: r => uptoBulk d + uptoBulkAll r
def uptoBulkEntries {H : Type} : List (Lit × DataW H) → Nat
  | [] => 0
  | x :: r => uptoBulkEntry x + uptoBulkEntries r
def uptoBulkEntry {H : Type} : Lit × DataW H → Nat
  | (.string bytes, d) => bytes.length + uptoBulk d + 1
  | (_, d) => uptoBulk d + 1
 end
def uptoSmall : (H : Type) → List (DataW H) → Bool := fun _ ds => decide (uptoBulkAll ds ≤ 1048576)
def OpenSpec.upto (s : _root_.Go.ChangeSpec) : _root_.Go.OpenSpec := { _root_.Go.OpenSpec.ofChange s with cond := some uptoSmall }

/-- 'dowellaw15.BlameNames', WHERE WHAT IT READS IS OF BULK AT MOST 1048576: true; the input reads as it did. -/
def blameNamesUptoRow : OpenClaim := { program := "ytkhpjcahncepnaa", sum := "52402cdca3d67656d8e917a3dcfa1f6bcc6d7dfa8749c1e023f13f87b1bf75a6", func := "dowel/dowellaw15.BlameNames", spec := "blameNames", apart := false, narrowed := true }
def BlameNamesUptoSaid : Prop := blameNamesUptoRow.holds Try.pinned (OpenSpec.upto blameNamesSpec)

/-- 'dowellaw15.BlameExplains', WHERE WHAT IT READS IS OF BULK AT MOST 1048576: true; the input reads as it did. -/
def blameExplainsUptoRow : OpenClaim := { program := "ytkhpjcahncepnaa", sum := "52402cdca3d67656d8e917a3dcfa1f6bcc6d7dfa8749c1e023f13f87b1bf75a6", func := "dowel/dowellaw15.BlameExplains", spec := "blameExplains", inPlace := ["internal/bytealg.IndexByteString", "internal/bytealg.IndexString"], unfollowed := true, recurses := true, named := ["internal/bytealg.MaxLen"], apart := false, narrowed := true }
def BlameExplainsUptoSaid : Prop := blameExplainsUptoRow.holds Try.pinned (OpenSpec.upto blameExplainsSpec)

end Rows
end Go.Proofs.Ytkhpjcahncepnaa
