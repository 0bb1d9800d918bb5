/-
  DERIVED. GIVEN WITH THE SEED: THE CARDS: each row of YtkebableanenkaaDoorRows.lean that lists a variable, with what it lists TIED to the program's text (the seventh form; the later family's looks); each row that meets fmt, with fmt's text TOLD by the authors' own Lean function (tested against real Go, not proved from fmt's source: count such statements apart). THE CARD IS WHAT COUNTS. Prove the row's statement (the work); the ties are given (YtkebableanenkaaDoorTie.lean); close each card by the builder's one call (the guide's Derived/Test/ToyasCard.lean, 'card_holds'). Laid BY PROGRAM, IN A SANDBOX (cutbox-door.mjs). By AI agents, Wed Nov 11 2026. No macro, syntax, notation, axiom, sorry.
-/
import Derived.Test.YtkebableanenkaaDoorRows
import GoSem.ClaimSeven
namespace Go.Proofs.YtkebableanenkaaDoor
namespace Rows

/-- THE TIED CARD OF 'dowellaw12.ForestParses'. -/
def forestParsesCard : Claim7 := { stood := { row := forestParsesRow, standIns := [], harness := (true, "3fd6c1fad18f1b1a72ca2c4dfb8e574236ce88982d5bebf0b0af37babbaf0929"), looks := false }, kinds := [], alts := [], laidByText := true, laidKinds := [.data, .pinned], laidTests := true, laidLooks := .later }
def ForestParsesCardSaid : Prop := Claim7.holds Tryd.pinned (.plain (OpenSpec.ofChange forestParsesSpec)) forestParsesCard

/-- THE TIED CARD OF 'dowellaw12.ForestTexts'. -/
def forestTextsCard : Claim7 := { stood := { row := forestTextsRow, standIns := [], harness := (true, "3fd6c1fad18f1b1a72ca2c4dfb8e574236ce88982d5bebf0b0af37babbaf0929"), looks := false }, kinds := [], alts := [], laidByText := true, laidKinds := [.data, .data, .data], laidTests := true, laidLooks := .later }
def ForestTextsCardSaid : Prop := Claim7.holds Tryd.pinned (.plain (OpenSpec.ofChange forestTextsSpec)) forestTextsCard

/-- THE TIED CARD OF 'dowellaw12.ForestBack'. -/
def forestBackCard : Claim7 := { stood := { row := forestBackRow, standIns := [], harness := (true, "3fd6c1fad18f1b1a72ca2c4dfb8e574236ce88982d5bebf0b0af37babbaf0929"), looks := false }, kinds := [], alts := [], laidByText := true, laidKinds := [.data, .data, .data, .data, .pinned], laidTests := true, laidLooks := .later }
def ForestBackCardSaid : Prop := Claim7.holds Tryd.pinned (.plain (OpenSpec.ofChange forestBackSpec)) forestBackCard

/-- THE TIED CARD OF 'dowellaw12.ForestRead'. -/
def forestReadCard : Claim7 := { stood := { row := forestReadRow, standIns := [], harness := (true, "3fd6c1fad18f1b1a72ca2c4dfb8e574236ce88982d5bebf0b0af37babbaf0929"), looks := false }, kinds := [], alts := [], laidByText := true, laidKinds := [.data, .data, .data, .data, .pinned], laidTests := true, laidLooks := .later }
def ForestReadCardSaid : Prop := Claim7.holds Tryd.pinned (.plain (OpenSpec.ofChange forestReadSpec)) forestReadCard

/-- THE TIED CARD OF 'dowellaw12.ForestPaths'. -/
def forestPathsCard : Claim7 := { stood := { row := forestPathsRow, standIns := [], harness := (true, "3fd6c1fad18f1b1a72ca2c4dfb8e574236ce88982d5bebf0b0af37babbaf0929"), looks := false }, kinds := [], alts := [], laidByText := true, laidKinds := [.data, .data, .data, .data, .pinned], laidTests := true, laidLooks := .later }
def ForestPathsCardSaid : Prop := Claim7.holds Tryd.pinned (.plain (OpenSpec.ofChange forestPathsSpec)) forestPathsCard

/-- THE TIED CARD OF 'dowellaw12.ForestNests'. -/
def forestNestsCard : Claim7 := { stood := { row := forestNestsRow, standIns := [], harness := (true, "3fd6c1fad18f1b1a72ca2c4dfb8e574236ce88982d5bebf0b0af37babbaf0929"), looks := false }, kinds := [], alts := [], laidByText := true, laidKinds := [.data, .data, .data, .data, .pinned], laidTests := true, laidLooks := .later }
def ForestNestsCardSaid : Prop := Claim7.holds Tryd.pinned (.plain (OpenSpec.ofChange forestNestsSpec)) forestNestsCard

/-- THE TIED CARD OF 'dowellaw12.ForestTrees'. -/
def forestTreesCard : Claim7 := { stood := { row := forestTreesRow, standIns := [], harness := (true, "3fd6c1fad18f1b1a72ca2c4dfb8e574236ce88982d5bebf0b0af37babbaf0929"), looks := false }, kinds := [], alts := [], laidByText := true, laidKinds := [.data, .data, .data, .data, .pinned], laidTests := true, laidLooks := .later }
def ForestTreesCardSaid : Prop := Claim7.holds Tryd.pinned (.plain (OpenSpec.ofChange forestTreesSpec)) forestTreesCard

/-- THE SECOND FORM's CARD OF 'dowellaw12.ForestParses'. -/
def forestParsesUptoCard : Claim7 := { stood := { row := forestParsesUptoRow, standIns := [], harness := (true, "3fd6c1fad18f1b1a72ca2c4dfb8e574236ce88982d5bebf0b0af37babbaf0929"), looks := false }, kinds := [], alts := [], laidByText := true, laidKinds := [.data, .pinned], laidTests := true, laidLooks := .later }
def ForestParsesUptoCardSaid : Prop := Claim7.holds Tryd.pinned (.plain (OpenSpec.upto forestParsesSpec)) forestParsesUptoCard

/-- THE SECOND FORM's CARD OF 'dowellaw12.ForestTexts'. -/
def forestTextsUptoCard : Claim7 := { stood := { row := forestTextsUptoRow, standIns := [], harness := (true, "3fd6c1fad18f1b1a72ca2c4dfb8e574236ce88982d5bebf0b0af37babbaf0929"), looks := false }, kinds := [], alts := [], laidByText := true, laidKinds := [.data, .data, .data], laidTests := true, laidLooks := .later }
def ForestTextsUptoCardSaid : Prop := Claim7.holds Tryd.pinned (.plain (OpenSpec.upto forestTextsSpec)) forestTextsUptoCard

/-- THE SECOND FORM's CARD OF 'dowellaw12.ForestBack'. -/
def forestBackUptoCard : Claim7 := { stood := { row := forestBackUptoRow, standIns := [], harness := (true, "3fd6c1fad18f1b1a72ca2c4dfb8e574236ce88982d5bebf0b0af37babbaf0929"), looks := false }, kinds := [], alts := [], laidByText := true, laidKinds := [.data, .data, .data, .data, .pinned], laidTests := true, laidLooks := .later }
def ForestBackUptoCardSaid : Prop := Claim7.holds Tryd.pinned (.plain (OpenSpec.upto forestBackSpec)) forestBackUptoCard

/-- THE SECOND FORM's CARD OF 'dowellaw12.ForestRead'. -/
def forestReadUptoCard : Claim7 := { stood := { row := forestReadUptoRow, standIns := [], harness := (true, "3fd6c1fad18f1b1a72ca2c4dfb8e574236ce88982d5bebf0b0af37babbaf0929"), looks := false }, kinds := [], alts := [], laidByText := true, laidKinds := [.data, .data, .data, .data, .pinned], laidTests := true, laidLooks := .later }
def ForestReadUptoCardSaid : Prop := Claim7.holds Tryd.pinned (.plain (OpenSpec.upto forestReadSpec)) forestReadUptoCard

/-- THE SECOND FORM's CARD OF 'dowellaw12.ForestPaths'. -/
def forestPathsUptoCard : Claim7 := { stood := { row := forestPathsUptoRow, standIns := [], harness := (true, "3fd6c1fad18f1b1a72ca2c4dfb8e574236ce88982d5bebf0b0af37babbaf0929"), looks := false }, kinds := [], alts := [], laidByText := true, laidKinds := [.data, .data, .data, .data, .pinned], laidTests := true, laidLooks := .later }
def ForestPathsUptoCardSaid : Prop := Claim7.holds Tryd.pinned (.plain (OpenSpec.upto forestPathsSpec)) forestPathsUptoCard

/-- THE SECOND FORM's CARD OF 'dowellaw12.ForestNests'. -/
def forestNestsUptoCard : Claim7 := { stood := { row := forestNestsUptoRow, standIns := [], harness := (true, "3fd6c1fad18f1b1a72ca2c4dfb8e574236ce88982d5bebf0b0af37babbaf0929"), looks := false }, kinds := [], alts := [], laidByText := true, laidKinds := [.data, .data, .data, .data, .pinned], laidTests := true, laidLooks := .later }
def ForestNestsUptoCardSaid : Prop := Claim7.holds Tryd.pinned (.plain (OpenSpec.upto forestNestsSpec)) forestNestsUptoCard

/-- THE SECOND FORM's CARD OF 'dowellaw12.ForestTrees'. -/
def forestTreesUptoCard : Claim7 := { stood := { row := forestTreesUptoRow, standIns := [], harness := (true, "3fd6c1fad18f1b1a72ca2c4dfb8e574236ce88982d5bebf0b0af37babbaf0929"), looks := false }, kinds := [], alts := [], laidByText := true, laidKinds := [.data, .data, .data, .data, .pinned], laidTests := true, laidLooks := .later }
def ForestTreesUptoCardSaid : Prop := Claim7.holds Tryd.pinned (.plain (OpenSpec.upto forestTreesSpec)) forestTreesUptoCard
end Rows
end Go.Proofs.YtkebableanenkaaDoor
