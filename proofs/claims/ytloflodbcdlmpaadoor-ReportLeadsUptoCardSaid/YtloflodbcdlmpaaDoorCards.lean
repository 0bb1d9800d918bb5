/-
  DERIVED. GIVEN WITH THE SEED: THE CARDS: each row of YtloflodbcdlmpaaDoorRows.lean that lists a variable, with what it lists TIED to the program's text (the seventh form; the later family's looks); each row that meets fmt, with fmt's text TOLD by the authors' own Lean function (tested against real Go, not proved from fmt's source: count such statements apart). THE CARD IS WHAT COUNTS. Prove the row's statement (the work); the ties are given (YtloflodbcdlmpaaDoorTie.lean); close each card by the builder's one call (the guide's Derived/Test/ToyasCard.lean, 'card_holds'). Laid BY PROGRAM, IN A SANDBOX (cutbox-door.mjs). By AI agents, Wed Nov 11 2026. No macro, syntax, notation, axiom, sorry.
-/
import Derived.Test.YtloflodbcdlmpaaDoorRows
import GoSem.ClaimSeven
namespace Go.Proofs.YtloflodbcdlmpaaDoor
namespace Rows

/-- THE TIED CARD OF 'dowellaw28.ReportTexts'. -/
def reportTextsCard : Claim7 := { stood := { row := reportTextsRow, standIns := [], harness := (true, "80e45026da17ce95936de90c1d7d161fd12f65a0c788d413142c8fa3e5015e69"), looks := false }, kinds := [], alts := [], laidByText := true, laidKinds := [.data, .data, .data], laidTests := true, laidLooks := .later }
def ReportTextsCardSaid : Prop := Claim7.holds Tryd.pinned (.plain (OpenSpec.ofChange reportTextsSpec)) reportTextsCard

/-- THE TIED CARD OF 'dowellaw28.ReportNotices'. -/
def reportNoticesCard : Claim7 := { stood := { row := reportNoticesRow, standIns := [], harness := (true, "80e45026da17ce95936de90c1d7d161fd12f65a0c788d413142c8fa3e5015e69"), looks := false }, kinds := [], alts := [], laidByText := true, laidKinds := [.data, .data, .data], laidTests := true, laidLooks := .later }
def ReportNoticesCardSaid : Prop := Claim7.holds Tryd.pinned (.plain (OpenSpec.ofChange reportNoticesSpec)) reportNoticesCard

/-- THE TIED CARD OF 'dowellaw28.ReportParses'. -/
def reportParsesCard : Claim7 := { stood := { row := reportParsesRow, standIns := [], harness := (true, "80e45026da17ce95936de90c1d7d161fd12f65a0c788d413142c8fa3e5015e69"), looks := false }, kinds := [], alts := [], laidByText := true, laidKinds := [.data, .data, .data, .data, .pinned], laidTests := true, laidLooks := .later }
def ReportParsesCardSaid : Prop := Claim7.holds Tryd.pinned (.plain (OpenSpec.ofChange reportParsesSpec)) reportParsesCard

/-- THE TIED CARD OF 'dowellaw28.ReportBack'. -/
def reportBackCard : Claim7 := { stood := { row := reportBackRow, standIns := [], harness := (true, "80e45026da17ce95936de90c1d7d161fd12f65a0c788d413142c8fa3e5015e69"), looks := false }, kinds := [], alts := [], laidByText := true, laidKinds := [.data, .data, .data, .data, .pinned], laidTests := true, laidLooks := .later }
def ReportBackCardSaid : Prop := Claim7.holds Tryd.pinned (.plain (OpenSpec.ofChange reportBackSpec)) reportBackCard

/-- THE TIED CARD OF 'dowellaw28.ReportRead'. -/
def reportReadCard : Claim7 := { stood := { row := reportReadRow, standIns := [], harness := (true, "80e45026da17ce95936de90c1d7d161fd12f65a0c788d413142c8fa3e5015e69"), looks := false }, kinds := [], alts := [], laidByText := true, laidKinds := [.data, .data, .data, .data, .pinned], laidTests := true, laidLooks := .later }
def ReportReadCardSaid : Prop := Claim7.holds Tryd.pinned (.plain (OpenSpec.ofChange reportReadSpec)) reportReadCard

/-- THE TIED CARD OF 'dowellaw28.ReportUnlike'. -/
def reportUnlikeCard : Claim7 := { stood := { row := reportUnlikeRow, standIns := [], harness := (true, "80e45026da17ce95936de90c1d7d161fd12f65a0c788d413142c8fa3e5015e69"), looks := false }, kinds := [], alts := [], laidByText := true, laidKinds := [.data, .data, .data, .data, .pinned], laidTests := true, laidLooks := .later }
def ReportUnlikeCardSaid : Prop := Claim7.holds Tryd.pinned (.plain (OpenSpec.ofChange reportUnlikeSpec)) reportUnlikeCard

/-- THE TIED CARD OF 'dowellaw28.ReportLeads'. -/
def reportLeadsCard : Claim7 := { stood := { row := reportLeadsRow, standIns := [], harness := (true, "80e45026da17ce95936de90c1d7d161fd12f65a0c788d413142c8fa3e5015e69"), looks := false }, kinds := [], alts := [], laidByText := true, laidKinds := [.data, .data, .data, .data, .pinned], laidTests := true, laidLooks := .later }
def ReportLeadsCardSaid : Prop := Claim7.holds Tryd.pinned (.plain (OpenSpec.ofChange reportLeadsSpec)) reportLeadsCard

/-- THE SECOND FORM's CARD OF 'dowellaw28.ReportTexts'. -/
def reportTextsUptoCard : Claim7 := { stood := { row := reportTextsUptoRow, standIns := [], harness := (true, "80e45026da17ce95936de90c1d7d161fd12f65a0c788d413142c8fa3e5015e69"), looks := false }, kinds := [], alts := [], laidByText := true, laidKinds := [.data, .data, .data], laidTests := true, laidLooks := .later }
def ReportTextsUptoCardSaid : Prop := Claim7.holds Tryd.pinned (.plain (OpenSpec.upto reportTextsSpec)) reportTextsUptoCard

/-- THE SECOND FORM's CARD OF 'dowellaw28.ReportNotices'. -/
def reportNoticesUptoCard : Claim7 := { stood := { row := reportNoticesUptoRow, standIns := [], harness := (true, "80e45026da17ce95936de90c1d7d161fd12f65a0c788d413142c8fa3e5015e69"), looks := false }, kinds := [], alts := [], laidByText := true, laidKinds := [.data, .data, .data], laidTests := true, laidLooks := .later }
def ReportNoticesUptoCardSaid : Prop := Claim7.holds Tryd.pinned (.plain (OpenSpec.upto reportNoticesSpec)) reportNoticesUptoCard

/-- THE SECOND FORM's CARD OF 'dowellaw28.ReportParses'. -/
def reportParsesUptoCard : Claim7 := { stood := { row := reportParsesUptoRow, standIns := [], harness := (true, "80e45026da17ce95936de90c1d7d161fd12f65a0c788d413142c8fa3e5015e69"), looks := false }, kinds := [], alts := [], laidByText := true, laidKinds := [.data, .data, .data, .data, .pinned], laidTests := true, laidLooks := .later }
def ReportParsesUptoCardSaid : Prop := Claim7.holds Tryd.pinned (.plain (OpenSpec.upto reportParsesSpec)) reportParsesUptoCard

/-- THE SECOND FORM's CARD OF 'dowellaw28.ReportBack'. -/
def reportBackUptoCard : Claim7 := { stood := { row := reportBackUptoRow, standIns := [], harness := (true, "80e45026da17ce95936de90c1d7d161fd12f65a0c788d413142c8fa3e5015e69"), looks := false }, kinds := [], alts := [], laidByText := true, laidKinds := [.data, .data, .data, .data, .pinned], laidTests := true, laidLooks := .later }
def ReportBackUptoCardSaid : Prop := Claim7.holds Tryd.pinned (.plain (OpenSpec.upto reportBackSpec)) reportBackUptoCard

/-- THE SECOND FORM's CARD OF 'dowellaw28.ReportRead'. -/
def reportReadUptoCard : Claim7 := { stood := { row := reportReadUptoRow, standIns := [], harness := (true, "80e45026da17ce95936de90c1d7d161fd12f65a0c788d413142c8fa3e5015e69"), looks := false }, kinds := [], alts := [], laidByText := true, laidKinds := [.data, .data, .data, .data, .pinned], laidTests := true, laidLooks := .later }
def ReportReadUptoCardSaid : Prop := Claim7.holds Tryd.pinned (.plain (OpenSpec.upto reportReadSpec)) reportReadUptoCard

/-- THE SECOND FORM's CARD OF 'dowellaw28.ReportUnlike'. -/
def reportUnlikeUptoCard : Claim7 := { stood := { row := reportUnlikeUptoRow, standIns := [], harness := (true, "80e45026da17ce95936de90c1d7d161fd12f65a0c788d413142c8fa3e5015e69"), looks := false }, kinds := [], alts := [], laidByText := true, laidKinds := [.data, .data, .data, .data, .pinned], laidTests := true, laidLooks := .later }
def ReportUnlikeUptoCardSaid : Prop := Claim7.holds Tryd.pinned (.plain (OpenSpec.upto reportUnlikeSpec)) reportUnlikeUptoCard

/-- THE SECOND FORM's CARD OF 'dowellaw28.ReportLeads'. -/
def reportLeadsUptoCard : Claim7 := { stood := { row := reportLeadsUptoRow, standIns := [], harness := (true, "80e45026da17ce95936de90c1d7d161fd12f65a0c788d413142c8fa3e5015e69"), looks := false }, kinds := [], alts := [], laidByText := true, laidKinds := [.data, .data, .data, .data, .pinned], laidTests := true, laidLooks := .later }
def ReportLeadsUptoCardSaid : Prop := Claim7.holds Tryd.pinned (.plain (OpenSpec.upto reportLeadsSpec)) reportLeadsUptoCard
end Rows
end Go.Proofs.YtloflodbcdlmpaaDoor
