/-
  DERIVED. GIVEN WITH THE SEED: THE CARDS: each row of YtfdcjngclelnhaaDoorRows.lean that lists a variable, with what it lists TIED to the program's text (the seventh form; the later family's looks); each row that meets fmt, with fmt's text TOLD by the authors' own Lean function (tested against real Go, not proved from fmt's source: count such statements apart). THE CARD IS WHAT COUNTS. Prove the row's statement (the work); the ties are given (YtfdcjngclelnhaaDoorTie.lean); close each card by the builder's one call (the guide's Derived/Test/ToyasCard.lean, 'card_holds'). Laid BY PROGRAM, IN A SANDBOX (cutbox-door.mjs). By AI agents, Wed Nov 11 2026. No macro, syntax, notation, axiom, sorry.
-/
import Derived.Test.YtfdcjngclelnhaaDoorRows
import GoSem.ClaimSeven
namespace Go.Proofs.YtfdcjngclelnhaaDoor
namespace Rows

/-- THE TIED CARD OF 'cordonlaw23.ReportBack'. -/
def reportBackCard : Claim7 := { stood := { row := reportBackRow, standIns := [], harness := (true, "2e46f71acb970334ab7f2688e84212a194f352da5d44ca5e858f52ac8c197033"), looks := true }, kinds := [], alts := [], laidByText := true, laidKinds := [.data, .data, .data, .sentinel, .sentinel], laidTests := true, laidLooks := .later }
def ReportBackCardSaid : Prop := Claim7.holds Tryd.pinned (.plain (OpenSpec.ofChange reportBackSpec)) reportBackCard

/-- THE TIED CARD OF 'cordonlaw23.ReportTells'. -/
def reportTellsCard : Claim7 := { stood := { row := reportTellsRow, standIns := [], harness := (true, "2e46f71acb970334ab7f2688e84212a194f352da5d44ca5e858f52ac8c197033"), looks := true }, kinds := [], alts := [], laidByText := true, laidKinds := [.data, .data, .data, .sentinel, .sentinel], laidTests := true, laidLooks := .later }
def ReportTellsCardSaid : Prop := Claim7.holds Tryd.pinned (.plain (OpenSpec.ofChange reportTellsSpec)) reportTellsCard

/-- THE TIED CARD OF 'cordonlaw23.ReportNotes'. -/
def reportNotesCard : Claim7 := { stood := { row := reportNotesRow, standIns := [], harness := (true, "2e46f71acb970334ab7f2688e84212a194f352da5d44ca5e858f52ac8c197033"), looks := true }, kinds := [], alts := [], laidByText := true, laidKinds := [.data, .data, .data, .sentinel, .sentinel], laidTests := true, laidLooks := .later }
def ReportNotesCardSaid : Prop := Claim7.holds Tryd.pinned (.plain (OpenSpec.ofChange reportNotesSpec)) reportNotesCard

/-- THE SECOND FORM's CARD OF 'cordonlaw23.ReportBack'. -/
def reportBackUptoCard : Claim7 := { stood := { row := reportBackUptoRow, standIns := [], harness := (true, "2e46f71acb970334ab7f2688e84212a194f352da5d44ca5e858f52ac8c197033"), looks := true }, kinds := [], alts := [], laidByText := true, laidKinds := [.data, .data, .data, .sentinel, .sentinel], laidTests := true, laidLooks := .later }
def ReportBackUptoCardSaid : Prop := Claim7.holds Tryd.pinned (.plain (OpenSpec.upto reportBackSpec)) reportBackUptoCard

/-- THE SECOND FORM's CARD OF 'cordonlaw23.ReportTells'. -/
def reportTellsUptoCard : Claim7 := { stood := { row := reportTellsUptoRow, standIns := [], harness := (true, "2e46f71acb970334ab7f2688e84212a194f352da5d44ca5e858f52ac8c197033"), looks := true }, kinds := [], alts := [], laidByText := true, laidKinds := [.data, .data, .data, .sentinel, .sentinel], laidTests := true, laidLooks := .later }
def ReportTellsUptoCardSaid : Prop := Claim7.holds Tryd.pinned (.plain (OpenSpec.upto reportTellsSpec)) reportTellsUptoCard

/-- THE SECOND FORM's CARD OF 'cordonlaw23.ReportNotes'. -/
def reportNotesUptoCard : Claim7 := { stood := { row := reportNotesUptoRow, standIns := [], harness := (true, "2e46f71acb970334ab7f2688e84212a194f352da5d44ca5e858f52ac8c197033"), looks := true }, kinds := [], alts := [], laidByText := true, laidKinds := [.data, .data, .data, .sentinel, .sentinel], laidTests := true, laidLooks := .later }
def ReportNotesUptoCardSaid : Prop := Claim7.holds Tryd.pinned (.plain (OpenSpec.upto reportNotesSpec)) reportNotesUptoCard
end Rows
end Go.Proofs.YtfdcjngclelnhaaDoor
