/-
  DERIVED. GIVEN WITH THE SEED: THE CARDS: each row of YtbplgdgafmcinaaGreatDoorRows.lean that lists a variable, with what it lists TIED to the program's text (the seventh form; the later family's looks); each row that meets fmt, with fmt's text TOLD by the authors' own Lean function (tested against real Go, not proved from fmt's source: count such statements apart). THE CARD IS WHAT COUNTS. Prove the row's statement (the work); the ties are given (YtbplgdgafmcinaaGreatDoorTie.lean); close each card by the builder's one call (the guide's Derived/Test/ToyasCard.lean, 'card_holds'). Laid BY PROGRAM, IN A SANDBOX (cutbox-door.mjs). By AI agents, Wed Nov 11 2026. No macro, syntax, notation, axiom, sorry.
-/
import Derived.Test.YtbplgdgafmcinaaGreatDoorRows
import GoSem.ClaimSeven
namespace Go.Proofs.YtbplgdgafmcinaaGreatDoor
namespace Rows

/-- THE TIED CARD OF 'cordonlaw19.DeriveNil'. -/
def deriveNilCard : Claim7 := { stood := { row := deriveNilRow, standIns := [], harness := (true, "fcab6999526e6d8b566ece67a8b06662478414d93a9e41b819d251d728c638f9"), looks := false }, kinds := [], alts := [], laidByText := true, laidKinds := [.data, .data, .data, .data, .pinned], laidTests := true, laidLooks := .later }
def DeriveNilCardSaid : Prop := Claim7.holds Tryz.pinned (.plain (OpenSpec.ofChange deriveNilSpec)) deriveNilCard

/-- THE SECOND FORM's CARD OF 'cordonlaw19.DeriveNil'. -/
def deriveNilUptoCard : Claim7 := { stood := { row := deriveNilUptoRow, standIns := [], harness := (true, "fcab6999526e6d8b566ece67a8b06662478414d93a9e41b819d251d728c638f9"), looks := false }, kinds := [], alts := [], laidByText := true, laidKinds := [.data, .data, .data, .data, .pinned], laidTests := true, laidLooks := .later }
def DeriveNilUptoCardSaid : Prop := Claim7.holds Tryz.pinned (.plain (OpenSpec.upto deriveNilSpec)) deriveNilUptoCard
end Rows
end Go.Proofs.YtbplgdgafmcinaaGreatDoor
