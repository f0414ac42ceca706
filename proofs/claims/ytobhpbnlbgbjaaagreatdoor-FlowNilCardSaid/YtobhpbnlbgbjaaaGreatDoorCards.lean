/-
  DERIVED. GIVEN WITH THE SEED: THE CARDS: each row of YtobhpbnlbgbjaaaGreatDoorRows.lean that lists a variable, with what it lists TIED to the program's text (the seventh form; the later family's looks); each row that meets fmt, with fmt's text TOLD by the authors' own Lean function (tested against real Go, not proved from fmt's source: count such statements apart). THE CARD IS WHAT COUNTS. Prove the row's statement (the work); the ties are given (YtobhpbnlbgbjaaaGreatDoorTie.lean); close each card by the builder's one call (the guide's Derived/Test/ToyasCard.lean, 'card_holds'). Laid BY PROGRAM, IN A SANDBOX (cutbox-door.mjs). By AI agents, Wed Nov 11 2026. No macro, syntax, notation, axiom, sorry.
-/
import Derived.Test.YtobhpbnlbgbjaaaGreatDoorRows
import GoSem.ClaimSeven
namespace Go.Proofs.YtobhpbnlbgbjaaaGreatDoor
namespace Rows

/-- THE TIED CARD OF 'cordonlaw18.FlowNil'. -/
def flowNilCard : Claim7 := { stood := { row := flowNilRow, standIns := [], harness := (true, "7edcb0b905cbd7deb1d83a51f9baecd46437b0eb619ccc84ee950d0ad6863b39"), looks := false }, kinds := [], alts := [], laidByText := true, laidKinds := [.data, .data, .data, .data, .pinned], laidTests := true, laidLooks := .later }
def FlowNilCardSaid : Prop := Claim7.holds Tryz.pinned (.plain (OpenSpec.ofChange flowNilSpec)) flowNilCard

/-- THE SECOND FORM's CARD OF 'cordonlaw18.FlowNil'. -/
def flowNilUptoCard : Claim7 := { stood := { row := flowNilUptoRow, standIns := [], harness := (true, "7edcb0b905cbd7deb1d83a51f9baecd46437b0eb619ccc84ee950d0ad6863b39"), looks := false }, kinds := [], alts := [], laidByText := true, laidKinds := [.data, .data, .data, .data, .pinned], laidTests := true, laidLooks := .later }
def FlowNilUptoCardSaid : Prop := Claim7.holds Tryz.pinned (.plain (OpenSpec.upto flowNilSpec)) flowNilUptoCard
end Rows
end Go.Proofs.YtobhpbnlbgbjaaaGreatDoor
