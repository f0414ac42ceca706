/- The closed facts of the row, each by itself. -/
import Derived.Test.YtbplgdgafmcinaaGreatDoorRows
import Derived.JoinedOf
import Derived.KernelRfl
import Derived.SevenTiedAt
set_option linter.unusedSectionVars false
set_option linter.unusedSimpArgs false
set_option linter.unusedVariables false
namespace Go.Proofs.YtbplgdgafmcinaaGreatDoor
open Go
set_option maxRecDepth 100000
theorem fact1 : (Rows.deriveNilRow.wf (OpenSpec.ofChange Rows.deriveNilSpec)) = true := by kernel_rfl
theorem fact2 : (laidOutB Tryz.prog) = true := by kernel_rfl
theorem fact3 : (mapsRowed Tryz.prog) = true := by kernel_rfl
theorem fact4 : (Tryz.f3.params.all (Tryz.prog.readableRec ·)) = true := by kernel_rfl
theorem fact5 : (namedTie Tryz.prog Rows.deriveNilRow.named Rows.deriveNilSpec.vars) = true := by kernel_rfl
theorem fact6 : (Rows.deriveNilRow.stops == []) = true := by kernel_rfl
theorem fact7 : (Tryz.prog.stops == []) = true := by kernel_rfl
theorem fact8 : (Rows.deriveNilRow.knobs == []) = true := by kernel_rfl
theorem fact9 : (Tryz.prog.stopKnobs == []) = true := by kernel_rfl
theorem fact10 : (Rows.deriveNilRow.inPlace == Tryz.prog.inPlace 3) = true := by kernel_rfl
theorem fact11 : (Rows.deriveNilRow.unfollowed == Tryz.prog.unfollowed 3) = true := by kernel_rfl
theorem fact12 : (Rows.deriveNilRow.recurses == Tryz.prog.recurses 3) = true := by kernel_rfl
theorem fact13 : (Rows.deriveNilRow.named == Tryz.prog.varsNamed 3) = true := by kernel_rfl
theorem fact14 : (Rows.deriveNilRow.maps == (Tryz.f3.params.toList ++ Rows.deriveNilSpec.plain.varTypes Tryz.prog).any (Tryz.prog.mapsRec ·)) = true := by kernel_rfl
theorem fact15 : (Rows.deriveNilRow.ifaces == (Tryz.f3.params.toList ++ Rows.deriveNilSpec.plain.varTypes Tryz.prog).any (Tryz.prog.ifacesRec ·)) = true := by kernel_rfl
theorem fact16 : (Rows.deriveNilRow.mapsOut == Tryz.prog.mapsAmong Tryz.f3.resultTypes.toList) = true := by kernel_rfl
theorem fact17 : (Rows.deriveNilRow.loops == (Tryz.f3.params.toList ++ Rows.deriveNilSpec.plain.varTypes Tryz.prog).any (Tryz.prog.loopsFrom ·)) = true := by kernel_rfl
theorem fact18 : (Rows.deriveNilRow.wideKeys == (Tryz.f3.params.toList ++ Rows.deriveNilSpec.plain.varTypes Tryz.prog ++ Tryz.f3.resultTypes.toList).any (Tryz.prog.wideKeysFrom ·)) = true := by kernel_rfl
theorem fact19 : (Rows.deriveNilSpec.vars.all (Tryz.prog.varReadable ·)) = true := by kernel_rfl
theorem fact20 : (Tryz.f3.resultTypes.all (fun t => Tryz.prog.readableRec t && decide (t < Tryz.prog.types.size))) = true := by kernel_rfl
theorem fact21 : (Rows.deriveNilRow.ifacesOut == Tryz.f3.resultTypes.toList.any (Tryz.prog.ifacesRec ·)) = true := by kernel_rfl
theorem fact22 : (Rows.deriveNilRow.loopsOut == Tryz.f3.resultTypes.toList.any (Tryz.prog.loopsFrom ·)) = true := by kernel_rfl
theorem fact23 : (Rows.deriveNilRow.plainKeys == Tryz.prog.plainKeys) = true := by kernel_rfl
theorem fact24 : (Rows.deriveNilRow.shortTexts.isNone) = true := by kernel_rfl
theorem fact25 : (Tryz.prog.stopsHeard) = true := by kernel_rfl
theorem fact26 : (Tryz.prog.mayEnter) = true := by kernel_rfl
theorem fact27 : (Rows.deriveNilRow.lifted == Tryz.prog.liftsFinal) = true := by kernel_rfl
theorem fact28 : (Tryz.prog.make == some Rows.deriveNilRow.make) = true := by kernel_rfl
theorem fact29 : (Rows.deriveNilRow.kinds == (if Rows.deriveNilRow.domain.isEmpty then [] else Tryz.f3.params.toList.map fun t => match Tryz.prog.underlying t with | some (.int k) => some k | _ => none)) = true := by kernel_rfl
theorem fact30 : (Rows.deriveNilRow.pinned == Rows.deriveNilRow.pinnedBy) = true := by kernel_rfl
theorem fact31 : (Rows.deriveNilRow.veiled == (Tryz.f3.params.toList ++ Rows.deriveNilSpec.plain.varTypes Tryz.prog ++ Tryz.f3.resultTypes.toList).any (Tryz.prog.veiledRec ·)) = true := by kernel_rfl
theorem fact32 : (Rows.deriveNilRow.veiledFits Tryz.prog Tryz.f3.params.toList (Tryz.f3.params.toList ++ Rows.deriveNilSpec.plain.varTypes Tryz.prog ++ Tryz.f3.resultTypes.toList)) = true := by kernel_rfl
theorem and2 {a b : Bool} (ha : a = true) (hb : b = true) : (a && b) = true := by rw [ha, hb]; rfl
theorem facts : joinedFacts Tryz.prog 3 Tryz.f3 Rows.deriveNilSpec Rows.deriveNilRow = true := (and2 (and2 (and2 (and2 (and2 (and2 (and2 (and2 (and2 (and2 (and2 (and2 (and2 (and2 (and2 (and2 (and2 (and2 (and2 (and2 (and2 (and2 (and2 (and2 (and2 (and2 (and2 (and2 (and2 (and2 (and2 fact1 fact2) fact3) fact4) fact5) fact6) fact7) fact8) fact9) fact10) fact11) fact12) fact13) fact14) fact15) fact16) fact17) fact18) fact19) fact20) fact21) fact22) fact23) fact24) fact25) fact26) fact27) fact28) fact29) fact30) fact31) fact32)
theorem goes0 : false = Rows.deriveNilRow.goesBy Tryz.prog := by kernel_rfl
theorem looks0 : Tryz.prog.looks [] = false := by kernel_rfl
end Go.Proofs.YtbplgdgafmcinaaGreatDoor
