/- Runs: each call comes to what is told. -/
import Derived.Test.YtcbcmdjakoobmaaGreatDoorW1
set_option linter.unusedSectionVars false
set_option linter.unusedSimpArgs false
set_option linter.unusedVariables false
namespace Go.Proofs.YtcbcmdjakoobmaaGreatDoor
open Go Go.RowKit
set_option maxRecDepth 100000
theorem wm112_c : comesTo (callB Tryz.prog (withTab wtab1 primT) 100000 11 wm112.args wm112.heap) wm112 = true := by kernel_rfl
theorem wm43_c : comesTo (callB Tryz.prog (withTab wtab0 primT) 100000 117 wm43.args wm43.heap) wm43 = true := by kernel_rfl
theorem wm49_c : comesTo (callB Tryz.prog (withTab wtab0 primT) 100000 117 wm49.args wm49.heap) wm49 = true := by kernel_rfl
theorem wm73_c : comesTo (callB Tryz.prog (withTab wtab0 primT) 100000 117 wm73.args wm73.heap) wm73 = true := by kernel_rfl
theorem wm31_c : comesTo (callB Tryz.prog (withTab wtab0 primT) 100000 116 wm31.args wm31.heap) wm31 = true := by kernel_rfl
theorem wm34_c : comesTo (callB Tryz.prog (withTab wtab0 primT) 100000 116 wm34.args wm34.heap) wm34 = true := by kernel_rfl
theorem wm109_c : comesTo (callB Tryz.prog (withTab wtab0 primT) 100000 189 wm109.args wm109.heap) wm109 = true := by kernel_rfl
theorem wm90_c : comesTo (callB Tryz.prog (withTab wtab0 primT) 100000 80 wm90.args wm90.heap) wm90 = true := by kernel_rfl
theorem wm71_c : comesTo (callB Tryz.prog (withTab wtab0 primT) 100000 116 wm71.args wm71.heap) wm71 = true := by kernel_rfl
theorem wm27_c : comesTo (callB Tryz.prog (withTab wtab0 primT) 100000 116 wm27.args wm27.heap) wm27 = true := by kernel_rfl
theorem wm147_c : comesTo (callB Tryz.prog (withTab wtab4 primT) 100000 20 wm147.args wm147.heap) wm147 = true := by kernel_rfl
theorem wm23_c : comesTo (callB Tryz.prog (withTab wtab0 primT) 100000 116 wm23.args wm23.heap) wm23 = true := by kernel_rfl
theorem wm138_c : comesTo (callB Tryz.prog (withTab wtab2 primT) 100000 13 wm138.args wm138.heap) wm138 = true := by kernel_rfl
theorem wm15_c : comesTo (callB Tryz.prog (withTab wtab0 primT) 100000 116 wm15.args wm15.heap) wm15 = true := by kernel_rfl
theorem wm80_c : comesTo (callB Tryz.prog (withTab wtab0 primT) 100000 81 wm80.args wm80.heap) wm80 = true := by kernel_rfl
theorem wm144_c : comesTo (callB Tryz.prog (withTab wtab3 primT) 100000 133 wm144.args wm144.heap) wm144 = true := by kernel_rfl
theorem wm122_c : comesTo (callB Tryz.prog (withTab wtab1 primT) 100000 133 wm122.args wm122.heap) wm122 = true := by kernel_rfl
end Go.Proofs.YtcbcmdjakoobmaaGreatDoor
