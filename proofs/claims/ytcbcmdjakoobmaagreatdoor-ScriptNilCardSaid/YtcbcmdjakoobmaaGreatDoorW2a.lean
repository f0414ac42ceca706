/- Runs: each call comes to what is told. -/
import Derived.Test.YtcbcmdjakoobmaaGreatDoorW1
set_option linter.unusedSectionVars false
set_option linter.unusedSimpArgs false
set_option linter.unusedVariables false
namespace Go.Proofs.YtcbcmdjakoobmaaGreatDoor
open Go Go.RowKit
set_option maxRecDepth 100000
theorem wm110_c : comesTo (callB Tryz.prog (withTab wtab1 primT) 100000 69 wm110.args wm110.heap) wm110 = true := by kernel_rfl
theorem wm72_c : comesTo (callB Tryz.prog (withTab wtab0 primT) 100000 117 wm72.args wm72.heap) wm72 = true := by kernel_rfl
theorem wm7_c : comesTo (callB Tryz.prog (withTab wtab0 primT) 100000 116 wm7.args wm7.heap) wm7 = true := by kernel_rfl
theorem wm84_c : comesTo (callB Tryz.prog (withTab wtab0 primT) 100000 80 wm84.args wm84.heap) wm84 = true := by kernel_rfl
theorem wm5_c : comesTo (callB Tryz.prog (withTab wtab0 primT) 100000 116 wm5.args wm5.heap) wm5 = true := by kernel_rfl
theorem wm106_c : comesTo (callB Tryz.prog (withTab wtab0 primT) 100000 80 wm106.args wm106.heap) wm106 = true := by kernel_rfl
theorem wm86_c : comesTo (callB Tryz.prog (withTab wtab0 primT) 100000 189 wm86.args wm86.heap) wm86 = true := by kernel_rfl
theorem wm28_c : comesTo (callB Tryz.prog (withTab wtab0 primT) 100000 116 wm28.args wm28.heap) wm28 = true := by kernel_rfl
theorem wm14_c : comesTo (callB Tryz.prog (withTab wtab0 primT) 100000 116 wm14.args wm14.heap) wm14 = true := by kernel_rfl
theorem wm17_c : comesTo (callB Tryz.prog (withTab wtab0 primT) 100000 116 wm17.args wm17.heap) wm17 = true := by kernel_rfl
theorem wm96_c : comesTo (callB Tryz.prog (withTab wtab0 primT) 100000 116 wm96.args wm96.heap) wm96 = true := by kernel_rfl
theorem wm63_c : comesTo (callB Tryz.prog (withTab wtab0 primT) 100000 116 wm63.args wm63.heap) wm63 = true := by kernel_rfl
theorem wm105_c : comesTo (callB Tryz.prog (withTab wtab0 primT) 100000 81 wm105.args wm105.heap) wm105 = true := by kernel_rfl
theorem wm120_c : comesTo (callB Tryz.prog (withTab wtab1 primT) 100000 32 wm120.args wm120.heap) wm120 = true := by kernel_rfl
theorem wm130_c : comesTo (callB Tryz.prog (withTab wtab1 primT) 100000 133 wm130.args wm130.heap) wm130 = true := by kernel_rfl
theorem wm83_c : comesTo (callB Tryz.prog (withTab wtab0 primT) 100000 32 wm83.args wm83.heap) wm83 = true := by kernel_rfl
end Go.Proofs.YtcbcmdjakoobmaaGreatDoor
