/- Runs: each call comes to what is told. -/
import Derived.Test.YtcbcmdjakoobmaaGreatDoorW1
set_option linter.unusedSectionVars false
set_option linter.unusedSimpArgs false
set_option linter.unusedVariables false
namespace Go.Proofs.YtcbcmdjakoobmaaGreatDoor
open Go Go.RowKit
set_option maxRecDepth 100000
theorem wm141_c : comesTo (callB Tryz.prog (withTab wtab3 primT) 100000 68 wm141.args wm141.heap) wm141 = true := by kernel_rfl
theorem wm47_c : comesTo (callB Tryz.prog (withTab wtab0 primT) 100000 117 wm47.args wm47.heap) wm47 = true := by kernel_rfl
theorem wm55_c : comesTo (callB Tryz.prog (withTab wtab0 primT) 100000 117 wm55.args wm55.heap) wm55 = true := by kernel_rfl
theorem wm69_c : comesTo (callB Tryz.prog (withTab wtab0 primT) 100000 116 wm69.args wm69.heap) wm69 = true := by kernel_rfl
theorem wm133_c : comesTo (callB Tryz.prog (withTab wtab2 primT) 100000 118 wm133.args wm133.heap) wm133 = true := by kernel_rfl
theorem wm66_c : comesTo (callB Tryz.prog (withTab wtab0 primT) 100000 116 wm66.args wm66.heap) wm66 = true := by kernel_rfl
theorem wm81_c : comesTo (callB Tryz.prog (withTab wtab0 primT) 100000 80 wm81.args wm81.heap) wm81 = true := by kernel_rfl
theorem wm149_c : comesTo (callB Tryz.prog (withTab wtab5 primT) 100000 4 wm149.args wm149.heap) wm149 = true := by kernel_rfl
theorem wm12_c : comesTo (callB Tryz.prog (withTab wtab0 primT) 100000 116 wm12.args wm12.heap) wm12 = true := by kernel_rfl
theorem wm140_c : comesTo (callB Tryz.prog (withTab wtab2 primT) 100000 20 wm140.args wm140.heap) wm140 = true := by kernel_rfl
theorem wm6_c : comesTo (callB Tryz.prog (withTab wtab0 primT) 100000 116 wm6.args wm6.heap) wm6 = true := by kernel_rfl
theorem wm62_c : comesTo (callB Tryz.prog (withTab wtab0 primT) 100000 116 wm62.args wm62.heap) wm62 = true := by kernel_rfl
theorem wm70_c : comesTo (callB Tryz.prog (withTab wtab0 primT) 100000 116 wm70.args wm70.heap) wm70 = true := by kernel_rfl
theorem wm97_c : comesTo (callB Tryz.prog (withTab wtab0 primT) 100000 116 wm97.args wm97.heap) wm97 = true := by kernel_rfl
theorem wm99_c : comesTo (callB Tryz.prog (withTab wtab0 primT) 100000 116 wm99.args wm99.heap) wm99 = true := by kernel_rfl
end Go.Proofs.YtcbcmdjakoobmaaGreatDoor
