/- Runs: each call comes to what is told. -/
import Derived.Test.YtcbcmdjakoobmaaGreatDoorW1
set_option linter.unusedSectionVars false
set_option linter.unusedSimpArgs false
set_option linter.unusedVariables false
namespace Go.Proofs.YtcbcmdjakoobmaaGreatDoor
open Go Go.RowKit
set_option maxRecDepth 100000
theorem wm116_c : comesTo (callB Tryz.prog (withTab wtab1 primT) 100000 153 wm116.args wm116.heap) wm116 = true := by kernel_rfl
theorem wm45_c : comesTo (callB Tryz.prog (withTab wtab0 primT) 100000 117 wm45.args wm45.heap) wm45 = true := by kernel_rfl
theorem wm53_c : comesTo (callB Tryz.prog (withTab wtab0 primT) 100000 117 wm53.args wm53.heap) wm53 = true := by kernel_rfl
theorem wm102_c : comesTo (callB Tryz.prog (withTab wtab0 primT) 100000 117 wm102.args wm102.heap) wm102 = true := by kernel_rfl
theorem wm115_c : comesTo (callB Tryz.prog (withTab wtab1 primT) 100000 118 wm115.args wm115.heap) wm115 = true := by kernel_rfl
theorem wm37_c : comesTo (callB Tryz.prog (withTab wtab0 primT) 100000 116 wm37.args wm37.heap) wm37 = true := by kernel_rfl
theorem wm77_c : comesTo (callB Tryz.prog (withTab wtab0 primT) 100000 80 wm77.args wm77.heap) wm77 = true := by kernel_rfl
theorem wm114_c : comesTo (callB Tryz.prog (withTab wtab1 primT) 100000 70 wm114.args wm114.heap) wm114 = true := by kernel_rfl
theorem wm8_c : comesTo (callB Tryz.prog (withTab wtab0 primT) 100000 116 wm8.args wm8.heap) wm8 = true := by kernel_rfl
theorem wm22_c : comesTo (callB Tryz.prog (withTab wtab0 primT) 100000 116 wm22.args wm22.heap) wm22 = true := by kernel_rfl
theorem wm94_c : comesTo (callB Tryz.prog (withTab wtab0 primT) 100000 116 wm94.args wm94.heap) wm94 = true := by kernel_rfl
theorem wm39_c : comesTo (callB Tryz.prog (withTab wtab0 primT) 100000 116 wm39.args wm39.heap) wm39 = true := by kernel_rfl
theorem wm32_c : comesTo (callB Tryz.prog (withTab wtab0 primT) 100000 116 wm32.args wm32.heap) wm32 = true := by kernel_rfl
theorem wm19_c : comesTo (callB Tryz.prog (withTab wtab0 primT) 100000 116 wm19.args wm19.heap) wm19 = true := by kernel_rfl
theorem wm82_c : comesTo (callB Tryz.prog (withTab wtab0 primT) 100000 81 wm82.args wm82.heap) wm82 = true := by kernel_rfl
theorem wm146_c : comesTo (callB Tryz.prog (withTab wtab4 primT) 100000 24 wm146.args wm146.heap) wm146 = true := by kernel_rfl
theorem wm131_c : comesTo (callB Tryz.prog (withTab wtab1 primT) 100000 133 wm131.args wm131.heap) wm131 = true := by kernel_rfl
end Go.Proofs.YtcbcmdjakoobmaaGreatDoor
