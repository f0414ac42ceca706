/- Runs: each call comes to what is told. -/
import Derived.Test.YtbplgdgafmcinaaGreatDoorW1
set_option linter.unusedSectionVars false
set_option linter.unusedSimpArgs false
set_option linter.unusedVariables false
namespace Go.Proofs.YtbplgdgafmcinaaGreatDoor
open Go Go.RowKit
set_option maxRecDepth 100000
theorem wm115_c : (fitK wm115 && comesTo (callB Tryz.prog (withTab wtab1 primT) 100000 85 wm115.args wm115.heap) wm115) = true := by kernel_rfl
theorem wm147_c : (fitK wm147 && comesTo (callB Tryz.prog (withTab wtab2 primT) 100000 50 wm147.args wm147.heap) wm147) = true := by kernel_rfl
theorem wm137_c : (fitK wm137 && comesTo (callB Tryz.prog (withTab wtab2 primT) 100000 183 wm137.args wm137.heap) wm137) = true := by kernel_rfl
theorem wm105_c : (fitK wm105 && comesTo (callB Tryz.prog (withTab wtab0 primT) 100000 11 wm105.args wm105.heap) wm105) = true := by kernel_rfl
theorem wm31_c : (fitK wm31 && comesTo (callB Tryz.prog (withTab wtab0 primT) 100000 128 wm31.args wm31.heap) wm31) = true := by kernel_rfl
theorem wm95_c : (fitK wm95 && comesTo (callB Tryz.prog (withTab wtab0 primT) 100000 154 wm95.args wm95.heap) wm95) = true := by kernel_rfl
theorem wm93_c : (fitK wm93 && comesTo (callB Tryz.prog (withTab wtab0 primT) 100000 19 wm93.args wm93.heap) wm93) = true := by kernel_rfl
theorem wm81_c : (fitK wm81 && comesTo (callB Tryz.prog (withTab wtab0 primT) 100000 187 wm81.args wm81.heap) wm81) = true := by kernel_rfl
theorem wm168_c : (fitK wm168 && comesTo (callB Tryz.prog (withTab wtab5 primT) 100000 18 wm168.args wm168.heap) wm168) = true := by kernel_rfl
theorem wm22_c : (fitK wm22 && comesTo (callB Tryz.prog (withTab wtab0 primT) 100000 128 wm22.args wm22.heap) wm22) = true := by kernel_rfl
theorem wm63_c : (fitK wm63 && comesTo (callB Tryz.prog (withTab wtab0 primT) 100000 128 wm63.args wm63.heap) wm63) = true := by kernel_rfl
theorem wm65_c : (fitK wm65 && comesTo (callB Tryz.prog (withTab wtab0 primT) 100000 128 wm65.args wm65.heap) wm65) = true := by kernel_rfl
theorem wm165_c : (fitK wm165 && comesTo (callB Tryz.prog (withTab wtab4 primT) 100000 4 wm165.args wm165.heap) wm165) = true := by kernel_rfl
theorem wm32_c : (fitK wm32 && comesTo (callB Tryz.prog (withTab wtab0 primT) 100000 128 wm32.args wm32.heap) wm32) = true := by kernel_rfl
theorem wm66_c : (fitK wm66 && comesTo (callB Tryz.prog (withTab wtab0 primT) 100000 128 wm66.args wm66.heap) wm66) = true := by kernel_rfl
theorem wm156_c : (fitK wm156 && comesTo (callB Tryz.prog (withTab wtab3 primT) 100000 7 wm156.args wm156.heap) wm156) = true := by kernel_rfl
theorem wm155_c : (fitK wm155 && comesTo (callB Tryz.prog (withTab wtab3 primT) 100000 249 wm155.args wm155.heap) wm155) = true := by kernel_rfl
end Go.Proofs.YtbplgdgafmcinaaGreatDoor
