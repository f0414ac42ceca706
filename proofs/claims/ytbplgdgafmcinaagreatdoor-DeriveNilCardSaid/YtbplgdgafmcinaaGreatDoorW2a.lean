/- Runs: each call comes to what is told. -/
import Derived.Test.YtbplgdgafmcinaaGreatDoorW1
set_option linter.unusedSectionVars false
set_option linter.unusedSimpArgs false
set_option linter.unusedVariables false
namespace Go.Proofs.YtbplgdgafmcinaaGreatDoor
open Go Go.RowKit
set_option maxRecDepth 100000
theorem wm109_c : (fitK wm109 && comesTo (callB Tryz.prog (withTab wtab1 primT) 100000 85 wm109.args wm109.heap) wm109) = true := by kernel_rfl
theorem wm46_c : (fitK wm46 && comesTo (callB Tryz.prog (withTab wtab0 primT) 100000 129 wm46.args wm46.heap) wm46) = true := by kernel_rfl
theorem wm126_c : (fitK wm126 && comesTo (callB Tryz.prog (withTab wtab1 primT) 100000 50 wm126.args wm126.heap) wm126) = true := by kernel_rfl
theorem wm112_c : (fitK wm112 && comesTo (callB Tryz.prog (withTab wtab1 primT) 100000 85 wm112.args wm112.heap) wm112) = true := by kernel_rfl
theorem wm114_c : (fitK wm114 && comesTo (callB Tryz.prog (withTab wtab1 primT) 100000 130 wm114.args wm114.heap) wm114) = true := by kernel_rfl
theorem wm97_c : (fitK wm97 && comesTo (callB Tryz.prog (withTab wtab0 primT) 100000 19 wm97.args wm97.heap) wm97) = true := by kernel_rfl
theorem wm2_c : (fitK wm2 && comesTo (callB Tryz.prog (withTab wtab0 primT) 100000 128 wm2.args wm2.heap) wm2) = true := by kernel_rfl
theorem wm12_c : (fitK wm12 && comesTo (callB Tryz.prog (withTab wtab0 primT) 100000 128 wm12.args wm12.heap) wm12) = true := by kernel_rfl
theorem wm164_c : (fitK wm164 && comesTo (callB Tryz.prog (withTab wtab4 primT) 100000 100 wm164.args wm164.heap) wm164) = true := by kernel_rfl
theorem wm14_c : (fitK wm14 && comesTo (callB Tryz.prog (withTab wtab0 primT) 100000 128 wm14.args wm14.heap) wm14) = true := by kernel_rfl
theorem wm20_c : (fitK wm20 && comesTo (callB Tryz.prog (withTab wtab0 primT) 100000 128 wm20.args wm20.heap) wm20) = true := by kernel_rfl
theorem wm162_c : (fitK wm162 && comesTo (callB Tryz.prog (withTab wtab4 primT) 100000 18 wm162.args wm162.heap) wm162) = true := by kernel_rfl
theorem wm19_c : (fitK wm19 && comesTo (callB Tryz.prog (withTab wtab0 primT) 100000 128 wm19.args wm19.heap) wm19) = true := by kernel_rfl
theorem wm121_c : (fitK wm121 && comesTo (callB Tryz.prog (withTab wtab1 primT) 100000 240 wm121.args wm121.heap) wm121) = true := by kernel_rfl
theorem wm158_c : (fitK wm158 && comesTo (callB Tryz.prog (withTab wtab3 primT) 100000 20 wm158.args wm158.heap) wm158) = true := by kernel_rfl
theorem wm140_c : (fitK wm140 && comesTo (callB Tryz.prog (withTab wtab2 primT) 100000 249 wm140.args wm140.heap) wm140) = true := by kernel_rfl
end Go.Proofs.YtbplgdgafmcinaaGreatDoor
