/- Runs: each call comes to what is told. -/
import Derived.Test.YtbplgdgafmcinaaGreatDoorW1
set_option linter.unusedSectionVars false
set_option linter.unusedSimpArgs false
set_option linter.unusedVariables false
namespace Go.Proofs.YtbplgdgafmcinaaGreatDoor
open Go Go.RowKit
set_option maxRecDepth 100000
theorem wm117_c : (fitK wm117 && comesTo (callB Tryz.prog (withTab wtab1 primT) 100000 176 wm117.args wm117.heap) wm117) = true := by kernel_rfl
theorem wm148_c : (fitK wm148 && comesTo (callB Tryz.prog (withTab wtab2 primT) 100000 50 wm148.args wm148.heap) wm148) = true := by kernel_rfl
theorem wm42_c : (fitK wm42 && comesTo (callB Tryz.prog (withTab wtab0 primT) 100000 129 wm42.args wm42.heap) wm42) = true := by kernel_rfl
theorem wm59_c : (fitK wm59 && comesTo (callB Tryz.prog (withTab wtab0 primT) 100000 129 wm59.args wm59.heap) wm59) = true := by kernel_rfl
theorem wm119_c : (fitK wm119 && comesTo (callB Tryz.prog (withTab wtab1 primT) 100000 43 wm119.args wm119.heap) wm119) = true := by kernel_rfl
theorem wm94_c : (fitK wm94 && comesTo (callB Tryz.prog (withTab wtab0 primT) 100000 154 wm94.args wm94.heap) wm94) = true := by kernel_rfl
theorem wm34_c : (fitK wm34 && comesTo (callB Tryz.prog (withTab wtab0 primT) 100000 128 wm34.args wm34.heap) wm34) = true := by kernel_rfl
theorem wm87_c : (fitK wm87 && comesTo (callB Tryz.prog (withTab wtab0 primT) 100000 187 wm87.args wm87.heap) wm87) = true := by kernel_rfl
theorem wm40_c : (fitK wm40 && comesTo (callB Tryz.prog (withTab wtab0 primT) 100000 128 wm40.args wm40.heap) wm40) = true := by kernel_rfl
theorem wm26_c : (fitK wm26 && comesTo (callB Tryz.prog (withTab wtab0 primT) 100000 128 wm26.args wm26.heap) wm26) = true := by kernel_rfl
theorem wm17_c : (fitK wm17 && comesTo (callB Tryz.prog (withTab wtab0 primT) 100000 128 wm17.args wm17.heap) wm17) = true := by kernel_rfl
theorem wm152_c : (fitK wm152 && comesTo (callB Tryz.prog (withTab wtab3 primT) 100000 100 wm152.args wm152.heap) wm152) = true := by kernel_rfl
theorem wm131_c : (fitK wm131 && comesTo (callB Tryz.prog (withTab wtab1 primT) 100000 212 wm131.args wm131.heap) wm131) = true := by kernel_rfl
theorem wm122_c : (fitK wm122 && comesTo (callB Tryz.prog (withTab wtab1 primT) 100000 240 wm122.args wm122.heap) wm122) = true := by kernel_rfl
theorem wm55_c : (fitK wm55 && comesTo (callB Tryz.prog (withTab wtab0 primT) 100000 128 wm55.args wm55.heap) wm55) = true := by kernel_rfl
theorem wm90_c : (fitK wm90 && comesTo (callB Tryz.prog (withTab wtab0 primT) 100000 188 wm90.args wm90.heap) wm90) = true := by kernel_rfl
theorem wm139_c : (fitK wm139 && comesTo (callB Tryz.prog (withTab wtab2 primT) 100000 249 wm139.args wm139.heap) wm139) = true := by kernel_rfl
end Go.Proofs.YtbplgdgafmcinaaGreatDoor
