/- Runs: each call comes to what is told. -/
import Derived.Test.YtobhpbnlbgbjaaaGreatDoorW1
set_option linter.unusedSectionVars false
set_option linter.unusedSimpArgs false
set_option linter.unusedVariables false
namespace Go.Proofs.YtobhpbnlbgbjaaaGreatDoor
open Go Go.RowKit
set_option maxRecDepth 100000
theorem wm147_c : (fitK wm147 && comesTo (callB Tryz.prog (withTab wtab0 primT) 100000 183 wm147.args wm147.heap) wm147) = true := by kernel_rfl
theorem wm273_c : (fitK wm273 && comesTo (callB Tryz.prog (withTab wtab5 primT) 100000 37 wm273.args wm273.heap) wm273) = true := by kernel_rfl
theorem wm152_c : (fitK wm152 && comesTo (callB Tryz.prog (withTab wtab0 primT) 100000 44 wm152.args wm152.heap) wm152) = true := by kernel_rfl
theorem wm172_c : (fitK wm172 && comesTo (callB Tryz.prog (withTab wtab1 primT) 100000 110 wm172.args wm172.heap) wm172) = true := by kernel_rfl
theorem wm68_c : (fitK wm68 && comesTo (callB Tryz.prog (withTab wtab0 primT) 100000 103 wm68.args wm68.heap) wm68) = true := by kernel_rfl
theorem wm285_c : (fitK wm285 && comesTo (callB Tryz.prog (withTab wtab6 primT) 100000 173 wm285.args wm285.heap) wm285) = true := by kernel_rfl
theorem wm253_c : (fitK wm253 && comesTo (callB Tryz.prog (withTab wtab4 primT) 100000 211 wm253.args wm253.heap) wm253) = true := by kernel_rfl
theorem wm183_c : (fitK wm183 && comesTo (callB Tryz.prog (withTab wtab1 primT) 100000 110 wm183.args wm183.heap) wm183) = true := by kernel_rfl
theorem wm33_c : (fitK wm33 && comesTo (callB Tryz.prog (withTab wtab0 primT) 100000 103 wm33.args wm33.heap) wm33) = true := by kernel_rfl
theorem wm200_c : (fitK wm200 && comesTo (callB Tryz.prog (withTab wtab1 primT) 100000 23 wm200.args wm200.heap) wm200) = true := by kernel_rfl
theorem wm85_c : (fitK wm85 && comesTo (callB Tryz.prog (withTab wtab0 primT) 100000 103 wm85.args wm85.heap) wm85) = true := by kernel_rfl
theorem wm60_c : (fitK wm60 && comesTo (callB Tryz.prog (withTab wtab0 primT) 100000 103 wm60.args wm60.heap) wm60) = true := by kernel_rfl
theorem wm36_c : (fitK wm36 && comesTo (callB Tryz.prog (withTab wtab0 primT) 100000 103 wm36.args wm36.heap) wm36) = true := by kernel_rfl
theorem wm6_c : (fitK wm6 && comesTo (callB Tryz.prog (withTab wtab0 primT) 100000 103 wm6.args wm6.heap) wm6) = true := by kernel_rfl
theorem wm74_c : (fitK wm74 && comesTo (callB Tryz.prog (withTab wtab0 primT) 100000 103 wm74.args wm74.heap) wm74) = true := by kernel_rfl
theorem wm32_c : (fitK wm32 && comesTo (callB Tryz.prog (withTab wtab0 primT) 100000 103 wm32.args wm32.heap) wm32) = true := by kernel_rfl
theorem wm59_c : (fitK wm59 && comesTo (callB Tryz.prog (withTab wtab0 primT) 100000 103 wm59.args wm59.heap) wm59) = true := by kernel_rfl
theorem wm235_c : (fitK wm235 && comesTo (callB Tryz.prog (withTab wtab3 primT) 100000 255 wm235.args wm235.heap) wm235) = true := by kernel_rfl
theorem wm214_c : (fitK wm214 && comesTo (callB Tryz.prog (withTab wtab2 primT) 100000 161 wm214.args wm214.heap) wm214) = true := by kernel_rfl
theorem wm289_c : (fitK wm289 && comesTo (callB Tryz.prog (withTab wtab7 primT) 100000 124 wm289.args wm289.heap) wm289) = true := by kernel_rfl
theorem wm94_c : (fitK wm94 && comesTo (callB Tryz.prog (withTab wtab0 primT) 100000 161 wm94.args wm94.heap) wm94) = true := by kernel_rfl
theorem wm99_c : (fitK wm99 && comesTo (callB Tryz.prog (withTab wtab0 primT) 100000 161 wm99.args wm99.heap) wm99) = true := by kernel_rfl
theorem wm103_c : (fitK wm103 && comesTo (callB Tryz.prog (withTab wtab0 primT) 100000 110 wm103.args wm103.heap) wm103) = true := by kernel_rfl
theorem wm109_c : (fitK wm109 && comesTo (callB Tryz.prog (withTab wtab0 primT) 100000 161 wm109.args wm109.heap) wm109) = true := by kernel_rfl
theorem wm115_c : (fitK wm115 && comesTo (callB Tryz.prog (withTab wtab0 primT) 100000 161 wm115.args wm115.heap) wm115) = true := by kernel_rfl
theorem wm122_c : (fitK wm122 && comesTo (callB Tryz.prog (withTab wtab0 primT) 100000 162 wm122.args wm122.heap) wm122) = true := by kernel_rfl
theorem wm128_c : (fitK wm128 && comesTo (callB Tryz.prog (withTab wtab0 primT) 100000 161 wm128.args wm128.heap) wm128) = true := by kernel_rfl
theorem wm134_c : (fitK wm134 && comesTo (callB Tryz.prog (withTab wtab0 primT) 100000 161 wm134.args wm134.heap) wm134) = true := by kernel_rfl
theorem wm140_c : (fitK wm140 && comesTo (callB Tryz.prog (withTab wtab0 primT) 100000 161 wm140.args wm140.heap) wm140) = true := by kernel_rfl
end Go.Proofs.YtobhpbnlbgbjaaaGreatDoor
