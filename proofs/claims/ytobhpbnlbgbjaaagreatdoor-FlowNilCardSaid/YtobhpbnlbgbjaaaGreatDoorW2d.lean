/- Runs: each call comes to what is told. -/
import Derived.Test.YtobhpbnlbgbjaaaGreatDoorW1
set_option linter.unusedSectionVars false
set_option linter.unusedSimpArgs false
set_option linter.unusedVariables false
namespace Go.Proofs.YtobhpbnlbgbjaaaGreatDoor
open Go Go.RowKit
set_option maxRecDepth 100000
theorem wm159_c : (fitK wm159 && comesTo (callB Tryz.prog (withTab wtab1 primT) 100000 147 wm159.args wm159.heap) wm159) = true := by kernel_rfl
theorem wm145_c : (fitK wm145 && comesTo (callB Tryz.prog (withTab wtab0 primT) 100000 44 wm145.args wm145.heap) wm145) = true := by kernel_rfl
theorem wm46_c : (fitK wm46 && comesTo (callB Tryz.prog (withTab wtab0 primT) 100000 104 wm46.args wm46.heap) wm46) = true := by kernel_rfl
theorem wm87_c : (fitK wm87 && comesTo (callB Tryz.prog (withTab wtab0 primT) 100000 103 wm87.args wm87.heap) wm87) = true := by kernel_rfl
theorem wm7_c : (fitK wm7 && comesTo (callB Tryz.prog (withTab wtab0 primT) 100000 103 wm7.args wm7.heap) wm7) = true := by kernel_rfl
theorem wm38_c : (fitK wm38 && comesTo (callB Tryz.prog (withTab wtab0 primT) 100000 103 wm38.args wm38.heap) wm38) = true := by kernel_rfl
theorem wm258_c : (fitK wm258 && comesTo (callB Tryz.prog (withTab wtab4 primT) 100000 211 wm258.args wm258.heap) wm258) = true := by kernel_rfl
theorem wm182_c : (fitK wm182 && comesTo (callB Tryz.prog (withTab wtab1 primT) 100000 110 wm182.args wm182.heap) wm182) = true := by kernel_rfl
theorem wm9_c : (fitK wm9 && comesTo (callB Tryz.prog (withTab wtab0 primT) 100000 103 wm9.args wm9.heap) wm9) = true := by kernel_rfl
theorem wm198_c : (fitK wm198 && comesTo (callB Tryz.prog (withTab wtab1 primT) 100000 23 wm198.args wm198.heap) wm198) = true := by kernel_rfl
theorem wm63_c : (fitK wm63 && comesTo (callB Tryz.prog (withTab wtab0 primT) 100000 103 wm63.args wm63.heap) wm63) = true := by kernel_rfl
theorem wm29_c : (fitK wm29 && comesTo (callB Tryz.prog (withTab wtab0 primT) 100000 103 wm29.args wm29.heap) wm29) = true := by kernel_rfl
theorem wm14_c : (fitK wm14 && comesTo (callB Tryz.prog (withTab wtab0 primT) 100000 103 wm14.args wm14.heap) wm14) = true := by kernel_rfl
theorem wm17_c : (fitK wm17 && comesTo (callB Tryz.prog (withTab wtab0 primT) 100000 103 wm17.args wm17.heap) wm17) = true := by kernel_rfl
theorem wm230_c : (fitK wm230 && comesTo (callB Tryz.prog (withTab wtab3 primT) 100000 154 wm230.args wm230.heap) wm230) = true := by kernel_rfl
theorem wm238_c : (fitK wm238 && comesTo (callB Tryz.prog (withTab wtab3 primT) 100000 112 wm238.args wm238.heap) wm238) = true := by kernel_rfl
theorem wm54_c : (fitK wm54 && comesTo (callB Tryz.prog (withTab wtab0 primT) 100000 103 wm54.args wm54.heap) wm54) = true := by kernel_rfl
theorem wm104_c : (fitK wm104 && comesTo (callB Tryz.prog (withTab wtab0 primT) 100000 159 wm104.args wm104.heap) wm104) = true := by kernel_rfl
theorem wm211_c : (fitK wm211 && comesTo (callB Tryz.prog (withTab wtab2 primT) 100000 161 wm211.args wm211.heap) wm211) = true := by kernel_rfl
theorem wm279_c : (fitK wm279 && comesTo (callB Tryz.prog (withTab wtab5 primT) 100000 10 wm279.args wm279.heap) wm279) = true := by kernel_rfl
theorem wm260_c : (fitK wm260 && comesTo (callB Tryz.prog (withTab wtab4 primT) 100000 208 wm260.args wm260.heap) wm260) = true := by kernel_rfl
end Go.Proofs.YtobhpbnlbgbjaaaGreatDoor
