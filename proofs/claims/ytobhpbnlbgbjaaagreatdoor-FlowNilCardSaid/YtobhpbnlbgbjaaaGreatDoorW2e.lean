/- Runs: each call comes to what is told. -/
import Derived.Test.YtobhpbnlbgbjaaaGreatDoorW1
set_option linter.unusedSectionVars false
set_option linter.unusedSimpArgs false
set_option linter.unusedVariables false
namespace Go.Proofs.YtobhpbnlbgbjaaaGreatDoor
open Go Go.RowKit
set_option maxRecDepth 100000
theorem wm162_c : (fitK wm162 && comesTo (callB Tryz.prog (withTab wtab1 primT) 100000 147 wm162.args wm162.heap) wm162) = true := by kernel_rfl
theorem wm146_c : (fitK wm146 && comesTo (callB Tryz.prog (withTab wtab0 primT) 100000 44 wm146.args wm146.heap) wm146) = true := by kernel_rfl
theorem wm47_c : (fitK wm47 && comesTo (callB Tryz.prog (withTab wtab0 primT) 100000 104 wm47.args wm47.heap) wm47) = true := by kernel_rfl
theorem wm166_c : (fitK wm166 && comesTo (callB Tryz.prog (withTab wtab1 primT) 100000 110 wm166.args wm166.heap) wm166) = true := by kernel_rfl
theorem wm84_c : (fitK wm84 && comesTo (callB Tryz.prog (withTab wtab0 primT) 100000 103 wm84.args wm84.heap) wm84) = true := by kernel_rfl
theorem wm184_c : (fitK wm184 && comesTo (callB Tryz.prog (withTab wtab1 primT) 100000 110 wm184.args wm184.heap) wm184) = true := by kernel_rfl
theorem wm165_c : (fitK wm165 && comesTo (callB Tryz.prog (withTab wtab1 primT) 100000 110 wm165.args wm165.heap) wm165) = true := by kernel_rfl
theorem wm177_c : (fitK wm177 && comesTo (callB Tryz.prog (withTab wtab1 primT) 100000 110 wm177.args wm177.heap) wm177) = true := by kernel_rfl
theorem wm0_c : (fitK wm0 && comesTo (callB Tryz.prog (withTab wtab0 primT) 100000 103 wm0.args wm0.heap) wm0) = true := by kernel_rfl
theorem wm195_c : (fitK wm195 && comesTo (callB Tryz.prog (withTab wtab1 primT) 100000 23 wm195.args wm195.heap) wm195) = true := by kernel_rfl
theorem wm265_c : (fitK wm265 && comesTo (callB Tryz.prog (withTab wtab4 primT) 100000 23 wm265.args wm265.heap) wm265) = true := by kernel_rfl
theorem wm26_c : (fitK wm26 && comesTo (callB Tryz.prog (withTab wtab0 primT) 100000 103 wm26.args wm26.heap) wm26) = true := by kernel_rfl
theorem wm51_c : (fitK wm51 && comesTo (callB Tryz.prog (withTab wtab0 primT) 100000 103 wm51.args wm51.heap) wm51) = true := by kernel_rfl
theorem wm13_c : (fitK wm13 && comesTo (callB Tryz.prog (withTab wtab0 primT) 100000 103 wm13.args wm13.heap) wm13) = true := by kernel_rfl
theorem wm86_c : (fitK wm86 && comesTo (callB Tryz.prog (withTab wtab0 primT) 100000 103 wm86.args wm86.heap) wm86) = true := by kernel_rfl
theorem wm66_c : (fitK wm66 && comesTo (callB Tryz.prog (withTab wtab0 primT) 100000 103 wm66.args wm66.heap) wm66) = true := by kernel_rfl
theorem wm57_c : (fitK wm57 && comesTo (callB Tryz.prog (withTab wtab0 primT) 100000 103 wm57.args wm57.heap) wm57) = true := by kernel_rfl
theorem wm120_c : (fitK wm120 && comesTo (callB Tryz.prog (withTab wtab0 primT) 100000 159 wm120.args wm120.heap) wm120) = true := by kernel_rfl
theorem wm213_c : (fitK wm213 && comesTo (callB Tryz.prog (withTab wtab2 primT) 100000 161 wm213.args wm213.heap) wm213) = true := by kernel_rfl
theorem wm288_c : (fitK wm288 && comesTo (callB Tryz.prog (withTab wtab7 primT) 100000 124 wm288.args wm288.heap) wm288) = true := by kernel_rfl
theorem wm283_c : (fitK wm283 && comesTo (callB Tryz.prog (withTab wtab6 primT) 100000 14 wm283.args wm283.heap) wm283) = true := by kernel_rfl
end Go.Proofs.YtobhpbnlbgbjaaaGreatDoor
