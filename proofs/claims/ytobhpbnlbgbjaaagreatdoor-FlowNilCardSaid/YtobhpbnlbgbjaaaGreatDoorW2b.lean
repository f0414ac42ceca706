/- Runs: each call comes to what is told. -/
import Derived.Test.YtobhpbnlbgbjaaaGreatDoorW1
set_option linter.unusedSectionVars false
set_option linter.unusedSimpArgs false
set_option linter.unusedVariables false
namespace Go.Proofs.YtobhpbnlbgbjaaaGreatDoor
open Go Go.RowKit
set_option maxRecDepth 100000
theorem wm228_c : (fitK wm228 && comesTo (callB Tryz.prog (withTab wtab3 primT) 100000 63 wm228.args wm228.heap) wm228) = true := by kernel_rfl
theorem wm149_c : (fitK wm149 && comesTo (callB Tryz.prog (withTab wtab0 primT) 100000 44 wm149.args wm149.heap) wm149) = true := by kernel_rfl
theorem wm243_c : (fitK wm243 && comesTo (callB Tryz.prog (withTab wtab3 primT) 100000 44 wm243.args wm243.heap) wm243) = true := by kernel_rfl
theorem wm190_c : (fitK wm190 && comesTo (callB Tryz.prog (withTab wtab1 primT) 100000 110 wm190.args wm190.heap) wm190) = true := by kernel_rfl
theorem wm31_c : (fitK wm31 && comesTo (callB Tryz.prog (withTab wtab0 primT) 100000 103 wm31.args wm31.heap) wm31) = true := by kernel_rfl
theorem wm34_c : (fitK wm34 && comesTo (callB Tryz.prog (withTab wtab0 primT) 100000 103 wm34.args wm34.heap) wm34) = true := by kernel_rfl
theorem wm171_c : (fitK wm171 && comesTo (callB Tryz.prog (withTab wtab1 primT) 100000 110 wm171.args wm171.heap) wm171) = true := by kernel_rfl
theorem wm188_c : (fitK wm188 && comesTo (callB Tryz.prog (withTab wtab1 primT) 100000 110 wm188.args wm188.heap) wm188) = true := by kernel_rfl
theorem wm67_c : (fitK wm67 && comesTo (callB Tryz.prog (withTab wtab0 primT) 100000 103 wm67.args wm67.heap) wm67) = true := by kernel_rfl
theorem wm262_c : (fitK wm262 && comesTo (callB Tryz.prog (withTab wtab4 primT) 100000 23 wm262.args wm262.heap) wm262) = true := by kernel_rfl
theorem wm41_c : (fitK wm41 && comesTo (callB Tryz.prog (withTab wtab0 primT) 100000 103 wm41.args wm41.heap) wm41) = true := by kernel_rfl
theorem wm27_c : (fitK wm27 && comesTo (callB Tryz.prog (withTab wtab0 primT) 100000 103 wm27.args wm27.heap) wm27) = true := by kernel_rfl
theorem wm272_c : (fitK wm272 && comesTo (callB Tryz.prog (withTab wtab5 primT) 100000 79 wm272.args wm272.heap) wm272) = true := by kernel_rfl
theorem wm23_c : (fitK wm23 && comesTo (callB Tryz.prog (withTab wtab0 primT) 100000 103 wm23.args wm23.heap) wm23) = true := by kernel_rfl
theorem wm58_c : (fitK wm58 && comesTo (callB Tryz.prog (withTab wtab0 primT) 100000 103 wm58.args wm58.heap) wm58) = true := by kernel_rfl
theorem wm196_c : (fitK wm196 && comesTo (callB Tryz.prog (withTab wtab1 primT) 100000 133 wm196.args wm196.heap) wm196) = true := by kernel_rfl
theorem wm256_c : (fitK wm256 && comesTo (callB Tryz.prog (withTab wtab4 primT) 100000 112 wm256.args wm256.heap) wm256) = true := by kernel_rfl
theorem wm78_c : (fitK wm78 && comesTo (callB Tryz.prog (withTab wtab0 primT) 100000 103 wm78.args wm78.heap) wm78) = true := by kernel_rfl
theorem wm216_c : (fitK wm216 && comesTo (callB Tryz.prog (withTab wtab2 primT) 100000 161 wm216.args wm216.heap) wm216) = true := by kernel_rfl
theorem wm278_c : (fitK wm278 && comesTo (callB Tryz.prog (withTab wtab5 primT) 100000 10 wm278.args wm278.heap) wm278) = true := by kernel_rfl
theorem wm259_c : (fitK wm259 && comesTo (callB Tryz.prog (withTab wtab4 primT) 100000 208 wm259.args wm259.heap) wm259) = true := by kernel_rfl
end Go.Proofs.YtobhpbnlbgbjaaaGreatDoor
