/- Runs: each call comes to what is told. -/
import Derived.Test.YtobhpbnlbgbjaaaGreatDoorW1
set_option linter.unusedSectionVars false
set_option linter.unusedSimpArgs false
set_option linter.unusedVariables false
namespace Go.Proofs.YtobhpbnlbgbjaaaGreatDoor
open Go Go.RowKit
set_option maxRecDepth 100000
theorem wm156_c : (fitK wm156 && comesTo (callB Tryz.prog (withTab wtab1 primT) 100000 147 wm156.args wm156.heap) wm156) = true := by kernel_rfl
theorem wm148_c : (fitK wm148 && comesTo (callB Tryz.prog (withTab wtab0 primT) 100000 44 wm148.args wm148.heap) wm148) = true := by kernel_rfl
theorem wm69_c : (fitK wm69 && comesTo (callB Tryz.prog (withTab wtab0 primT) 100000 104 wm69.args wm69.heap) wm69) = true := by kernel_rfl
theorem wm187_c : (fitK wm187 && comesTo (callB Tryz.prog (withTab wtab1 primT) 100000 110 wm187.args wm187.heap) wm187) = true := by kernel_rfl
theorem wm275_c : (fitK wm275 && comesTo (callB Tryz.prog (withTab wtab5 primT) 100000 171 wm275.args wm275.heap) wm275) = true := by kernel_rfl
theorem wm268_c : (fitK wm268 && comesTo (callB Tryz.prog (withTab wtab5 primT) 100000 35 wm268.args wm268.heap) wm268) = true := by kernel_rfl
theorem wm170_c : (fitK wm170 && comesTo (callB Tryz.prog (withTab wtab1 primT) 100000 110 wm170.args wm170.heap) wm170) = true := by kernel_rfl
theorem wm186_c : (fitK wm186 && comesTo (callB Tryz.prog (withTab wtab1 primT) 100000 110 wm186.args wm186.heap) wm186) = true := by kernel_rfl
theorem wm52_c : (fitK wm52 && comesTo (callB Tryz.prog (withTab wtab0 primT) 100000 103 wm52.args wm52.heap) wm52) = true := by kernel_rfl
theorem wm261_c : (fitK wm261 && comesTo (callB Tryz.prog (withTab wtab4 primT) 100000 23 wm261.args wm261.heap) wm261) = true := by kernel_rfl
theorem wm293_c : (fitK wm293 && comesTo (callB Tryz.prog (withTab wtab9 primT) 100000 15 wm293.args wm293.heap) wm293) = true := by kernel_rfl
theorem wm28_c : (fitK wm28 && comesTo (callB Tryz.prog (withTab wtab0 primT) 100000 103 wm28.args wm28.heap) wm28) = true := by kernel_rfl
theorem wm276_c : (fitK wm276 && comesTo (callB Tryz.prog (withTab wtab5 primT) 100000 79 wm276.args wm276.heap) wm276) = true := by kernel_rfl
theorem wm35_c : (fitK wm35 && comesTo (callB Tryz.prog (withTab wtab0 primT) 100000 103 wm35.args wm35.heap) wm35) = true := by kernel_rfl
theorem wm76_c : (fitK wm76 && comesTo (callB Tryz.prog (withTab wtab0 primT) 100000 103 wm76.args wm76.heap) wm76) = true := by kernel_rfl
theorem wm199_c : (fitK wm199 && comesTo (callB Tryz.prog (withTab wtab1 primT) 100000 133 wm199.args wm199.heap) wm199) = true := by kernel_rfl
theorem wm11_c : (fitK wm11 && comesTo (callB Tryz.prog (withTab wtab0 primT) 100000 103 wm11.args wm11.heap) wm11) = true := by kernel_rfl
theorem wm75_c : (fitK wm75 && comesTo (callB Tryz.prog (withTab wtab0 primT) 100000 103 wm75.args wm75.heap) wm75) = true := by kernel_rfl
theorem wm215_c : (fitK wm215 && comesTo (callB Tryz.prog (withTab wtab2 primT) 100000 161 wm215.args wm215.heap) wm215) = true := by kernel_rfl
theorem wm277_c : (fitK wm277 && comesTo (callB Tryz.prog (withTab wtab5 primT) 100000 10 wm277.args wm277.heap) wm277) = true := by kernel_rfl
theorem wm255_c : (fitK wm255 && comesTo (callB Tryz.prog (withTab wtab4 primT) 100000 208 wm255.args wm255.heap) wm255) = true := by kernel_rfl
end Go.Proofs.YtobhpbnlbgbjaaaGreatDoor
