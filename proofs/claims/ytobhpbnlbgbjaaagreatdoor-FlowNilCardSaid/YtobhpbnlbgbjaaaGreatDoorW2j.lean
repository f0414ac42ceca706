/- Runs: each call comes to what is told. -/
import Derived.Test.YtobhpbnlbgbjaaaGreatDoorW1
set_option linter.unusedSectionVars false
set_option linter.unusedSimpArgs false
set_option linter.unusedVariables false
namespace Go.Proofs.YtobhpbnlbgbjaaaGreatDoor
open Go Go.RowKit
set_option maxRecDepth 100000
theorem wm161_c : (fitK wm161 && comesTo (callB Tryz.prog (withTab wtab1 primT) 100000 147 wm161.args wm161.heap) wm161) = true := by kernel_rfl
theorem wm207_c : (fitK wm207 && comesTo (callB Tryz.prog (withTab wtab2 primT) 100000 191 wm207.args wm207.heap) wm207) = true := by kernel_rfl
theorem wm153_c : (fitK wm153 && comesTo (callB Tryz.prog (withTab wtab0 primT) 100000 44 wm153.args wm153.heap) wm153) = true := by kernel_rfl
theorem wm175_c : (fitK wm175 && comesTo (callB Tryz.prog (withTab wtab1 primT) 100000 110 wm175.args wm175.heap) wm175) = true := by kernel_rfl
theorem wm90_c : (fitK wm90 && comesTo (callB Tryz.prog (withTab wtab0 primT) 100000 103 wm90.args wm90.heap) wm90) = true := by kernel_rfl
theorem wm169_c : (fitK wm169 && comesTo (callB Tryz.prog (withTab wtab1 primT) 100000 110 wm169.args wm169.heap) wm169) = true := by kernel_rfl
theorem wm163_c : (fitK wm163 && comesTo (callB Tryz.prog (withTab wtab1 primT) 100000 110 wm163.args wm163.heap) wm163) = true := by kernel_rfl
theorem wm174_c : (fitK wm174 && comesTo (callB Tryz.prog (withTab wtab1 primT) 100000 110 wm174.args wm174.heap) wm174) = true := by kernel_rfl
theorem wm191_c : (fitK wm191 && comesTo (callB Tryz.prog (withTab wtab1 primT) 100000 110 wm191.args wm191.heap) wm191) = true := by kernel_rfl
theorem wm89_c : (fitK wm89 && comesTo (callB Tryz.prog (withTab wtab0 primT) 100000 103 wm89.args wm89.heap) wm89) = true := by kernel_rfl
theorem wm5_c : (fitK wm5 && comesTo (callB Tryz.prog (withTab wtab0 primT) 100000 103 wm5.args wm5.heap) wm5) = true := by kernel_rfl
theorem wm40_c : (fitK wm40 && comesTo (callB Tryz.prog (withTab wtab0 primT) 100000 103 wm40.args wm40.heap) wm40) = true := by kernel_rfl
theorem wm225_c : (fitK wm225 && comesTo (callB Tryz.prog (withTab wtab2 primT) 100000 85 wm225.args wm225.heap) wm225) = true := by kernel_rfl
theorem wm49_c : (fitK wm49 && comesTo (callB Tryz.prog (withTab wtab0 primT) 100000 103 wm49.args wm49.heap) wm49) = true := by kernel_rfl
theorem wm231_c : (fitK wm231 && comesTo (callB Tryz.prog (withTab wtab3 primT) 100000 162 wm231.args wm231.heap) wm231) = true := by kernel_rfl
theorem wm239_c : (fitK wm239 && comesTo (callB Tryz.prog (withTab wtab3 primT) 100000 162 wm239.args wm239.heap) wm239) = true := by kernel_rfl
theorem wm19_c : (fitK wm19 && comesTo (callB Tryz.prog (withTab wtab0 primT) 100000 103 wm19.args wm19.heap) wm19) = true := by kernel_rfl
theorem wm82_c : (fitK wm82 && comesTo (callB Tryz.prog (withTab wtab0 primT) 100000 103 wm82.args wm82.heap) wm82) = true := by kernel_rfl
theorem wm221_c : (fitK wm221 && comesTo (callB Tryz.prog (withTab wtab2 primT) 100000 161 wm221.args wm221.heap) wm221) = true := by kernel_rfl
theorem wm281_c : (fitK wm281 && comesTo (callB Tryz.prog (withTab wtab5 primT) 100000 10 wm281.args wm281.heap) wm281) = true := by kernel_rfl
theorem wm92_c : (fitK wm92 && comesTo (callB Tryz.prog (withTab wtab0 primT) 100000 161 wm92.args wm92.heap) wm92) = true := by kernel_rfl
theorem wm96_c : (fitK wm96 && comesTo (callB Tryz.prog (withTab wtab0 primT) 100000 161 wm96.args wm96.heap) wm96) = true := by kernel_rfl
theorem wm101_c : (fitK wm101 && comesTo (callB Tryz.prog (withTab wtab0 primT) 100000 162 wm101.args wm101.heap) wm101) = true := by kernel_rfl
theorem wm107_c : (fitK wm107 && comesTo (callB Tryz.prog (withTab wtab0 primT) 100000 161 wm107.args wm107.heap) wm107) = true := by kernel_rfl
theorem wm113_c : (fitK wm113 && comesTo (callB Tryz.prog (withTab wtab0 primT) 100000 161 wm113.args wm113.heap) wm113) = true := by kernel_rfl
theorem wm119_c : (fitK wm119 && comesTo (callB Tryz.prog (withTab wtab0 primT) 100000 161 wm119.args wm119.heap) wm119) = true := by kernel_rfl
theorem wm126_c : (fitK wm126 && comesTo (callB Tryz.prog (withTab wtab0 primT) 100000 162 wm126.args wm126.heap) wm126) = true := by kernel_rfl
theorem wm132_c : (fitK wm132 && comesTo (callB Tryz.prog (withTab wtab0 primT) 100000 161 wm132.args wm132.heap) wm132) = true := by kernel_rfl
theorem wm138_c : (fitK wm138 && comesTo (callB Tryz.prog (withTab wtab0 primT) 100000 161 wm138.args wm138.heap) wm138) = true := by kernel_rfl
end Go.Proofs.YtobhpbnlbgbjaaaGreatDoor
