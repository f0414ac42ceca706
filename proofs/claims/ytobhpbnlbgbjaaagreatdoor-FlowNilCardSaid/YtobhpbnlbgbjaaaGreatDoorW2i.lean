/- Runs: each call comes to what is told. -/
import Derived.Test.YtobhpbnlbgbjaaaGreatDoorW1
set_option linter.unusedSectionVars false
set_option linter.unusedSimpArgs false
set_option linter.unusedVariables false
namespace Go.Proofs.YtobhpbnlbgbjaaaGreatDoor
open Go Go.RowKit
set_option maxRecDepth 100000
theorem wm158_c : (fitK wm158 && comesTo (callB Tryz.prog (withTab wtab1 primT) 100000 147 wm158.args wm158.heap) wm158) = true := by kernel_rfl
theorem wm154_c : (fitK wm154 && comesTo (callB Tryz.prog (withTab wtab0 primT) 100000 44 wm154.args wm154.heap) wm154) = true := by kernel_rfl
theorem wm45_c : (fitK wm45 && comesTo (callB Tryz.prog (withTab wtab0 primT) 100000 104 wm45.args wm45.heap) wm45) = true := by kernel_rfl
theorem wm65_c : (fitK wm65 && comesTo (callB Tryz.prog (withTab wtab0 primT) 100000 103 wm65.args wm65.heap) wm65) = true := by kernel_rfl
theorem wm249_c : (fitK wm249 && comesTo (callB Tryz.prog (withTab wtab4 primT) 100000 105 wm249.args wm249.heap) wm249) = true := by kernel_rfl
theorem wm208_c : (fitK wm208 && comesTo (callB Tryz.prog (withTab wtab2 primT) 100000 105 wm208.args wm208.heap) wm208) = true := by kernel_rfl
theorem wm252_c : (fitK wm252 && comesTo (callB Tryz.prog (withTab wtab4 primT) 100000 211 wm252.args wm252.heap) wm252) = true := by kernel_rfl
theorem wm180_c : (fitK wm180 && comesTo (callB Tryz.prog (withTab wtab1 primT) 100000 110 wm180.args wm180.heap) wm180) = true := by kernel_rfl
theorem wm4_c : (fitK wm4 && comesTo (callB Tryz.prog (withTab wtab0 primT) 100000 103 wm4.args wm4.heap) wm4) = true := by kernel_rfl
theorem wm197_c : (fitK wm197 && comesTo (callB Tryz.prog (withTab wtab1 primT) 100000 23 wm197.args wm197.heap) wm197) = true := by kernel_rfl
theorem wm10_c : (fitK wm10 && comesTo (callB Tryz.prog (withTab wtab0 primT) 100000 103 wm10.args wm10.heap) wm10) = true := by kernel_rfl
theorem wm21_c : (fitK wm21 && comesTo (callB Tryz.prog (withTab wtab0 primT) 100000 103 wm21.args wm21.heap) wm21) = true := by kernel_rfl
theorem wm227_c : (fitK wm227 && comesTo (callB Tryz.prog (withTab wtab2 primT) 100000 85 wm227.args wm227.heap) wm227) = true := by kernel_rfl
theorem wm64_c : (fitK wm64 && comesTo (callB Tryz.prog (withTab wtab0 primT) 100000 103 wm64.args wm64.heap) wm64) = true := by kernel_rfl
theorem wm234_c : (fitK wm234 && comesTo (callB Tryz.prog (withTab wtab3 primT) 100000 162 wm234.args wm234.heap) wm234) = true := by kernel_rfl
theorem wm201_c : (fitK wm201 && comesTo (callB Tryz.prog (withTab wtab1 primT) 100000 133 wm201.args wm201.heap) wm201) = true := by kernel_rfl
theorem wm15_c : (fitK wm15 && comesTo (callB Tryz.prog (withTab wtab0 primT) 100000 103 wm15.args wm15.heap) wm15) = true := by kernel_rfl
theorem wm80_c : (fitK wm80 && comesTo (callB Tryz.prog (withTab wtab0 primT) 100000 103 wm80.args wm80.heap) wm80) = true := by kernel_rfl
theorem wm218_c : (fitK wm218 && comesTo (callB Tryz.prog (withTab wtab2 primT) 100000 161 wm218.args wm218.heap) wm218) = true := by kernel_rfl
theorem wm280_c : (fitK wm280 && comesTo (callB Tryz.prog (withTab wtab5 primT) 100000 10 wm280.args wm280.heap) wm280) = true := by kernel_rfl
theorem wm248_c : (fitK wm248 && comesTo (callB Tryz.prog (withTab wtab4 primT) 100000 33 wm248.args wm248.heap) wm248) = true := by kernel_rfl
end Go.Proofs.YtobhpbnlbgbjaaaGreatDoor
