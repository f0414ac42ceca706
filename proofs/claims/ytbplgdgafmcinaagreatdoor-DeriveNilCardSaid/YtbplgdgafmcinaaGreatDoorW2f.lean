/- Runs: each call comes to what is told. -/
import Derived.Test.YtbplgdgafmcinaaGreatDoorW1
set_option linter.unusedSectionVars false
set_option linter.unusedSimpArgs false
set_option linter.unusedVariables false
namespace Go.Proofs.YtbplgdgafmcinaaGreatDoor
open Go Go.RowKit
set_option maxRecDepth 100000
theorem wm98_c : (fitK wm98 && comesTo (callB Tryz.prog (withTab wtab0 primT) 100000 106 wm98.args wm98.heap) wm98) = true := by kernel_rfl
theorem wm149_c : (fitK wm149 && comesTo (callB Tryz.prog (withTab wtab2 primT) 100000 50 wm149.args wm149.heap) wm149) = true := by kernel_rfl
theorem wm43_c : (fitK wm43 && comesTo (callB Tryz.prog (withTab wtab0 primT) 100000 129 wm43.args wm43.heap) wm43) = true := by kernel_rfl
theorem wm123_c : (fitK wm123 && comesTo (callB Tryz.prog (withTab wtab1 primT) 100000 50 wm123.args wm123.heap) wm123) = true := by kernel_rfl
theorem wm107_c : (fitK wm107 && comesTo (callB Tryz.prog (withTab wtab0 primT) 100000 11 wm107.args wm107.heap) wm107) = true := by kernel_rfl
theorem wm104_c : (fitK wm104 && comesTo (callB Tryz.prog (withTab wtab0 primT) 100000 154 wm104.args wm104.heap) wm104) = true := by kernel_rfl
theorem wm37_c : (fitK wm37 && comesTo (callB Tryz.prog (withTab wtab0 primT) 100000 128 wm37.args wm37.heap) wm37) = true := by kernel_rfl
theorem wm75_c : (fitK wm75 && comesTo (callB Tryz.prog (withTab wtab0 primT) 100000 128 wm75.args wm75.heap) wm75) = true := by kernel_rfl
theorem wm116_c : (fitK wm116 && comesTo (callB Tryz.prog (withTab wtab1 primT) 100000 86 wm116.args wm116.heap) wm116) = true := by kernel_rfl
theorem wm133_c : (fitK wm133 && comesTo (callB Tryz.prog (withTab wtab1 primT) 100000 5 wm133.args wm133.heap) wm133) = true := by kernel_rfl
theorem wm24_c : (fitK wm24 && comesTo (callB Tryz.prog (withTab wtab0 primT) 100000 128 wm24.args wm24.heap) wm24) = true := by kernel_rfl
theorem wm35_c : (fitK wm35 && comesTo (callB Tryz.prog (withTab wtab0 primT) 100000 128 wm35.args wm35.heap) wm35) = true := by kernel_rfl
theorem wm161_c : (fitK wm161 && comesTo (callB Tryz.prog (withTab wtab4 primT) 100000 17 wm161.args wm161.heap) wm161) = true := by kernel_rfl
theorem wm30_c : (fitK wm30 && comesTo (callB Tryz.prog (withTab wtab0 primT) 100000 128 wm30.args wm30.heap) wm30) = true := by kernel_rfl
theorem wm86_c : (fitK wm86 && comesTo (callB Tryz.prog (withTab wtab0 primT) 100000 188 wm86.args wm86.heap) wm86) = true := by kernel_rfl
theorem wm163_c : (fitK wm163 && comesTo (callB Tryz.prog (withTab wtab4 primT) 100000 100 wm163.args wm163.heap) wm163) = true := by kernel_rfl
theorem wm169_c : (fitK wm169 && comesTo (callB Tryz.prog (withTab wtab5 primT) 100000 4 wm169.args wm169.heap) wm169) = true := by kernel_rfl
end Go.Proofs.YtbplgdgafmcinaaGreatDoor
