/- Runs: each call comes to what is told. -/
import Derived.Test.YtbplgdgafmcinaaGreatDoorW1
set_option linter.unusedSectionVars false
set_option linter.unusedSimpArgs false
set_option linter.unusedVariables false
namespace Go.Proofs.YtbplgdgafmcinaaGreatDoor
open Go Go.RowKit
set_option maxRecDepth 100000
theorem wm110_c : (fitK wm110 && comesTo (callB Tryz.prog (withTab wtab1 primT) 100000 176 wm110.args wm110.heap) wm110) = true := by kernel_rfl
theorem wm49_c : (fitK wm49 && comesTo (callB Tryz.prog (withTab wtab0 primT) 100000 36 wm49.args wm49.heap) wm49) = true := by kernel_rfl
theorem wm45_c : (fitK wm45 && comesTo (callB Tryz.prog (withTab wtab0 primT) 100000 129 wm45.args wm45.heap) wm45) = true := by kernel_rfl
theorem wm132_c : (fitK wm132 && comesTo (callB Tryz.prog (withTab wtab1 primT) 100000 50 wm132.args wm132.heap) wm132) = true := by kernel_rfl
theorem wm56_c : (fitK wm56 && comesTo (callB Tryz.prog (withTab wtab0 primT) 100000 128 wm56.args wm56.heap) wm56) = true := by kernel_rfl
theorem wm99_c : (fitK wm99 && comesTo (callB Tryz.prog (withTab wtab0 primT) 100000 154 wm99.args wm99.heap) wm99) = true := by kernel_rfl
theorem wm68_c : (fitK wm68 && comesTo (callB Tryz.prog (withTab wtab0 primT) 100000 128 wm68.args wm68.heap) wm68) = true := by kernel_rfl
theorem wm79_c : (fitK wm79 && comesTo (callB Tryz.prog (withTab wtab0 primT) 100000 128 wm79.args wm79.heap) wm79) = true := by kernel_rfl
theorem wm8_c : (fitK wm8 && comesTo (callB Tryz.prog (withTab wtab0 primT) 100000 128 wm8.args wm8.heap) wm8) = true := by kernel_rfl
theorem wm28_c : (fitK wm28 && comesTo (callB Tryz.prog (withTab wtab0 primT) 100000 128 wm28.args wm28.heap) wm28) = true := by kernel_rfl
theorem wm6_c : (fitK wm6 && comesTo (callB Tryz.prog (withTab wtab0 primT) 100000 128 wm6.args wm6.heap) wm6) = true := by kernel_rfl
theorem wm54_c : (fitK wm54 && comesTo (callB Tryz.prog (withTab wtab0 primT) 100000 128 wm54.args wm54.heap) wm54) = true := by kernel_rfl
theorem wm125_c : (fitK wm125 && comesTo (callB Tryz.prog (withTab wtab1 primT) 100000 212 wm125.args wm125.heap) wm125) = true := by kernel_rfl
theorem wm57_c : (fitK wm57 && comesTo (callB Tryz.prog (withTab wtab0 primT) 100000 128 wm57.args wm57.heap) wm57) = true := by kernel_rfl
theorem wm69_c : (fitK wm69 && comesTo (callB Tryz.prog (withTab wtab0 primT) 100000 128 wm69.args wm69.heap) wm69) = true := by kernel_rfl
theorem wm145_c : (fitK wm145 && comesTo (callB Tryz.prog (withTab wtab2 primT) 100000 20 wm145.args wm145.heap) wm145) = true := by kernel_rfl
theorem wm154_c : (fitK wm154 && comesTo (callB Tryz.prog (withTab wtab3 primT) 100000 249 wm154.args wm154.heap) wm154) = true := by kernel_rfl
end Go.Proofs.YtbplgdgafmcinaaGreatDoor
