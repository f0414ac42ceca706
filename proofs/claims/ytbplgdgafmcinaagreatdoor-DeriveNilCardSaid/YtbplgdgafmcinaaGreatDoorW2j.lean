/- Runs: each call comes to what is told. -/
import Derived.Test.YtbplgdgafmcinaaGreatDoorW1
set_option linter.unusedSectionVars false
set_option linter.unusedSimpArgs false
set_option linter.unusedVariables false
namespace Go.Proofs.YtbplgdgafmcinaaGreatDoor
open Go Go.RowKit
set_option maxRecDepth 100000
theorem wm135_c : (fitK wm135 && comesTo (callB Tryz.prog (withTab wtab2 primT) 100000 125 wm135.args wm135.heap) wm135) = true := by kernel_rfl
theorem wm111_c : (fitK wm111 && comesTo (callB Tryz.prog (withTab wtab1 primT) 100000 15 wm111.args wm111.heap) wm111) = true := by kernel_rfl
theorem wm108_c : (fitK wm108 && comesTo (callB Tryz.prog (withTab wtab0 primT) 100000 12 wm108.args wm108.heap) wm108) = true := by kernel_rfl
theorem wm127_c : (fitK wm127 && comesTo (callB Tryz.prog (withTab wtab1 primT) 100000 50 wm127.args wm127.heap) wm127) = true := by kernel_rfl
theorem wm80_c : (fitK wm80 && comesTo (callB Tryz.prog (withTab wtab0 primT) 100000 128 wm80.args wm80.heap) wm80) = true := by kernel_rfl
theorem wm38_c : (fitK wm38 && comesTo (callB Tryz.prog (withTab wtab0 primT) 100000 128 wm38.args wm38.heap) wm38) = true := by kernel_rfl
theorem wm0_c : (fitK wm0 && comesTo (callB Tryz.prog (withTab wtab0 primT) 100000 128 wm0.args wm0.heap) wm0) = true := by kernel_rfl
theorem wm64_c : (fitK wm64 && comesTo (callB Tryz.prog (withTab wtab0 primT) 100000 128 wm64.args wm64.heap) wm64) = true := by kernel_rfl
theorem wm3_c : (fitK wm3 && comesTo (callB Tryz.prog (withTab wtab0 primT) 100000 128 wm3.args wm3.heap) wm3) = true := by kernel_rfl
theorem wm27_c : (fitK wm27 && comesTo (callB Tryz.prog (withTab wtab0 primT) 100000 128 wm27.args wm27.heap) wm27) = true := by kernel_rfl
theorem wm1_c : (fitK wm1 && comesTo (callB Tryz.prog (withTab wtab0 primT) 100000 128 wm1.args wm1.heap) wm1) = true := by kernel_rfl
theorem wm39_c : (fitK wm39 && comesTo (callB Tryz.prog (withTab wtab0 primT) 100000 128 wm39.args wm39.heap) wm39) = true := by kernel_rfl
theorem wm67_c : (fitK wm67 && comesTo (callB Tryz.prog (withTab wtab0 primT) 100000 128 wm67.args wm67.heap) wm67) = true := by kernel_rfl
theorem wm11_c : (fitK wm11 && comesTo (callB Tryz.prog (withTab wtab0 primT) 100000 128 wm11.args wm11.heap) wm11) = true := by kernel_rfl
theorem wm71_c : (fitK wm71 && comesTo (callB Tryz.prog (withTab wtab0 primT) 100000 128 wm71.args wm71.heap) wm71) = true := by kernel_rfl
theorem wm146_c : (fitK wm146 && comesTo (callB Tryz.prog (withTab wtab2 primT) 100000 20 wm146.args wm146.heap) wm146) = true := by kernel_rfl
theorem wm83_c : (fitK wm83 && comesTo (callB Tryz.prog (withTab wtab0 primT) 100000 240 wm83.args wm83.heap) wm83) = true := by kernel_rfl
end Go.Proofs.YtbplgdgafmcinaaGreatDoor
