/- Runs: each call comes to what is told. -/
import Derived.Test.YtbplgdgafmcinaaGreatDoorW1
set_option linter.unusedSectionVars false
set_option linter.unusedSimpArgs false
set_option linter.unusedVariables false
namespace Go.Proofs.YtbplgdgafmcinaaGreatDoor
open Go Go.RowKit
set_option maxRecDepth 100000
theorem wm101_c : (fitK wm101 && comesTo (callB Tryz.prog (withTab wtab0 primT) 100000 106 wm101.args wm101.heap) wm101) = true := by kernel_rfl
theorem wm60_c : (fitK wm60 && comesTo (callB Tryz.prog (withTab wtab0 primT) 100000 176 wm60.args wm60.heap) wm60) = true := by kernel_rfl
theorem wm96_c : (fitK wm96 && comesTo (callB Tryz.prog (withTab wtab0 primT) 100000 10 wm96.args wm96.heap) wm96) = true := by kernel_rfl
theorem wm77_c : (fitK wm77 && comesTo (callB Tryz.prog (withTab wtab0 primT) 100000 128 wm77.args wm77.heap) wm77) = true := by kernel_rfl
theorem wm7_c : (fitK wm7 && comesTo (callB Tryz.prog (withTab wtab0 primT) 100000 128 wm7.args wm7.heap) wm7) = true := by kernel_rfl
theorem wm103_c : (fitK wm103 && comesTo (callB Tryz.prog (withTab wtab0 primT) 100000 154 wm103.args wm103.heap) wm103) = true := by kernel_rfl
theorem wm33_c : (fitK wm33 && comesTo (callB Tryz.prog (withTab wtab0 primT) 100000 128 wm33.args wm33.heap) wm33) = true := by kernel_rfl
theorem wm10_c : (fitK wm10 && comesTo (callB Tryz.prog (withTab wtab0 primT) 100000 128 wm10.args wm10.heap) wm10) = true := by kernel_rfl
theorem wm113_c : (fitK wm113 && comesTo (callB Tryz.prog (withTab wtab1 primT) 100000 86 wm113.args wm113.heap) wm113) = true := by kernel_rfl
theorem wm72_c : (fitK wm72 && comesTo (callB Tryz.prog (withTab wtab0 primT) 100000 128 wm72.args wm72.heap) wm72) = true := by kernel_rfl
theorem wm16_c : (fitK wm16 && comesTo (callB Tryz.prog (withTab wtab0 primT) 100000 128 wm16.args wm16.heap) wm16) = true := by kernel_rfl
theorem wm76_c : (fitK wm76 && comesTo (callB Tryz.prog (withTab wtab0 primT) 100000 128 wm76.args wm76.heap) wm76) = true := by kernel_rfl
theorem wm120_c : (fitK wm120 && comesTo (callB Tryz.prog (withTab wtab1 primT) 100000 293 wm120.args wm120.heap) wm120) = true := by kernel_rfl
theorem wm144_c : (fitK wm144 && comesTo (callB Tryz.prog (withTab wtab2 primT) 100000 293 wm144.args wm144.heap) wm144) = true := by kernel_rfl
theorem wm51_c : (fitK wm51 && comesTo (callB Tryz.prog (withTab wtab0 primT) 100000 128 wm51.args wm51.heap) wm51) = true := by kernel_rfl
theorem wm88_c : (fitK wm88 && comesTo (callB Tryz.prog (withTab wtab0 primT) 100000 188 wm88.args wm88.heap) wm88) = true := by kernel_rfl
theorem wm84_c : (fitK wm84 && comesTo (callB Tryz.prog (withTab wtab0 primT) 100000 246 wm84.args wm84.heap) wm84) = true := by kernel_rfl
end Go.Proofs.YtbplgdgafmcinaaGreatDoor
