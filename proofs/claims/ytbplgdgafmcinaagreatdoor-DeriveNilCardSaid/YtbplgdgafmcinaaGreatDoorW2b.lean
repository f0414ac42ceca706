/- Runs: each call comes to what is told. -/
import Derived.Test.YtbplgdgafmcinaaGreatDoorW1
set_option linter.unusedSectionVars false
set_option linter.unusedSimpArgs false
set_option linter.unusedVariables false
namespace Go.Proofs.YtbplgdgafmcinaaGreatDoor
open Go Go.RowKit
set_option maxRecDepth 100000
theorem wm150_c : (fitK wm150 && comesTo (callB Tryz.prog (withTab wtab3 primT) 100000 84 wm150.args wm150.heap) wm150) = true := by kernel_rfl
theorem wm106_c : (fitK wm106 && comesTo (callB Tryz.prog (withTab wtab0 primT) 100000 12 wm106.args wm106.heap) wm106) = true := by kernel_rfl
theorem wm48_c : (fitK wm48 && comesTo (callB Tryz.prog (withTab wtab0 primT) 100000 129 wm48.args wm48.heap) wm48) = true := by kernel_rfl
theorem wm130_c : (fitK wm130 && comesTo (callB Tryz.prog (withTab wtab1 primT) 100000 50 wm130.args wm130.heap) wm130) = true := by kernel_rfl
theorem wm153_c : (fitK wm153 && comesTo (callB Tryz.prog (withTab wtab3 primT) 100000 149 wm153.args wm153.heap) wm153) = true := by kernel_rfl
theorem wm100_c : (fitK wm100 && comesTo (callB Tryz.prog (withTab wtab0 primT) 100000 154 wm100.args wm100.heap) wm100) = true := by kernel_rfl
theorem wm4_c : (fitK wm4 && comesTo (callB Tryz.prog (withTab wtab0 primT) 100000 128 wm4.args wm4.heap) wm4) = true := by kernel_rfl
theorem wm53_c : (fitK wm53 && comesTo (callB Tryz.prog (withTab wtab0 primT) 100000 128 wm53.args wm53.heap) wm53) = true := by kernel_rfl
theorem wm41_c : (fitK wm41 && comesTo (callB Tryz.prog (withTab wtab0 primT) 100000 128 wm41.args wm41.heap) wm41) = true := by kernel_rfl
theorem wm21_c : (fitK wm21 && comesTo (callB Tryz.prog (withTab wtab0 primT) 100000 128 wm21.args wm21.heap) wm21) = true := by kernel_rfl
theorem wm52_c : (fitK wm52 && comesTo (callB Tryz.prog (withTab wtab0 primT) 100000 128 wm52.args wm52.heap) wm52) = true := by kernel_rfl
theorem wm50_c : (fitK wm50 && comesTo (callB Tryz.prog (withTab wtab0 primT) 100000 128 wm50.args wm50.heap) wm50) = true := by kernel_rfl
theorem wm70_c : (fitK wm70 && comesTo (callB Tryz.prog (withTab wtab0 primT) 100000 128 wm70.args wm70.heap) wm70) = true := by kernel_rfl
theorem wm15_c : (fitK wm15 && comesTo (callB Tryz.prog (withTab wtab0 primT) 100000 128 wm15.args wm15.heap) wm15) = true := by kernel_rfl
theorem wm73_c : (fitK wm73 && comesTo (callB Tryz.prog (withTab wtab0 primT) 100000 128 wm73.args wm73.heap) wm73) = true := by kernel_rfl
theorem wm157_c : (fitK wm157 && comesTo (callB Tryz.prog (withTab wtab3 primT) 100000 20 wm157.args wm157.heap) wm157) = true := by kernel_rfl
theorem wm160_c : (fitK wm160 && comesTo (callB Tryz.prog (withTab wtab4 primT) 100000 39 wm160.args wm160.heap) wm160) = true := by kernel_rfl
end Go.Proofs.YtbplgdgafmcinaaGreatDoor
