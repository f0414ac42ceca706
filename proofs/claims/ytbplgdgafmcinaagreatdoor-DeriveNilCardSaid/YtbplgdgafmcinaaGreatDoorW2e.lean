/- Runs: each call comes to what is told. -/
import Derived.Test.YtbplgdgafmcinaaGreatDoorW1
set_option linter.unusedSectionVars false
set_option linter.unusedSimpArgs false
set_option linter.unusedVariables false
namespace Go.Proofs.YtbplgdgafmcinaaGreatDoor
open Go Go.RowKit
set_option maxRecDepth 100000
theorem wm118_c : (fitK wm118 && comesTo (callB Tryz.prog (withTab wtab1 primT) 100000 176 wm118.args wm118.heap) wm118) = true := by kernel_rfl
theorem wm142_c : (fitK wm142 && comesTo (callB Tryz.prog (withTab wtab2 primT) 100000 200 wm142.args wm142.heap) wm142) = true := by kernel_rfl
theorem wm44_c : (fitK wm44 && comesTo (callB Tryz.prog (withTab wtab0 primT) 100000 129 wm44.args wm44.heap) wm44) = true := by kernel_rfl
theorem wm124_c : (fitK wm124 && comesTo (callB Tryz.prog (withTab wtab1 primT) 100000 50 wm124.args wm124.heap) wm124) = true := by kernel_rfl
theorem wm74_c : (fitK wm74 && comesTo (callB Tryz.prog (withTab wtab0 primT) 100000 128 wm74.args wm74.heap) wm74) = true := by kernel_rfl
theorem wm102_c : (fitK wm102 && comesTo (callB Tryz.prog (withTab wtab0 primT) 100000 154 wm102.args wm102.heap) wm102) = true := by kernel_rfl
theorem wm9_c : (fitK wm9 && comesTo (callB Tryz.prog (withTab wtab0 primT) 100000 128 wm9.args wm9.heap) wm9) = true := by kernel_rfl
theorem wm5_c : (fitK wm5 && comesTo (callB Tryz.prog (withTab wtab0 primT) 100000 128 wm5.args wm5.heap) wm5) = true := by kernel_rfl
theorem wm18_c : (fitK wm18 && comesTo (callB Tryz.prog (withTab wtab0 primT) 100000 128 wm18.args wm18.heap) wm18) = true := by kernel_rfl
theorem wm134_c : (fitK wm134 && comesTo (callB Tryz.prog (withTab wtab1 primT) 100000 5 wm134.args wm134.heap) wm134) = true := by kernel_rfl
theorem wm36_c : (fitK wm36 && comesTo (callB Tryz.prog (withTab wtab0 primT) 100000 128 wm36.args wm36.heap) wm36) = true := by kernel_rfl
theorem wm23_c : (fitK wm23 && comesTo (callB Tryz.prog (withTab wtab0 primT) 100000 128 wm23.args wm23.heap) wm23) = true := by kernel_rfl
theorem wm136_c : (fitK wm136 && comesTo (callB Tryz.prog (withTab wtab2 primT) 100000 17 wm136.args wm136.heap) wm136) = true := by kernel_rfl
theorem wm25_c : (fitK wm25 && comesTo (callB Tryz.prog (withTab wtab0 primT) 100000 128 wm25.args wm25.heap) wm25) = true := by kernel_rfl
theorem wm82_c : (fitK wm82 && comesTo (callB Tryz.prog (withTab wtab0 primT) 100000 188 wm82.args wm82.heap) wm82) = true := by kernel_rfl
theorem wm159_c : (fitK wm159 && comesTo (callB Tryz.prog (withTab wtab3 primT) 100000 20 wm159.args wm159.heap) wm159) = true := by kernel_rfl
theorem wm92_c : (fitK wm92 && comesTo (callB Tryz.prog (withTab wtab0 primT) 100000 246 wm92.args wm92.heap) wm92) = true := by kernel_rfl
end Go.Proofs.YtbplgdgafmcinaaGreatDoor
