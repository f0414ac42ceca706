/- Runs: each call comes to what is told. -/
import Derived.Test.YtbplgdgafmcinaaGreatDoorW1
set_option linter.unusedSectionVars false
set_option linter.unusedSimpArgs false
set_option linter.unusedVariables false
namespace Go.Proofs.YtbplgdgafmcinaaGreatDoor
open Go Go.RowKit
set_option maxRecDepth 100000
theorem wm141_c : (fitK wm141 && comesTo (callB Tryz.prog (withTab wtab2 primT) 100000 43 wm141.args wm141.heap) wm141) = true := by kernel_rfl
theorem wm143_c : (fitK wm143 && comesTo (callB Tryz.prog (withTab wtab2 primT) 100000 200 wm143.args wm143.heap) wm143) = true := by kernel_rfl
theorem wm47_c : (fitK wm47 && comesTo (callB Tryz.prog (withTab wtab0 primT) 100000 129 wm47.args wm47.heap) wm47) = true := by kernel_rfl
theorem wm129_c : (fitK wm129 && comesTo (callB Tryz.prog (withTab wtab1 primT) 100000 50 wm129.args wm129.heap) wm129) = true := by kernel_rfl
theorem wm151_c : (fitK wm151 && comesTo (callB Tryz.prog (withTab wtab3 primT) 100000 130 wm151.args wm151.heap) wm151) = true := by kernel_rfl
theorem wm138_c : (fitK wm138 && comesTo (callB Tryz.prog (withTab wtab2 primT) 100000 130 wm138.args wm138.heap) wm138) = true := by kernel_rfl
theorem wm89_c : (fitK wm89 && comesTo (callB Tryz.prog (withTab wtab0 primT) 100000 187 wm89.args wm89.heap) wm89) = true := by kernel_rfl
theorem wm85_c : (fitK wm85 && comesTo (callB Tryz.prog (withTab wtab0 primT) 100000 187 wm85.args wm85.heap) wm85) = true := by kernel_rfl
theorem wm58_c : (fitK wm58 && comesTo (callB Tryz.prog (withTab wtab0 primT) 100000 128 wm58.args wm58.heap) wm58) = true := by kernel_rfl
theorem wm29_c : (fitK wm29 && comesTo (callB Tryz.prog (withTab wtab0 primT) 100000 128 wm29.args wm29.heap) wm29) = true := by kernel_rfl
theorem wm13_c : (fitK wm13 && comesTo (callB Tryz.prog (withTab wtab0 primT) 100000 128 wm13.args wm13.heap) wm13) = true := by kernel_rfl
theorem wm61_c : (fitK wm61 && comesTo (callB Tryz.prog (withTab wtab0 primT) 100000 128 wm61.args wm61.heap) wm61) = true := by kernel_rfl
theorem wm128_c : (fitK wm128 && comesTo (callB Tryz.prog (withTab wtab1 primT) 100000 212 wm128.args wm128.heap) wm128) = true := by kernel_rfl
theorem wm78_c : (fitK wm78 && comesTo (callB Tryz.prog (withTab wtab0 primT) 100000 128 wm78.args wm78.heap) wm78) = true := by kernel_rfl
theorem wm62_c : (fitK wm62 && comesTo (callB Tryz.prog (withTab wtab0 primT) 100000 128 wm62.args wm62.heap) wm62) = true := by kernel_rfl
theorem wm166_c : (fitK wm166 && comesTo (callB Tryz.prog (withTab wtab4 primT) 100000 7 wm166.args wm166.heap) wm166) = true := by kernel_rfl
theorem wm91_c : (fitK wm91 && comesTo (callB Tryz.prog (withTab wtab0 primT) 100000 246 wm91.args wm91.heap) wm91) = true := by kernel_rfl
theorem wm167_c : (fitK wm167 && comesTo (callB Tryz.prog (withTab wtab5 primT) 100000 16 wm167.args wm167.heap) wm167) = true := by kernel_rfl
end Go.Proofs.YtbplgdgafmcinaaGreatDoor
