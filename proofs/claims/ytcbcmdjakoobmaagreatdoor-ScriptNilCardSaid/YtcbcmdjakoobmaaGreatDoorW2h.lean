/- Runs: each call comes to what is told. -/
import Derived.Test.YtcbcmdjakoobmaaGreatDoorW1
set_option linter.unusedSectionVars false
set_option linter.unusedSimpArgs false
set_option linter.unusedVariables false
namespace Go.Proofs.YtcbcmdjakoobmaaGreatDoor
open Go Go.RowKit
set_option maxRecDepth 100000
theorem wm74_c : comesTo (callB Tryz.prog (withTab wtab0 primT) 100000 153 wm74.args wm74.heap) wm74 = true := by kernel_rfl
theorem wm113_c : comesTo (callB Tryz.prog (withTab wtab1 primT) 100000 69 wm113.args wm113.heap) wm113 = true := by kernel_rfl
theorem wm51_c : comesTo (callB Tryz.prog (withTab wtab0 primT) 100000 117 wm51.args wm51.heap) wm51 = true := by kernel_rfl
theorem wm76_c : comesTo (callB Tryz.prog (withTab wtab0 primT) 100000 117 wm76.args wm76.heap) wm76 = true := by kernel_rfl
theorem wm98_c : comesTo (callB Tryz.prog (withTab wtab0 primT) 100000 116 wm98.args wm98.heap) wm98 = true := by kernel_rfl
theorem wm33_c : comesTo (callB Tryz.prog (withTab wtab0 primT) 100000 116 wm33.args wm33.heap) wm33 = true := by kernel_rfl
theorem wm67_c : comesTo (callB Tryz.prog (withTab wtab0 primT) 100000 116 wm67.args wm67.heap) wm67 = true := by kernel_rfl
theorem wm18_c : comesTo (callB Tryz.prog (withTab wtab0 primT) 100000 116 wm18.args wm18.heap) wm18 = true := by kernel_rfl
theorem wm3_c : comesTo (callB Tryz.prog (withTab wtab0 primT) 100000 116 wm3.args wm3.heap) wm3 = true := by kernel_rfl
theorem wm137_c : comesTo (callB Tryz.prog (withTab wtab2 primT) 100000 189 wm137.args wm137.heap) wm137 = true := by kernel_rfl
theorem wm60_c : comesTo (callB Tryz.prog (withTab wtab0 primT) 100000 116 wm60.args wm60.heap) wm60 = true := by kernel_rfl
theorem wm35_c : comesTo (callB Tryz.prog (withTab wtab0 primT) 100000 116 wm35.args wm35.heap) wm35 = true := by kernel_rfl
theorem wm145_c : comesTo (callB Tryz.prog (withTab wtab3 primT) 100000 4 wm145.args wm145.heap) wm145 = true := by kernel_rfl
theorem wm11_c : comesTo (callB Tryz.prog (withTab wtab0 primT) 100000 116 wm11.args wm11.heap) wm11 = true := by kernel_rfl
theorem wm78_c : comesTo (callB Tryz.prog (withTab wtab0 primT) 100000 81 wm78.args wm78.heap) wm78 = true := by kernel_rfl
theorem wm143_c : comesTo (callB Tryz.prog (withTab wtab3 primT) 100000 133 wm143.args wm143.heap) wm143 = true := by kernel_rfl
theorem wm121_c : comesTo (callB Tryz.prog (withTab wtab1 primT) 100000 133 wm121.args wm121.heap) wm121 = true := by kernel_rfl
end Go.Proofs.YtcbcmdjakoobmaaGreatDoor
