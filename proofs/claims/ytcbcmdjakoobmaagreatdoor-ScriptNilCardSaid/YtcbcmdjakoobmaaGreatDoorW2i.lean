/- Runs: each call comes to what is told. -/
import Derived.Test.YtcbcmdjakoobmaaGreatDoorW1
set_option linter.unusedSectionVars false
set_option linter.unusedSimpArgs false
set_option linter.unusedVariables false
namespace Go.Proofs.YtcbcmdjakoobmaaGreatDoor
open Go Go.RowKit
set_option maxRecDepth 100000
theorem wm57_c : comesTo (callB Tryz.prog (withTab wtab0 primT) 100000 21 wm57.args wm57.heap) wm57 = true := by kernel_rfl
theorem wm134_c : comesTo (callB Tryz.prog (withTab wtab2 primT) 100000 6 wm134.args wm134.heap) wm134 = true := by kernel_rfl
theorem wm52_c : comesTo (callB Tryz.prog (withTab wtab0 primT) 100000 117 wm52.args wm52.heap) wm52 = true := by kernel_rfl
theorem wm101_c : comesTo (callB Tryz.prog (withTab wtab0 primT) 100000 117 wm101.args wm101.heap) wm101 = true := by kernel_rfl
theorem wm38_c : comesTo (callB Tryz.prog (withTab wtab0 primT) 100000 116 wm38.args wm38.heap) wm38 = true := by kernel_rfl
theorem wm9_c : comesTo (callB Tryz.prog (withTab wtab0 primT) 100000 116 wm9.args wm9.heap) wm9 = true := by kernel_rfl
theorem wm10_c : comesTo (callB Tryz.prog (withTab wtab0 primT) 100000 116 wm10.args wm10.heap) wm10 = true := by kernel_rfl
theorem wm2_c : comesTo (callB Tryz.prog (withTab wtab0 primT) 100000 116 wm2.args wm2.heap) wm2 = true := by kernel_rfl
theorem wm87_c : comesTo (callB Tryz.prog (withTab wtab0 primT) 100000 189 wm87.args wm87.heap) wm87 = true := by kernel_rfl
theorem wm136_c : comesTo (callB Tryz.prog (withTab wtab2 primT) 100000 189 wm136.args wm136.heap) wm136 = true := by kernel_rfl
theorem wm36_c : comesTo (callB Tryz.prog (withTab wtab0 primT) 100000 116 wm36.args wm36.heap) wm36 = true := by kernel_rfl
theorem wm16_c : comesTo (callB Tryz.prog (withTab wtab0 primT) 100000 116 wm16.args wm16.heap) wm16 = true := by kernel_rfl
theorem wm92_c : comesTo (callB Tryz.prog (withTab wtab0 primT) 100000 116 wm92.args wm92.heap) wm92 = true := by kernel_rfl
theorem wm59_c : comesTo (callB Tryz.prog (withTab wtab0 primT) 100000 116 wm59.args wm59.heap) wm59 = true := by kernel_rfl
theorem wm91_c : comesTo (callB Tryz.prog (withTab wtab0 primT) 100000 81 wm91.args wm91.heap) wm91 = true := by kernel_rfl
theorem wm119_c : comesTo (callB Tryz.prog (withTab wtab1 primT) 100000 32 wm119.args wm119.heap) wm119 = true := by kernel_rfl
theorem wm129_c : comesTo (callB Tryz.prog (withTab wtab1 primT) 100000 32 wm129.args wm129.heap) wm129 = true := by kernel_rfl
end Go.Proofs.YtcbcmdjakoobmaaGreatDoor
