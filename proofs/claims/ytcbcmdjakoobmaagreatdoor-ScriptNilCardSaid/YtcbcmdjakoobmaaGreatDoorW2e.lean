/- Runs: each call comes to what is told. -/
import Derived.Test.YtcbcmdjakoobmaaGreatDoorW1
set_option linter.unusedSectionVars false
set_option linter.unusedSimpArgs false
set_option linter.unusedVariables false
namespace Go.Proofs.YtcbcmdjakoobmaaGreatDoor
open Go Go.RowKit
set_option maxRecDepth 100000
theorem wm132_c : comesTo (callB Tryz.prog (withTab wtab2 primT) 100000 113 wm132.args wm132.heap) wm132 = true := by kernel_rfl
theorem wm44_c : comesTo (callB Tryz.prog (withTab wtab0 primT) 100000 117 wm44.args wm44.heap) wm44 = true := by kernel_rfl
theorem wm50_c : comesTo (callB Tryz.prog (withTab wtab0 primT) 100000 117 wm50.args wm50.heap) wm50 = true := by kernel_rfl
theorem wm75_c : comesTo (callB Tryz.prog (withTab wtab0 primT) 100000 117 wm75.args wm75.heap) wm75 = true := by kernel_rfl
theorem wm64_c : comesTo (callB Tryz.prog (withTab wtab0 primT) 100000 116 wm64.args wm64.heap) wm64 = true := by kernel_rfl
theorem wm0_c : comesTo (callB Tryz.prog (withTab wtab0 primT) 100000 116 wm0.args wm0.heap) wm0 = true := by kernel_rfl
theorem wm95_c : comesTo (callB Tryz.prog (withTab wtab0 primT) 100000 116 wm95.args wm95.heap) wm95 = true := by kernel_rfl
theorem wm104_c : comesTo (callB Tryz.prog (withTab wtab0 primT) 100000 80 wm104.args wm104.heap) wm104 = true := by kernel_rfl
theorem wm100_c : comesTo (callB Tryz.prog (withTab wtab0 primT) 100000 116 wm100.args wm100.heap) wm100 = true := by kernel_rfl
theorem wm29_c : comesTo (callB Tryz.prog (withTab wtab0 primT) 100000 116 wm29.args wm29.heap) wm29 = true := by kernel_rfl
theorem wm24_c : comesTo (callB Tryz.prog (withTab wtab0 primT) 100000 116 wm24.args wm24.heap) wm24 = true := by kernel_rfl
theorem wm20_c : comesTo (callB Tryz.prog (withTab wtab0 primT) 100000 116 wm20.args wm20.heap) wm20 = true := by kernel_rfl
theorem wm135_c : comesTo (callB Tryz.prog (withTab wtab2 primT) 100000 20 wm135.args wm135.heap) wm135 = true := by kernel_rfl
theorem wm30_c : comesTo (callB Tryz.prog (withTab wtab0 primT) 100000 116 wm30.args wm30.heap) wm30 = true := by kernel_rfl
theorem wm89_c : comesTo (callB Tryz.prog (withTab wtab0 primT) 100000 81 wm89.args wm89.heap) wm89 = true := by kernel_rfl
theorem wm118_c : comesTo (callB Tryz.prog (withTab wtab1 primT) 100000 32 wm118.args wm118.heap) wm118 = true := by kernel_rfl
theorem wm128_c : comesTo (callB Tryz.prog (withTab wtab1 primT) 100000 32 wm128.args wm128.heap) wm128 = true := by kernel_rfl
end Go.Proofs.YtcbcmdjakoobmaaGreatDoor
