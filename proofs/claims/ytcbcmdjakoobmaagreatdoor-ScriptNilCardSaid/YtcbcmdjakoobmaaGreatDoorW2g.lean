/- Runs: each call comes to what is told. -/
import Derived.Test.YtcbcmdjakoobmaaGreatDoorW1
set_option linter.unusedSectionVars false
set_option linter.unusedSimpArgs false
set_option linter.unusedVariables false
namespace Go.Proofs.YtcbcmdjakoobmaaGreatDoor
open Go Go.RowKit
set_option maxRecDepth 100000
theorem wm103_c : comesTo (callB Tryz.prog (withTab wtab0 primT) 100000 153 wm103.args wm103.heap) wm103 = true := by kernel_rfl
theorem wm42_c : comesTo (callB Tryz.prog (withTab wtab0 primT) 100000 117 wm42.args wm42.heap) wm42 = true := by kernel_rfl
theorem wm48_c : comesTo (callB Tryz.prog (withTab wtab0 primT) 100000 117 wm48.args wm48.heap) wm48 = true := by kernel_rfl
theorem wm56_c : comesTo (callB Tryz.prog (withTab wtab0 primT) 100000 117 wm56.args wm56.heap) wm56 = true := by kernel_rfl
theorem wm125_c : comesTo (callB Tryz.prog (withTab wtab1 primT) 100000 69 wm125.args wm125.heap) wm125 = true := by kernel_rfl
theorem wm4_c : comesTo (callB Tryz.prog (withTab wtab0 primT) 100000 116 wm4.args wm4.heap) wm4 = true := by kernel_rfl
theorem wm108_c : comesTo (callB Tryz.prog (withTab wtab0 primT) 100000 189 wm108.args wm108.heap) wm108 = true := by kernel_rfl
theorem wm88_c : comesTo (callB Tryz.prog (withTab wtab0 primT) 100000 80 wm88.args wm88.heap) wm88 = true := by kernel_rfl
theorem wm41_c : comesTo (callB Tryz.prog (withTab wtab0 primT) 100000 116 wm41.args wm41.heap) wm41 = true := by kernel_rfl
theorem wm21_c : comesTo (callB Tryz.prog (withTab wtab0 primT) 100000 116 wm21.args wm21.heap) wm21 = true := by kernel_rfl
theorem wm142_c : comesTo (callB Tryz.prog (withTab wtab3 primT) 100000 13 wm142.args wm142.heap) wm142 = true := by kernel_rfl
theorem wm13_c : comesTo (callB Tryz.prog (withTab wtab0 primT) 100000 116 wm13.args wm13.heap) wm13 = true := by kernel_rfl
theorem wm68_c : comesTo (callB Tryz.prog (withTab wtab0 primT) 100000 116 wm68.args wm68.heap) wm68 = true := by kernel_rfl
theorem wm25_c : comesTo (callB Tryz.prog (withTab wtab0 primT) 100000 116 wm25.args wm25.heap) wm25 = true := by kernel_rfl
theorem wm85_c : comesTo (callB Tryz.prog (withTab wtab0 primT) 100000 81 wm85.args wm85.heap) wm85 = true := by kernel_rfl
theorem wm117_c : comesTo (callB Tryz.prog (withTab wtab1 primT) 100000 32 wm117.args wm117.heap) wm117 = true := by kernel_rfl
theorem wm124_c : comesTo (callB Tryz.prog (withTab wtab1 primT) 100000 32 wm124.args wm124.heap) wm124 = true := by kernel_rfl
end Go.Proofs.YtcbcmdjakoobmaaGreatDoor
