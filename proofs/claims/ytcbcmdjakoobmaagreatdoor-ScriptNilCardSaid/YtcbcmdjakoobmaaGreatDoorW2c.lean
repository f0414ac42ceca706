/- Runs: each call comes to what is told. -/
import Derived.Test.YtcbcmdjakoobmaaGreatDoorW1
set_option linter.unusedSectionVars false
set_option linter.unusedSimpArgs false
set_option linter.unusedVariables false
namespace Go.Proofs.YtcbcmdjakoobmaaGreatDoor
open Go Go.RowKit
set_option maxRecDepth 100000
theorem wm111_c : comesTo (callB Tryz.prog (withTab wtab1 primT) 100000 153 wm111.args wm111.heap) wm111 = true := by kernel_rfl
theorem wm46_c : comesTo (callB Tryz.prog (withTab wtab0 primT) 100000 117 wm46.args wm46.heap) wm46 = true := by kernel_rfl
theorem wm54_c : comesTo (callB Tryz.prog (withTab wtab0 primT) 100000 117 wm54.args wm54.heap) wm54 = true := by kernel_rfl
theorem wm139_c : comesTo (callB Tryz.prog (withTab wtab2 primT) 100000 6 wm139.args wm139.heap) wm139 = true := by kernel_rfl
theorem wm127_c : comesTo (callB Tryz.prog (withTab wtab1 primT) 100000 118 wm127.args wm127.heap) wm127 = true := by kernel_rfl
theorem wm61_c : comesTo (callB Tryz.prog (withTab wtab0 primT) 100000 116 wm61.args wm61.heap) wm61 = true := by kernel_rfl
theorem wm79_c : comesTo (callB Tryz.prog (withTab wtab0 primT) 100000 80 wm79.args wm79.heap) wm79 = true := by kernel_rfl
theorem wm126_c : comesTo (callB Tryz.prog (withTab wtab1 primT) 100000 70 wm126.args wm126.heap) wm126 = true := by kernel_rfl
theorem wm40_c : comesTo (callB Tryz.prog (withTab wtab0 primT) 100000 116 wm40.args wm40.heap) wm40 = true := by kernel_rfl
theorem wm26_c : comesTo (callB Tryz.prog (withTab wtab0 primT) 100000 116 wm26.args wm26.heap) wm26 = true := by kernel_rfl
theorem wm1_c : comesTo (callB Tryz.prog (withTab wtab0 primT) 100000 116 wm1.args wm1.heap) wm1 = true := by kernel_rfl
theorem wm58_c : comesTo (callB Tryz.prog (withTab wtab0 primT) 100000 116 wm58.args wm58.heap) wm58 = true := by kernel_rfl
theorem wm65_c : comesTo (callB Tryz.prog (withTab wtab0 primT) 100000 116 wm65.args wm65.heap) wm65 = true := by kernel_rfl
theorem wm93_c : comesTo (callB Tryz.prog (withTab wtab0 primT) 100000 116 wm93.args wm93.heap) wm93 = true := by kernel_rfl
theorem wm107_c : comesTo (callB Tryz.prog (withTab wtab0 primT) 100000 81 wm107.args wm107.heap) wm107 = true := by kernel_rfl
theorem wm123_c : comesTo (callB Tryz.prog (withTab wtab1 primT) 100000 32 wm123.args wm123.heap) wm123 = true := by kernel_rfl
theorem wm148_c : comesTo (callB Tryz.prog (withTab wtab5 primT) 100000 12 wm148.args wm148.heap) wm148 = true := by kernel_rfl
end Go.Proofs.YtcbcmdjakoobmaaGreatDoor
