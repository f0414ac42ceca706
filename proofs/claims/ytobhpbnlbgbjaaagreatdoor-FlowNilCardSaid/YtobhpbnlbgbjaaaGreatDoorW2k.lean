/- Runs: each call comes to what is told. -/
import Derived.Test.YtobhpbnlbgbjaaaGreatDoorW1
set_option linter.unusedSectionVars false
set_option linter.unusedSimpArgs false
set_option linter.unusedVariables false
namespace Go.Proofs.YtobhpbnlbgbjaaaGreatDoor
open Go Go.RowKit
set_option maxRecDepth 100000
theorem wm157_c : (fitK wm157 && comesTo (callB Tryz.prog (withTab wtab1 primT) 100000 64 wm157.args wm157.heap) wm157) = true := by kernel_rfl
theorem wm150_c : (fitK wm150 && comesTo (callB Tryz.prog (withTab wtab0 primT) 100000 44 wm150.args wm150.heap) wm150) = true := by kernel_rfl
theorem wm44_c : (fitK wm44 && comesTo (callB Tryz.prog (withTab wtab0 primT) 100000 104 wm44.args wm44.heap) wm44) = true := by kernel_rfl
theorem wm247_c : (fitK wm247 && comesTo (callB Tryz.prog (withTab wtab3 primT) 100000 44 wm247.args wm247.heap) wm247) = true := by kernel_rfl
theorem wm271_c : (fitK wm271 && comesTo (callB Tryz.prog (withTab wtab5 primT) 100000 171 wm271.args wm271.heap) wm271) = true := by kernel_rfl
theorem wm284_c : (fitK wm284 && comesTo (callB Tryz.prog (withTab wtab6 primT) 100000 173 wm284.args wm284.heap) wm284) = true := by kernel_rfl
theorem wm257_c : (fitK wm257 && comesTo (callB Tryz.prog (withTab wtab4 primT) 100000 211 wm257.args wm257.heap) wm257) = true := by kernel_rfl
theorem wm178_c : (fitK wm178 && comesTo (callB Tryz.prog (withTab wtab1 primT) 100000 110 wm178.args wm178.heap) wm178) = true := by kernel_rfl
theorem wm56_c : (fitK wm56 && comesTo (callB Tryz.prog (withTab wtab0 primT) 100000 103 wm56.args wm56.heap) wm56) = true := by kernel_rfl
theorem wm203_c : (fitK wm203 && comesTo (callB Tryz.prog (withTab wtab1 primT) 100000 23 wm203.args wm203.heap) wm203) = true := by kernel_rfl
theorem wm18_c : (fitK wm18 && comesTo (callB Tryz.prog (withTab wtab0 primT) 100000 103 wm18.args wm18.heap) wm18) = true := by kernel_rfl
theorem wm81_c : (fitK wm81 && comesTo (callB Tryz.prog (withTab wtab0 primT) 100000 103 wm81.args wm81.heap) wm81) = true := by kernel_rfl
theorem wm72_c : (fitK wm72 && comesTo (callB Tryz.prog (withTab wtab0 primT) 100000 103 wm72.args wm72.heap) wm72) = true := by kernel_rfl
theorem wm16_c : (fitK wm16 && comesTo (callB Tryz.prog (withTab wtab0 primT) 100000 103 wm16.args wm16.heap) wm16) = true := by kernel_rfl
theorem wm229_c : (fitK wm229 && comesTo (callB Tryz.prog (withTab wtab3 primT) 100000 154 wm229.args wm229.heap) wm229) = true := by kernel_rfl
theorem wm232_c : (fitK wm232 && comesTo (callB Tryz.prog (withTab wtab3 primT) 100000 112 wm232.args wm232.heap) wm232) = true := by kernel_rfl
theorem wm50_c : (fitK wm50 && comesTo (callB Tryz.prog (withTab wtab0 primT) 100000 103 wm50.args wm50.heap) wm50) = true := by kernel_rfl
theorem wm97_c : (fitK wm97 && comesTo (callB Tryz.prog (withTab wtab0 primT) 100000 159 wm97.args wm97.heap) wm97) = true := by kernel_rfl
theorem wm222_c : (fitK wm222 && comesTo (callB Tryz.prog (withTab wtab2 primT) 100000 161 wm222.args wm222.heap) wm222) = true := by kernel_rfl
theorem wm290_c : (fitK wm290 && comesTo (callB Tryz.prog (withTab wtab8 primT) 100000 79 wm290.args wm290.heap) wm290) = true := by kernel_rfl
theorem wm282_c : (fitK wm282 && comesTo (callB Tryz.prog (withTab wtab6 primT) 100000 14 wm282.args wm282.heap) wm282) = true := by kernel_rfl
end Go.Proofs.YtobhpbnlbgbjaaaGreatDoor
