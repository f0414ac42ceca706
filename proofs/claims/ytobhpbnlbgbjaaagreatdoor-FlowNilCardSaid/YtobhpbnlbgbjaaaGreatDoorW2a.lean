/- Runs: each call comes to what is told. -/
import Derived.Test.YtobhpbnlbgbjaaaGreatDoorW1
set_option linter.unusedSectionVars false
set_option linter.unusedSimpArgs false
set_option linter.unusedVariables false
namespace Go.Proofs.YtobhpbnlbgbjaaaGreatDoor
open Go Go.RowKit
set_option maxRecDepth 100000
theorem wm155_c : (fitK wm155 && comesTo (callB Tryz.prog (withTab wtab1 primT) 100000 64 wm155.args wm155.heap) wm155) = true := by kernel_rfl
theorem wm244_c : (fitK wm244 && comesTo (callB Tryz.prog (withTab wtab3 primT) 100000 44 wm244.args wm244.heap) wm244) = true := by kernel_rfl
theorem wm62_c : (fitK wm62 && comesTo (callB Tryz.prog (withTab wtab0 primT) 100000 103 wm62.args wm62.heap) wm62) = true := by kernel_rfl
theorem wm286_c : (fitK wm286 && comesTo (callB Tryz.prog (withTab wtab6 primT) 100000 4 wm286.args wm286.heap) wm286) = true := by kernel_rfl
theorem wm83_c : (fitK wm83 && comesTo (callB Tryz.prog (withTab wtab0 primT) 100000 103 wm83.args wm83.heap) wm83) = true := by kernel_rfl
theorem wm173_c : (fitK wm173 && comesTo (callB Tryz.prog (withTab wtab1 primT) 100000 110 wm173.args wm173.heap) wm173) = true := by kernel_rfl
theorem wm189_c : (fitK wm189 && comesTo (callB Tryz.prog (withTab wtab1 primT) 100000 110 wm189.args wm189.heap) wm189) = true := by kernel_rfl
theorem wm73_c : (fitK wm73 && comesTo (callB Tryz.prog (withTab wtab0 primT) 100000 103 wm73.args wm73.heap) wm73) = true := by kernel_rfl
theorem wm263_c : (fitK wm263 && comesTo (callB Tryz.prog (withTab wtab4 primT) 100000 23 wm263.args wm263.heap) wm263) = true := by kernel_rfl
theorem wm3_c : (fitK wm3 && comesTo (callB Tryz.prog (withTab wtab0 primT) 100000 103 wm3.args wm3.heap) wm3) = true := by kernel_rfl
theorem wm223_c : (fitK wm223 && comesTo (callB Tryz.prog (withTab wtab2 primT) 100000 85 wm223.args wm223.heap) wm223) = true := by kernel_rfl
theorem wm1_c : (fitK wm1 && comesTo (callB Tryz.prog (withTab wtab0 primT) 100000 103 wm1.args wm1.heap) wm1) = true := by kernel_rfl
theorem wm70_c : (fitK wm70 && comesTo (callB Tryz.prog (withTab wtab0 primT) 100000 103 wm70.args wm70.heap) wm70) = true := by kernel_rfl
theorem wm237_c : (fitK wm237 && comesTo (callB Tryz.prog (withTab wtab3 primT) 100000 162 wm237.args wm237.heap) wm237) = true := by kernel_rfl
theorem wm88_c : (fitK wm88 && comesTo (callB Tryz.prog (withTab wtab0 primT) 100000 103 wm88.args wm88.heap) wm88) = true := by kernel_rfl
theorem wm61_c : (fitK wm61 && comesTo (callB Tryz.prog (withTab wtab0 primT) 100000 103 wm61.args wm61.heap) wm61) = true := by kernel_rfl
theorem wm236_c : (fitK wm236 && comesTo (callB Tryz.prog (withTab wtab3 primT) 100000 255 wm236.args wm236.heap) wm236) = true := by kernel_rfl
theorem wm217_c : (fitK wm217 && comesTo (callB Tryz.prog (withTab wtab2 primT) 100000 161 wm217.args wm217.heap) wm217) = true := by kernel_rfl
theorem wm254_c : (fitK wm254 && comesTo (callB Tryz.prog (withTab wtab4 primT) 100000 208 wm254.args wm254.heap) wm254) = true := by kernel_rfl
theorem wm110_c : (fitK wm110 && comesTo (callB Tryz.prog (withTab wtab0 primT) 100000 162 wm110.args wm110.heap) wm110) = true := by kernel_rfl
theorem wm116_c : (fitK wm116 && comesTo (callB Tryz.prog (withTab wtab0 primT) 100000 162 wm116.args wm116.heap) wm116) = true := by kernel_rfl
theorem wm123_c : (fitK wm123 && comesTo (callB Tryz.prog (withTab wtab0 primT) 100000 161 wm123.args wm123.heap) wm123) = true := by kernel_rfl
theorem wm129_c : (fitK wm129 && comesTo (callB Tryz.prog (withTab wtab0 primT) 100000 110 wm129.args wm129.heap) wm129) = true := by kernel_rfl
theorem wm135_c : (fitK wm135 && comesTo (callB Tryz.prog (withTab wtab0 primT) 100000 162 wm135.args wm135.heap) wm135) = true := by kernel_rfl
theorem wm141_c : (fitK wm141 && comesTo (callB Tryz.prog (withTab wtab0 primT) 100000 162 wm141.args wm141.heap) wm141) = true := by kernel_rfl
end Go.Proofs.YtobhpbnlbgbjaaaGreatDoor
