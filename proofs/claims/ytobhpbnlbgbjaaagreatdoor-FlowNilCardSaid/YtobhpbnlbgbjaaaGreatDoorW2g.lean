/- Runs: each call comes to what is told. -/
import Derived.Test.YtobhpbnlbgbjaaaGreatDoorW1
set_option linter.unusedSectionVars false
set_option linter.unusedSimpArgs false
set_option linter.unusedVariables false
namespace Go.Proofs.YtobhpbnlbgbjaaaGreatDoor
open Go Go.RowKit
set_option maxRecDepth 100000
theorem wm144_c : (fitK wm144 && comesTo (callB Tryz.prog (withTab wtab0 primT) 100000 183 wm144.args wm144.heap) wm144) = true := by kernel_rfl
theorem wm209_c : (fitK wm209 && comesTo (callB Tryz.prog (withTab wtab2 primT) 100000 191 wm209.args wm209.heap) wm209) = true := by kernel_rfl
theorem wm42_c : (fitK wm42 && comesTo (callB Tryz.prog (withTab wtab0 primT) 100000 104 wm42.args wm42.heap) wm42) = true := by kernel_rfl
theorem wm245_c : (fitK wm245 && comesTo (callB Tryz.prog (withTab wtab3 primT) 100000 44 wm245.args wm245.heap) wm245) = true := by kernel_rfl
theorem wm250_c : (fitK wm250 && comesTo (callB Tryz.prog (withTab wtab4 primT) 100000 105 wm250.args wm250.heap) wm250) = true := by kernel_rfl
theorem wm210_c : (fitK wm210 && comesTo (callB Tryz.prog (withTab wtab2 primT) 100000 105 wm210.args wm210.heap) wm210) = true := by kernel_rfl
theorem wm164_c : (fitK wm164 && comesTo (callB Tryz.prog (withTab wtab1 primT) 100000 110 wm164.args wm164.heap) wm164) = true := by kernel_rfl
theorem wm176_c : (fitK wm176 && comesTo (callB Tryz.prog (withTab wtab1 primT) 100000 110 wm176.args wm176.heap) wm176) = true := by kernel_rfl
theorem wm192_c : (fitK wm192 && comesTo (callB Tryz.prog (withTab wtab1 primT) 100000 110 wm192.args wm192.heap) wm192) = true := by kernel_rfl
theorem wm194_c : (fitK wm194 && comesTo (callB Tryz.prog (withTab wtab1 primT) 100000 23 wm194.args wm194.heap) wm194) = true := by kernel_rfl
theorem wm264_c : (fitK wm264 && comesTo (callB Tryz.prog (withTab wtab4 primT) 100000 23 wm264.args wm264.heap) wm264) = true := by kernel_rfl
theorem wm22_c : (fitK wm22 && comesTo (callB Tryz.prog (withTab wtab0 primT) 100000 103 wm22.args wm22.heap) wm22) = true := by kernel_rfl
theorem wm24_c : (fitK wm24 && comesTo (callB Tryz.prog (withTab wtab0 primT) 100000 103 wm24.args wm24.heap) wm24) = true := by kernel_rfl
theorem wm20_c : (fitK wm20 && comesTo (callB Tryz.prog (withTab wtab0 primT) 100000 103 wm20.args wm20.heap) wm20) = true := by kernel_rfl
theorem wm55_c : (fitK wm55 && comesTo (callB Tryz.prog (withTab wtab0 primT) 100000 103 wm55.args wm55.heap) wm55) = true := by kernel_rfl
theorem wm193_c : (fitK wm193 && comesTo (callB Tryz.prog (withTab wtab1 primT) 100000 133 wm193.args wm193.heap) wm193) = true := by kernel_rfl
theorem wm251_c : (fitK wm251 && comesTo (callB Tryz.prog (withTab wtab4 primT) 100000 112 wm251.args wm251.heap) wm251) = true := by kernel_rfl
theorem wm71_c : (fitK wm71 && comesTo (callB Tryz.prog (withTab wtab0 primT) 100000 103 wm71.args wm71.heap) wm71) = true := by kernel_rfl
theorem wm212_c : (fitK wm212 && comesTo (callB Tryz.prog (withTab wtab2 primT) 100000 161 wm212.args wm212.heap) wm212) = true := by kernel_rfl
theorem wm220_c : (fitK wm220 && comesTo (callB Tryz.prog (withTab wtab2 primT) 100000 161 wm220.args wm220.heap) wm220) = true := by kernel_rfl
theorem wm98_c : (fitK wm98 && comesTo (callB Tryz.prog (withTab wtab0 primT) 100000 162 wm98.args wm98.heap) wm98) = true := by kernel_rfl
theorem wm102_c : (fitK wm102 && comesTo (callB Tryz.prog (withTab wtab0 primT) 100000 161 wm102.args wm102.heap) wm102) = true := by kernel_rfl
theorem wm108_c : (fitK wm108 && comesTo (callB Tryz.prog (withTab wtab0 primT) 100000 162 wm108.args wm108.heap) wm108) = true := by kernel_rfl
theorem wm114_c : (fitK wm114 && comesTo (callB Tryz.prog (withTab wtab0 primT) 100000 162 wm114.args wm114.heap) wm114) = true := by kernel_rfl
theorem wm121_c : (fitK wm121 && comesTo (callB Tryz.prog (withTab wtab0 primT) 100000 161 wm121.args wm121.heap) wm121) = true := by kernel_rfl
theorem wm127_c : (fitK wm127 && comesTo (callB Tryz.prog (withTab wtab0 primT) 100000 162 wm127.args wm127.heap) wm127) = true := by kernel_rfl
theorem wm133_c : (fitK wm133 && comesTo (callB Tryz.prog (withTab wtab0 primT) 100000 162 wm133.args wm133.heap) wm133) = true := by kernel_rfl
theorem wm139_c : (fitK wm139 && comesTo (callB Tryz.prog (withTab wtab0 primT) 100000 162 wm139.args wm139.heap) wm139) = true := by kernel_rfl
end Go.Proofs.YtobhpbnlbgbjaaaGreatDoor
