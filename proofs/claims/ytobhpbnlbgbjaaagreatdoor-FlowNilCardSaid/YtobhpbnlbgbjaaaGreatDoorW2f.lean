/- Runs: each call comes to what is told. -/
import Derived.Test.YtobhpbnlbgbjaaaGreatDoorW1
set_option linter.unusedSectionVars false
set_option linter.unusedSimpArgs false
set_option linter.unusedVariables false
namespace Go.Proofs.YtobhpbnlbgbjaaaGreatDoor
open Go Go.RowKit
set_option maxRecDepth 100000
theorem wm160_c : (fitK wm160 && comesTo (callB Tryz.prog (withTab wtab1 primT) 100000 64 wm160.args wm160.heap) wm160) = true := by kernel_rfl
theorem wm269_c : (fitK wm269 && comesTo (callB Tryz.prog (withTab wtab5 primT) 100000 37 wm269.args wm269.heap) wm269) = true := by kernel_rfl
theorem wm43_c : (fitK wm43 && comesTo (callB Tryz.prog (withTab wtab0 primT) 100000 104 wm43.args wm43.heap) wm43) = true := by kernel_rfl
theorem wm246_c : (fitK wm246 && comesTo (callB Tryz.prog (withTab wtab3 primT) 100000 44 wm246.args wm246.heap) wm246) = true := by kernel_rfl
theorem wm270_c : (fitK wm270 && comesTo (callB Tryz.prog (withTab wtab5 primT) 100000 171 wm270.args wm270.heap) wm270) = true := by kernel_rfl
theorem wm287_c : (fitK wm287 && comesTo (callB Tryz.prog (withTab wtab6 primT) 100000 4 wm287.args wm287.heap) wm287) = true := by kernel_rfl
theorem wm167_c : (fitK wm167 && comesTo (callB Tryz.prog (withTab wtab1 primT) 100000 110 wm167.args wm167.heap) wm167) = true := by kernel_rfl
theorem wm179_c : (fitK wm179 && comesTo (callB Tryz.prog (withTab wtab1 primT) 100000 110 wm179.args wm179.heap) wm179) = true := by kernel_rfl
theorem wm77_c : (fitK wm77 && comesTo (callB Tryz.prog (withTab wtab0 primT) 100000 103 wm77.args wm77.heap) wm77) = true := by kernel_rfl
theorem wm205_c : (fitK wm205 && comesTo (callB Tryz.prog (withTab wtab1 primT) 100000 23 wm205.args wm205.heap) wm205) = true := by kernel_rfl
theorem wm292_c : (fitK wm292 && comesTo (callB Tryz.prog (withTab wtab9 primT) 100000 15 wm292.args wm292.heap) wm292) = true := by kernel_rfl
theorem wm8_c : (fitK wm8 && comesTo (callB Tryz.prog (withTab wtab0 primT) 100000 103 wm8.args wm8.heap) wm8) = true := by kernel_rfl
theorem wm224_c : (fitK wm224 && comesTo (callB Tryz.prog (withTab wtab2 primT) 100000 85 wm224.args wm224.heap) wm224) = true := by kernel_rfl
theorem wm39_c : (fitK wm39 && comesTo (callB Tryz.prog (withTab wtab0 primT) 100000 103 wm39.args wm39.heap) wm39) = true := by kernel_rfl
theorem wm79_c : (fitK wm79 && comesTo (callB Tryz.prog (withTab wtab0 primT) 100000 103 wm79.args wm79.heap) wm79) = true := by kernel_rfl
theorem wm204_c : (fitK wm204 && comesTo (callB Tryz.prog (withTab wtab1 primT) 100000 133 wm204.args wm204.heap) wm204) = true := by kernel_rfl
theorem wm30_c : (fitK wm30 && comesTo (callB Tryz.prog (withTab wtab0 primT) 100000 103 wm30.args wm30.heap) wm30) = true := by kernel_rfl
theorem wm93_c : (fitK wm93 && comesTo (callB Tryz.prog (withTab wtab0 primT) 100000 159 wm93.args wm93.heap) wm93) = true := by kernel_rfl
theorem wm242_c : (fitK wm242 && comesTo (callB Tryz.prog (withTab wtab3 primT) 100000 255 wm242.args wm242.heap) wm242) = true := by kernel_rfl
theorem wm291_c : (fitK wm291 && comesTo (callB Tryz.prog (withTab wtab8 primT) 100000 79 wm291.args wm291.heap) wm291) = true := by kernel_rfl
theorem wm266_c : (fitK wm266 && comesTo (callB Tryz.prog (withTab wtab5 primT) 100000 13 wm266.args wm266.heap) wm266) = true := by kernel_rfl
theorem wm105_c : (fitK wm105 && comesTo (callB Tryz.prog (withTab wtab0 primT) 100000 112 wm105.args wm105.heap) wm105) = true := by kernel_rfl
theorem wm111_c : (fitK wm111 && comesTo (callB Tryz.prog (withTab wtab0 primT) 100000 161 wm111.args wm111.heap) wm111) = true := by kernel_rfl
theorem wm117_c : (fitK wm117 && comesTo (callB Tryz.prog (withTab wtab0 primT) 100000 161 wm117.args wm117.heap) wm117) = true := by kernel_rfl
theorem wm124_c : (fitK wm124 && comesTo (callB Tryz.prog (withTab wtab0 primT) 100000 162 wm124.args wm124.heap) wm124) = true := by kernel_rfl
theorem wm130_c : (fitK wm130 && comesTo (callB Tryz.prog (withTab wtab0 primT) 100000 112 wm130.args wm130.heap) wm130) = true := by kernel_rfl
theorem wm136_c : (fitK wm136 && comesTo (callB Tryz.prog (withTab wtab0 primT) 100000 161 wm136.args wm136.heap) wm136) = true := by kernel_rfl
theorem wm142_c : (fitK wm142 && comesTo (callB Tryz.prog (withTab wtab0 primT) 100000 161 wm142.args wm142.heap) wm142) = true := by kernel_rfl
end Go.Proofs.YtobhpbnlbgbjaaaGreatDoor
