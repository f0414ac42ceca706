/- Runs: each call comes to what is told. -/
import Derived.Test.YtobhpbnlbgbjaaaGreatDoorW1
set_option linter.unusedSectionVars false
set_option linter.unusedSimpArgs false
set_option linter.unusedVariables false
namespace Go.Proofs.YtobhpbnlbgbjaaaGreatDoor
open Go Go.RowKit
set_option maxRecDepth 100000
theorem wm206_c : (fitK wm206 && comesTo (callB Tryz.prog (withTab wtab2 primT) 100000 100 wm206.args wm206.heap) wm206) = true := by kernel_rfl
theorem wm151_c : (fitK wm151 && comesTo (callB Tryz.prog (withTab wtab0 primT) 100000 183 wm151.args wm151.heap) wm151) = true := by kernel_rfl
theorem wm48_c : (fitK wm48 && comesTo (callB Tryz.prog (withTab wtab0 primT) 100000 104 wm48.args wm48.heap) wm48) = true := by kernel_rfl
theorem wm181_c : (fitK wm181 && comesTo (callB Tryz.prog (withTab wtab1 primT) 100000 110 wm181.args wm181.heap) wm181) = true := by kernel_rfl
theorem wm274_c : (fitK wm274 && comesTo (callB Tryz.prog (withTab wtab5 primT) 100000 171 wm274.args wm274.heap) wm274) = true := by kernel_rfl
theorem wm267_c : (fitK wm267 && comesTo (callB Tryz.prog (withTab wtab5 primT) 100000 35 wm267.args wm267.heap) wm267) = true := by kernel_rfl
theorem wm168_c : (fitK wm168 && comesTo (callB Tryz.prog (withTab wtab1 primT) 100000 110 wm168.args wm168.heap) wm168) = true := by kernel_rfl
theorem wm185_c : (fitK wm185 && comesTo (callB Tryz.prog (withTab wtab1 primT) 100000 110 wm185.args wm185.heap) wm185) = true := by kernel_rfl
theorem wm37_c : (fitK wm37 && comesTo (callB Tryz.prog (withTab wtab0 primT) 100000 103 wm37.args wm37.heap) wm37) = true := by kernel_rfl
theorem wm202_c : (fitK wm202 && comesTo (callB Tryz.prog (withTab wtab1 primT) 100000 23 wm202.args wm202.heap) wm202) = true := by kernel_rfl
theorem wm2_c : (fitK wm2 && comesTo (callB Tryz.prog (withTab wtab0 primT) 100000 103 wm2.args wm2.heap) wm2) = true := by kernel_rfl
theorem wm12_c : (fitK wm12 && comesTo (callB Tryz.prog (withTab wtab0 primT) 100000 103 wm12.args wm12.heap) wm12) = true := by kernel_rfl
theorem wm226_c : (fitK wm226 && comesTo (callB Tryz.prog (withTab wtab2 primT) 100000 85 wm226.args wm226.heap) wm226) = true := by kernel_rfl
theorem wm53_c : (fitK wm53 && comesTo (callB Tryz.prog (withTab wtab0 primT) 100000 103 wm53.args wm53.heap) wm53) = true := by kernel_rfl
theorem wm233_c : (fitK wm233 && comesTo (callB Tryz.prog (withTab wtab3 primT) 100000 162 wm233.args wm233.heap) wm233) = true := by kernel_rfl
theorem wm240_c : (fitK wm240 && comesTo (callB Tryz.prog (withTab wtab3 primT) 100000 162 wm240.args wm240.heap) wm240) = true := by kernel_rfl
theorem wm25_c : (fitK wm25 && comesTo (callB Tryz.prog (withTab wtab0 primT) 100000 103 wm25.args wm25.heap) wm25) = true := by kernel_rfl
theorem wm91_c : (fitK wm91 && comesTo (callB Tryz.prog (withTab wtab0 primT) 100000 159 wm91.args wm91.heap) wm91) = true := by kernel_rfl
theorem wm241_c : (fitK wm241 && comesTo (callB Tryz.prog (withTab wtab3 primT) 100000 255 wm241.args wm241.heap) wm241) = true := by kernel_rfl
theorem wm219_c : (fitK wm219 && comesTo (callB Tryz.prog (withTab wtab2 primT) 100000 161 wm219.args wm219.heap) wm219) = true := by kernel_rfl
theorem wm95_c : (fitK wm95 && comesTo (callB Tryz.prog (withTab wtab0 primT) 100000 162 wm95.args wm95.heap) wm95) = true := by kernel_rfl
theorem wm100_c : (fitK wm100 && comesTo (callB Tryz.prog (withTab wtab0 primT) 100000 162 wm100.args wm100.heap) wm100) = true := by kernel_rfl
theorem wm106_c : (fitK wm106 && comesTo (callB Tryz.prog (withTab wtab0 primT) 100000 112 wm106.args wm106.heap) wm106) = true := by kernel_rfl
theorem wm112_c : (fitK wm112 && comesTo (callB Tryz.prog (withTab wtab0 primT) 100000 162 wm112.args wm112.heap) wm112) = true := by kernel_rfl
theorem wm118_c : (fitK wm118 && comesTo (callB Tryz.prog (withTab wtab0 primT) 100000 162 wm118.args wm118.heap) wm118) = true := by kernel_rfl
theorem wm125_c : (fitK wm125 && comesTo (callB Tryz.prog (withTab wtab0 primT) 100000 161 wm125.args wm125.heap) wm125) = true := by kernel_rfl
theorem wm131_c : (fitK wm131 && comesTo (callB Tryz.prog (withTab wtab0 primT) 100000 112 wm131.args wm131.heap) wm131) = true := by kernel_rfl
theorem wm137_c : (fitK wm137 && comesTo (callB Tryz.prog (withTab wtab0 primT) 100000 162 wm137.args wm137.heap) wm137) = true := by kernel_rfl
theorem wm143_c : (fitK wm143 && comesTo (callB Tryz.prog (withTab wtab0 primT) 100000 162 wm143.args wm143.heap) wm143) = true := by kernel_rfl
end Go.Proofs.YtobhpbnlbgbjaaaGreatDoor
