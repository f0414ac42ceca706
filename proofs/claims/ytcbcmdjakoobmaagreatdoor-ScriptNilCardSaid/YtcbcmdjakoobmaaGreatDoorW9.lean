/- All known calls are what the code does. -/
import Derived.Test.YtcbcmdjakoobmaaGreatDoorW2a
import Derived.Test.YtcbcmdjakoobmaaGreatDoorW2b
import Derived.Test.YtcbcmdjakoobmaaGreatDoorW2c
import Derived.Test.YtcbcmdjakoobmaaGreatDoorW2d
import Derived.Test.YtcbcmdjakoobmaaGreatDoorW2e
import Derived.Test.YtcbcmdjakoobmaaGreatDoorW2f
import Derived.Test.YtcbcmdjakoobmaaGreatDoorW2g
import Derived.Test.YtcbcmdjakoobmaaGreatDoorW2h
import Derived.Test.YtcbcmdjakoobmaaGreatDoorW2i
set_option linter.unusedSectionVars false
set_option linter.unusedSimpArgs false
set_option linter.unusedVariables false
namespace Go.Proofs.YtcbcmdjakoobmaaGreatDoor
open Go Go.RowKit
set_option maxRecDepth 100000
theorem wtab0_ok : GoodT Tryz.prog wtab0 := trivial
theorem wm0_ok : Good Tryz.prog 116 wm0 := .of (withTab_ok prog_ok prims_ok wtab0_ok) 100000 wm0_c
theorem wm1_ok : Good Tryz.prog 116 wm1 := .of (withTab_ok prog_ok prims_ok wtab0_ok) 100000 wm1_c
theorem wm2_ok : Good Tryz.prog 116 wm2 := .of (withTab_ok prog_ok prims_ok wtab0_ok) 100000 wm2_c
theorem wm3_ok : Good Tryz.prog 116 wm3 := .of (withTab_ok prog_ok prims_ok wtab0_ok) 100000 wm3_c
theorem wm4_ok : Good Tryz.prog 116 wm4 := .of (withTab_ok prog_ok prims_ok wtab0_ok) 100000 wm4_c
theorem wm5_ok : Good Tryz.prog 116 wm5 := .of (withTab_ok prog_ok prims_ok wtab0_ok) 100000 wm5_c
theorem wm6_ok : Good Tryz.prog 116 wm6 := .of (withTab_ok prog_ok prims_ok wtab0_ok) 100000 wm6_c
theorem wm7_ok : Good Tryz.prog 116 wm7 := .of (withTab_ok prog_ok prims_ok wtab0_ok) 100000 wm7_c
theorem wm8_ok : Good Tryz.prog 116 wm8 := .of (withTab_ok prog_ok prims_ok wtab0_ok) 100000 wm8_c
theorem wm9_ok : Good Tryz.prog 116 wm9 := .of (withTab_ok prog_ok prims_ok wtab0_ok) 100000 wm9_c
theorem wm10_ok : Good Tryz.prog 116 wm10 := .of (withTab_ok prog_ok prims_ok wtab0_ok) 100000 wm10_c
theorem wm11_ok : Good Tryz.prog 116 wm11 := .of (withTab_ok prog_ok prims_ok wtab0_ok) 100000 wm11_c
theorem wm12_ok : Good Tryz.prog 116 wm12 := .of (withTab_ok prog_ok prims_ok wtab0_ok) 100000 wm12_c
theorem wm13_ok : Good Tryz.prog 116 wm13 := .of (withTab_ok prog_ok prims_ok wtab0_ok) 100000 wm13_c
theorem wm14_ok : Good Tryz.prog 116 wm14 := .of (withTab_ok prog_ok prims_ok wtab0_ok) 100000 wm14_c
theorem wm15_ok : Good Tryz.prog 116 wm15 := .of (withTab_ok prog_ok prims_ok wtab0_ok) 100000 wm15_c
theorem wm16_ok : Good Tryz.prog 116 wm16 := .of (withTab_ok prog_ok prims_ok wtab0_ok) 100000 wm16_c
theorem wm17_ok : Good Tryz.prog 116 wm17 := .of (withTab_ok prog_ok prims_ok wtab0_ok) 100000 wm17_c
theorem wm18_ok : Good Tryz.prog 116 wm18 := .of (withTab_ok prog_ok prims_ok wtab0_ok) 100000 wm18_c
theorem wm19_ok : Good Tryz.prog 116 wm19 := .of (withTab_ok prog_ok prims_ok wtab0_ok) 100000 wm19_c
theorem wm20_ok : Good Tryz.prog 116 wm20 := .of (withTab_ok prog_ok prims_ok wtab0_ok) 100000 wm20_c
theorem wm21_ok : Good Tryz.prog 116 wm21 := .of (withTab_ok prog_ok prims_ok wtab0_ok) 100000 wm21_c
theorem wm22_ok : Good Tryz.prog 116 wm22 := .of (withTab_ok prog_ok prims_ok wtab0_ok) 100000 wm22_c
theorem wm23_ok : Good Tryz.prog 116 wm23 := .of (withTab_ok prog_ok prims_ok wtab0_ok) 100000 wm23_c
theorem wm24_ok : Good Tryz.prog 116 wm24 := .of (withTab_ok prog_ok prims_ok wtab0_ok) 100000 wm24_c
theorem wm25_ok : Good Tryz.prog 116 wm25 := .of (withTab_ok prog_ok prims_ok wtab0_ok) 100000 wm25_c
theorem wm26_ok : Good Tryz.prog 116 wm26 := .of (withTab_ok prog_ok prims_ok wtab0_ok) 100000 wm26_c
theorem wm27_ok : Good Tryz.prog 116 wm27 := .of (withTab_ok prog_ok prims_ok wtab0_ok) 100000 wm27_c
theorem wm28_ok : Good Tryz.prog 116 wm28 := .of (withTab_ok prog_ok prims_ok wtab0_ok) 100000 wm28_c
theorem wm29_ok : Good Tryz.prog 116 wm29 := .of (withTab_ok prog_ok prims_ok wtab0_ok) 100000 wm29_c
theorem wm30_ok : Good Tryz.prog 116 wm30 := .of (withTab_ok prog_ok prims_ok wtab0_ok) 100000 wm30_c
theorem wm31_ok : Good Tryz.prog 116 wm31 := .of (withTab_ok prog_ok prims_ok wtab0_ok) 100000 wm31_c
theorem wm32_ok : Good Tryz.prog 116 wm32 := .of (withTab_ok prog_ok prims_ok wtab0_ok) 100000 wm32_c
theorem wm33_ok : Good Tryz.prog 116 wm33 := .of (withTab_ok prog_ok prims_ok wtab0_ok) 100000 wm33_c
theorem wm34_ok : Good Tryz.prog 116 wm34 := .of (withTab_ok prog_ok prims_ok wtab0_ok) 100000 wm34_c
theorem wm35_ok : Good Tryz.prog 116 wm35 := .of (withTab_ok prog_ok prims_ok wtab0_ok) 100000 wm35_c
theorem wm36_ok : Good Tryz.prog 116 wm36 := .of (withTab_ok prog_ok prims_ok wtab0_ok) 100000 wm36_c
theorem wm37_ok : Good Tryz.prog 116 wm37 := .of (withTab_ok prog_ok prims_ok wtab0_ok) 100000 wm37_c
theorem wm38_ok : Good Tryz.prog 116 wm38 := .of (withTab_ok prog_ok prims_ok wtab0_ok) 100000 wm38_c
theorem wm39_ok : Good Tryz.prog 116 wm39 := .of (withTab_ok prog_ok prims_ok wtab0_ok) 100000 wm39_c
theorem wm40_ok : Good Tryz.prog 116 wm40 := .of (withTab_ok prog_ok prims_ok wtab0_ok) 100000 wm40_c
theorem wm41_ok : Good Tryz.prog 116 wm41 := .of (withTab_ok prog_ok prims_ok wtab0_ok) 100000 wm41_c
theorem wm42_ok : Good Tryz.prog 117 wm42 := .of (withTab_ok prog_ok prims_ok wtab0_ok) 100000 wm42_c
theorem wm43_ok : Good Tryz.prog 117 wm43 := .of (withTab_ok prog_ok prims_ok wtab0_ok) 100000 wm43_c
theorem wm44_ok : Good Tryz.prog 117 wm44 := .of (withTab_ok prog_ok prims_ok wtab0_ok) 100000 wm44_c
theorem wm45_ok : Good Tryz.prog 117 wm45 := .of (withTab_ok prog_ok prims_ok wtab0_ok) 100000 wm45_c
theorem wm46_ok : Good Tryz.prog 117 wm46 := .of (withTab_ok prog_ok prims_ok wtab0_ok) 100000 wm46_c
theorem wm47_ok : Good Tryz.prog 117 wm47 := .of (withTab_ok prog_ok prims_ok wtab0_ok) 100000 wm47_c
theorem wm48_ok : Good Tryz.prog 117 wm48 := .of (withTab_ok prog_ok prims_ok wtab0_ok) 100000 wm48_c
theorem wm49_ok : Good Tryz.prog 117 wm49 := .of (withTab_ok prog_ok prims_ok wtab0_ok) 100000 wm49_c
theorem wm50_ok : Good Tryz.prog 117 wm50 := .of (withTab_ok prog_ok prims_ok wtab0_ok) 100000 wm50_c
theorem wm51_ok : Good Tryz.prog 117 wm51 := .of (withTab_ok prog_ok prims_ok wtab0_ok) 100000 wm51_c
theorem wm52_ok : Good Tryz.prog 117 wm52 := .of (withTab_ok prog_ok prims_ok wtab0_ok) 100000 wm52_c
theorem wm53_ok : Good Tryz.prog 117 wm53 := .of (withTab_ok prog_ok prims_ok wtab0_ok) 100000 wm53_c
theorem wm54_ok : Good Tryz.prog 117 wm54 := .of (withTab_ok prog_ok prims_ok wtab0_ok) 100000 wm54_c
theorem wm55_ok : Good Tryz.prog 117 wm55 := .of (withTab_ok prog_ok prims_ok wtab0_ok) 100000 wm55_c
theorem wm56_ok : Good Tryz.prog 117 wm56 := .of (withTab_ok prog_ok prims_ok wtab0_ok) 100000 wm56_c
theorem wm57_ok : Good Tryz.prog 21 wm57 := .of (withTab_ok prog_ok prims_ok wtab0_ok) 100000 wm57_c
theorem wm58_ok : Good Tryz.prog 116 wm58 := .of (withTab_ok prog_ok prims_ok wtab0_ok) 100000 wm58_c
theorem wm59_ok : Good Tryz.prog 116 wm59 := .of (withTab_ok prog_ok prims_ok wtab0_ok) 100000 wm59_c
theorem wm60_ok : Good Tryz.prog 116 wm60 := .of (withTab_ok prog_ok prims_ok wtab0_ok) 100000 wm60_c
theorem wm61_ok : Good Tryz.prog 116 wm61 := .of (withTab_ok prog_ok prims_ok wtab0_ok) 100000 wm61_c
theorem wm62_ok : Good Tryz.prog 116 wm62 := .of (withTab_ok prog_ok prims_ok wtab0_ok) 100000 wm62_c
theorem wm63_ok : Good Tryz.prog 116 wm63 := .of (withTab_ok prog_ok prims_ok wtab0_ok) 100000 wm63_c
theorem wm64_ok : Good Tryz.prog 116 wm64 := .of (withTab_ok prog_ok prims_ok wtab0_ok) 100000 wm64_c
theorem wm65_ok : Good Tryz.prog 116 wm65 := .of (withTab_ok prog_ok prims_ok wtab0_ok) 100000 wm65_c
theorem wm66_ok : Good Tryz.prog 116 wm66 := .of (withTab_ok prog_ok prims_ok wtab0_ok) 100000 wm66_c
theorem wm67_ok : Good Tryz.prog 116 wm67 := .of (withTab_ok prog_ok prims_ok wtab0_ok) 100000 wm67_c
theorem wm68_ok : Good Tryz.prog 116 wm68 := .of (withTab_ok prog_ok prims_ok wtab0_ok) 100000 wm68_c
theorem wm69_ok : Good Tryz.prog 116 wm69 := .of (withTab_ok prog_ok prims_ok wtab0_ok) 100000 wm69_c
theorem wm70_ok : Good Tryz.prog 116 wm70 := .of (withTab_ok prog_ok prims_ok wtab0_ok) 100000 wm70_c
theorem wm71_ok : Good Tryz.prog 116 wm71 := .of (withTab_ok prog_ok prims_ok wtab0_ok) 100000 wm71_c
theorem wm72_ok : Good Tryz.prog 117 wm72 := .of (withTab_ok prog_ok prims_ok wtab0_ok) 100000 wm72_c
theorem wm73_ok : Good Tryz.prog 117 wm73 := .of (withTab_ok prog_ok prims_ok wtab0_ok) 100000 wm73_c
theorem wm74_ok : Good Tryz.prog 153 wm74 := .of (withTab_ok prog_ok prims_ok wtab0_ok) 100000 wm74_c
theorem wm75_ok : Good Tryz.prog 117 wm75 := .of (withTab_ok prog_ok prims_ok wtab0_ok) 100000 wm75_c
theorem wm76_ok : Good Tryz.prog 117 wm76 := .of (withTab_ok prog_ok prims_ok wtab0_ok) 100000 wm76_c
theorem wm77_ok : Good Tryz.prog 80 wm77 := .of (withTab_ok prog_ok prims_ok wtab0_ok) 100000 wm77_c
theorem wm78_ok : Good Tryz.prog 81 wm78 := .of (withTab_ok prog_ok prims_ok wtab0_ok) 100000 wm78_c
theorem wm79_ok : Good Tryz.prog 80 wm79 := .of (withTab_ok prog_ok prims_ok wtab0_ok) 100000 wm79_c
theorem wm80_ok : Good Tryz.prog 81 wm80 := .of (withTab_ok prog_ok prims_ok wtab0_ok) 100000 wm80_c
theorem wm81_ok : Good Tryz.prog 80 wm81 := .of (withTab_ok prog_ok prims_ok wtab0_ok) 100000 wm81_c
theorem wm82_ok : Good Tryz.prog 81 wm82 := .of (withTab_ok prog_ok prims_ok wtab0_ok) 100000 wm82_c
theorem wm83_ok : Good Tryz.prog 32 wm83 := .of (withTab_ok prog_ok prims_ok wtab0_ok) 100000 wm83_c
theorem wm84_ok : Good Tryz.prog 80 wm84 := .of (withTab_ok prog_ok prims_ok wtab0_ok) 100000 wm84_c
theorem wm85_ok : Good Tryz.prog 81 wm85 := .of (withTab_ok prog_ok prims_ok wtab0_ok) 100000 wm85_c
theorem wm86_ok : Good Tryz.prog 189 wm86 := .of (withTab_ok prog_ok prims_ok wtab0_ok) 100000 wm86_c
theorem wm87_ok : Good Tryz.prog 189 wm87 := .of (withTab_ok prog_ok prims_ok wtab0_ok) 100000 wm87_c
theorem wm88_ok : Good Tryz.prog 80 wm88 := .of (withTab_ok prog_ok prims_ok wtab0_ok) 100000 wm88_c
theorem wm89_ok : Good Tryz.prog 81 wm89 := .of (withTab_ok prog_ok prims_ok wtab0_ok) 100000 wm89_c
theorem wm90_ok : Good Tryz.prog 80 wm90 := .of (withTab_ok prog_ok prims_ok wtab0_ok) 100000 wm90_c
theorem wm91_ok : Good Tryz.prog 81 wm91 := .of (withTab_ok prog_ok prims_ok wtab0_ok) 100000 wm91_c
theorem wm92_ok : Good Tryz.prog 116 wm92 := .of (withTab_ok prog_ok prims_ok wtab0_ok) 100000 wm92_c
theorem wm93_ok : Good Tryz.prog 116 wm93 := .of (withTab_ok prog_ok prims_ok wtab0_ok) 100000 wm93_c
theorem wm94_ok : Good Tryz.prog 116 wm94 := .of (withTab_ok prog_ok prims_ok wtab0_ok) 100000 wm94_c
theorem wm95_ok : Good Tryz.prog 116 wm95 := .of (withTab_ok prog_ok prims_ok wtab0_ok) 100000 wm95_c
theorem wm96_ok : Good Tryz.prog 116 wm96 := .of (withTab_ok prog_ok prims_ok wtab0_ok) 100000 wm96_c
theorem wm97_ok : Good Tryz.prog 116 wm97 := .of (withTab_ok prog_ok prims_ok wtab0_ok) 100000 wm97_c
theorem wm98_ok : Good Tryz.prog 116 wm98 := .of (withTab_ok prog_ok prims_ok wtab0_ok) 100000 wm98_c
theorem wm99_ok : Good Tryz.prog 116 wm99 := .of (withTab_ok prog_ok prims_ok wtab0_ok) 100000 wm99_c
theorem wm100_ok : Good Tryz.prog 116 wm100 := .of (withTab_ok prog_ok prims_ok wtab0_ok) 100000 wm100_c
theorem wm101_ok : Good Tryz.prog 117 wm101 := .of (withTab_ok prog_ok prims_ok wtab0_ok) 100000 wm101_c
theorem wm102_ok : Good Tryz.prog 117 wm102 := .of (withTab_ok prog_ok prims_ok wtab0_ok) 100000 wm102_c
theorem wm103_ok : Good Tryz.prog 153 wm103 := .of (withTab_ok prog_ok prims_ok wtab0_ok) 100000 wm103_c
theorem wm104_ok : Good Tryz.prog 80 wm104 := .of (withTab_ok prog_ok prims_ok wtab0_ok) 100000 wm104_c
theorem wm105_ok : Good Tryz.prog 81 wm105 := .of (withTab_ok prog_ok prims_ok wtab0_ok) 100000 wm105_c
theorem wm106_ok : Good Tryz.prog 80 wm106 := .of (withTab_ok prog_ok prims_ok wtab0_ok) 100000 wm106_c
theorem wm107_ok : Good Tryz.prog 81 wm107 := .of (withTab_ok prog_ok prims_ok wtab0_ok) 100000 wm107_c
theorem wm108_ok : Good Tryz.prog 189 wm108 := .of (withTab_ok prog_ok prims_ok wtab0_ok) 100000 wm108_c
theorem wm109_ok : Good Tryz.prog 189 wm109 := .of (withTab_ok prog_ok prims_ok wtab0_ok) 100000 wm109_c
theorem wtab1_ok : GoodT Tryz.prog wtab1 := ⟨⟨wm0_ok, wm1_ok, wm2_ok, wm3_ok, wm4_ok, wm5_ok, wm6_ok, wm7_ok, wm8_ok, wm9_ok, wm10_ok, wm11_ok, wm12_ok, wm13_ok, wm14_ok, wm15_ok, wm16_ok, wm17_ok, wm18_ok, wm19_ok, wm20_ok, wm21_ok, wm22_ok, wm23_ok, wm24_ok, wm25_ok, wm26_ok, wm27_ok, wm28_ok, wm29_ok, wm30_ok, wm31_ok, wm32_ok, wm33_ok, wm34_ok, wm35_ok, wm36_ok, wm37_ok, wm38_ok, wm39_ok, wm40_ok, wm41_ok, wm58_ok, wm59_ok, wm60_ok, wm61_ok, wm62_ok, wm63_ok, wm64_ok, wm65_ok, wm66_ok, wm67_ok, wm68_ok, wm69_ok, wm70_ok, wm71_ok, wm92_ok, wm93_ok, wm94_ok, wm95_ok, wm96_ok, wm97_ok, wm98_ok, wm99_ok, wm100_ok, trivial⟩, ⟨wm42_ok, wm43_ok, wm44_ok, wm45_ok, wm46_ok, wm47_ok, wm48_ok, wm49_ok, wm50_ok, wm51_ok, wm52_ok, wm53_ok, wm54_ok, wm55_ok, wm56_ok, wm72_ok, wm73_ok, wm75_ok, wm76_ok, wm101_ok, wm102_ok, trivial⟩, ⟨wm57_ok, trivial⟩, ⟨wm74_ok, wm103_ok, trivial⟩, ⟨wm77_ok, wm79_ok, wm81_ok, wm84_ok, wm88_ok, wm90_ok, wm104_ok, wm106_ok, trivial⟩, ⟨wm78_ok, wm80_ok, wm82_ok, wm85_ok, wm89_ok, wm91_ok, wm105_ok, wm107_ok, trivial⟩, ⟨wm83_ok, trivial⟩, ⟨wm86_ok, wm87_ok, wm108_ok, wm109_ok, trivial⟩, trivial⟩
theorem wm110_ok : Good Tryz.prog 69 wm110 := .of (withTab_ok prog_ok prims_ok wtab1_ok) 100000 wm110_c
theorem wm111_ok : Good Tryz.prog 153 wm111 := .of (withTab_ok prog_ok prims_ok wtab1_ok) 100000 wm111_c
theorem wm112_ok : Good Tryz.prog 11 wm112 := .of (withTab_ok prog_ok prims_ok wtab1_ok) 100000 wm112_c
theorem wm113_ok : Good Tryz.prog 69 wm113 := .of (withTab_ok prog_ok prims_ok wtab1_ok) 100000 wm113_c
theorem wm114_ok : Good Tryz.prog 70 wm114 := .of (withTab_ok prog_ok prims_ok wtab1_ok) 100000 wm114_c
theorem wm115_ok : Good Tryz.prog 118 wm115 := .of (withTab_ok prog_ok prims_ok wtab1_ok) 100000 wm115_c
theorem wm116_ok : Good Tryz.prog 153 wm116 := .of (withTab_ok prog_ok prims_ok wtab1_ok) 100000 wm116_c
theorem wm117_ok : Good Tryz.prog 32 wm117 := .of (withTab_ok prog_ok prims_ok wtab1_ok) 100000 wm117_c
theorem wm118_ok : Good Tryz.prog 32 wm118 := .of (withTab_ok prog_ok prims_ok wtab1_ok) 100000 wm118_c
theorem wm119_ok : Good Tryz.prog 32 wm119 := .of (withTab_ok prog_ok prims_ok wtab1_ok) 100000 wm119_c
theorem wm120_ok : Good Tryz.prog 32 wm120 := .of (withTab_ok prog_ok prims_ok wtab1_ok) 100000 wm120_c
theorem wm121_ok : Good Tryz.prog 133 wm121 := .of (withTab_ok prog_ok prims_ok wtab1_ok) 100000 wm121_c
theorem wm122_ok : Good Tryz.prog 133 wm122 := .of (withTab_ok prog_ok prims_ok wtab1_ok) 100000 wm122_c
theorem wm123_ok : Good Tryz.prog 32 wm123 := .of (withTab_ok prog_ok prims_ok wtab1_ok) 100000 wm123_c
theorem wm124_ok : Good Tryz.prog 32 wm124 := .of (withTab_ok prog_ok prims_ok wtab1_ok) 100000 wm124_c
theorem wm125_ok : Good Tryz.prog 69 wm125 := .of (withTab_ok prog_ok prims_ok wtab1_ok) 100000 wm125_c
theorem wm126_ok : Good Tryz.prog 70 wm126 := .of (withTab_ok prog_ok prims_ok wtab1_ok) 100000 wm126_c
theorem wm127_ok : Good Tryz.prog 118 wm127 := .of (withTab_ok prog_ok prims_ok wtab1_ok) 100000 wm127_c
theorem wm128_ok : Good Tryz.prog 32 wm128 := .of (withTab_ok prog_ok prims_ok wtab1_ok) 100000 wm128_c
theorem wm129_ok : Good Tryz.prog 32 wm129 := .of (withTab_ok prog_ok prims_ok wtab1_ok) 100000 wm129_c
theorem wm130_ok : Good Tryz.prog 133 wm130 := .of (withTab_ok prog_ok prims_ok wtab1_ok) 100000 wm130_c
theorem wm131_ok : Good Tryz.prog 133 wm131 := .of (withTab_ok prog_ok prims_ok wtab1_ok) 100000 wm131_c
theorem wtab2_ok : GoodT Tryz.prog wtab2 := ⟨⟨wm0_ok, wm1_ok, wm2_ok, wm3_ok, wm4_ok, wm5_ok, wm6_ok, wm7_ok, wm8_ok, wm9_ok, wm10_ok, wm11_ok, wm12_ok, wm13_ok, wm14_ok, wm15_ok, wm16_ok, wm17_ok, wm18_ok, wm19_ok, wm20_ok, wm21_ok, wm22_ok, wm23_ok, wm24_ok, wm25_ok, wm26_ok, wm27_ok, wm28_ok, wm29_ok, wm30_ok, wm31_ok, wm32_ok, wm33_ok, wm34_ok, wm35_ok, wm36_ok, wm37_ok, wm38_ok, wm39_ok, wm40_ok, wm41_ok, wm58_ok, wm59_ok, wm60_ok, wm61_ok, wm62_ok, wm63_ok, wm64_ok, wm65_ok, wm66_ok, wm67_ok, wm68_ok, wm69_ok, wm70_ok, wm71_ok, wm92_ok, wm93_ok, wm94_ok, wm95_ok, wm96_ok, wm97_ok, wm98_ok, wm99_ok, wm100_ok, trivial⟩, ⟨wm42_ok, wm43_ok, wm44_ok, wm45_ok, wm46_ok, wm47_ok, wm48_ok, wm49_ok, wm50_ok, wm51_ok, wm52_ok, wm53_ok, wm54_ok, wm55_ok, wm56_ok, wm72_ok, wm73_ok, wm75_ok, wm76_ok, wm101_ok, wm102_ok, trivial⟩, ⟨wm57_ok, trivial⟩, ⟨wm74_ok, wm103_ok, wm111_ok, wm116_ok, trivial⟩, ⟨wm77_ok, wm79_ok, wm81_ok, wm84_ok, wm88_ok, wm90_ok, wm104_ok, wm106_ok, trivial⟩, ⟨wm78_ok, wm80_ok, wm82_ok, wm85_ok, wm89_ok, wm91_ok, wm105_ok, wm107_ok, trivial⟩, ⟨wm83_ok, wm117_ok, wm118_ok, wm119_ok, wm120_ok, wm123_ok, wm124_ok, wm128_ok, wm129_ok, trivial⟩, ⟨wm86_ok, wm87_ok, wm108_ok, wm109_ok, trivial⟩, ⟨wm110_ok, wm113_ok, wm125_ok, trivial⟩, ⟨wm112_ok, trivial⟩, ⟨wm114_ok, wm126_ok, trivial⟩, ⟨wm115_ok, wm127_ok, trivial⟩, ⟨wm121_ok, wm122_ok, wm130_ok, wm131_ok, trivial⟩, trivial⟩
theorem wm132_ok : Good Tryz.prog 113 wm132 := .of (withTab_ok prog_ok prims_ok wtab2_ok) 100000 wm132_c
theorem wm133_ok : Good Tryz.prog 118 wm133 := .of (withTab_ok prog_ok prims_ok wtab2_ok) 100000 wm133_c
theorem wm134_ok : Good Tryz.prog 6 wm134 := .of (withTab_ok prog_ok prims_ok wtab2_ok) 100000 wm134_c
theorem wm135_ok : Good Tryz.prog 20 wm135 := .of (withTab_ok prog_ok prims_ok wtab2_ok) 100000 wm135_c
theorem wm136_ok : Good Tryz.prog 189 wm136 := .of (withTab_ok prog_ok prims_ok wtab2_ok) 100000 wm136_c
theorem wm137_ok : Good Tryz.prog 189 wm137 := .of (withTab_ok prog_ok prims_ok wtab2_ok) 100000 wm137_c
theorem wm138_ok : Good Tryz.prog 13 wm138 := .of (withTab_ok prog_ok prims_ok wtab2_ok) 100000 wm138_c
theorem wm139_ok : Good Tryz.prog 6 wm139 := .of (withTab_ok prog_ok prims_ok wtab2_ok) 100000 wm139_c
theorem wm140_ok : Good Tryz.prog 20 wm140 := .of (withTab_ok prog_ok prims_ok wtab2_ok) 100000 wm140_c
theorem wtab3_ok : GoodT Tryz.prog wtab3 := ⟨⟨wm0_ok, wm1_ok, wm2_ok, wm3_ok, wm4_ok, wm5_ok, wm6_ok, wm7_ok, wm8_ok, wm9_ok, wm10_ok, wm11_ok, wm12_ok, wm13_ok, wm14_ok, wm15_ok, wm16_ok, wm17_ok, wm18_ok, wm19_ok, wm20_ok, wm21_ok, wm22_ok, wm23_ok, wm24_ok, wm25_ok, wm26_ok, wm27_ok, wm28_ok, wm29_ok, wm30_ok, wm31_ok, wm32_ok, wm33_ok, wm34_ok, wm35_ok, wm36_ok, wm37_ok, wm38_ok, wm39_ok, wm40_ok, wm41_ok, wm58_ok, wm59_ok, wm60_ok, wm61_ok, wm62_ok, wm63_ok, wm64_ok, wm65_ok, wm66_ok, wm67_ok, wm68_ok, wm69_ok, wm70_ok, wm71_ok, wm92_ok, wm93_ok, wm94_ok, wm95_ok, wm96_ok, wm97_ok, wm98_ok, wm99_ok, wm100_ok, trivial⟩, ⟨wm42_ok, wm43_ok, wm44_ok, wm45_ok, wm46_ok, wm47_ok, wm48_ok, wm49_ok, wm50_ok, wm51_ok, wm52_ok, wm53_ok, wm54_ok, wm55_ok, wm56_ok, wm72_ok, wm73_ok, wm75_ok, wm76_ok, wm101_ok, wm102_ok, trivial⟩, ⟨wm57_ok, trivial⟩, ⟨wm74_ok, wm103_ok, wm111_ok, wm116_ok, trivial⟩, ⟨wm77_ok, wm79_ok, wm81_ok, wm84_ok, wm88_ok, wm90_ok, wm104_ok, wm106_ok, trivial⟩, ⟨wm78_ok, wm80_ok, wm82_ok, wm85_ok, wm89_ok, wm91_ok, wm105_ok, wm107_ok, trivial⟩, ⟨wm83_ok, wm117_ok, wm118_ok, wm119_ok, wm120_ok, wm123_ok, wm124_ok, wm128_ok, wm129_ok, trivial⟩, ⟨wm86_ok, wm87_ok, wm108_ok, wm109_ok, wm136_ok, wm137_ok, trivial⟩, ⟨wm110_ok, wm113_ok, wm125_ok, trivial⟩, ⟨wm112_ok, trivial⟩, ⟨wm114_ok, wm126_ok, trivial⟩, ⟨wm115_ok, wm127_ok, wm133_ok, trivial⟩, ⟨wm121_ok, wm122_ok, wm130_ok, wm131_ok, trivial⟩, ⟨wm132_ok, trivial⟩, ⟨wm134_ok, wm139_ok, trivial⟩, ⟨wm135_ok, wm140_ok, trivial⟩, ⟨wm138_ok, trivial⟩, trivial⟩
theorem wm141_ok : Good Tryz.prog 68 wm141 := .of (withTab_ok prog_ok prims_ok wtab3_ok) 100000 wm141_c
theorem wm142_ok : Good Tryz.prog 13 wm142 := .of (withTab_ok prog_ok prims_ok wtab3_ok) 100000 wm142_c
theorem wm143_ok : Good Tryz.prog 133 wm143 := .of (withTab_ok prog_ok prims_ok wtab3_ok) 100000 wm143_c
theorem wm144_ok : Good Tryz.prog 133 wm144 := .of (withTab_ok prog_ok prims_ok wtab3_ok) 100000 wm144_c
theorem wm145_ok : Good Tryz.prog 4 wm145 := .of (withTab_ok prog_ok prims_ok wtab3_ok) 100000 wm145_c
theorem wtab4_ok : GoodT Tryz.prog wtab4 := ⟨⟨wm0_ok, wm1_ok, wm2_ok, wm3_ok, wm4_ok, wm5_ok, wm6_ok, wm7_ok, wm8_ok, wm9_ok, wm10_ok, wm11_ok, wm12_ok, wm13_ok, wm14_ok, wm15_ok, wm16_ok, wm17_ok, wm18_ok, wm19_ok, wm20_ok, wm21_ok, wm22_ok, wm23_ok, wm24_ok, wm25_ok, wm26_ok, wm27_ok, wm28_ok, wm29_ok, wm30_ok, wm31_ok, wm32_ok, wm33_ok, wm34_ok, wm35_ok, wm36_ok, wm37_ok, wm38_ok, wm39_ok, wm40_ok, wm41_ok, wm58_ok, wm59_ok, wm60_ok, wm61_ok, wm62_ok, wm63_ok, wm64_ok, wm65_ok, wm66_ok, wm67_ok, wm68_ok, wm69_ok, wm70_ok, wm71_ok, wm92_ok, wm93_ok, wm94_ok, wm95_ok, wm96_ok, wm97_ok, wm98_ok, wm99_ok, wm100_ok, trivial⟩, ⟨wm42_ok, wm43_ok, wm44_ok, wm45_ok, wm46_ok, wm47_ok, wm48_ok, wm49_ok, wm50_ok, wm51_ok, wm52_ok, wm53_ok, wm54_ok, wm55_ok, wm56_ok, wm72_ok, wm73_ok, wm75_ok, wm76_ok, wm101_ok, wm102_ok, trivial⟩, ⟨wm57_ok, trivial⟩, ⟨wm74_ok, wm103_ok, wm111_ok, wm116_ok, trivial⟩, ⟨wm77_ok, wm79_ok, wm81_ok, wm84_ok, wm88_ok, wm90_ok, wm104_ok, wm106_ok, trivial⟩, ⟨wm78_ok, wm80_ok, wm82_ok, wm85_ok, wm89_ok, wm91_ok, wm105_ok, wm107_ok, trivial⟩, ⟨wm83_ok, wm117_ok, wm118_ok, wm119_ok, wm120_ok, wm123_ok, wm124_ok, wm128_ok, wm129_ok, trivial⟩, ⟨wm86_ok, wm87_ok, wm108_ok, wm109_ok, wm136_ok, wm137_ok, trivial⟩, ⟨wm110_ok, wm113_ok, wm125_ok, trivial⟩, ⟨wm112_ok, trivial⟩, ⟨wm114_ok, wm126_ok, trivial⟩, ⟨wm115_ok, wm127_ok, wm133_ok, trivial⟩, ⟨wm121_ok, wm122_ok, wm130_ok, wm131_ok, wm143_ok, wm144_ok, trivial⟩, ⟨wm132_ok, trivial⟩, ⟨wm134_ok, wm139_ok, trivial⟩, ⟨wm135_ok, wm140_ok, trivial⟩, ⟨wm138_ok, wm142_ok, trivial⟩, ⟨wm141_ok, trivial⟩, ⟨wm145_ok, trivial⟩, trivial⟩
theorem wm146_ok : Good Tryz.prog 24 wm146 := .of (withTab_ok prog_ok prims_ok wtab4_ok) 100000 wm146_c
theorem wm147_ok : Good Tryz.prog 20 wm147 := .of (withTab_ok prog_ok prims_ok wtab4_ok) 100000 wm147_c
theorem wtab5_ok : GoodT Tryz.prog wtab5 := ⟨⟨wm0_ok, wm1_ok, wm2_ok, wm3_ok, wm4_ok, wm5_ok, wm6_ok, wm7_ok, wm8_ok, wm9_ok, wm10_ok, wm11_ok, wm12_ok, wm13_ok, wm14_ok, wm15_ok, wm16_ok, wm17_ok, wm18_ok, wm19_ok, wm20_ok, wm21_ok, wm22_ok, wm23_ok, wm24_ok, wm25_ok, wm26_ok, wm27_ok, wm28_ok, wm29_ok, wm30_ok, wm31_ok, wm32_ok, wm33_ok, wm34_ok, wm35_ok, wm36_ok, wm37_ok, wm38_ok, wm39_ok, wm40_ok, wm41_ok, wm58_ok, wm59_ok, wm60_ok, wm61_ok, wm62_ok, wm63_ok, wm64_ok, wm65_ok, wm66_ok, wm67_ok, wm68_ok, wm69_ok, wm70_ok, wm71_ok, wm92_ok, wm93_ok, wm94_ok, wm95_ok, wm96_ok, wm97_ok, wm98_ok, wm99_ok, wm100_ok, trivial⟩, ⟨wm42_ok, wm43_ok, wm44_ok, wm45_ok, wm46_ok, wm47_ok, wm48_ok, wm49_ok, wm50_ok, wm51_ok, wm52_ok, wm53_ok, wm54_ok, wm55_ok, wm56_ok, wm72_ok, wm73_ok, wm75_ok, wm76_ok, wm101_ok, wm102_ok, trivial⟩, ⟨wm57_ok, trivial⟩, ⟨wm74_ok, wm103_ok, wm111_ok, wm116_ok, trivial⟩, ⟨wm77_ok, wm79_ok, wm81_ok, wm84_ok, wm88_ok, wm90_ok, wm104_ok, wm106_ok, trivial⟩, ⟨wm78_ok, wm80_ok, wm82_ok, wm85_ok, wm89_ok, wm91_ok, wm105_ok, wm107_ok, trivial⟩, ⟨wm83_ok, wm117_ok, wm118_ok, wm119_ok, wm120_ok, wm123_ok, wm124_ok, wm128_ok, wm129_ok, trivial⟩, ⟨wm86_ok, wm87_ok, wm108_ok, wm109_ok, wm136_ok, wm137_ok, trivial⟩, ⟨wm110_ok, wm113_ok, wm125_ok, trivial⟩, ⟨wm112_ok, trivial⟩, ⟨wm114_ok, wm126_ok, trivial⟩, ⟨wm115_ok, wm127_ok, wm133_ok, trivial⟩, ⟨wm121_ok, wm122_ok, wm130_ok, wm131_ok, wm143_ok, wm144_ok, trivial⟩, ⟨wm132_ok, trivial⟩, ⟨wm134_ok, wm139_ok, trivial⟩, ⟨wm135_ok, wm140_ok, wm147_ok, trivial⟩, ⟨wm138_ok, wm142_ok, trivial⟩, ⟨wm141_ok, trivial⟩, ⟨wm145_ok, trivial⟩, ⟨wm146_ok, trivial⟩, trivial⟩
theorem wm148_ok : Good Tryz.prog 12 wm148 := .of (withTab_ok prog_ok prims_ok wtab5_ok) 100000 wm148_c
theorem wm149_ok : Good Tryz.prog 4 wm149 := .of (withTab_ok prog_ok prims_ok wtab5_ok) 100000 wm149_c
theorem wtab6_ok : GoodT Tryz.prog wtab6 := ⟨⟨wm0_ok, wm1_ok, wm2_ok, wm3_ok, wm4_ok, wm5_ok, wm6_ok, wm7_ok, wm8_ok, wm9_ok, wm10_ok, wm11_ok, wm12_ok, wm13_ok, wm14_ok, wm15_ok, wm16_ok, wm17_ok, wm18_ok, wm19_ok, wm20_ok, wm21_ok, wm22_ok, wm23_ok, wm24_ok, wm25_ok, wm26_ok, wm27_ok, wm28_ok, wm29_ok, wm30_ok, wm31_ok, wm32_ok, wm33_ok, wm34_ok, wm35_ok, wm36_ok, wm37_ok, wm38_ok, wm39_ok, wm40_ok, wm41_ok, wm58_ok, wm59_ok, wm60_ok, wm61_ok, wm62_ok, wm63_ok, wm64_ok, wm65_ok, wm66_ok, wm67_ok, wm68_ok, wm69_ok, wm70_ok, wm71_ok, wm92_ok, wm93_ok, wm94_ok, wm95_ok, wm96_ok, wm97_ok, wm98_ok, wm99_ok, wm100_ok, trivial⟩, ⟨wm42_ok, wm43_ok, wm44_ok, wm45_ok, wm46_ok, wm47_ok, wm48_ok, wm49_ok, wm50_ok, wm51_ok, wm52_ok, wm53_ok, wm54_ok, wm55_ok, wm56_ok, wm72_ok, wm73_ok, wm75_ok, wm76_ok, wm101_ok, wm102_ok, trivial⟩, ⟨wm57_ok, trivial⟩, ⟨wm74_ok, wm103_ok, wm111_ok, wm116_ok, trivial⟩, ⟨wm77_ok, wm79_ok, wm81_ok, wm84_ok, wm88_ok, wm90_ok, wm104_ok, wm106_ok, trivial⟩, ⟨wm78_ok, wm80_ok, wm82_ok, wm85_ok, wm89_ok, wm91_ok, wm105_ok, wm107_ok, trivial⟩, ⟨wm83_ok, wm117_ok, wm118_ok, wm119_ok, wm120_ok, wm123_ok, wm124_ok, wm128_ok, wm129_ok, trivial⟩, ⟨wm86_ok, wm87_ok, wm108_ok, wm109_ok, wm136_ok, wm137_ok, trivial⟩, ⟨wm110_ok, wm113_ok, wm125_ok, trivial⟩, ⟨wm112_ok, trivial⟩, ⟨wm114_ok, wm126_ok, trivial⟩, ⟨wm115_ok, wm127_ok, wm133_ok, trivial⟩, ⟨wm121_ok, wm122_ok, wm130_ok, wm131_ok, wm143_ok, wm144_ok, trivial⟩, ⟨wm132_ok, trivial⟩, ⟨wm134_ok, wm139_ok, trivial⟩, ⟨wm135_ok, wm140_ok, wm147_ok, trivial⟩, ⟨wm138_ok, wm142_ok, trivial⟩, ⟨wm141_ok, trivial⟩, ⟨wm145_ok, wm149_ok, trivial⟩, ⟨wm146_ok, trivial⟩, ⟨wm148_ok, trivial⟩, trivial⟩
theorem wall : PrimsOk Tryz.prog (withTab wtab6 primT) := withTab_ok prog_ok prims_ok wtab6_ok
end Go.Proofs.YtcbcmdjakoobmaaGreatDoor
