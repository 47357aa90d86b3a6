/- Steps towards HandshakeAgreesSaid. -/
import Derived.Test.YtiogdokekibeiaaJKdfSpec
import Derived.Test.YtiogdokekibeiaaJPolVc
import Derived.Test.YtiogdokekibeiaaBase
import Derived.Test.YtiogdokekibeiaaJCodVc
import Derived.Laws.Externs
import GoSem.Extern.MathBitsCarry
/- A step towards HandshakeAgreesSaid: no conditions. -/

namespace Go.Proofs.Ytiogdokekibeiaa
open Go Go.Eng Go.Cod Go.Pol Go.Cur
abbrev extC : List (Nat × SpecF) := [(70, gAdd64)]
noncomputable def CE0 : Env := mkE Try.prog [] [] 6 true
noncomputable def CEp : Env := mkE Try.prog [(69, gMul64)] [] 2 true extC
noncomputable def CEm : Env := mkE Try.prog [(62, gWPlus), (63, gCar)] [] 6 true
noncomputable def CEl : Env := mkE Try.prog [(61, gReadL)] [] 6 true
noncomputable def CEi : Env := mkE Try.prog [(49, gFMul)] [(0, JInv)] 6 true
set_option maxRecDepth 100000 in
theorem vcWPlus (h l x y : UInt64) : (vcFn CEp 100 62 [.agg [.one (.u64 h), .one (.u64 l)], .s (.u64 x), .s (.u64 y)] (.w (.agg [.one (.u64 (u ((l.toNat + D64 * h.toNat + x.toNat * y.toNat) / D64))), .one (.u64 (u (l.toNat + D64 * h.toNat + x.toNat * y.toNat)))]))) =
  (∀ (y_1 : UInt64), y_1 = u (x.toNat * y.toNat / D64) → ∀ (y_2 : UInt64), y_2 = u (x.toNat * y.toNat) → ∀ (y_3 : UInt64), y_3 = y_1 → ∀ (y_4 : UInt64), y_4 = y_2 → (0 : Nat) ≤ (1 : Nat) ∧ ∀ (y_5 : UInt64), y_5 = u (y_4.toNat + l.toNat + (0 : Nat)) → ∀ (y_6 : UInt64), y_6 = u ((y_4.toNat + l.toNat + (0 : Nat)) / D64) → ∀ (y_7 : UInt64), y_7 = y_5 → ∀ (y_8 : UInt64), y_8 = y_6 → y_8.toNat ≤ (1 : Nat) ∧ ∀ (y_9 : UInt64), y_9 = u (y_3.toNat + h.toNat + y_8.toNat) → ∀ (y_10 : UInt64), y_10 = u ((y_3.toNat + h.toNat + y_8.toNat) / D64) → ∀ (y_11 : UInt64), y_11 = y_9 → ∀ (y_12 : UInt64), y_12 = y_11 → ∀ (y_13 : UInt64), y_13 = y_7 → y_12 = u ((l.toNat + D64 * h.toNat + x.toNat * y.toNat) / D64) ∧ y_13 = u (l.toNat + D64 * h.toNat + x.toNat * y.toNat) ∧ True) := by kernel_rfl
set_option maxRecDepth 100000 in
theorem vcFCar (a : List UInt64) : (vcFn CE0 100 63 [.agg [.vec (.n 5) (.u64 a)]] (.w (.agg [.vec (.n 5) (.u64 (carL a))]))) =
  (∀ (y : List UInt64), y = [(a.getD (0 : Nat) (0 : UInt64) &&& UInt64.ofNat (nat_lit 2251799813685247)) + UInt64.ofNat (nat_lit 19) * shr64 (a.getD (4 : Nat) (0 : UInt64)) (51 : Nat), (a.getD (1 : Nat) (0 : UInt64) &&& UInt64.ofNat (nat_lit 2251799813685247)) + shr64 (a.getD (0 : Nat) (0 : UInt64)) (51 : Nat), (a.getD (2 : Nat) (0 : UInt64) &&& UInt64.ofNat (nat_lit 2251799813685247)) + shr64 (a.getD (1 : Nat) (0 : UInt64)) (51 : Nat), (a.getD (3 : Nat) (0 : UInt64) &&& UInt64.ofNat (nat_lit 2251799813685247)) + shr64 (a.getD (2 : Nat) (0 : UInt64)) (51 : Nat), (a.getD (4 : Nat) (0 : UInt64) &&& UInt64.ofNat (nat_lit 2251799813685247)) + shr64 (a.getD (3 : Nat) (0 : UInt64)) (51 : Nat)] → y = carL a ∧ True) := by kernel_rfl
set_option maxRecDepth 100000 in
theorem vcFAdd (a b : List UInt64) : (vcFn CE0 100 47 [.agg [.vec (.n 5) (.u64 a)], .agg [.vec (.n 5) (.u64 b)]] (.w (.agg [.vec (.n 5) (.u64 (addL a b))]))) =
  (∀ (y : List UInt64), y = a.set (0 : Nat) (a.getD (0 : Nat) (0 : UInt64) + b.getD (0 : Nat) (0 : UInt64)) → ∀ (y_1 : List UInt64), y_1 = y.set (1 : Nat) (y.getD (1 : Nat) (0 : UInt64) + b.getD (1 : Nat) (0 : UInt64)) → ∀ (y : List UInt64), y = y_1.set (2 : Nat) (y_1.getD (2 : Nat) (0 : UInt64) + b.getD (2 : Nat) (0 : UInt64)) → ∀ (y_2 : List UInt64), y_2 = y.set (3 : Nat) (y.getD (3 : Nat) (0 : UInt64) + b.getD (3 : Nat) (0 : UInt64)) → ∀ (y : List UInt64), y = y_2.set (4 : Nat) (y_2.getD (4 : Nat) (0 : UInt64) + b.getD (4 : Nat) (0 : UInt64)) → ∀ (y_3 : List UInt64), y_3 = y → y_3 = addL a b ∧ True) := by kernel_rfl
set_option maxRecDepth 100000 in
theorem vcFSub (a b : List UInt64) : (vcFn CE0 100 48 [.agg [.vec (.n 5) (.u64 a)], .agg [.vec (.n 5) (.u64 b)]] (.w (.agg [.vec (.n 5) (.u64 (subL a b))]))) =
  (∀ (y : List UInt64), y = a.set (0 : Nat) (a.getD (0 : Nat) (0 : UInt64) + (UInt64.ofNat (nat_lit 4503599627370458) - b.getD (0 : Nat) (0 : UInt64))) → ∀ (y_1 : List UInt64), y_1 = y.set (1 : Nat) (y.getD (1 : Nat) (0 : UInt64) + (UInt64.ofNat (nat_lit 4503599627370494) - b.getD (1 : Nat) (0 : UInt64))) → ∀ (y : List UInt64), y = y_1.set (2 : Nat) (y_1.getD (2 : Nat) (0 : UInt64) + (UInt64.ofNat (nat_lit 4503599627370494) - b.getD (2 : Nat) (0 : UInt64))) → ∀ (y_2 : List UInt64), y_2 = y.set (3 : Nat) (y.getD (3 : Nat) (0 : UInt64) + (UInt64.ofNat (nat_lit 4503599627370494) - b.getD (3 : Nat) (0 : UInt64))) → ∀ (y : List UInt64), y = y_2.set (4 : Nat) (y_2.getD (4 : Nat) (0 : UInt64) + (UInt64.ofNat (nat_lit 4503599627370494) - b.getD (4 : Nat) (0 : UInt64))) → ∀ (y_3 : List UInt64), y_3 = y → y_3 = subL a b ∧ True) := by kernel_rfl
set_option maxRecDepth 100000 in
theorem vcFMul (a b : List UInt64) : (vcFn CEm 300 49 [.agg [.vec (.n 5) (.u64 a)], .agg [.vec (.n 5) (.u64 b)]] (.w (.agg [.vec (.n 5) (.u64 (mulL a b))]))) =
  (∀ (y : UInt64), y = a.getD (0 : Nat) (0 : UInt64) → ∀ (y_1 : UInt64), y_1 = b.getD (0 : Nat) (0 : UInt64) → ∀ (y_2 : UInt64), y_2 = u (((0 : Nat) + y.toNat * y_1.toNat) / D64) → ∀ (y_3 : UInt64), y_3 = u ((0 : Nat) + y.toNat * y_1.toNat) → ∀ (y_4 : UInt64), y_4 = y_2 → ∀ (y_5 : UInt64), y_5 = y_3 → ∀ (y_6 : UInt64), y_6 = (0 : UInt64) → ∀ (y_7 : UInt64), y_7 = (0 : UInt64) → ∀ (y_8 : UInt64), y_8 = (0 : UInt64) → ∀ (y_9 : UInt64), y_9 = (0 : UInt64) → ∀ (y_10 : UInt64), y_10 = (0 : UInt64) → ∀ (y_11 : UInt64), y_11 = (0 : UInt64) → ∀ (y_12 : UInt64), y_12 = (0 : UInt64) → ∀ (y_13 : UInt64), y_13 = (0 : UInt64) → ∀ (y_14 : UInt64), y_14 = b.getD (1 : Nat) (0 : UInt64) → ∀ (y_15 : UInt64), y_15 = u ((y_7.toNat + D64 * y_6.toNat + y.toNat * y_14.toNat) / D64) → ∀ (y_16 : UInt64), y_16 = u (y_7.toNat + D64 * y_6.toNat + y.toNat * y_14.toNat) → ∀ (y_17 : UInt64), y_17 = y_4 → ∀ (y_18 : UInt64), y_18 = y_5 → ∀ (y_19 : UInt64), y_19 = y_15 → ∀ (y_20 : UInt64), y_20 = y_16 → ∀ (y_21 : UInt64), y_21 = y_8 → ∀ (y_22 : UInt64), y_22 = y_9 → ∀ (y_23 : UInt64), y_23 = y_10 → ∀ (y_24 : UInt64), y_24 = y_11 → ∀ (y_25 : UInt64), y_25 = y_12 → ∀ (y_26 : UInt64), y_26 = y_13 → ∀ (y_27 : UInt64), y_27 = b.getD (2 : Nat) (0 : UInt64) → ∀ (y_28 : UInt64), y_28 = u ((y_22.toNat + D64 * y_21.toNat + y.toNat * y_27.toNat) / D64) → ∀ (y_29 : UInt64), y_29 = u (y_22.toNat + D64 * y_21.toNat + y.toNat * y_27.toNat) → ∀ (y_30 : UInt64), y_30 = y_17 → ∀ (y_31 : UInt64), y_31 = y_18 → ∀ (y_32 : UInt64), y_32 = y_19 → ∀ (y_33 : UInt64), y_33 = y_20 → ∀ (y_34 : UInt64), y_34 = y_28 → ∀ (y_35 : UInt64), y_35 = y_29 → ∀ (y_36 : UInt64), y_36 = y_23 → ∀ (y_37 : UInt64), y_37 = y_24 → ∀ (y_38 : UInt64), y_38 = y_25 → ∀ (y_39 : UInt64), y_39 = y_26 → ∀ (y_40 : UInt64), y_40 = b.getD (3 : Nat) (0 : UInt64) → ∀ (y_41 : UInt64), y_41 = u ((y_37.toNat + D64 * y_36.toNat + y.toNat * y_40.toNat) / D64) → ∀ (y_42 : UInt64), y_42 = u (y_37.toNat + D64 * y_36.toNat + y.toNat * y_40.toNat) → ∀ (y_43 : UInt64), y_43 = y_30 → ∀ (y_44 : UInt64), y_44 = y_31 → ∀ (y_45 : UInt64), y_45 = y_32 → ∀ (y_46 : UInt64), y_46 = y_33 → ∀ (y_47 : UInt64), y_47 = y_34 → ∀ (y_48 : UInt64), y_48 = y_35 → ∀ (y_49 : UInt64), y_49 = y_41 → ∀ (y_50 : UInt64), y_50 = y_42 → ∀ (y_51 : UInt64), y_51 = y_38 → ∀ (y_52 : UInt64), y_52 = y_39 → ∀ (y_53 : UInt64), y_53 = b.getD (4 : Nat) (0 : UInt64) → ∀ (y_54 : UInt64), y_54 = u ((y_52.toNat + D64 * y_51.toNat + y.toNat * y_53.toNat) / D64) → ∀ (y_55 : UInt64), y_55 = u (y_52.toNat + D64 * y_51.toNat + y.toNat * y_53.toNat) → ∀ (y : UInt64), y = y_43 → ∀ (y_56 : UInt64), y_56 = y_44 → ∀ (y_57 : UInt64), y_57 = y_45 → ∀ (y_58 : UInt64), y_58 = y_46 → ∀ (y_59 : UInt64), y_59 = y_47 → ∀ (y_60 : UInt64), y_60 = y_48 → ∀ (y_61 : UInt64), y_61 = y_49 → ∀ (y_62 : UInt64), y_62 = y_50 → ∀ (y_63 : UInt64), y_63 = y_54 → ∀ (y_64 : UInt64), y_64 = y_55 → ∀ (y_65 : UInt64), y_65 = a.getD (1 : Nat) (0 : UInt64) → ∀ (y_66 : UInt64), y_66 = b.getD (0 : Nat) (0 : UInt64) → ∀ (y_67 : UInt64), y_67 = u ((y_58.toNat + D64 * y_57.toNat + y_65.toNat * y_66.toNat) / D64) → ∀ (y_68 : UInt64), y_68 = u (y_58.toNat + D64 * y_57.toNat + y_65.toNat * y_66.toNat) → ∀ (y_69 : UInt64), y_69 = y → ∀ (y : UInt64), y = y_56 → ∀ (y_70 : UInt64), y_70 = y_67 → ∀ (y_71 : UInt64), y_71 = y_68 → ∀ (y_72 : UInt64), y_72 = y_59 → ∀ (y_73 : UInt64), y_73 = y_60 → ∀ (y_74 : UInt64), y_74 = y_61 → ∀ (y_75 : UInt64), y_75 = y_62 → ∀ (y_76 : UInt64), y_76 = y_63 → ∀ (y_77 : UInt64), y_77 = y_64 → ∀ (y_78 : UInt64), y_78 = b.getD (1 : Nat) (0 : UInt64) → ∀ (y_79 : UInt64), y_79 = u ((y_73.toNat + D64 * y_72.toNat + y_65.toNat * y_78.toNat) / D64) → ∀ (y_80 : UInt64), y_80 = u (y_73.toNat + D64 * y_72.toNat + y_65.toNat * y_78.toNat) → ∀ (y_81 : UInt64), y_81 = y_69 → ∀ (y_82 : UInt64), y_82 = y → ∀ (y : UInt64), y = y_70 → ∀ (y_83 : UInt64), y_83 = y_71 → ∀ (y_84 : UInt64), y_84 = y_79 → ∀ (y_85 : UInt64), y_85 = y_80 → ∀ (y_86 : UInt64), y_86 = y_74 → ∀ (y_87 : UInt64), y_87 = y_75 → ∀ (y_88 : UInt64), y_88 = y_76 → ∀ (y_89 : UInt64), y_89 = y_77 → ∀ (y_90 : UInt64), y_90 = b.getD (2 : Nat) (0 : UInt64) → ∀ (y_91 : UInt64), y_91 = u ((y_87.toNat + D64 * y_86.toNat + y_65.toNat * y_90.toNat) / D64) → ∀ (y_92 : UInt64), y_92 = u (y_87.toNat + D64 * y_86.toNat + y_65.toNat * y_90.toNat) → ∀ (y_93 : UInt64), y_93 = y_81 → ∀ (y_94 : UInt64), y_94 = y_82 → ∀ (y_95 : UInt64), y_95 = y → ∀ (y : UInt64), y = y_83 → ∀ (y_96 : UInt64), y_96 = y_84 → ∀ (y_97 : UInt64), y_97 = y_85 → ∀ (y_98 : UInt64), y_98 = y_91 → ∀ (y_99 : UInt64), y_99 = y_92 → ∀ (y_100 : UInt64), y_100 = y_88 → ∀ (y_101 : UInt64), y_101 = y_89 → ∀ (y_102 : UInt64), y_102 = b.getD (3 : Nat) (0 : UInt64) → ∀ (y_103 : UInt64), y_103 = u ((y_101.toNat + D64 * y_100.toNat + y_65.toNat * y_102.toNat) / D64) → ∀ (y_104 : UInt64), y_104 = u (y_101.toNat + D64 * y_100.toNat + y_65.toNat * y_102.toNat) → ∀ (y_105 : UInt64), y_105 = y_93 → ∀ (y_106 : UInt64), y_106 = y_94 → ∀ (y_107 : UInt64), y_107 = y_95 → ∀ (y_108 : UInt64), y_108 = y → ∀ (y : UInt64), y = y_96 → ∀ (y_109 : UInt64), y_109 = y_97 → ∀ (y_110 : UInt64), y_110 = y_98 → ∀ (y_111 : UInt64), y_111 = y_99 → ∀ (y_112 : UInt64), y_112 = y_103 → ∀ (y_113 : UInt64), y_113 = y_104 → ∀ (y_114 : UInt64), y_114 = b.getD (4 : Nat) (0 : UInt64) → ∀ (y_115 : UInt64), y_115 = u ((y_106.toNat + D64 * y_105.toNat + (UInt64.ofNat (nat_lit 19) * y_65).toNat * y_114.toNat) / D64) → ∀ (y_116 : UInt64), y_116 = u (y_106.toNat + D64 * y_105.toNat + (UInt64.ofNat (nat_lit 19) * y_65).toNat * y_114.toNat) → ∀ (y_117 : UInt64), y_117 = y_115 → ∀ (y_118 : UInt64), y_118 = y_116 → ∀ (y_119 : UInt64), y_119 = y_107 → ∀ (y_120 : UInt64), y_120 = y_108 → ∀ (y_121 : UInt64), y_121 = y → ∀ (y : UInt64), y = y_109 → ∀ (y_122 : UInt64), y_122 = y_110 → ∀ (y_123 : UInt64), y_123 = y_111 → ∀ (y_124 : UInt64), y_124 = y_112 → ∀ (y_125 : UInt64), y_125 = y_113 → ∀ (y_126 : UInt64), y_126 = a.getD (2 : Nat) (0 : UInt64) → ∀ (y_127 : UInt64), y_127 = b.getD (0 : Nat) (0 : UInt64) → ∀ (y_128 : UInt64), y_128 = u ((y.toNat + D64 * y_121.toNat + y_126.toNat * y_127.toNat) / D64) → ∀ (y_129 : UInt64), y_129 = u (y.toNat + D64 * y_121.toNat + y_126.toNat * y_127.toNat) → ∀ (y : UInt64), y = y_117 → ∀ (y_130 : UInt64), y_130 = y_118 → ∀ (y_131 : UInt64), y_131 = y_119 → ∀ (y_132 : UInt64), y_132 = y_120 → ∀ (y_133 : UInt64), y_133 = y_128 → ∀ (y_134 : UInt64), y_134 = y_129 → ∀ (y_135 : UInt64), y_135 = y_122 → ∀ (y_136 : UInt64), y_136 = y_123 → ∀ (y_137 : UInt64), y_137 = y_124 → ∀ (y_138 : UInt64), y_138 = y_125 → ∀ (y_139 : UInt64), y_139 = b.getD (1 : Nat) (0 : UInt64) → ∀ (y_140 : UInt64), y_140 = u ((y_136.toNat + D64 * y_135.toNat + y_126.toNat * y_139.toNat) / D64) → ∀ (y_141 : UInt64), y_141 = u (y_136.toNat + D64 * y_135.toNat + y_126.toNat * y_139.toNat) → ∀ (y_142 : UInt64), y_142 = y → ∀ (y : UInt64), y = y_130 → ∀ (y_143 : UInt64), y_143 = y_131 → ∀ (y_144 : UInt64), y_144 = y_132 → ∀ (y_145 : UInt64), y_145 = y_133 → ∀ (y_146 : UInt64), y_146 = y_134 → ∀ (y_147 : UInt64), y_147 = y_140 → ∀ (y_148 : UInt64), y_148 = y_141 → ∀ (y_149 : UInt64), y_149 = y_137 → ∀ (y_150 : UInt64), y_150 = y_138 → ∀ (y_151 : UInt64), y_151 = b.getD (2 : Nat) (0 : UInt64) → ∀ (y_152 : UInt64), y_152 = u ((y_150.toNat + D64 * y_149.toNat + y_126.toNat * y_151.toNat) / D64) → ∀ (y_153 : UInt64), y_153 = u (y_150.toNat + D64 * y_149.toNat + y_126.toNat * y_151.toNat) → ∀ (y_154 : UInt64), y_154 = y_142 → ∀ (y_155 : UInt64), y_155 = y → ∀ (y : UInt64), y = y_143 → ∀ (y_156 : UInt64), y_156 = y_144 → ∀ (y_157 : UInt64), y_157 = y_145 → ∀ (y_158 : UInt64), y_158 = y_146 → ∀ (y_159 : UInt64), y_159 = y_147 → ∀ (y_160 : UInt64), y_160 = y_148 → ∀ (y_161 : UInt64), y_161 = y_152 → ∀ (y_162 : UInt64), y_162 = y_153 → ∀ (y_163 : UInt64), y_163 = b.getD (3 : Nat) (0 : UInt64) → ∀ (y_164 : UInt64), y_164 = u ((y_155.toNat + D64 * y_154.toNat + (UInt64.ofNat (nat_lit 19) * y_126).toNat * y_163.toNat) / D64) → ∀ (y_165 : UInt64), y_165 = u (y_155.toNat + D64 * y_154.toNat + (UInt64.ofNat (nat_lit 19) * y_126).toNat * y_163.toNat) → ∀ (y_166 : UInt64), y_166 = y_164 → ∀ (y_167 : UInt64), y_167 = y_165 → ∀ (y_168 : UInt64), y_168 = y → ∀ (y : UInt64), y = y_156 → ∀ (y_169 : UInt64), y_169 = y_157 → ∀ (y_170 : UInt64), y_170 = y_158 → ∀ (y_171 : UInt64), y_171 = y_159 → ∀ (y_172 : UInt64), y_172 = y_160 → ∀ (y_173 : UInt64), y_173 = y_161 → ∀ (y_174 : UInt64), y_174 = y_162 → ∀ (y_175 : UInt64), y_175 = b.getD (4 : Nat) (0 : UInt64) → ∀ (y_176 : UInt64), y_176 = u ((y.toNat + D64 * y_168.toNat + (UInt64.ofNat (nat_lit 19) * y_126).toNat * y_175.toNat) / D64) → ∀ (y_177 : UInt64), y_177 = u (y.toNat + D64 * y_168.toNat + (UInt64.ofNat (nat_lit 19) * y_126).toNat * y_175.toNat) → ∀ (y : UInt64), y = y_166 → ∀ (y_178 : UInt64), y_178 = y_167 → ∀ (y_179 : UInt64), y_179 = y_176 → ∀ (y_180 : UInt64), y_180 = y_177 → ∀ (y_181 : UInt64), y_181 = y_169 → ∀ (y_182 : UInt64), y_182 = y_170 → ∀ (y_183 : UInt64), y_183 = y_171 → ∀ (y_184 : UInt64), y_184 = y_172 → ∀ (y_185 : UInt64), y_185 = y_173 → ∀ (y_186 : UInt64), y_186 = y_174 → ∀ (y_187 : UInt64), y_187 = a.getD (3 : Nat) (0 : UInt64) → ∀ (y_188 : UInt64), y_188 = b.getD (0 : Nat) (0 : UInt64) → ∀ (y_189 : UInt64), y_189 = u ((y_184.toNat + D64 * y_183.toNat + y_187.toNat * y_188.toNat) / D64) → ∀ (y_190 : UInt64), y_190 = u (y_184.toNat + D64 * y_183.toNat + y_187.toNat * y_188.toNat) → ∀ (y_191 : UInt64), y_191 = y → ∀ (y : UInt64), y = y_178 → ∀ (y_192 : UInt64), y_192 = y_179 → ∀ (y_193 : UInt64), y_193 = y_180 → ∀ (y_194 : UInt64), y_194 = y_181 → ∀ (y_195 : UInt64), y_195 = y_182 → ∀ (y_196 : UInt64), y_196 = y_189 → ∀ (y_197 : UInt64), y_197 = y_190 → ∀ (y_198 : UInt64), y_198 = y_185 → ∀ (y_199 : UInt64), y_199 = y_186 → ∀ (y_200 : UInt64), y_200 = b.getD (1 : Nat) (0 : UInt64) → ∀ (y_201 : UInt64), y_201 = u ((y_199.toNat + D64 * y_198.toNat + y_187.toNat * y_200.toNat) / D64) → ∀ (y_202 : UInt64), y_202 = u (y_199.toNat + D64 * y_198.toNat + y_187.toNat * y_200.toNat) → ∀ (y_203 : UInt64), y_203 = y_191 → ∀ (y_204 : UInt64), y_204 = y → ∀ (y : UInt64), y = y_192 → ∀ (y_205 : UInt64), y_205 = y_193 → ∀ (y_206 : UInt64), y_206 = y_194 → ∀ (y_207 : UInt64), y_207 = y_195 → ∀ (y_208 : UInt64), y_208 = y_196 → ∀ (y_209 : UInt64), y_209 = y_197 → ∀ (y_210 : UInt64), y_210 = y_201 → ∀ (y_211 : UInt64), y_211 = y_202 → ∀ (y_212 : UInt64), y_212 = b.getD (2 : Nat) (0 : UInt64) → ∀ (y_213 : UInt64), y_213 = u ((y_204.toNat + D64 * y_203.toNat + (UInt64.ofNat (nat_lit 19) * y_187).toNat * y_212.toNat) / D64) → ∀ (y_214 : UInt64), y_214 = u (y_204.toNat + D64 * y_203.toNat + (UInt64.ofNat (nat_lit 19) * y_187).toNat * y_212.toNat) → ∀ (y_215 : UInt64), y_215 = y_213 → ∀ (y_216 : UInt64), y_216 = y_214 → ∀ (y_217 : UInt64), y_217 = y → ∀ (y : UInt64), y = y_205 → ∀ (y_218 : UInt64), y_218 = y_206 → ∀ (y_219 : UInt64), y_219 = y_207 → ∀ (y_220 : UInt64), y_220 = y_208 → ∀ (y_221 : UInt64), y_221 = y_209 → ∀ (y_222 : UInt64), y_222 = y_210 → ∀ (y_223 : UInt64), y_223 = y_211 → ∀ (y_224 : UInt64), y_224 = b.getD (3 : Nat) (0 : UInt64) → ∀ (y_225 : UInt64), y_225 = u ((y.toNat + D64 * y_217.toNat + (UInt64.ofNat (nat_lit 19) * y_187).toNat * y_224.toNat) / D64) → ∀ (y_226 : UInt64), y_226 = u (y.toNat + D64 * y_217.toNat + (UInt64.ofNat (nat_lit 19) * y_187).toNat * y_224.toNat) → ∀ (y : UInt64), y = y_215 → ∀ (y_227 : UInt64), y_227 = y_216 → ∀ (y_228 : UInt64), y_228 = y_225 → ∀ (y_229 : UInt64), y_229 = y_226 → ∀ (y_230 : UInt64), y_230 = y_218 → ∀ (y_231 : UInt64), y_231 = y_219 → ∀ (y_232 : UInt64), y_232 = y_220 → ∀ (y_233 : UInt64), y_233 = y_221 → ∀ (y_234 : UInt64), y_234 = y_222 → ∀ (y_235 : UInt64), y_235 = y_223 → ∀ (y_236 : UInt64), y_236 = b.getD (4 : Nat) (0 : UInt64) → ∀ (y_237 : UInt64), y_237 = u ((y_231.toNat + D64 * y_230.toNat + (UInt64.ofNat (nat_lit 19) * y_187).toNat * y_236.toNat) / D64) → ∀ (y_238 : UInt64), y_238 = u (y_231.toNat + D64 * y_230.toNat + (UInt64.ofNat (nat_lit 19) * y_187).toNat * y_236.toNat) → ∀ (y_239 : UInt64), y_239 = y → ∀ (y : UInt64), y = y_227 → ∀ (y_240 : UInt64), y_240 = y_228 → ∀ (y_241 : UInt64), y_241 = y_229 → ∀ (y_242 : UInt64), y_242 = y_237 → ∀ (y_243 : UInt64), y_243 = y_238 → ∀ (y_244 : UInt64), y_244 = y_232 → ∀ (y_245 : UInt64), y_245 = y_233 → ∀ (y_246 : UInt64), y_246 = y_234 → ∀ (y_247 : UInt64), y_247 = y_235 → ∀ (y_248 : UInt64), y_248 = a.getD (4 : Nat) (0 : UInt64) → ∀ (y_249 : UInt64), y_249 = b.getD (0 : Nat) (0 : UInt64) → ∀ (y_250 : UInt64), y_250 = u ((y_247.toNat + D64 * y_246.toNat + y_248.toNat * y_249.toNat) / D64) → ∀ (y_251 : UInt64), y_251 = u (y_247.toNat + D64 * y_246.toNat + y_248.toNat * y_249.toNat) → ∀ (y_252 : UInt64), y_252 = y_239 → ∀ (y_253 : UInt64), y_253 = y → ∀ (y : UInt64), y = y_240 → ∀ (y_254 : UInt64), y_254 = y_241 → ∀ (y_255 : UInt64), y_255 = y_242 → ∀ (y_256 : UInt64), y_256 = y_243 → ∀ (y_257 : UInt64), y_257 = y_244 → ∀ (y_258 : UInt64), y_258 = y_245 → ∀ (y_259 : UInt64), y_259 = y_250 → ∀ (y_260 : UInt64), y_260 = y_251 → ∀ (y_261 : UInt64), y_261 = b.getD (1 : Nat) (0 : UInt64) → ∀ (y_262 : UInt64), y_262 = u ((y_253.toNat + D64 * y_252.toNat + (UInt64.ofNat (nat_lit 19) * y_248).toNat * y_261.toNat) / D64) → ∀ (y_263 : UInt64), y_263 = u (y_253.toNat + D64 * y_252.toNat + (UInt64.ofNat (nat_lit 19) * y_248).toNat * y_261.toNat) → ∀ (y_264 : UInt64), y_264 = y_262 → ∀ (y_265 : UInt64), y_265 = y_263 → ∀ (y_266 : UInt64), y_266 = y → ∀ (y : UInt64), y = y_254 → ∀ (y_267 : UInt64), y_267 = y_255 → ∀ (y_268 : UInt64), y_268 = y_256 → ∀ (y_269 : UInt64), y_269 = y_257 → ∀ (y_270 : UInt64), y_270 = y_258 → ∀ (y_271 : UInt64), y_271 = y_259 → ∀ (y_272 : UInt64), y_272 = y_260 → ∀ (y_273 : UInt64), y_273 = b.getD (2 : Nat) (0 : UInt64) → ∀ (y_274 : UInt64), y_274 = u ((y.toNat + D64 * y_266.toNat + (UInt64.ofNat (nat_lit 19) * y_248).toNat * y_273.toNat) / D64) → ∀ (y_275 : UInt64), y_275 = u (y.toNat + D64 * y_266.toNat + (UInt64.ofNat (nat_lit 19) * y_248).toNat * y_273.toNat) → ∀ (y : UInt64), y = y_264 → ∀ (y_276 : UInt64), y_276 = y_265 → ∀ (y_277 : UInt64), y_277 = y_274 → ∀ (y_278 : UInt64), y_278 = y_275 → ∀ (y_279 : UInt64), y_279 = y_267 → ∀ (y_280 : UInt64), y_280 = y_268 → ∀ (y_281 : UInt64), y_281 = y_269 → ∀ (y_282 : UInt64), y_282 = y_270 → ∀ (y_283 : UInt64), y_283 = y_271 → ∀ (y_284 : UInt64), y_284 = y_272 → ∀ (y_285 : UInt64), y_285 = b.getD (3 : Nat) (0 : UInt64) → ∀ (y_286 : UInt64), y_286 = u ((y_280.toNat + D64 * y_279.toNat + (UInt64.ofNat (nat_lit 19) * y_248).toNat * y_285.toNat) / D64) → ∀ (y_287 : UInt64), y_287 = u (y_280.toNat + D64 * y_279.toNat + (UInt64.ofNat (nat_lit 19) * y_248).toNat * y_285.toNat) → ∀ (y_288 : UInt64), y_288 = y → ∀ (y : UInt64), y = y_276 → ∀ (y_289 : UInt64), y_289 = y_277 → ∀ (y_290 : UInt64), y_290 = y_278 → ∀ (y_291 : UInt64), y_291 = y_286 → ∀ (y_292 : UInt64), y_292 = y_287 → ∀ (y_293 : UInt64), y_293 = y_281 → ∀ (y_294 : UInt64), y_294 = y_282 → ∀ (y_295 : UInt64), y_295 = y_283 → ∀ (y_296 : UInt64), y_296 = y_284 → ∀ (y_297 : UInt64), y_297 = b.getD (4 : Nat) (0 : UInt64) → ∀ (y_298 : UInt64), y_298 = u ((y_294.toNat + D64 * y_293.toNat + (UInt64.ofNat (nat_lit 19) * y_248).toNat * y_297.toNat) / D64) → ∀ (y_299 : UInt64), y_299 = u (y_294.toNat + D64 * y_293.toNat + (UInt64.ofNat (nat_lit 19) * y_248).toNat * y_297.toNat) → ∀ (y_300 : UInt64), y_300 = y_288 → ∀ (y_301 : UInt64), y_301 = y → ∀ (y : UInt64), y = y_289 → ∀ (y_302 : UInt64), y_302 = y_290 → ∀ (y_303 : UInt64), y_303 = y_291 → ∀ (y_304 : UInt64), y_304 = y_292 → ∀ (y_305 : UInt64), y_305 = y_298 → ∀ (y_306 : UInt64), y_306 = y_299 → ∀ (y_307 : UInt64), y_307 = y_295 → ∀ (y_308 : UInt64), y_308 = y_296 → ∀ (y_309 : UInt64), y_309 = y_300 → ∀ (y_310 : UInt64), y_310 = y_301 → ∀ (y_311 : List UInt64), y_311 = [y_310 &&& UInt64.ofNat (nat_lit 2251799813685247), (0 : UInt64), (0 : UInt64), (0 : UInt64), (0 : UInt64)] → ∀ (y_312 : List UInt64), y_312 = [shl64 y_309 (13 : Nat) ||| shr64 y_310 (51 : Nat), (0 : UInt64), (0 : UInt64), (0 : UInt64), (0 : UInt64)] → ∀ (y_313 : UInt64), y_313 = y → ∀ (y : UInt64), y = y_302 → ∀ (y_314 : List UInt64), y_314 = y_311.set (1 : Nat) (y &&& UInt64.ofNat (nat_lit 2251799813685247)) → ∀ (y_315 : List UInt64), y_315 = y_312.set (1 : Nat) (shl64 y_313 (13 : Nat) ||| shr64 y (51 : Nat)) → ∀ (y : UInt64), y = y_303 → ∀ (y_316 : UInt64), y_316 = y_304 → ∀ (y_317 : List UInt64), y_317 = y_314.set (2 : Nat) (y_316 &&& UInt64.ofNat (nat_lit 2251799813685247)) → ∀ (y_318 : List UInt64), y_318 = y_315.set (2 : Nat) (shl64 y (13 : Nat) ||| shr64 y_316 (51 : Nat)) → ∀ (y : UInt64), y = y_305 → ∀ (y_319 : UInt64), y_319 = y_306 → ∀ (y_320 : List UInt64), y_320 = y_317.set (3 : Nat) (y_319 &&& UInt64.ofNat (nat_lit 2251799813685247)) → ∀ (y_321 : List UInt64), y_321 = y_318.set (3 : Nat) (shl64 y (13 : Nat) ||| shr64 y_319 (51 : Nat)) → ∀ (y : UInt64), y = y_307 → ∀ (y_322 : UInt64), y_322 = y_308 → ∀ (y_323 : List UInt64), y_323 = y_320.set (4 : Nat) (y_322 &&& UInt64.ofNat (nat_lit 2251799813685247)) → ∀ (y_324 : List UInt64), y_324 = y_321.set (4 : Nat) (shl64 y (13 : Nat) ||| shr64 y_322 (51 : Nat)) → ∀ (y : List UInt64), y = carL [y_323.getD (0 : Nat) (0 : UInt64) + UInt64.ofNat (nat_lit 19) * y_324.getD (4 : Nat) (0 : UInt64), y_323.getD (1 : Nat) (0 : UInt64) + y_324.getD (0 : Nat) (0 : UInt64), y_323.getD (2 : Nat) (0 : UInt64) + y_324.getD (1 : Nat) (0 : UInt64), y_323.getD (3 : Nat) (0 : UInt64) + y_324.getD (2 : Nat) (0 : UInt64), y_323.getD (4 : Nat) (0 : UInt64) + y_324.getD (3 : Nat) (0 : UInt64)] → ∀ (y_325 : List UInt64), y_325 = y → y_325 = mulL a b ∧ True) := by kernel_rfl
set_option maxRecDepth 100000 in
theorem vcFLoad (k : List UInt8) : (vcFn CEl 200 46 [.agg [.vec (.n 32) (.u8 k)]] (.w (.agg [.vec (.n 5) (.u64 (loadL k))]))) =
  ((8 : Nat) ≤ (32 : Nat) ∧ (List.take (8 : Nat) k).length = (List.take (8 : Nat) k).length ∧ (List.take (8 : Nat) k).length < (4611686018427387904 : Nat) ∧ ∀ (y : UInt64), y = readL (List.take (8 : Nat) k) → ∀ (y_1 : List UInt64), y_1 = [y, (0 : UInt64), (0 : UInt64), (0 : UInt64)] → (16 : Nat) ≤ (32 : Nat) ∧ (List.take (8 : Nat) (dropL k (8 : Nat))).length = (List.take (8 : Nat) (dropL k (8 : Nat))).length ∧ (List.take (8 : Nat) (dropL k (8 : Nat))).length < (4611686018427387904 : Nat) ∧ ∀ (y : UInt64), y = readL (List.take (8 : Nat) (dropL k (8 : Nat))) → ∀ (y_2 : List UInt64), y_2 = y_1.set (1 : Nat) y → (24 : Nat) ≤ (32 : Nat) ∧ (List.take (8 : Nat) (dropL k (16 : Nat))).length = (List.take (8 : Nat) (dropL k (16 : Nat))).length ∧ (List.take (8 : Nat) (dropL k (16 : Nat))).length < (4611686018427387904 : Nat) ∧ ∀ (y : UInt64), y = readL (List.take (8 : Nat) (dropL k (16 : Nat))) → ∀ (y_3 : List UInt64), y_3 = y_2.set (2 : Nat) y → (32 : Nat) ≤ (32 : Nat) ∧ (List.take (8 : Nat) (dropL k (24 : Nat))).length = (List.take (8 : Nat) (dropL k (24 : Nat))).length ∧ (List.take (8 : Nat) (dropL k (24 : Nat))).length < (4611686018427387904 : Nat) ∧ ∀ (y : UInt64), y = readL (List.take (8 : Nat) (dropL k (24 : Nat))) → ∀ (y_4 : List UInt64), y_4 = y_3.set (3 : Nat) y → ∀ (y : List UInt64), y = [y_4.getD (0 : Nat) (0 : UInt64) &&& UInt64.ofNat (nat_lit 2251799813685247), (shr64 (y_4.getD (0 : Nat) (0 : UInt64)) (51 : Nat) ||| shl64 (y_4.getD (1 : Nat) (0 : UInt64)) (13 : Nat)) &&& UInt64.ofNat (nat_lit 2251799813685247), (shr64 (y_4.getD (1 : Nat) (0 : UInt64)) (38 : Nat) ||| shl64 (y_4.getD (2 : Nat) (0 : UInt64)) (26 : Nat)) &&& UInt64.ofNat (nat_lit 2251799813685247), (shr64 (y_4.getD (2 : Nat) (0 : UInt64)) (25 : Nat) ||| shl64 (y_4.getD (3 : Nat) (0 : UInt64)) (39 : Nat)) &&& UInt64.ofNat (nat_lit 2251799813685247), shr64 (y_4.getD (3 : Nat) (0 : UInt64)) (12 : Nat) &&& UInt64.ofNat (nat_lit 2251799813685247)] → y = loadL k ∧ True) := by kernel_rfl
set_option maxRecDepth 100000 in
theorem vcFInv (a : List UInt64) : (vcFn CEi 200 50 [.agg [.vec (.n 5) (.u64 a)]] (.w (.agg [.vec (.n 5) (.u64 (invN a 255))]))) =
  (∀ (y : List UInt64), y = [UInt64.ofNat (nat_lit 1), (0 : UInt64), (0 : UInt64), (0 : UInt64), (0 : UInt64)] → (∃ (x : Nat), x ≤ (255 : Nat) ∧ Int.ofNat (254 : Nat) = (254 : Int) - (↑x : Int) ∧ a = a ∧ List.replicate (5 : Nat) (0 : UInt64) = List.replicate (5 : Nat) (0 : UInt64) ∧ y = invN a x ∧ True) ∧ ∀ (x : Nat), x ≤ (255 : Nat) → (decide (Int.ofNat (0 : Nat) ≤ (254 : Int) - (↑x : Int)) = true → ∀ (y : List UInt64), y = mulL (invN a x) (invN a x) → ∀ (y_1 : List UInt64), y_1 = y → (decide ((254 : Int) - (↑x : Int) ≠ Int.ofNat (2 : Nat)) = true → (decide ((254 : Int) - (↑x : Int) ≠ Int.ofNat (4 : Nat)) = true → ∀ (y : List UInt64), y = mulL y_1 a → ∀ (y_2 : List UInt64), y_2 = y → InI ((254 : Int) - (↑x : Int) - Int.ofNat (1 : Nat)) ∧ ∀ (y : Int), y = (254 : Int) - (↑x : Int) - Int.ofNat (1 : Nat) → ∃ (y_3 : Nat), y_3 ≤ (255 : Nat) ∧ (255 : Nat) - y_3 < (255 : Nat) - x ∧ y = (254 : Int) - (↑y_3 : Int) ∧ a = a ∧ List.replicate (5 : Nat) (0 : UInt64) = List.replicate (5 : Nat) (0 : UInt64) ∧ y_2 = invN a y_3 ∧ True) ∧ (decide ((254 : Int) - (↑x : Int) ≠ Int.ofNat (4 : Nat)) = false → InI ((254 : Int) - (↑x : Int) - Int.ofNat (1 : Nat)) ∧ ∀ (y : Int), y = (254 : Int) - (↑x : Int) - Int.ofNat (1 : Nat) → ∃ (y_2 : Nat), y_2 ≤ (255 : Nat) ∧ (255 : Nat) - y_2 < (255 : Nat) - x ∧ y = (254 : Int) - (↑y_2 : Int) ∧ a = a ∧ List.replicate (5 : Nat) (0 : UInt64) = List.replicate (5 : Nat) (0 : UInt64) ∧ y_1 = invN a y_2 ∧ True)) ∧ (decide ((254 : Int) - (↑x : Int) ≠ Int.ofNat (2 : Nat)) = false → InI ((254 : Int) - (↑x : Int) - Int.ofNat (1 : Nat)) ∧ ∀ (y : Int), y = (254 : Int) - (↑x : Int) - Int.ofNat (1 : Nat) → ∃ (y_2 : Nat), y_2 ≤ (255 : Nat) ∧ (255 : Nat) - y_2 < (255 : Nat) - x ∧ y = (254 : Int) - (↑y_2 : Int) ∧ a = a ∧ List.replicate (5 : Nat) (0 : UInt64) = List.replicate (5 : Nat) (0 : UInt64) ∧ y_1 = invN a y_2 ∧ True)) ∧ (decide (Int.ofNat (0 : Nat) ≤ (254 : Int) - (↑x : Int)) = false → ∀ (y : List UInt64), y = invN a x → y = invN a (255 : Nat) ∧ True)) := by kernel_rfl
set_option maxRecDepth 100000 in
theorem vcClamp (k : List UInt8) : (vcFn CE0 100 45 [.agg [.vec (.n 32) (.u8 k)]] (.w (.agg [.vec (.n 32) (.u8 (clampL k))]))) =
  (∀ (y : List UInt8), y = k.set (0 : Nat) (k.getD (0 : Nat) (0 : UInt8) &&& UInt8.ofNat (nat_lit 248)) → ∀ (y_1 : List UInt8), y_1 = y.set (31 : Nat) (y.getD (31 : Nat) (0 : UInt8) &&& UInt8.ofNat (nat_lit 127) ||| UInt8.ofNat (nat_lit 64)) → ∀ (y : List UInt8), y = y_1 → y = clampL k ∧ True) := by kernel_rfl
set_option maxRecDepth 100000 in
theorem vcClampR (k : List UInt8) : (vcFn CE0 100 21 [.agg [.vec (.n 32) (.u8 k)]] (.w (.agg [.vec (.n 32) (.u8 (clampL k))]))) =
  (∀ (y : List UInt8), y = k.set (0 : Nat) (k.getD (0 : Nat) (0 : UInt8) &&& UInt8.ofNat (nat_lit 248)) → ∀ (y_1 : List UInt8), y_1 = y.set (31 : Nat) (y.getD (31 : Nat) (0 : UInt8) &&& UInt8.ofNat (nat_lit 127) ||| UInt8.ofNat (nat_lit 64)) → ∀ (y : List UInt8), y = y_1 → y = clampL k ∧ True) := by kernel_rfl
end Go.Proofs.Ytiogdokekibeiaa

/- A step towards HandshakeAgreesSaid: no conditions. -/

namespace Go.Proofs.Ytiogdokekibeiaa
open Go Go.Eng Go.Cod Go.Pol Go.Cur
noncomputable def CEb : Env := mkE Try.prog [(63, gCar), (60, gLittleN)] [] 6 true
noncomputable def CEu : Env := mkE Try.prog [(45, gClamp), (46, gLoad), (47, gAdd), (48, gSub), (49, gFMul), (50, gInv), (51, gBytes)] [(0, JMul)] 6 true
set_option maxRecDepth 100000 in
theorem vcFBytes (a : List UInt64) : (vcFn CEb 300 51 [.agg [.vec (.n 5) (.u64 a)]] (.w (.agg [.vec (.n 32) (.u8 (bytesL a))]))) =
  (∀ (y : List UInt64), y = carL a → ∀ (y_1 : List UInt64), y_1 = y → ∀ (y : UInt64), y = shr64 (y_1.getD (0 : Nat) (0 : UInt64) + UInt64.ofNat (nat_lit 19)) (51 : Nat) → ∀ (y_2 : UInt64), y_2 = shr64 (y_1.getD (1 : Nat) (0 : UInt64) + y) (51 : Nat) → ∀ (y : UInt64), y = shr64 (y_1.getD (2 : Nat) (0 : UInt64) + y_2) (51 : Nat) → ∀ (y_3 : UInt64), y_3 = shr64 (y_1.getD (3 : Nat) (0 : UInt64) + y) (51 : Nat) → ∀ (y : UInt64), y = shr64 (y_1.getD (4 : Nat) (0 : UInt64) + y_3) (51 : Nat) → ∀ (y_4 : List UInt64), y_4 = y_1.set (0 : Nat) (y_1.getD (0 : Nat) (0 : UInt64) + UInt64.ofNat (nat_lit 19) * y) → ∀ (y : List UInt64), y = y_4.set (1 : Nat) (y_4.getD (1 : Nat) (0 : UInt64) + shr64 (y_4.getD (0 : Nat) (0 : UInt64)) (51 : Nat)) → ∀ (y_5 : List UInt64), y_5 = y.set (0 : Nat) (y.getD (0 : Nat) (0 : UInt64) &&& UInt64.ofNat (nat_lit 2251799813685247)) → ∀ (y : List UInt64), y = y_5.set (2 : Nat) (y_5.getD (2 : Nat) (0 : UInt64) + shr64 (y_5.getD (1 : Nat) (0 : UInt64)) (51 : Nat)) → ∀ (y_6 : List UInt64), y_6 = y.set (1 : Nat) (y.getD (1 : Nat) (0 : UInt64) &&& UInt64.ofNat (nat_lit 2251799813685247)) → ∀ (y : List UInt64), y = y_6.set (3 : Nat) (y_6.getD (3 : Nat) (0 : UInt64) + shr64 (y_6.getD (2 : Nat) (0 : UInt64)) (51 : Nat)) → ∀ (y_7 : List UInt64), y_7 = y.set (2 : Nat) (y.getD (2 : Nat) (0 : UInt64) &&& UInt64.ofNat (nat_lit 2251799813685247)) → ∀ (y : List UInt64), y = y_7.set (4 : Nat) (y_7.getD (4 : Nat) (0 : UInt64) + shr64 (y_7.getD (3 : Nat) (0 : UInt64)) (51 : Nat)) → ∀ (y_8 : List UInt64), y_8 = y.set (3 : Nat) (y.getD (3 : Nat) (0 : UInt64) &&& UInt64.ofNat (nat_lit 2251799813685247)) → ∀ (y : List UInt64), y = y_8.set (4 : Nat) (y_8.getD (4 : Nat) (0 : UInt64) &&& UInt64.ofNat (nat_lit 2251799813685247)) → ∀ (y_9 : List UInt64), y_9 = [y.getD (0 : Nat) (0 : UInt64) ||| shl64 (y.getD (1 : Nat) (0 : UInt64)) (51 : Nat), shr64 (y.getD (1 : Nat) (0 : UInt64)) (13 : Nat) ||| shl64 (y.getD (2 : Nat) (0 : UInt64)) (38 : Nat), shr64 (y.getD (2 : Nat) (0 : UInt64)) (26 : Nat) ||| shl64 (y.getD (3 : Nat) (0 : UInt64)) (25 : Nat), shr64 (y.getD (3 : Nat) (0 : UInt64)) (39 : Nat) ||| shl64 (y.getD (4 : Nat) (0 : UInt64)) (12 : Nat)] → ∀ (y : UInt64), y = y_9.getD (0 : Nat) (0 : UInt64) → ∀ (y_10 : List UInt8), y_10 = [(shr64 y (0 : Nat)).toUInt8, (shr64 y (8 : Nat)).toUInt8, (shr64 y (16 : Nat)).toUInt8, (shr64 y (24 : Nat)).toUInt8, (shr64 y (32 : Nat)).toUInt8, (shr64 y (40 : Nat)).toUInt8, (shr64 y (48 : Nat)).toUInt8, (shr64 y (56 : Nat)).toUInt8] → (8 : Nat) ≤ (32 : Nat) ∧ ∀ (y : List UInt8), y = over (List.replicate (32 : Nat) (0 : UInt8)) (0 : Nat) y_10 → ∀ (y_11 : UInt64), y_11 = y_9.getD (1 : Nat) (0 : UInt64) → ∀ (y_12 : List UInt8), y_12 = [(shr64 y_11 (0 : Nat)).toUInt8, (shr64 y_11 (8 : Nat)).toUInt8, (shr64 y_11 (16 : Nat)).toUInt8, (shr64 y_11 (24 : Nat)).toUInt8, (shr64 y_11 (32 : Nat)).toUInt8, (shr64 y_11 (40 : Nat)).toUInt8, (shr64 y_11 (48 : Nat)).toUInt8, (shr64 y_11 (56 : Nat)).toUInt8] → (16 : Nat) ≤ (32 : Nat) ∧ ∀ (y_13 : List UInt8), y_13 = over y (8 : Nat) y_12 → ∀ (y : UInt64), y = y_9.getD (2 : Nat) (0 : UInt64) → ∀ (y_14 : List UInt8), y_14 = [(shr64 y (0 : Nat)).toUInt8, (shr64 y (8 : Nat)).toUInt8, (shr64 y (16 : Nat)).toUInt8, (shr64 y (24 : Nat)).toUInt8, (shr64 y (32 : Nat)).toUInt8, (shr64 y (40 : Nat)).toUInt8, (shr64 y (48 : Nat)).toUInt8, (shr64 y (56 : Nat)).toUInt8] → (24 : Nat) ≤ (32 : Nat) ∧ ∀ (y : List UInt8), y = over y_13 (16 : Nat) y_14 → ∀ (y_15 : UInt64), y_15 = y_9.getD (3 : Nat) (0 : UInt64) → ∀ (y_16 : List UInt8), y_16 = [(shr64 y_15 (0 : Nat)).toUInt8, (shr64 y_15 (8 : Nat)).toUInt8, (shr64 y_15 (16 : Nat)).toUInt8, (shr64 y_15 (24 : Nat)).toUInt8, (shr64 y_15 (32 : Nat)).toUInt8, (shr64 y_15 (40 : Nat)).toUInt8, (shr64 y_15 (48 : Nat)).toUInt8, (shr64 y_15 (56 : Nat)).toUInt8] → (32 : Nat) ≤ (32 : Nat) ∧ ∀ (y_17 : List UInt8), y_17 = over y (24 : Nat) y_16 → ∀ (y : List UInt8), y = y_17 → y = bytesL a ∧ True) := by kernel_rfl
set_option maxRecDepth 100000 in
theorem vcMulP (s p : List UInt8) : (vcFn CEu 300 30 [.agg [.vec (.n 32) (.u8 s)], .agg [.vec (.n 32) (.u8 p)]] (.w (.agg [.vec (.n 32) (.u8 (keyL s p))]))) =
  (∀ (y : List UInt8), y = clampL s → ∀ (y_1 : List UInt8), y_1 = y → ∀ (y : List UInt64), y = loadL p → ∀ (y_2 : List UInt64), y_2 = y → ∀ (y : List UInt64), y = [UInt64.ofNat (nat_lit 1), (0 : UInt64), (0 : UInt64), (0 : UInt64), (0 : UInt64)] → ∀ (y_3 : List UInt64), y_3 = [(0 : UInt64), (0 : UInt64), (0 : UInt64), (0 : UInt64), (0 : UInt64)] → ∀ (y_4 : List UInt64), y_4 = y_2 → ∀ (y_5 : List UInt64), y_5 = [UInt64.ofNat (nat_lit 1), (0 : UInt64), (0 : UInt64), (0 : UInt64), (0 : UInt64)] → ∀ (y_6 : UInt8), y_6 = UInt8.ofNat (nat_lit 0) → (∃ (x : Nat), x ≤ (255 : Nat) ∧ y_6 = (ladL y_1 y_2 x).last ∧ Int.ofNat (254 : Nat) = (254 : Int) - (↑x : Int) ∧ s = s ∧ p = p ∧ List.replicate (32 : Nat) (0 : UInt8) = List.replicate (32 : Nat) (0 : UInt8) ∧ y_1 = y_1 ∧ y_2 = y_2 ∧ y = (ladL y_1 y_2 x).x2 ∧ y_3 = (ladL y_1 y_2 x).z2 ∧ y_4 = (ladL y_1 y_2 x).x3 ∧ y_5 = (ladL y_1 y_2 x).z3 ∧ True) ∧ ∀ (x : Nat), x ≤ (255 : Nat) → (decide (Int.ofNat (0 : Nat) ≤ (254 : Int) - (↑x : Int)) = true → (Int.ofNat (8 : Nat) ≠ (0 : Int) ∧ InI (((254 : Int) - (↑x : Int)).tdiv (Int.ofNat (8 : Nat)))) ∧ ((0 : Int) ≤ ((254 : Int) - (↑x : Int)).tdiv (Int.ofNat (8 : Nat)) ∧ ((254 : Int) - (↑x : Int)).tdiv (Int.ofNat (8 : Nat)) < (↑(32 : Nat) : Int)) ∧ (((254 : Int) - (↑x : Int)).tdiv (Int.ofNat (8 : Nat))).toNat < (32 : Nat) ∧ Int.ofNat (8 : Nat) ≠ (0 : Int) ∧ (0 : Int) ≤ ((254 : Int) - (↑x : Int)).tmod (Int.ofNat (8 : Nat)) ∧ ∀ (y : UInt8), y = shr8 (y_1.getD (((254 : Int) - (↑x : Int)).tdiv (Int.ofNat (8 : Nat))).toNat (0 : UInt8)) (((254 : Int) - (↑x : Int)).tmod (Int.ofNat (8 : Nat))).toNat &&& UInt8.ofNat (nat_lit 1) → ((y != (ladL y_1 y_2 x).last) = true → ∀ (y_7 : List UInt64), y_7 = (ladL y_1 y_2 x).x3 → ∀ (y_8 : List UInt64), y_8 = (ladL y_1 y_2 x).x2 → ∀ (y_9 : List UInt64), y_9 = (ladL y_1 y_2 x).z3 → ∀ (y_10 : List UInt64), y_10 = (ladL y_1 y_2 x).z2 → ∀ (y_11 : UInt8), y_11 = y → ∀ (y : List UInt64), y = addL y_7 y_9 → ∀ (y_12 : List UInt64), y_12 = subL y_7 y_9 → ∀ (y_13 : List UInt64), y_13 = y → ∀ (y : List UInt64), y = y_12 → ∀ (y_14 : List UInt64), y_14 = mulL y_13 y_13 → ∀ (y_15 : List UInt64), y_15 = mulL y y → ∀ (y_16 : List UInt64), y_16 = y_14 → ∀ (y_17 : List UInt64), y_17 = y_15 → ∀ (y_18 : List UInt64), y_18 = subL y_16 y_17 → ∀ (y_19 : List UInt64), y_19 = y_18 → ∀ (y_20 : List UInt64), y_20 = subL y_8 y_10 → ∀ (y_21 : List UInt64), y_21 = mulL y_20 y_13 → ∀ (y_22 : List UInt64), y_22 = addL y_8 y_10 → ∀ (y_23 : List UInt64), y_23 = mulL y_22 y → ∀ (y : List UInt64), y = y_21 → ∀ (y_24 : List UInt64), y_24 = y_23 → ∀ (y_25 : List UInt64), y_25 = addL y y_24 → ∀ (y_26 : List UInt64), y_26 = subL y y_24 → ∀ (y : List UInt64), y = y_25 → ∀ (y_27 : List UInt64), y_27 = y_26 → ∀ (y_28 : List UInt64), y_28 = mulL y y → ∀ (y : List UInt64), y = mulL y_27 y_27 → ∀ (y_29 : List UInt64), y_29 = mulL y y_2 → ∀ (y : List UInt64), y = y_28 → ∀ (y_30 : List UInt64), y_30 = y_29 → ∀ (y_31 : List UInt64), y_31 = mulL y_16 y_17 → ∀ (y_32 : List UInt64), y_32 = mulL y_19 [UInt64.ofNat (nat_lit 121665), (0 : UInt64), (0 : UInt64), (0 : UInt64), (0 : UInt64)] → ∀ (y_33 : List UInt64), y_33 = addL y_32 y_16 → ∀ (y_34 : List UInt64), y_34 = mulL y_33 y_19 → ∀ (y_35 : List UInt64), y_35 = y_31 → ∀ (y_36 : List UInt64), y_36 = y_34 → InI ((254 : Int) - (↑x : Int) - Int.ofNat (1 : Nat)) ∧ ∀ (y_37 : Int), y_37 = (254 : Int) - (↑x : Int) - Int.ofNat (1 : Nat) → ∃ (y_38 : Nat), y_38 ≤ (255 : Nat) ∧ (255 : Nat) - y_38 < (255 : Nat) - x ∧ y_11 = (ladL y_1 y_2 y_38).last ∧ y_37 = (254 : Int) - (↑y_38 : Int) ∧ s = s ∧ p = p ∧ List.replicate (32 : Nat) (0 : UInt8) = List.replicate (32 : Nat) (0 : UInt8) ∧ y_1 = y_1 ∧ y_2 = y_2 ∧ y_35 = (ladL y_1 y_2 y_38).x2 ∧ y_36 = (ladL y_1 y_2 y_38).z2 ∧ y = (ladL y_1 y_2 y_38).x3 ∧ y_30 = (ladL y_1 y_2 y_38).z3 ∧ True) ∧ ((y != (ladL y_1 y_2 x).last) = false → ∀ (y_7 : UInt8), y_7 = y → ∀ (y : List UInt64), y = addL (ladL y_1 y_2 x).x2 (ladL y_1 y_2 x).z2 → ∀ (y_8 : List UInt64), y_8 = subL (ladL y_1 y_2 x).x2 (ladL y_1 y_2 x).z2 → ∀ (y_9 : List UInt64), y_9 = y → ∀ (y : List UInt64), y = y_8 → ∀ (y_10 : List UInt64), y_10 = mulL y_9 y_9 → ∀ (y_11 : List UInt64), y_11 = mulL y y → ∀ (y_12 : List UInt64), y_12 = y_10 → ∀ (y_13 : List UInt64), y_13 = y_11 → ∀ (y_14 : List UInt64), y_14 = subL y_12 y_13 → ∀ (y_15 : List UInt64), y_15 = y_14 → ∀ (y_16 : List UInt64), y_16 = subL (ladL y_1 y_2 x).x3 (ladL y_1 y_2 x).z3 → ∀ (y_17 : List UInt64), y_17 = mulL y_16 y_9 → ∀ (y_18 : List UInt64), y_18 = addL (ladL y_1 y_2 x).x3 (ladL y_1 y_2 x).z3 → ∀ (y_19 : List UInt64), y_19 = mulL y_18 y → ∀ (y : List UInt64), y = y_17 → ∀ (y_20 : List UInt64), y_20 = y_19 → ∀ (y_21 : List UInt64), y_21 = addL y y_20 → ∀ (y_22 : List UInt64), y_22 = subL y y_20 → ∀ (y : List UInt64), y = y_21 → ∀ (y_23 : List UInt64), y_23 = y_22 → ∀ (y_24 : List UInt64), y_24 = mulL y y → ∀ (y : List UInt64), y = mulL y_23 y_23 → ∀ (y_25 : List UInt64), y_25 = mulL y y_2 → ∀ (y : List UInt64), y = y_24 → ∀ (y_26 : List UInt64), y_26 = y_25 → ∀ (y_27 : List UInt64), y_27 = mulL y_12 y_13 → ∀ (y_28 : List UInt64), y_28 = mulL y_15 [UInt64.ofNat (nat_lit 121665), (0 : UInt64), (0 : UInt64), (0 : UInt64), (0 : UInt64)] → ∀ (y_29 : List UInt64), y_29 = addL y_28 y_12 → ∀ (y_30 : List UInt64), y_30 = mulL y_29 y_15 → ∀ (y_31 : List UInt64), y_31 = y_27 → ∀ (y_32 : List UInt64), y_32 = y_30 → InI ((254 : Int) - (↑x : Int) - Int.ofNat (1 : Nat)) ∧ ∀ (y_33 : Int), y_33 = (254 : Int) - (↑x : Int) - Int.ofNat (1 : Nat) → ∃ (y_34 : Nat), y_34 ≤ (255 : Nat) ∧ (255 : Nat) - y_34 < (255 : Nat) - x ∧ y_7 = (ladL y_1 y_2 y_34).last ∧ y_33 = (254 : Int) - (↑y_34 : Int) ∧ s = s ∧ p = p ∧ List.replicate (32 : Nat) (0 : UInt8) = List.replicate (32 : Nat) (0 : UInt8) ∧ y_1 = y_1 ∧ y_2 = y_2 ∧ y_31 = (ladL y_1 y_2 y_34).x2 ∧ y_32 = (ladL y_1 y_2 y_34).z2 ∧ y = (ladL y_1 y_2 y_34).x3 ∧ y_26 = (ladL y_1 y_2 y_34).z3 ∧ True)) ∧ (decide (Int.ofNat (0 : Nat) ≤ (254 : Int) - (↑x : Int)) = false → (((ladL y_1 y_2 x).last == UInt8.ofNat (nat_lit 1)) = true → ∀ (y : List UInt64), y = (ladL y_1 y_2 x).x3 → ∀ (y_7 : List UInt64), y_7 = (ladL y_1 y_2 x).z3 → ∀ (y_8 : List UInt64), y_8 = invN y_7 (255 : Nat) → ∀ (y_9 : List UInt64), y_9 = mulL y y_8 → ∀ (y : List UInt8), y = bytesL y_9 → ∀ (y_10 : List UInt8), y_10 = y → y_10 = keyL s p ∧ True) ∧ (((ladL y_1 y_2 x).last == UInt8.ofNat (nat_lit 1)) = false → ∀ (y : List UInt64), y = invN (ladL y_1 y_2 x).z2 (255 : Nat) → ∀ (y_7 : List UInt64), y_7 = mulL (ladL y_1 y_2 x).x2 y → ∀ (y : List UInt8), y = bytesL y_7 → ∀ (y_8 : List UInt8), y_8 = y → y_8 = keyL s p ∧ True))) := by kernel_rfl
end Go.Proofs.Ytiogdokekibeiaa

/- A step towards HandshakeAgreesSaid: no conditions. -/

namespace Go.Proofs.Ytiogdokekibeiaa
open Go Go.Eng Go.Cod Go.Pol Go.Cur
theorem consXC : ConsX Try.prog extC := ⟨extAdd64, trivial⟩
theorem eokXC {gs : List (Nat × SpecF)} {ls : List (Nat × (St → Option Inv))} {r : Nat} {b : Bool} (h : Cons Try.prog gs) : EnvOk (mkE Try.prog gs ls r b extC) := mkEX_ok namesOk mx h consXC
theorem len5 {l : List UInt64} (h : l.length = 5) : ∃ a b c d e, l = [a, b, c, d, e] := by
  match l, h with
  | [a, b, c, d, e], _ => exact ⟨a, b, c, d, e, rfl⟩
set_option maxRecDepth 100000 in
theorem conWPlus : Con Try.prog 62 gWPlus := con_of_vcs fun args ps res h hp => by
  unfold gWPlus at h
  split at h <;> cases h
  rename_i a b x y
  refine ⟨CEp, 100, rfl, eokXC (gs := [(69, gMul64)]) ⟨conMul64, trivial⟩, ?_⟩
  rw [vcWPlus a b x y]
  simp only [forall_eq]
  have ha := lt64 a
  have hb := lt64 b
  have hx := lt64 x
  have hy := lt64 y
  have hxy : x.toNat * y.toNat < 18446744073709551616 * 18446744073709551616 := Nat.mul_lt_mul'' hx hy
  generalize x.toNat * y.toNat = p at *
  simp only [u_nat, D64]
  refine ⟨by decide, by omega, u_eq ?_, u_eq ?_, trivial⟩ <;> simp only [u_nat, D64] <;> omega
set_option maxRecDepth 100000 in
theorem conFCar : Con Try.prog 63 gCar := con_of_vcl fun args ps res h hp hlen => by
  unfold gCar at h
  split at h <;> cases h
  rename_i a
  refine ⟨CE0, 100, rfl, eok (gs := []) trivial, ?_⟩
  rw [vcFCar]
  simp only [forall_eq]
  exact ⟨rfl, trivial⟩
set_option maxRecDepth 100000 in
theorem conFAdd : Con Try.prog 47 gAdd := con_of_vcl fun args ps res h hp hlen => by
  unfold gAdd at h
  split at h <;> cases h
  rename_i a b
  obtain ⟨a0, a1, a2, a3, a4, rfl⟩ := len5 (l := a) hlen.1.1
  refine ⟨CE0, 100, rfl, eok (gs := []) trivial, ?_⟩
  rw [vcFAdd]
  simp only [forall_eq, List.getD_cons_zero, List.getD_cons_succ, List.set_cons_zero, List.set_cons_succ, addL, g, and_self]
set_option maxRecDepth 100000 in
theorem conFSub : Con Try.prog 48 gSub := con_of_vcl fun args ps res h hp hlen => by
  unfold gSub at h
  split at h <;> cases h
  rename_i a b
  obtain ⟨a0, a1, a2, a3, a4, rfl⟩ := len5 (l := a) hlen.1.1
  refine ⟨CE0, 100, rfl, eok (gs := []) trivial, ?_⟩
  rw [vcFSub]
  simp only [forall_eq, List.getD_cons_zero, List.getD_cons_succ, List.set_cons_zero, List.set_cons_succ, subL, g, and_self]
set_option maxRecDepth 100000 in
theorem conFLoad : Con Try.prog 46 gLoad := con_of_vcl fun args ps res h hp hlen => by
  unfold gLoad at h
  split at h <;> cases h
  rename_i k
  have h1 : k.length = 32 := hlen.1.1
  refine ⟨CEl, 200, rfl, eok (gs := [(61, gReadL)]) ⟨conReadL, trivial⟩, ?_⟩
  rw [vcFLoad]
  simp only [forall_eq]
  refine ⟨by decide, trivial, by rw [List.length_take]; omega, by decide, trivial, by rw [List.length_take]; omega, by decide, trivial, by rw [List.length_take]; omega, by decide, trivial, by rw [List.length_take]; omega, rfl, trivial⟩
theorem wp_lo (n p : Nat) : (u n).toNat + (D64 * (u (n / D64)).toNat + p) = n % D128 + p := by
  rw [u_nat, u_nat]; simp only [D64, D128]; omega
theorem wp_hi (n p : Nat) : u ((n % D128 + p) / D64) = u ((n + p) / D64) := by
  apply u_eq; rw [u_nat]; simp only [D64, D128]; omega
theorem wp_l2 (n p : Nat) : u (n % D128 + p) = u (n + p) := by
  apply u_eq; rw [u_nat]; simp only [D64, D128]; omega
set_option maxRecDepth 100000 in
set_option maxHeartbeats 4000000 in
theorem conFMul : Con Try.prog 49 gFMul := con_of_vcl fun args ps res h hp hlen => by
  unfold gFMul at h
  split at h <;> cases h
  rename_i a b
  refine ⟨CEm, 300, rfl, eok (gs := [(62, gWPlus), (63, gCar)]) ⟨conWPlus, conFCar, trivial⟩, ?_⟩
  rw [vcFMul]
  simp only [forall_eq, show (0 : UInt64).toNat = 0 from rfl, Nat.mul_zero, Nat.zero_add, Nat.add_assoc, wp_lo, wp_hi, wp_l2, List.getD_cons_zero, List.getD_cons_succ, List.set_cons_zero, List.set_cons_succ, mulL, s0, s1, s2, s3, s4, pr, pn, lo51, hi51, g]
  exact ⟨trivial, trivial⟩
set_option maxRecDepth 100000 in
theorem conClamp : Con Try.prog 45 gClamp := con_of_vcl fun args ps res h hp hlen => by
  unfold gClamp at h
  split at h <;> cases h
  rename_i k
  refine ⟨CE0, 100, rfl, eok (gs := []) trivial, ?_⟩
  rw [vcClamp]
  simp only [forall_eq]
  refine ⟨?_, trivial⟩
  unfold clampL
  have e : ∀ x : UInt8, (k.set 0 x).getD 31 0 = k.getD 31 0 := fun x => by
    rw [List.getD_eq_getElem?_getD, List.getElem?_set_ne (by decide), ← List.getD_eq_getElem?_getD]
  rw [e]
set_option maxRecDepth 100000 in
theorem conClampR : Con Try.prog 21 gClamp := con_of_vcl fun args ps res h hp hlen => by
  unfold gClamp at h
  split at h <;> cases h
  rename_i k
  refine ⟨CE0, 100, rfl, eok (gs := []) trivial, ?_⟩
  rw [vcClampR]
  simp only [forall_eq]
  refine ⟨?_, trivial⟩
  unfold clampL
  have e : ∀ x : UInt8, (k.set 0 x).getD 31 0 = k.getD 31 0 := fun x => by
    rw [List.getD_eq_getElem?_getD, List.getElem?_set_ne (by decide), ← List.getD_eq_getElem?_getD]
  rw [e]
theorem inv_step {a : List UInt64} {x : Nat} {b : List UInt64} (hx : x ≤ 254) (hb : b = invN a (x + 1)) :
    InI ((254 : Int) - (x : Int) - ((1 : Nat) : Int)) ∧ ∃ y : Nat, y ≤ 255 ∧ 255 - y < 255 - x ∧ (254 : Int) - (x : Int) - ((1 : Nat) : Int) = (254 : Int) - (y : Int) ∧ True ∧ True ∧ b = invN a y ∧ True :=
  ⟨by unfold InI; omega, x + 1, by omega, by omega, by omega, trivial, trivial, hb, trivial⟩
set_option maxRecDepth 100000 in
theorem conFInv : Con Try.prog 50 gInv := con_of_vcl fun args ps res h hp hlen => by
  unfold gInv at h
  split at h <;> cases h
  rename_i a
  refine ⟨CEi, 200, rfl, eok (gs := [(49, gFMul)]) ⟨conFMul, trivial⟩, ?_⟩
  rw [vcFInv]
  simp only [forall_eq, io]
  refine ⟨⟨0, by decide, by decide, trivial, trivial, rfl, trivial⟩, fun x hx => ⟨fun h => ?_, fun h => ?_⟩⟩
  · have h := of_decide_eq_true h
    have hx2 : x ≤ 254 := by omega
    refine ⟨fun h2 => ⟨fun h4 => inv_step hx2 ?_, fun h4 => inv_step hx2 ?_⟩, fun h2 => inv_step hx2 ?_⟩
    · have h2 := of_decide_eq_true h2
      have h4 := of_decide_eq_true h4
      show _ = if _ then _ else _
      rw [if_neg (by omega)]
    · have h4 := of_decide_eq_false h4
      show _ = if _ then _ else _
      rw [if_pos (by omega)]
    · have h2 := of_decide_eq_false h2
      show _ = if _ then _ else _
      rw [if_pos (by omega)]
  · have h := of_decide_eq_false h
    have : x = 255 := by omega
    subst this
    exact ⟨rfl, trivial⟩
end Go.Proofs.Ytiogdokekibeiaa

/- A step towards HandshakeAgreesSaid: no conditions. -/

namespace Go.Proofs.Ytiogdokekibeiaa
open Go Go.Eng Go.Cod Go.Pol Go.Cur
theorem cover (b : List UInt8) (h : b.length = 8) : over (List.replicate 32 0) 0 b = b ++ List.replicate 24 0 := by
  unfold over; rw [h]; simp
theorem cover2 (a b : List UInt8) (n : Nat) (ha : a.length = n) (m : Nat) (h : b.length = 8) : over (a ++ List.replicate (8 + m) 0) n b = (a ++ b) ++ List.replicate m 0 := by
  subst ha
  unfold over
  rw [h, List.take_left', List.drop_append, List.drop_of_length_le (by omega)]
  simp
  rfl
def le8 (x : UInt64) : List UInt8 := [(shr64 x 0).toUInt8, (shr64 x 8).toUInt8, (shr64 x 16).toUInt8, (shr64 x 24).toUInt8, (shr64 x 32).toUInt8, (shr64 x 40).toUInt8, (shr64 x 48).toUInt8, (shr64 x 56).toUInt8]
theorem le8_eq (x : UInt64) : [(shr64 x 0).toUInt8, (shr64 x 8).toUInt8, (shr64 x 16).toUInt8, (shr64 x 24).toUInt8, (shr64 x 32).toUInt8, (shr64 x 40).toUInt8, (shr64 x 48).toUInt8, (shr64 x 56).toUInt8] = littleL x 8 := rfl
theorem bytes_over (w0 w1 w2 w3 : UInt64) : over (over (over (over (List.replicate 32 0) 0 (littleL w0 8)) 8 (littleL w1 8)) 16 (littleL w2 8)) 24 (littleL w3 8) = bytesW [w0, w1, w2, w3] := by
  have l := fun x => littleL_len x 8
  rw [cover _ (l _), show (24 : Nat) = 8 + 16 from rfl, cover2 _ _ 8 (l _) 16 (l _), show (16 : Nat) = 8 + 8 from rfl, cover2 _ _ (8 + 8) (by rw [List.length_append, l, l]) 8 (l _), show List.replicate 8 (0 : UInt8) = List.replicate (8 + 0) 0 from rfl, cover2 _ _ (8 + (8 + 8)) (by rw [List.length_append, List.length_append, l, l, l]) 0 (l _)]
  unfold bytesW
  simp [g]
theorem carL_five (a : List UInt64) : ∃ c0 c1 c2 c3 c4, carL a = [c0, c1, c2, c3, c4] := ⟨_, _, _, _, _, rfl⟩
set_option maxRecDepth 100000 in
set_option maxHeartbeats 4000000 in
theorem conFBytes : Con Try.prog 51 gBytes := con_of_vcl fun args ps res h hp hlen => by
  unfold gBytes at h
  split at h <;> cases h
  rename_i a
  refine ⟨CEb, 300, rfl, eok (gs := [(63, gCar), (60, gLittleN)]) ⟨conFCar, conLittleN4, trivial⟩, ?_⟩
  rw [vcFBytes]
  unfold bytesL
  obtain ⟨c0, c1, c2, c3, c4, hc⟩ := carL_five a
  rw [hc]
  simp only [forall_eq, List.getD_cons_zero, List.getD_cons_succ, List.set_cons_zero, List.set_cons_succ, le8_eq]
  refine ⟨by decide, by decide, by decide, by decide, ?_, trivial⟩
  rw [bytes_over]
  simp only [wordsL, mk, b4, b3, b2, b1, b0, qL, g, List.getD_cons_zero, List.getD_cons_succ]
theorem bit_eq {n : List UInt8} {x : Nat} (hx : x ≤ 254) : shr8 (n.getD (((254 : Int) - (x : Int)).tdiv ((8 : Nat) : Int)).toNat 0) (((254 : Int) - (x : Int)).tmod ((8 : Nat) : Int)).toNat &&& UInt8.ofNat 1 = bitL n (254 - x) := by
  rw [show (254 : Int) - (x : Int) = ((254 - x : Nat) : Int) by omega]
  rfl
theorem mul_step {n : List UInt8} {x1 : List UInt64} {x : Nat} {a b c d : List UInt64} {k : UInt8} (hx : x ≤ 254) (h : (⟨a, b, c, d, k⟩ : Lad) = ladL n x1 (x + 1)) (p q r : Prop) (hp : p) (hq : q) (hr : r) :
    InI ((254 : Int) - (x : Int) - ((1 : Nat) : Int)) ∧ ∃ y : Nat, y ≤ 255 ∧ 255 - y < 255 - x ∧ k = (ladL n x1 y).last ∧ (254 : Int) - (x : Int) - ((1 : Nat) : Int) = (254 : Int) - (y : Int) ∧ p ∧ q ∧ r ∧ True ∧ True ∧ a = (ladL n x1 y).x2 ∧ b = (ladL n x1 y).z2 ∧ c = (ladL n x1 y).x3 ∧ d = (ladL n x1 y).z3 ∧ True :=
  ⟨by unfold InI; omega, x + 1, by omega, by omega, by rw [← h], by omega, hp, hq, hr, trivial, trivial, by rw [← h], by rw [← h], by rw [← h], by rw [← h], trivial⟩
set_option maxRecDepth 100000 in
set_option maxHeartbeats 4000000 in
theorem conMulP : Con Try.prog 30 gMulP := con_of_vcl fun args ps res h hp hlen => by
  unfold gMulP at h
  split at h <;> cases h
  rename_i s p
  refine ⟨CEu, 300, rfl, eok (gs := [(45, gClamp), (46, gLoad), (47, gAdd), (48, gSub), (49, gFMul), (50, gInv), (51, gBytes)]) ⟨conClamp, conFLoad, conFAdd, conFSub, conFMul, conFInv, conFBytes, trivial⟩, ?_⟩
  rw [vcMulP]
  simp only [forall_eq, io]
  refine ⟨⟨0, by decide, rfl, by decide, trivial, trivial, trivial, trivial, trivial, rfl, rfl, rfl, rfl, trivial⟩, fun x hx => ⟨fun h => ?_, fun h => ?_⟩⟩
  · have h := of_decide_eq_true h
    have hx2 : x ≤ 254 := by omega
    rw [bit_eq hx2]
    have q1 : ((254 : Int) - (x : Int)).tdiv ((8 : Nat) : Int) = (((254 - x) / 8 : Nat) : Int) := by
      rw [show (254 : Int) - (x : Int) = ((254 - x : Nat) : Int) by omega]; rfl
    have q2 : ((254 : Int) - (x : Int)).tmod ((8 : Nat) : Int) = (((254 - x) % 8 : Nat) : Int) := by
      rw [show (254 : Int) - (x : Int) = ((254 - x : Nat) : Int) by omega]; rfl
    rw [q1, q2]
    refine ⟨⟨by decide, by unfold InI; omega⟩, by omega, by omega, by decide, by omega, fun hb => ?_, fun hb => ?_⟩
    · refine mul_step hx2 ?_ True True True trivial trivial trivial
      have hn : ¬ bitL (clampL s) (254 - x) = (ladL (clampL s) (loadL p) x).last := by simpa using hb
      show _ = stL (loadL p) (bitL (clampL s) (254 - x)) (swL (bitL (clampL s) (254 - x)) (ladL (clampL s) (loadL p) x))
      unfold swL
      rw [if_neg hn]
      rfl
    · refine mul_step hx2 ?_ True True True trivial trivial trivial
      have hn : bitL (clampL s) (254 - x) = (ladL (clampL s) (loadL p) x).last := by simpa using hb
      show _ = stL (loadL p) (bitL (clampL s) (254 - x)) (swL (bitL (clampL s) (254 - x)) (ladL (clampL s) (loadL p) x))
      unfold swL
      rw [if_pos hn]
      rfl
  · have h := of_decide_eq_false h
    have : x = 255 := by omega
    subst this
    refine ⟨fun hb => ⟨?_, trivial⟩, fun hb => ⟨?_, trivial⟩⟩
    · unfold keyL endL; rw [if_pos (by simpa using hb)]
    · unfold keyL endL; rw [if_neg (by simpa using hb)]
end Go.Proofs.Ytiogdokekibeiaa
