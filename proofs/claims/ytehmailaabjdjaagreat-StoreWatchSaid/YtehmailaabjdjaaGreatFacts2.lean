/-
  More facts on the program's types (printed by a program). No condition.
-/
import Derived.Test.YtehmailaabjdjaaGreatRunN
import Derived.Test.YtehmailaabjdjaaGreatFacts
namespace Go.Proofs.YtehmailaabjdjaaGreat
set_option linter.unusedSimpArgs false
set_option linter.unusedVariables false

theorem ez_26 : elemZ E6.P 26 = some [.int .u8 0] := id (by kernel_rfl)
theorem pl_28 : placesL E6.P 28 = some [(0, 1), (1, 1), (2, 1)] := id (by kernel_rfl)
theorem pl_36 : placesL E6.P 36 = some [(0, 1), (1, 1), (2, 1)] := id (by kernel_rfl)
theorem ez_37 : elemZ E6.P 37 = some [.string .empty, .int .i64 0, .bool false] := id (by kernel_rfl)
theorem pl_39 : placesL E6.P 39 = some [(0, 1), (1, 1), (2, 1)] := id (by kernel_rfl)
theorem ez_40 : elemZ E6.P 40 = some [.string .empty, .slice none 0 0, .bool false] := id (by kernel_rfl)
theorem pl_42 : placesL E6.P 42 = some [(0, 1), (1, 1)] := id (by kernel_rfl)
theorem ez_44 : elemZ E6.P 44 = some [.int .i64 0, .slice none 0 0, .slice none 0 0, .int .i64 0] := id (by kernel_rfl)
theorem pl_47 : placesL E6.P 47 = some [(0, 1), (1, 2), (3, 1)] := id (by kernel_rfl)
theorem ez_48 : elemZ E6.P 48 = some [.string .empty, .int .i64 0, .slice none 0 0] := id (by kernel_rfl)
theorem ez_52 : elemZ E6.P 52 = some [.string .empty] := id (by kernel_rfl)
theorem pl_55 : placesL E6.P 55 = some [(0, 1), (1, 1), (2, 1), (3, 1), (4, 1), (5, 2)] := id (by kernel_rfl)
theorem ez_56 : elemZ E6.P 56 = some [.slice none 0 0] := id (by kernel_rfl)
theorem ez_62 : elemZ E6.P 62 = some [.int .i64 0, .int .i64 0, .int .i64 0, .string .empty, .int .i64 0, .slice none 0 0, .slice none 0 0] := id (by kernel_rfl)
theorem ez_65 : elemZ E6.P 65 = some [.int .i64 0, .string .empty, .slice none 0 0, .bool false] := id (by kernel_rfl)
theorem pl_67 : placesL E6.P 67 = some [(0, 1), (1, 1), (2, 1), (3, 1), (4, 1), (5, 1), (6, 1)] := id (by kernel_rfl)
theorem pl_72 : placesL E6.P 72 = some [(0, 1), (1, 1), (2, 1), (3, 1), (4, 1), (5, 1)] := id (by kernel_rfl)
theorem pl_82 : placesL E6.P 82 = some [(0, 1), (1, 1), (2, 1), (3, 1)] := id (by kernel_rfl)
theorem ez_91 : elemZ E6.P 91 = some [.int .i64 0] := id (by kernel_rfl)
theorem ez_94 : elemZ E6.P 94 = some [.int .i64 0, .slice none 0 0, .int .i64 0] := id (by kernel_rfl)
theorem pl_97 : placesL E6.P 97 = some [(0, 1), (1, 1), (2, 1)] := id (by kernel_rfl)
theorem pl_100 : placesL E6.P 100 = some [(0, 1), (1, 1), (2, 1), (3, 1)] := id (by kernel_rfl)
theorem ez_102 : elemZ E6.P 102 = some [.int .i64 0] := id (by kernel_rfl)
theorem ez_103 : elemZ E6.P 103 = some [.bool false] := id (by kernel_rfl)
theorem pl_107 : placesL E6.P 107 = some [(0, 1), (1, 1)] := id (by kernel_rfl)
theorem pl_125 : placesL E6.P 125 = some [(0, 0), (0, 0), (0, 1)] := id (by kernel_rfl)
theorem pl_127 : placesL E6.P 127 = some [(0, 1), (1, 1), (2, 1), (3, 1), (4, 1), (5, 1)] := id (by kernel_rfl)
theorem pl_138 : placesL E6.P 138 = some [(0, 0), (0, 1)] := id (by kernel_rfl)
theorem pl_142 : placesL E6.P 142 = some [(0, 0), (0, 2)] := id (by kernel_rfl)
theorem pl_144 : placesL E6.P 144 = some [(0, 0), (0, 1), (1, 2)] := id (by kernel_rfl)
theorem pl_166 : placesL E6.P 166 = some [(0, 1), (1, 1), (2, 1), (3, 1)] := id (by kernel_rfl)
theorem ez_200 : elemZ E6.P 200 = some [.string .empty, .string .empty] := id (by kernel_rfl)
theorem ez_201 : elemZ E6.P 201 = some [.string .empty, .int .i64 0, .slice none 0 0] := id (by kernel_rfl)
theorem ez_202 : elemZ E6.P 202 = some [.string .empty, .string .empty, .bool false] := id (by kernel_rfl)
theorem pl_204 : placesL E6.P 204 = some [(0, 1), (1, 1), (2, 1), (3, 3), (6, 1), (7, 1), (8, 1), (9, 1), (10, 1), (11, 1), (12, 1), (13, 1), (14, 1), (15, 1)] := id (by kernel_rfl)
theorem pl_210 : placesL E6.P 210 = some [(0, 1), (1, 1)] := id (by kernel_rfl)
theorem pl_217 : placesL E6.P 217 = some [(0, 1), (1, 1)] := id (by kernel_rfl)
theorem pl_219 : placesL E6.P 219 = some [(0, 1), (1, 1)] := id (by kernel_rfl)
theorem ez_220 : elemZ E6.P 220 = some [.string .empty, .string .empty] := id (by kernel_rfl)
theorem ez_231 : elemZ E6.P 231 = some [.int .i64 0, .int .i64 0, .int .i64 0] := id (by kernel_rfl)
theorem pl_234 : placesL E6.P 234 = some [(0, 1), (1, 1), (2, 1)] := id (by kernel_rfl)
theorem pl_236 : placesL E6.P 236 = some [(0, 1), (1, 1), (2, 1)] := id (by kernel_rfl)

theorem un_2 : E6.P.underlying 2 = some (.int .i64) := id Go.Proofs.Tryz.underlying2
theorem un_3 : E6.P.underlying 3 = some (.int .i64) := id Go.Proofs.Tryz.underlying3
theorem un_4 : E6.P.underlying 4 = some (.bool) := id Go.Proofs.Tryz.underlying4
theorem un_5 : E6.P.underlying 5 = some (.int .u8) := id Go.Proofs.Tryz.underlying5
theorem un_9 : E6.P.underlying 9 = some (.string) := id Go.Proofs.Tryz.underlying9
theorem un_24 : E6.P.underlying 24 = some (.pointer 127) := id Go.Proofs.Tryz.underlying24
theorem un_26 : E6.P.underlying 26 = some (.slice 5) := id Go.Proofs.Tryz.underlying26
theorem un_32 : E6.P.underlying 32 = some (.int .i64) := id Go.Proofs.Tryz.underlying32
theorem un_37 : E6.P.underlying 37 = some (.slice 36) := id Go.Proofs.Tryz.underlying37
theorem un_40 : E6.P.underlying 40 = some (.slice 39) := id Go.Proofs.Tryz.underlying40
theorem un_44 : E6.P.underlying 44 = some (.slice 47) := id Go.Proofs.Tryz.underlying44
theorem un_48 : E6.P.underlying 48 = some (.slice 28) := id Go.Proofs.Tryz.underlying48
theorem un_52 : E6.P.underlying 52 = some (.slice 9) := id Go.Proofs.Tryz.underlying52
theorem un_56 : E6.P.underlying 56 = some (.slice 26) := id Go.Proofs.Tryz.underlying56
theorem un_62 : E6.P.underlying 62 = some (.slice 55) := id Go.Proofs.Tryz.underlying62
theorem un_63 : E6.P.underlying 63 = some (.pointer 72) := id Go.Proofs.Tryz.underlying63
theorem un_65 : E6.P.underlying 65 = some (.slice 82) := id Go.Proofs.Tryz.underlying65
theorem un_69 : E6.P.underlying 69 = some (.map 9 2) := id Go.Proofs.Tryz.underlying69
theorem un_70 : E6.P.underlying 70 = some (.pointer 100) := id Go.Proofs.Tryz.underlying70
theorem un_78 : E6.P.underlying 78 = some (.pointer 166) := id Go.Proofs.Tryz.underlying78
theorem un_91 : E6.P.underlying 91 = some (.slice 2) := id Go.Proofs.Tryz.underlying91
theorem un_94 : E6.P.underlying 94 = some (.slice 97) := id Go.Proofs.Tryz.underlying94
theorem un_102 : E6.P.underlying 102 = some (.slice 3) := id Go.Proofs.Tryz.underlying102
theorem un_103 : E6.P.underlying 103 = some (.slice 4) := id Go.Proofs.Tryz.underlying103
theorem un_105 : E6.P.underlying 105 = some (.pointer 107) := id Go.Proofs.Tryz.underlying105
theorem un_120 : E6.P.underlying 120 = some (.map 9 28) := id Go.Proofs.Tryz.underlying120
theorem un_136 : E6.P.underlying 136 = some (.int .u32) := id Go.Proofs.Tryz.underlying136
theorem un_145 : E6.P.underlying 145 = some (.int .u64) := id Go.Proofs.Tryz.underlying145
theorem un_156 : E6.P.underlying 156 = some (.pointer 188) := id Go.Proofs.Tryz.underlying156
theorem un_180 : E6.P.underlying 180 = some (.pointer 2) := id Go.Proofs.Tryz.underlying180
theorem un_186 : E6.P.underlying 186 = some (.pointer 151) := id Go.Proofs.Tryz.underlying186
theorem un_189 : E6.P.underlying 189 = some (.int .u64) := id Go.Proofs.Tryz.underlying189
theorem un_200 : E6.P.underlying 200 = some (.slice 217) := id Go.Proofs.Tryz.underlying200
theorem un_201 : E6.P.underlying 201 = some (.slice 234) := id Go.Proofs.Tryz.underlying201
theorem un_202 : E6.P.underlying 202 = some (.slice 236) := id Go.Proofs.Tryz.underlying202
theorem un_220 : E6.P.underlying 220 = some (.slice 219) := id Go.Proofs.Tryz.underlying220
theorem un_225 : E6.P.underlying 225 = some (.map 9 4) := id Go.Proofs.Tryz.underlying225
theorem un_231 : E6.P.underlying 231 = some (.slice 197) := id Go.Proofs.Tryz.underlying231
attribute [push_cast] sz_2 by_2 ag_2 zp_2 sz_3 by_3 ag_3 zp_3 sz_4 by_4 ag_4 zp_4 sz_5 by_5 ag_5 zp_5 sz_9 by_9 ag_9 zp_9 sz_24 by_24 ag_24 zp_24 sz_26 by_26 ag_26 zp_26 el_26 sz_28 by_28 ag_28 zp_28 fo_28_0 ft_28_0 fo_28_1 ft_28_1 fo_28_2 ft_28_2 sz_32
attribute [push_cast] by_32 ag_32 zp_32 sz_36 by_36 ag_36 zp_36 fo_36_0 ft_36_0 fo_36_1 ft_36_1 fo_36_2 ft_36_2 sz_37 by_37 ag_37 zp_37 el_37 sz_39 by_39 ag_39 zp_39 fo_39_0 ft_39_0 fo_39_1 ft_39_1 fo_39_2 ft_39_2 sz_40 by_40 ag_40 zp_40 el_40 sz_42 by_42 ag_42 zp_42 fo_42_0 ft_42_0 fo_42_1
attribute [push_cast] ft_42_1 sz_44 by_44 ag_44 zp_44 el_44 sz_47 by_47 ag_47 zp_47 fo_47_0 ft_47_0 fo_47_1 ft_47_1 fo_47_2 ft_47_2 sz_48 by_48 ag_48 zp_48 el_48 sz_52 by_52 ag_52 zp_52 el_52 sz_55 by_55 ag_55 zp_55 fo_55_0 ft_55_0 fo_55_1 ft_55_1 fo_55_2 ft_55_2 fo_55_3 ft_55_3 fo_55_4 ft_55_4
attribute [push_cast] fo_55_5 ft_55_5 sz_56 by_56 ag_56 zp_56 el_56 sz_62 by_62 ag_62 zp_62 el_62 sz_63 by_63 ag_63 zp_63 sz_65 by_65 ag_65 zp_65 el_65 sz_67 by_67 ag_67 zp_67 fo_67_0 ft_67_0 fo_67_1 ft_67_1 fo_67_2 ft_67_2 fo_67_3 ft_67_3 fo_67_4 ft_67_4 fo_67_5 ft_67_5 fo_67_6 ft_67_6 sz_69
attribute [push_cast] by_69 ag_69 zp_69 sz_70 by_70 ag_70 zp_70 sz_72 by_72 ag_72 zp_72 fo_72_0 ft_72_0 fo_72_1 ft_72_1 fo_72_2 ft_72_2 fo_72_3 ft_72_3 fo_72_4 ft_72_4 fo_72_5 ft_72_5 sz_78 by_78 ag_78 zp_78 sz_82 by_82 ag_82 zp_82 fo_82_0 ft_82_0 fo_82_1 ft_82_1 fo_82_2 ft_82_2 fo_82_3 ft_82_3 sz_91
attribute [push_cast] by_91 ag_91 zp_91 el_91 sz_94 by_94 ag_94 zp_94 el_94 sz_97 by_97 ag_97 zp_97 fo_97_0 ft_97_0 fo_97_1 ft_97_1 fo_97_2 ft_97_2 sz_100 by_100 ag_100 zp_100 fo_100_0 ft_100_0 fo_100_1 ft_100_1 fo_100_2 ft_100_2 fo_100_3 ft_100_3 sz_102 by_102 ag_102 zp_102 el_102 sz_103 by_103 ag_103 zp_103
attribute [push_cast] el_103 sz_105 by_105 ag_105 zp_105 sz_107 by_107 ag_107 zp_107 fo_107_0 ft_107_0 fo_107_1 ft_107_1 sz_113 by_113 ag_113 zp_113 sz_120 by_120 ag_120 zp_120 sz_122 by_122 ag_122 zp_122 sz_123 by_123 ag_123 zp_123 sz_125 by_125 ag_125 zp_125 ft_125_0 ft_125_1 fo_125_2 ft_125_2 sz_127 by_127 ag_127
attribute [push_cast] zp_127 fo_127_0 ft_127_0 fo_127_1 ft_127_1 fo_127_2 ft_127_2 fo_127_3 ft_127_3 fo_127_4 ft_127_4 fo_127_5 ft_127_5 sz_133 by_133 ag_133 zp_133 sz_135 by_135 ag_135 zp_135 sz_136 by_136 ag_136 zp_136 sz_138 by_138 ag_138 zp_138 ft_138_0 fo_138_1 ft_138_1 sz_140 by_140 ag_140 zp_140 fo_140_0 ft_140_0 fo_140_1 ft_140_1
attribute [push_cast] sz_142 by_142 ag_142 zp_142 ft_142_0 fo_142_1 ft_142_1 sz_144 by_144 ag_144 zp_144 ft_144_0 fo_144_1 ft_144_1 fo_144_2 ft_144_2 sz_145 by_145 ag_145 zp_145 sz_146 by_146 ag_146 sz_147 by_147 ag_147 zp_147 sz_149 by_149 ag_149 fo_149_0 ft_149_0 fo_149_1 ft_149_1 fo_149_2 ft_149_2 sz_151 by_151 ag_151 fo_151_0
attribute [push_cast] ft_151_0 fo_151_1 ft_151_1 sz_156 by_156 ag_156 zp_156 sz_166 by_166 ag_166 zp_166 fo_166_0 ft_166_0 fo_166_1 ft_166_1 fo_166_2 ft_166_2 fo_166_3 ft_166_3 sz_170 by_170 ag_170 zp_170 sz_171 by_171 ag_171 zp_171 sz_173 by_173 ag_173 zp_173 sz_180 by_180 ag_180 zp_180 sz_186 by_186 ag_186 zp_186 sz_188
attribute [push_cast] by_188 ag_188 fo_188_0 ft_188_0 fo_188_1 ft_188_1 fo_188_2 ft_188_2 sz_189 by_189 ag_189 zp_189 sz_194 by_194 ag_194 zp_194 sz_197 by_197 ag_197 zp_197 sz_200 by_200 ag_200 zp_200 el_200 sz_201 by_201 ag_201 zp_201 el_201 sz_202 by_202 ag_202 zp_202 el_202 sz_204 by_204 ag_204 zp_204 fo_204_0
attribute [push_cast] ft_204_0 fo_204_1 ft_204_1 fo_204_2 ft_204_2 fo_204_3 ft_204_3 fo_204_4 ft_204_4 fo_204_5 ft_204_5 fo_204_6 ft_204_6 fo_204_7 ft_204_7 fo_204_8 ft_204_8 fo_204_9 ft_204_9 fo_204_10 ft_204_10 fo_204_11 ft_204_11 fo_204_12 ft_204_12 fo_204_13 ft_204_13 sz_210 by_210 ag_210 zp_210 fo_210_0 ft_210_0 fo_210_1 ft_210_1 sz_217 by_217 ag_217 zp_217 fo_217_0
attribute [push_cast] ft_217_0 fo_217_1 ft_217_1 sz_219 by_219 ag_219 zp_219 fo_219_0 ft_219_0 fo_219_1 ft_219_1 sz_220 by_220 ag_220 zp_220 el_220 sz_225 by_225 ag_225 zp_225 sz_231 by_231 ag_231 zp_231 el_231 sz_234 by_234 ag_234 zp_234 fo_234_0 ft_234_0 fo_234_1 ft_234_1 fo_234_2 ft_234_2 sz_236 by_236 ag_236 zp_236 fo_236_0
attribute [push_cast] ft_236_0 fo_236_1 ft_236_1 fo_236_2 ft_236_2 ez_26 pl_28 pl_36 ez_37 pl_39 ez_40 pl_42 ez_44 pl_47 ez_48 ez_52 pl_55 ez_56 ez_62 ez_65 pl_67 pl_72 pl_82 ez_91 ez_94 pl_97 pl_100 ez_102 ez_103 pl_107 pl_125 pl_127 pl_138 pl_142 pl_144 pl_166 ez_200 ez_201 ez_202 pl_204
attribute [push_cast] pl_210 pl_217 pl_219 ez_220 ez_231 pl_234 pl_236 un_2 un_3 un_4 un_5 un_9 un_24 un_26 un_32 un_37 un_40 un_44 un_48 un_52 un_56 un_62 un_63 un_65 un_69 un_70 un_78 un_91 un_94 un_102 un_103 un_105 un_120 un_136 un_145 un_156 un_180 un_186 un_189 un_200
attribute [push_cast] un_201 un_202 un_220 un_225 un_231

end Go.Proofs.YtehmailaabjdjaaGreat
