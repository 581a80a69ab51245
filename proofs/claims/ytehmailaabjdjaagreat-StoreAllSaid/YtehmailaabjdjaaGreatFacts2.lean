/-
  More facts on the program's types (printed by a program). No condition.
-/
import Derived.Test.YtehmailaabjdjaaGreatRunN
import Derived.Test.YtehmailaabjdjaaGreatFacts
namespace Go.Proofs.YtehmailaabjdjaaGreat
set_option linter.unusedSimpArgs false
set_option linter.unusedVariables false

theorem ez_26 : elemZ E6.P 26 = some [.int .u8 0] := id (by kernel_rfl)
theorem pl_28 : placesL E6.P 28 = some [(0, 1), (1, 1), (2, 1)] := id (by kernel_rfl)
theorem pl_36 : placesL E6.P 36 = some [(0, 1), (1, 1), (2, 1)] := id (by kernel_rfl)
theorem ez_37 : elemZ E6.P 37 = some [.string .empty, .int .i64 0, .bool false] := id (by kernel_rfl)
theorem pl_39 : placesL E6.P 39 = some [(0, 1), (1, 1), (2, 1)] := id (by kernel_rfl)
theorem ez_40 : elemZ E6.P 40 = some [.string .empty, .slice none 0 0, .bool false] := id (by kernel_rfl)
theorem pl_42 : placesL E6.P 42 = some [(0, 1), (1, 1)] := id (by kernel_rfl)
theorem ez_48 : elemZ E6.P 48 = some [.string .empty, .int .i64 0, .slice none 0 0] := id (by kernel_rfl)
theorem pl_55 : placesL E6.P 55 = some [(0, 1), (1, 1), (2, 1), (3, 1), (4, 1), (5, 2)] := id (by kernel_rfl)
theorem ez_65 : elemZ E6.P 65 = some [.int .i64 0, .string .empty, .slice none 0 0, .bool false] := id (by kernel_rfl)
theorem pl_67 : placesL E6.P 67 = some [(0, 1), (1, 1), (2, 1), (3, 1), (4, 1), (5, 1), (6, 1)] := id (by kernel_rfl)
theorem pl_72 : placesL E6.P 72 = some [(0, 1), (1, 1), (2, 1), (3, 1), (4, 1), (5, 1)] := id (by kernel_rfl)
theorem pl_82 : placesL E6.P 82 = some [(0, 1), (1, 1), (2, 1), (3, 1)] := id (by kernel_rfl)
theorem pl_100 : placesL E6.P 100 = some [(0, 1), (1, 1), (2, 1), (3, 1)] := id (by kernel_rfl)
theorem pl_127 : placesL E6.P 127 = some [(0, 1), (1, 1), (2, 1), (3, 1), (4, 1), (5, 1)] := id (by kernel_rfl)
theorem pl_166 : placesL E6.P 166 = some [(0, 1), (1, 1), (2, 1), (3, 1)] := id (by kernel_rfl)

theorem un_2 : E6.P.underlying 2 = some (.int .i64) := id Go.Proofs.Tryz.underlying2
theorem un_4 : E6.P.underlying 4 = some (.bool) := id Go.Proofs.Tryz.underlying4
theorem un_5 : E6.P.underlying 5 = some (.int .u8) := id Go.Proofs.Tryz.underlying5
theorem un_9 : E6.P.underlying 9 = some (.string) := id Go.Proofs.Tryz.underlying9
theorem un_24 : E6.P.underlying 24 = some (.pointer 127) := id Go.Proofs.Tryz.underlying24
theorem un_26 : E6.P.underlying 26 = some (.slice 5) := id Go.Proofs.Tryz.underlying26
theorem un_37 : E6.P.underlying 37 = some (.slice 36) := id Go.Proofs.Tryz.underlying37
theorem un_40 : E6.P.underlying 40 = some (.slice 39) := id Go.Proofs.Tryz.underlying40
theorem un_44 : E6.P.underlying 44 = some (.slice 47) := id Go.Proofs.Tryz.underlying44
theorem un_48 : E6.P.underlying 48 = some (.slice 28) := id Go.Proofs.Tryz.underlying48
theorem un_52 : E6.P.underlying 52 = some (.slice 9) := id Go.Proofs.Tryz.underlying52
theorem un_62 : E6.P.underlying 62 = some (.slice 55) := id Go.Proofs.Tryz.underlying62
theorem un_65 : E6.P.underlying 65 = some (.slice 82) := id Go.Proofs.Tryz.underlying65
theorem un_69 : E6.P.underlying 69 = some (.map 9 2) := id Go.Proofs.Tryz.underlying69
theorem un_78 : E6.P.underlying 78 = some (.pointer 166) := id Go.Proofs.Tryz.underlying78
theorem un_120 : E6.P.underlying 120 = some (.map 9 28) := id Go.Proofs.Tryz.underlying120
theorem un_225 : E6.P.underlying 225 = some (.map 9 4) := id Go.Proofs.Tryz.underlying225
attribute [push_cast] sz_2 ag_2 ag_3 sz_4 ag_4 zp_4 sz_5 by_5 zp_5 sz_9 ag_9 sz_26 ag_26 el_26 sz_28 by_28 ag_28 zp_28 fo_28_0 fo_28_1 ft_28_1 fo_28_2 sz_32
attribute [push_cast] ag_32 sz_36 by_36 ag_36 zp_36 fo_36_0 fo_36_1 fo_36_2 sz_37 ag_37 el_37 sz_39 by_39 ag_39 zp_39 fo_39_0 fo_39_1 fo_39_2 sz_40 ag_40 el_40 sz_42 ag_42 zp_42 fo_42_0 fo_42_1
attribute [push_cast] el_44 sz_47 ag_47 zp_47 fo_47_0 fo_47_1 fo_47_2 sz_48 ag_48 el_48 el_52 sz_55 ag_55 zp_55 fo_55_0 fo_55_1 fo_55_2 fo_55_3 fo_55_4
attribute [push_cast] fo_55_5 el_62 sz_65 ag_65 el_65 sz_67 ag_67 zp_67 fo_67_0 fo_67_1 fo_67_2 fo_67_3 fo_67_4 fo_67_5 fo_67_6
attribute [push_cast] ag_69 ag_70 zp_72 fo_72_0 fo_72_1 fo_72_2 fo_72_3 fo_72_4 fo_72_5 ag_78 sz_82 by_82 ag_82 zp_82 fo_82_0 fo_82_1 fo_82_2 fo_82_3
attribute [push_cast] zp_100 fo_100_0 fo_100_1 fo_100_2 fo_100_3
attribute [push_cast] ag_120 fo_125_2
attribute [push_cast] zp_127 fo_127_0 fo_127_1 fo_127_2 fo_127_3 fo_127_4 fo_127_5
attribute [push_cast] zp_166 fo_166_0 fo_166_1 fo_166_2 fo_166_3
attribute [push_cast] ez_26 pl_28 pl_36 ez_37 pl_39 ez_40 pl_42 ez_48 pl_55 ez_65 pl_67 pl_72 pl_82 pl_100 pl_127 pl_166
attribute [push_cast] un_2 un_4 un_5 un_9 un_24 un_26 un_37 un_40 un_44 un_48 un_52 un_62 un_65 un_69 un_78 un_120
attribute [push_cast] un_225

end Go.Proofs.YtehmailaabjdjaaGreat
