/-
  Zero cells of types (printed by a program). No condition.
-/
import Derived.Test.YtehmailaabjdjaaGreatWkC
namespace Go.Proofs.YtehmailaabjdjaaGreat
set_option linter.unusedSimpArgs false
set_option linter.unusedVariables false

theorem zl_2 : zeroL E6.P 2 = some [.int .i64 0] := by unfold zeroL; rw [zp_2]; rfl
theorem zl_3 : zeroL E6.P 3 = some [.int .i64 0] := by unfold zeroL; rw [zp_3]; rfl
theorem zl_4 : zeroL E6.P 4 = some [.bool false] := by unfold zeroL; rw [zp_4]; rfl
theorem zl_5 : zeroL E6.P 5 = some [.int .u8 0] := by unfold zeroL; rw [zp_5]; rfl
theorem zl_9 : zeroL E6.P 9 = some [.string .empty] := by unfold zeroL; rw [zp_9]; rfl
theorem zl_24 : zeroL E6.P 24 = some [.pointer none] := by unfold zeroL; rw [zp_24]; rfl
theorem zl_26 : zeroL E6.P 26 = some [.slice none 0 0] := by unfold zeroL; rw [zp_26]; rfl
theorem zl_28 : zeroL E6.P 28 = some [.string .empty, .int .i64 0, .slice none 0 0] := by unfold zeroL; rw [zp_28]; rfl
theorem zl_32 : zeroL E6.P 32 = some [.int .i64 0] := by unfold zeroL; rw [zp_32]; rfl
theorem zl_36 : zeroL E6.P 36 = some [.string .empty, .int .i64 0, .bool false] := by unfold zeroL; rw [zp_36]; rfl
theorem zl_37 : zeroL E6.P 37 = some [.slice none 0 0] := by unfold zeroL; rw [zp_37]; rfl
theorem zl_39 : zeroL E6.P 39 = some [.string .empty, .slice none 0 0, .bool false] := by unfold zeroL; rw [zp_39]; rfl
theorem zl_40 : zeroL E6.P 40 = some [.slice none 0 0] := by unfold zeroL; rw [zp_40]; rfl
theorem zl_42 : zeroL E6.P 42 = some [.slice none 0 0, .slice none 0 0] := by unfold zeroL; rw [zp_42]; rfl
theorem zl_44 : zeroL E6.P 44 = some [.slice none 0 0] := by unfold zeroL; rw [zp_44]; rfl
theorem zl_47 : zeroL E6.P 47 = some [.int .i64 0, .slice none 0 0, .slice none 0 0, .int .i64 0] := by unfold zeroL; rw [zp_47]; rfl
theorem zl_48 : zeroL E6.P 48 = some [.slice none 0 0] := by unfold zeroL; rw [zp_48]; rfl
theorem zl_52 : zeroL E6.P 52 = some [.slice none 0 0] := by unfold zeroL; rw [zp_52]; rfl
theorem zl_55 : zeroL E6.P 55 = some [.int .i64 0, .int .i64 0, .int .i64 0, .string .empty, .int .i64 0, .slice none 0 0, .slice none 0 0] := by unfold zeroL; rw [zp_55]; rfl
theorem zl_56 : zeroL E6.P 56 = some [.slice none 0 0] := by unfold zeroL; rw [zp_56]; rfl
theorem zl_62 : zeroL E6.P 62 = some [.slice none 0 0] := by unfold zeroL; rw [zp_62]; rfl
theorem zl_63 : zeroL E6.P 63 = some [.pointer none] := by unfold zeroL; rw [zp_63]; rfl
theorem zl_65 : zeroL E6.P 65 = some [.slice none 0 0] := by unfold zeroL; rw [zp_65]; rfl
theorem zl_67 : zeroL E6.P 67 = some [.int .i64 0, .int .i64 0, .int .i64 0, .int .i64 0, .int .i64 0, .slice none 0 0, .slice none 0 0] := by unfold zeroL; rw [zp_67]; rfl
theorem zl_69 : zeroL E6.P 69 = some [.map none] := by unfold zeroL; rw [zp_69]; rfl
theorem zl_70 : zeroL E6.P 70 = some [.pointer none] := by unfold zeroL; rw [zp_70]; rfl
theorem zl_72 : zeroL E6.P 72 = some [.int .i64 0, .slice none 0 0, .map none, .pointer none, .int .i64 0, .int .i64 0] := by unfold zeroL; rw [zp_72]; rfl
theorem zl_78 : zeroL E6.P 78 = some [.pointer none] := by unfold zeroL; rw [zp_78]; rfl
theorem zl_82 : zeroL E6.P 82 = some [.int .i64 0, .string .empty, .slice none 0 0, .bool false] := by unfold zeroL; rw [zp_82]; rfl
theorem zl_91 : zeroL E6.P 91 = some [.slice none 0 0] := by unfold zeroL; rw [zp_91]; rfl
theorem zl_94 : zeroL E6.P 94 = some [.slice none 0 0] := by unfold zeroL; rw [zp_94]; rfl
theorem zl_97 : zeroL E6.P 97 = some [.int .i64 0, .slice none 0 0, .int .i64 0] := by unfold zeroL; rw [zp_97]; rfl
theorem zl_100 : zeroL E6.P 100 = some [.int .i64 0, .slice none 0 0, .int .i64 0, .int .i64 0] := by unfold zeroL; rw [zp_100]; rfl
theorem zl_102 : zeroL E6.P 102 = some [.slice none 0 0] := by unfold zeroL; rw [zp_102]; rfl
theorem zl_103 : zeroL E6.P 103 = some [.slice none 0 0] := by unfold zeroL; rw [zp_103]; rfl
theorem zl_105 : zeroL E6.P 105 = some [.pointer none] := by unfold zeroL; rw [zp_105]; rfl
theorem zl_107 : zeroL E6.P 107 = some [.int .i64 0, .slice none 0 0] := by unfold zeroL; rw [zp_107]; rfl
theorem zl_113 : zeroL E6.P 113 = some [.nilFunc] := by unfold zeroL; rw [zp_113]; rfl
theorem zl_120 : zeroL E6.P 120 = some [.map none] := by unfold zeroL; rw [zp_120]; rfl
theorem zl_122 : zeroL E6.P 122 = some [] := by unfold zeroL; rw [zp_122]; rfl
theorem zl_123 : zeroL E6.P 123 = some [] := by unfold zeroL; rw [zp_123]; rfl
theorem zl_125 : zeroL E6.P 125 = some [.int .i64 0] := by unfold zeroL; rw [zp_125]; rfl
theorem zl_127 : zeroL E6.P 127 = some [.int .i64 0, .map none, .map none, .pointer none, .int .i64 0, .int .i64 0] := by unfold zeroL; rw [zp_127]; rfl
theorem zl_133 : zeroL E6.P 133 = some [.nilFunc] := by unfold zeroL; rw [zp_133]; rfl
theorem zl_135 : zeroL E6.P 135 = some [] := by unfold zeroL; rw [zp_135]; rfl
theorem zl_136 : zeroL E6.P 136 = some [.int .u32 0] := by unfold zeroL; rw [zp_136]; rfl
theorem zl_138 : zeroL E6.P 138 = some [.int .u32 0] := by unfold zeroL; rw [zp_138]; rfl
theorem zl_140 : zeroL E6.P 140 = some [.int .i32 0, .int .u32 0] := by unfold zeroL; rw [zp_140]; rfl
theorem zl_142 : zeroL E6.P 142 = some [.int .i32 0, .int .u32 0] := by unfold zeroL; rw [zp_142]; rfl
theorem zl_144 : zeroL E6.P 144 = some [.int .u32 0, .int .i32 0, .int .u32 0] := by unfold zeroL; rw [zp_144]; rfl
theorem zl_145 : zeroL E6.P 145 = some [.int .u64 0] := by unfold zeroL; rw [zp_145]; rfl
theorem zl_147 : zeroL E6.P 147 = some [.int .u8 0, .int .u8 0, .int .u8 0, .int .u8 0, .int .u8 0, .int .u8 0, .int .u8 0, .int .u8 0, .int .u8 0, .int .u8 0, .int .u8 0, .int .u8 0, .int .u8 0, .int .u8 0, .int .u8 0, .int .u8 0, .int .u8 0, .int .u8 0, .int .u8 0, .int .u8 0, .int .u8 0, .int .u8 0, .int .u8 0, .int .u8 0, .int .u8 0, .int .u8 0, .int .u8 0, .int .u8 0, .int .u8 0, .int .u8 0, .int .u8 0, .int .u8 0, .int .u8 0, .int .u8 0, .int .u8 0, .int .u8 0, .int .u8 0, .int .u8 0] := by unfold zeroL; rw [zp_147]; rfl
theorem zl_156 : zeroL E6.P 156 = some [.pointer none] := by unfold zeroL; rw [zp_156]; rfl
theorem zl_166 : zeroL E6.P 166 = some [.slice none 0 0, .int .i64 0, .int .i64 0, .int .i64 0] := by unfold zeroL; rw [zp_166]; rfl
theorem zl_170 : zeroL E6.P 170 = some [.nilFunc] := by unfold zeroL; rw [zp_170]; rfl
theorem zl_171 : zeroL E6.P 171 = some [.nilFunc] := by unfold zeroL; rw [zp_171]; rfl
theorem zl_173 : zeroL E6.P 173 = some [.nilFunc] := by unfold zeroL; rw [zp_173]; rfl
theorem zl_180 : zeroL E6.P 180 = some [.pointer none] := by unfold zeroL; rw [zp_180]; rfl
theorem zl_186 : zeroL E6.P 186 = some [.pointer none] := by unfold zeroL; rw [zp_186]; rfl
theorem zl_189 : zeroL E6.P 189 = some [.int .u64 0] := by unfold zeroL; rw [zp_189]; rfl
theorem zl_194 : zeroL E6.P 194 = some [.nilFunc] := by unfold zeroL; rw [zp_194]; rfl
theorem zl_197 : zeroL E6.P 197 = some [.int .i64 0, .int .i64 0, .int .i64 0] := by unfold zeroL; rw [zp_197]; rfl
theorem zl_200 : zeroL E6.P 200 = some [.slice none 0 0] := by unfold zeroL; rw [zp_200]; rfl
theorem zl_201 : zeroL E6.P 201 = some [.slice none 0 0] := by unfold zeroL; rw [zp_201]; rfl
theorem zl_202 : zeroL E6.P 202 = some [.slice none 0 0] := by unfold zeroL; rw [zp_202]; rfl
theorem zl_204 : zeroL E6.P 204 = some [.string .empty, .int .i64 0, .int .i64 0, .int .i64 0, .int .i64 0, .int .i64 0, .slice none 0 0, .slice none 0 0, .slice none 0 0, .slice none 0 0, .string .empty, .slice none 0 0, .int .i64 0, .slice none 0 0, .string .empty, .int .i64 0] := by unfold zeroL; rw [zp_204]; rfl
theorem zl_210 : zeroL E6.P 210 = some [.int .i64 0, .int .i64 0] := by unfold zeroL; rw [zp_210]; rfl
theorem zl_217 : zeroL E6.P 217 = some [.string .empty, .string .empty] := by unfold zeroL; rw [zp_217]; rfl
theorem zl_219 : zeroL E6.P 219 = some [.string .empty, .string .empty] := by unfold zeroL; rw [zp_219]; rfl
theorem zl_220 : zeroL E6.P 220 = some [.slice none 0 0] := by unfold zeroL; rw [zp_220]; rfl
theorem zl_225 : zeroL E6.P 225 = some [.map none] := by unfold zeroL; rw [zp_225]; rfl
theorem zl_231 : zeroL E6.P 231 = some [.slice none 0 0] := by unfold zeroL; rw [zp_231]; rfl
theorem zl_234 : zeroL E6.P 234 = some [.string .empty, .int .i64 0, .slice none 0 0] := by unfold zeroL; rw [zp_234]; rfl
theorem zl_236 : zeroL E6.P 236 = some [.string .empty, .string .empty, .bool false] := by unfold zeroL; rw [zp_236]; rfl

end Go.Proofs.YtehmailaabjdjaaGreat
