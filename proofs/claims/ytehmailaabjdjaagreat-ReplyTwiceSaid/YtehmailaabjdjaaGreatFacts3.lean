/-
  Zero cells of types (printed by a program). No condition.
-/
import Derived.Test.YtehmailaabjdjaaGreatWkC
namespace Go.Proofs.YtehmailaabjdjaaGreat
set_option linter.unusedSimpArgs false
set_option linter.unusedVariables false

theorem zl_28 : zeroL E6.P 28 = some [.string .empty, .int .i64 0, .slice none 0 0] := by unfold zeroL; rw [zp_28]; rfl
theorem zl_36 : zeroL E6.P 36 = some [.string .empty, .int .i64 0, .bool false] := by unfold zeroL; rw [zp_36]; rfl
theorem zl_39 : zeroL E6.P 39 = some [.string .empty, .slice none 0 0, .bool false] := by unfold zeroL; rw [zp_39]; rfl
theorem zl_42 : zeroL E6.P 42 = some [.slice none 0 0, .slice none 0 0] := by unfold zeroL; rw [zp_42]; rfl
theorem zl_47 : zeroL E6.P 47 = some [.int .i64 0, .slice none 0 0, .slice none 0 0, .int .i64 0] := by unfold zeroL; rw [zp_47]; rfl
theorem zl_55 : zeroL E6.P 55 = some [.int .i64 0, .int .i64 0, .int .i64 0, .string .empty, .int .i64 0, .slice none 0 0, .slice none 0 0] := by unfold zeroL; rw [zp_55]; rfl
theorem zl_67 : zeroL E6.P 67 = some [.int .i64 0, .int .i64 0, .int .i64 0, .int .i64 0, .int .i64 0, .slice none 0 0, .slice none 0 0] := by unfold zeroL; rw [zp_67]; rfl
theorem zl_72 : zeroL E6.P 72 = some [.int .i64 0, .slice none 0 0, .map none, .pointer none, .int .i64 0, .int .i64 0] := by unfold zeroL; rw [zp_72]; rfl
theorem zl_82 : zeroL E6.P 82 = some [.int .i64 0, .string .empty, .slice none 0 0, .bool false] := by unfold zeroL; rw [zp_82]; rfl
theorem zl_100 : zeroL E6.P 100 = some [.int .i64 0, .slice none 0 0, .int .i64 0, .int .i64 0] := by unfold zeroL; rw [zp_100]; rfl
theorem zl_127 : zeroL E6.P 127 = some [.int .i64 0, .map none, .map none, .pointer none, .int .i64 0, .int .i64 0] := by unfold zeroL; rw [zp_127]; rfl
theorem zl_166 : zeroL E6.P 166 = some [.slice none 0 0, .int .i64 0, .int .i64 0, .int .i64 0] := by unfold zeroL; rw [zp_166]; rfl

end Go.Proofs.YtehmailaabjdjaaGreat
