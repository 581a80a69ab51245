/-
  Pieces of the long loops, reckoned (printed by a program). No condition.
-/
import Derived.Test.YtfchjhfccnodpaaGreatSt
namespace Go.Proofs.YtfchjhfccnodpaaGreat
set_option linter.unusedVariables false
set_option linter.unusedSimpArgs false
set_option maxRecDepth 100000

theorem pc38_35 : pieceB E6 T6 clR 38 3 36 (parts E6.P 38).c 4 st38_35 st38_36 = true := by kernel_rfl

theorem pc38_36 : pieceB E6 T6 clR 38 3 36 (parts E6.P 38).c 4 st38_36 st38_37 = true := by kernel_rfl

theorem pc38_37 : pieceB E6 T6 clR 38 3 36 (parts E6.P 38).c 3 st38_37 st38_38 = true := by kernel_rfl

theorem pc38_38 : pieceB E6 T6 clR 38 3 36 (parts E6.P 38).c 4 st38_38 st38_39 = true := by kernel_rfl

theorem ls38 : lastB E6 T6 clR 38 3 36 (parts E6.P 38).c 1000 (parts E6.P 38).i st38_39 st38_40 = true := by kernel_rfl

end Go.Proofs.YtfchjhfccnodpaaGreat
