/-
  Pieces of the long loops, reckoned (printed by a program). No condition.
-/
import Derived.Test.YtfchjhfccnodpaaGreatSt
namespace Go.Proofs.YtfchjhfccnodpaaGreat
set_option linter.unusedVariables false
set_option linter.unusedSimpArgs false
set_option maxRecDepth 100000

theorem pc38_0 : pieceB E6 T6 clR 38 3 36 (parts E6.P 38).c 3 st38_0 st38_1 = true := by kernel_rfl

theorem pc38_1 : pieceB E6 T6 clR 38 3 36 (parts E6.P 38).c 2 st38_1 st38_2 = true := by kernel_rfl

theorem pc38_2 : pieceB E6 T6 clR 38 3 36 (parts E6.P 38).c 3 st38_2 st38_3 = true := by kernel_rfl

theorem pc38_3 : pieceB E6 T6 clR 38 3 36 (parts E6.P 38).c 4 st38_3 st38_4 = true := by kernel_rfl

theorem pc38_4 : pieceB E6 T6 clR 38 3 36 (parts E6.P 38).c 4 st38_4 st38_5 = true := by kernel_rfl

end Go.Proofs.YtfchjhfccnodpaaGreat
