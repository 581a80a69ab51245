/-
  Pieces of the long loops, reckoned (printed by a program). No condition.
-/
import Derived.Test.YtfchjhfccnodpaaGreatSt
namespace Go.Proofs.YtfchjhfccnodpaaGreat
set_option linter.unusedVariables false
set_option linter.unusedSimpArgs false
set_option maxRecDepth 100000

theorem pc38_10 : pieceB E6 T6 clR 38 3 36 (parts E6.P 38).c 4 st38_10 st38_11 = true := by kernel_rfl

theorem pc38_11 : pieceB E6 T6 clR 38 3 36 (parts E6.P 38).c 4 st38_11 st38_12 = true := by kernel_rfl

theorem pc38_12 : pieceB E6 T6 clR 38 3 36 (parts E6.P 38).c 3 st38_12 st38_13 = true := by kernel_rfl

theorem pc38_13 : pieceB E6 T6 clR 38 3 36 (parts E6.P 38).c 4 st38_13 st38_14 = true := by kernel_rfl

theorem pc38_14 : pieceB E6 T6 clR 38 3 36 (parts E6.P 38).c 3 st38_14 st38_15 = true := by kernel_rfl

end Go.Proofs.YtfchjhfccnodpaaGreat
