/-
  Pieces of the long loops, reckoned (printed by a program). No condition.
-/
import Derived.Test.YtfchjhfccnodpaaGreatSt
namespace Go.Proofs.YtfchjhfccnodpaaGreat
set_option linter.unusedVariables false
set_option linter.unusedSimpArgs false
set_option maxRecDepth 100000

theorem pc38_20 : pieceB E6 T6 clR 38 3 36 (parts E6.P 38).c 4 st38_20 st38_21 = true := by kernel_rfl

theorem pc38_21 : pieceB E6 T6 clR 38 3 36 (parts E6.P 38).c 4 st38_21 st38_22 = true := by kernel_rfl

theorem pc38_22 : pieceB E6 T6 clR 38 3 36 (parts E6.P 38).c 3 st38_22 st38_23 = true := by kernel_rfl

theorem pc38_23 : pieceB E6 T6 clR 38 3 36 (parts E6.P 38).c 4 st38_23 st38_24 = true := by kernel_rfl

theorem pc38_24 : pieceB E6 T6 clR 38 3 36 (parts E6.P 38).c 3 st38_24 st38_25 = true := by kernel_rfl

end Go.Proofs.YtfchjhfccnodpaaGreat
