/-
  Pieces of the long loops, reckoned (printed by a program). No condition.
-/
import Derived.Test.YtfchjhfccnodpaaGreatSt
namespace Go.Proofs.YtfchjhfccnodpaaGreat
set_option linter.unusedVariables false
set_option linter.unusedSimpArgs false
set_option maxRecDepth 100000

theorem pc38_5 : pieceB E6 T6 clR 38 3 36 (parts E6.P 38).c 4 st38_5 st38_6 = true := by kernel_rfl

theorem pc38_6 : pieceB E6 T6 clR 38 3 36 (parts E6.P 38).c 4 st38_6 st38_7 = true := by kernel_rfl

theorem pc38_7 : pieceB E6 T6 clR 38 3 36 (parts E6.P 38).c 3 st38_7 st38_8 = true := by kernel_rfl

theorem pc38_8 : pieceB E6 T6 clR 38 3 36 (parts E6.P 38).c 4 st38_8 st38_9 = true := by kernel_rfl

theorem pc38_9 : pieceB E6 T6 clR 38 3 36 (parts E6.P 38).c 3 st38_9 st38_10 = true := by kernel_rfl

end Go.Proofs.YtfchjhfccnodpaaGreat
