/-
  Pieces of the long loops, reckoned (printed by a program). No condition.
-/
import Derived.Test.YtfchjhfccnodpaaGreatSt
namespace Go.Proofs.YtfchjhfccnodpaaGreat
set_option linter.unusedVariables false
set_option linter.unusedSimpArgs false
set_option maxRecDepth 100000

theorem pc38_25 : pieceB E6 T6 clR 38 3 36 (parts E6.P 38).c 4 st38_25 st38_26 = true := by kernel_rfl

theorem pc38_26 : pieceB E6 T6 clR 38 3 36 (parts E6.P 38).c 4 st38_26 st38_27 = true := by kernel_rfl

theorem pc38_27 : pieceB E6 T6 clR 38 3 36 (parts E6.P 38).c 3 st38_27 st38_28 = true := by kernel_rfl

theorem pc38_28 : pieceB E6 T6 clR 38 3 36 (parts E6.P 38).c 4 st38_28 st38_29 = true := by kernel_rfl

theorem pc38_29 : pieceB E6 T6 clR 38 3 36 (parts E6.P 38).c 3 st38_29 st38_30 = true := by kernel_rfl

end Go.Proofs.YtfchjhfccnodpaaGreat
