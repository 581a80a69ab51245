/-
  Pieces of the long loops, reckoned (printed by a program). No condition.
-/
import Derived.Test.YtfchjhfccnodpaaGreatSt
namespace Go.Proofs.YtfchjhfccnodpaaGreat
set_option linter.unusedVariables false
set_option linter.unusedSimpArgs false
set_option maxRecDepth 100000

theorem pc38_30 : pieceB E6 T6 clR 38 3 36 (parts E6.P 38).c 4 st38_30 st38_31 = true := by kernel_rfl

theorem pc38_31 : pieceB E6 T6 clR 38 3 36 (parts E6.P 38).c 4 st38_31 st38_32 = true := by kernel_rfl

theorem pc38_32 : pieceB E6 T6 clR 38 3 36 (parts E6.P 38).c 3 st38_32 st38_33 = true := by kernel_rfl

theorem pc38_33 : pieceB E6 T6 clR 38 3 36 (parts E6.P 38).c 4 st38_33 st38_34 = true := by kernel_rfl

theorem pc38_34 : pieceB E6 T6 clR 38 3 36 (parts E6.P 38).c 3 st38_34 st38_35 = true := by kernel_rfl

end Go.Proofs.YtfchjhfccnodpaaGreat
