/-
  Pieces of the long loops, reckoned (printed by a program). No condition.
-/
import Derived.Test.YtfchjhfccnodpaaGreatSt
namespace Go.Proofs.YtfchjhfccnodpaaGreat
set_option linter.unusedVariables false
set_option linter.unusedSimpArgs false
set_option maxRecDepth 100000

theorem pc38_15 : pieceB E6 T6 clR 38 3 36 (parts E6.P 38).c 4 st38_15 st38_16 = true := by kernel_rfl

theorem pc38_16 : pieceB E6 T6 clR 38 3 36 (parts E6.P 38).c 4 st38_16 st38_17 = true := by kernel_rfl

theorem pc38_17 : pieceB E6 T6 clR 38 3 36 (parts E6.P 38).c 3 st38_17 st38_18 = true := by kernel_rfl

theorem pc38_18 : pieceB E6 T6 clR 38 3 36 (parts E6.P 38).c 4 st38_18 st38_19 = true := by kernel_rfl

theorem pc38_19 : pieceB E6 T6 clR 38 3 36 (parts E6.P 38).c 3 st38_19 st38_20 = true := by kernel_rfl

end Go.Proofs.YtfchjhfccnodpaaGreat
