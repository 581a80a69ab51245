/-
  Pieces of the long loops, reckoned (printed by a program). No condition.
-/
import Derived.Test.YtfchjhfccnodpaaGreatSt
namespace Go.Proofs.YtfchjhfccnodpaaGreat
set_option linter.unusedVariables false
set_option linter.unusedSimpArgs false
set_option maxRecDepth 100000

theorem pc35_0 : pieceB E6 T6 clR 35 3 36 (parts E6.P 35).c 17 st35_0 st35_1 = true := by kernel_rfl

theorem ls35 : lastB E6 T6 clR 35 3 36 (parts E6.P 35).c 1000 (parts E6.P 35).i st35_1 st35_2 = true := by kernel_rfl

end Go.Proofs.YtfchjhfccnodpaaGreat
