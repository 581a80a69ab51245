/-
  REGIONS WITH UNKNOWN VALUES, in the order of the text, in a form that simp walks. No condition.
-/
import Derived.Test.YtehmailaabjdjaaGreatStepK
namespace Go.Proofs.YtehmailaabjdjaaGreat
set_option linter.unusedSimpArgs false
set_option linter.unusedVariables false

def gdst (ops : Array Oper) (j : Nat) : Option Tmp := (ops[j]?).bind (·.dst)

end Go.Proofs.YtehmailaabjdjaaGreat
