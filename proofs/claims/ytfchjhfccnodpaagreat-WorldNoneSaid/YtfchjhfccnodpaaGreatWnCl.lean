/-
  The facts of the row of WorldNone. No condition.
-/
import Derived.Test.YtfchjhfccnodpaaGreatRows
import Derived.WalkKit
import Derived.ProofKit
import Derived.OpenShut
import Derived.ShutString
import Derived.ChangeOld
import Derived.Below
namespace Go.Proofs.YtfchjhfccnodpaaGreat
open Go.ChangeShapes Go.WideShapes Go.ChangeAt Go.RowKit
set_option linter.unusedVariables false
set_option linter.unusedSimpArgs false

theorem worldNone_and {a b : Bool} (h : a = true) (k : b = true) : (a && b) = true := by rw [h, k]; rfl

set_option maxRecDepth 100000 in
set_option maxHeartbeats 4000000 in
theorem worldNone_closed : joinedFacts Tryz.prog 5 Tryz.f5 Rows.worldNoneSpec Rows.worldNoneRow = true := by
  unfold joinedFacts
  repeat' (with_reducible refine worldNone_and ?_ ?_)
  all_goals (as_aux_lemma => kernel_rfl)

set_option maxRecDepth 100000 in
theorem worldNone_over (h : ∀ (os : Os) (started : os.Started) (H : Type) (enc : TypeId × Value → H), ReturnsInHanded {} Tryz.checked os 5 .any (Rows.worldNoneSpec.pre6 enc Tryz.prog Tryz.f5 Rows.worldNoneRow.domain false) (Rows.worldNoneSpec.post enc Tryz.prog Tryz.f5 false true false false)) :
    Rows.worldNoneRow.holds Tryz.pinned (OpenSpec.ofChange Rows.worldNoneSpec) :=
  OpenClaim.holds_of_wide 5 Tryz.f5 rfl rfl rfl rfl rfl rfl rfl ⟨rfl, rfl, rfl, rfl, rfl⟩ rfl rfl rfl rfl rfl (by as_aux_lemma => kernel_rfl) Tryz.func5 worldNone_closed
    (of_decide_eq_true (by as_aux_lemma => kernel_rfl)) (by as_aux_lemma => (unfold Func.isWrapper; first | (rw [if_pos (by decide +kernel)]; kernel_rfl) | (rw [if_neg (by decide +kernel)]; exact ⟨rfl, rfl⟩)))
    (fun os started H enc _ => h os started H enc)

end Go.Proofs.YtfchjhfccnodpaaGreat
