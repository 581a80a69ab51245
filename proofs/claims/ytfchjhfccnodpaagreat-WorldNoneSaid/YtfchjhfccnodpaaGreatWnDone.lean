/-
  The statement on WorldNone: it answers true. No condition.
-/
import Derived.Test.YtfchjhfccnodpaaGreatPk18
import Derived.Test.YtfchjhfccnodpaaGreatPk5
import Derived.Test.YtfchjhfccnodpaaGreatWnCl
namespace Go.Proofs.YtfchjhfccnodpaaGreat
open Go.ChangeShapes Go.WideShapes Go.ChangeAt Go.RowKit
set_option linter.unusedVariables false
set_option linter.unusedSimpArgs false

set_option maxRecDepth 100000 in
theorem worldNone_contract (H : Type) (enc : TypeId × Value → H) (W : World) (base : Nat) (args : Array Value) (ds gs : List (DataW H)) (before : List MemPlace)
    (hval : ∀ (j : Nat) t v, Tryz.f5.params[j]? = some t → args[j]? = some v → Value.okWide Tryz.prog W .any base t v)
    (hW : DataW.Whole enc Tryz.prog Tryz.f5.params.toList Rows.worldNoneSpec.vars false W args.toList ds gs before) :
    Calls Tryz.prog 5 args W fun e W' => ∃ v, e = .returned v ∧ Rows.worldNoneSpec.post enc Tryz.prog Tryz.f5 false true false false W args v W' := by
  have hW' := hW
  obtain ⟨p, q, hA0, hV, rfl, hfz, hnd⟩ := hW
  have hA : DataW.TrodAll enc Tryz.prog W 0 (fun _ => true) true Tryz.f5.params.toList args.toList ds p := hA0
  rw [Tryz.params5] at hA hval
  obtain ⟨ha, rfl, rfl⟩ := trodAll_nil hA
  obtain rfl : args = #[] := by cases args; simp_all
  obtain ⟨rfl, rfl⟩ := trodVars_none hV
  clear hA0
  have hargs1 : VsRel (fun _ => none) (#[] : Array Value) #[] := VlRel.toArray (.nil _)
  have hh := lift_of (g := fun _ => none) (n := 0) worldNone_c (rel_none W) hargs1 ro_none
  clear hargs1
  refine hh.mono fun e W' hq => ?_
  obtain ⟨he, bel⟩ := hq
  subst he
  refine ⟨_, rfl, ?_⟩
  exact ⟨_, _, _, [], _, [], hW', trodAll_mk1 (shut_bool Tryz.underlying4 _), trodAll_mk0, rfl, bel.frame _, fun h => by cases h⟩

set_option maxRecDepth 100000 in
theorem worldNone_lifted (os : Os) (started : os.Started) (H : Type) (enc : TypeId × Value → H) :
    ReturnsInHanded {} Tryz.checked os 5 .any (Rows.worldNoneSpec.pre6 enc Tryz.prog Tryz.f5 Rows.worldNoneRow.domain false) (Rows.worldNoneSpec.post enc Tryz.prog Tryz.f5 false true false false) := by
  refine returnsInHanded_of_change (C := Tryz.checked) own started (by kernel_rfl) Tryz.func5
    (ChangeSpec.witness6 (enc := enc) (C := Tryz.checked) false ⟨#[], #[], []⟩ 8 (by kernel_rfl) (by kernel_rfl) (by kernel_rfl) (by kernel_rfl)) ?_
  intro W base args ds gs before hval hW _ _
  exact worldNone_contract H enc W base args ds gs before hval hW

theorem worldNone_holds : Rows.WorldNoneSaid := worldNone_over fun os started H enc => worldNone_lifted os started H enc

end Go.Proofs.YtfchjhfccnodpaaGreat
