/-
  The statement on LogOwn: it answers true whatever the bytes, and leaves them as they were. No condition but those of the row.
-/
import Derived.Test.YtehmailaabjdjaaGreatRows
import Derived.Test.YtehmailaabjdjaaGreatLift
import Derived.Test.YtehmailaabjdjaaGreatLogOwn
import Derived.Test.YtehmailaabjdjaaGreatBegunOk
import Derived.WalkKit
import Derived.ProofKit
import Derived.OpenShut
import Derived.ShutString
import Derived.ChangeOld
import Derived.Below
namespace Go.Proofs.YtehmailaabjdjaaGreat
open Go.ChangeShapes Go.WideShapes Go.ChangeAt Go.RowKit
open Go.ChangeMaps (open_string shut_string)
set_option linter.unusedVariables false

theorem and_t {a b : Bool} (h : a = true) (k : b = true) : (a && b) = true := by rw [h, k]; rfl

set_option maxRecDepth 100000 in
theorem logOwn_lifted (os : Os) (started : os.Started) (H : Type) (enc : TypeId × Value → H) :
    ReturnsInHanded {} Tryz.checked os 7 .any (Rows.logOwnSpec.pre6 enc Tryz.prog Tryz.f7 Rows.logOwnRow.domain false) (Rows.logOwnSpec.post enc Tryz.prog Tryz.f7 false true false false) := by
  refine returnsInHanded_of_change (C := Tryz.checked) own started (by kernel_rfl) Tryz.func7
    (ChangeSpec.witness6 (enc := enc) (C := Tryz.checked) false ⟨#[], #[.slice none 0 0], []⟩ 8 (by kernel_rfl) (by kernel_rfl) (by kernel_rfl) (by kernel_rfl)) ?_
  intro W base args ds gs before hval0 hW hcnd _
  have hval : ∀ (j : Nat) t v, Tryz.f7.params[j]? = some t → args[j]? = some v → Value.okWide Tryz.prog W .any base t v := hval0
  have hW' := hW
  obtain ⟨p, q, hA0, hV, rfl, hfz, hnd⟩ := hW
  have hA : DataW.TrodAll enc Tryz.prog W 0 (fun _ => true) true Tryz.f7.params.toList args.toList ds p := hA0
  rw [Tryz.params7] at hA hval
  obtain ⟨v0, vs0, d0, ds0, p0, q0, hargs, rfl, rfl, h0, r0⟩ := trodAll_cons hA
  obtain ⟨rfl, rfl, rfl⟩ := trodAll_nil r0
  obtain rfl : args = #[v0] := by cases args; simp_all
  obtain ⟨rfl, rfl⟩ := trodVars_none hV
  have k0 := h0
  have lt0 : ∀ x ∈ p0, x.block < W.heap.size := by obtain ⟨m, hm⟩ := k0; exact DataW.trod_lt m _ _ _ hm
  obtain ⟨ρ, σ, u, bs, g1, g2, g3, g4, g5, _⟩ := reads_bytes (hval 0 26 v0 rfl rfl) h0 (fun _ => rfl) (rel_none W) ro_none
  clear hA0 hval0
  have hargs1 : VsRel ρ #[u] #[v0] := ⟨rfl, fun i x x' h1 h2 => by
    have : i = 0 := by
      rcases i with _ | i
      · rfl
      · simp at h1
    subst this
    simp at h1 h2
    subst h1; subst h2
    exact g4⟩
  have hh := lift_of (g := σ.get) (n := σ.nxt) (logOwn_c begunOk g5) g1 hargs1 g3
  clear hargs1 g5 g4 g3 g2 g1
  refine hh.mono fun e W' hq => ?_
  obtain ⟨he, bel⟩ := hq
  subst he
  have hT := Below.trod (P := Tryz.prog) laidOut (by kernel_rfl) (of_decide_eq_true (by kernel_rfl)) k0 bel lt0
  refine ⟨_, rfl, ?_⟩
  refine ⟨_, _, _, [], _, [], hW', trodAll_mk1 (shut_bool Tryz.underlying4 _), trodAll_cons_mk hT trodAll_mk0, rfl, bel.frame _, fun h => by cases h⟩

set_option maxRecDepth 100000 in
set_option maxHeartbeats 4000000 in
theorem logOwn_closed : joinedFacts Tryz.prog 7 Tryz.f7 Rows.logOwnSpec Rows.logOwnRow = true := by
  unfold joinedFacts
  repeat' (with_reducible refine and_t ?_ ?_)
  all_goals (as_aux_lemma => kernel_rfl)

theorem logOwn_over : Rows.logOwnRow.holds Tryz.pinned (OpenSpec.ofChange Rows.logOwnSpec) :=
  OpenClaim.holds_of_wide 7 Tryz.f7 rfl rfl rfl rfl rfl rfl rfl ⟨rfl, rfl, rfl, rfl, rfl⟩ rfl rfl rfl rfl rfl (by as_aux_lemma => kernel_rfl) Tryz.func7 logOwn_closed
    (of_decide_eq_true (by as_aux_lemma => kernel_rfl)) (by as_aux_lemma => (unfold Func.isWrapper; first | (rw [if_pos (by decide +kernel)]; kernel_rfl) | (rw [if_neg (by decide +kernel)]; exact ⟨rfl, rfl⟩)))
    (fun os started H enc _ => logOwn_lifted os started H enc)

theorem logOwn_holds : Rows.LogOwnSaid := logOwn_over

end Go.Proofs.YtehmailaabjdjaaGreat
