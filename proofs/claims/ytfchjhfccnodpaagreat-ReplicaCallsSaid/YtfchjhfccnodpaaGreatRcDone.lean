/-
  The statement on ReplicaCalls: it answers true whatever comes in, and leaves it as it was. No condition but those of the row.
-/
import Derived.Test.YtfchjhfccnodpaaGreatRows
import Derived.Test.YtfchjhfccnodpaaGreatPk4
import Derived.Test.YtfchjhfccnodpaaGreatPk19
import Derived.WalkKit
import Derived.ProofKit
import Derived.OpenShut
import Derived.ShutString
import Derived.ChangeOld
import Derived.Below
namespace Go.Proofs.YtfchjhfccnodpaaGreat
open Go.ChangeShapes Go.WideShapes Go.ChangeAt Go.RowKit
open Go.ChangeMaps (open_string shut_string)
set_option linter.unusedVariables false
set_option linter.unusedSimpArgs false

theorem replicaCalls_and {a b : Bool} (h : a = true) (k : b = true) : (a && b) = true := by rw [h, k]; rfl

set_option maxRecDepth 100000 in
theorem replicaCalls_contract (H : Type) (enc : TypeId × Value → H) (W : World) (base : Nat) (args : Array Value) (ds gs : List (DataW H)) (before : List MemPlace)
    (hval : ∀ (j : Nat) t v, Tryz.f4.params[j]? = some t → args[j]? = some v → Value.okWide Tryz.prog W .any base t v)
    (hW : DataW.Whole enc Tryz.prog Tryz.f4.params.toList Rows.replicaCallsSpec.vars false W args.toList ds gs before) :
    Calls Tryz.prog 4 args W fun e W' => ∃ v, e = .returned v ∧ Rows.replicaCallsSpec.post enc Tryz.prog Tryz.f4 false true false false W args v W' := by
  have hW' := hW
  obtain ⟨p, q, hA0, hV, rfl, hfz, hnd⟩ := hW
  have hA : DataW.TrodAll enc Tryz.prog W 0 (fun _ => true) true Tryz.f4.params.toList args.toList ds p := hA0
  rw [Tryz.params4] at hA hval
  obtain ⟨v0, vs0, d0, ds0, p0, q0, hargs, rfl, rfl, h0, r0⟩ := trodAll_cons hA
  obtain ⟨v1, vs1, d1, ds1, p1, q1, hv1, rfl, rfl, h1, r1⟩ := trodAll_cons r0
  obtain ⟨v2, vs2, d2, ds2, p2, q2, hv2, rfl, rfl, h2, r2⟩ := trodAll_cons r1
  obtain ⟨v3, vs3, d3, ds3, p3, q3, hv3, rfl, rfl, h3, r3⟩ := trodAll_cons r2
  obtain ⟨rfl, rfl, rfl⟩ := trodAll_nil r3
  subst hv3
  subst hv2
  subst hv1
  obtain rfl : args = #[v0, v1, v2, v3] := by cases args; simp_all
  obtain ⟨rfl, rfl⟩ := trodVars_none hV
  have k0 := h0
  have lt0 : ∀ x ∈ p0, x.block < W.heap.size := by obtain ⟨m, hm⟩ := k0; exact DataW.trod_lt m _ _ _ hm
  have k1 := h1
  have lt1 : ∀ x ∈ p1, x.block < W.heap.size := by obtain ⟨m, hm⟩ := k1; exact DataW.trod_lt m _ _ _ hm
  have k2 := h2
  have lt2 : ∀ x ∈ p2, x.block < W.heap.size := by obtain ⟨m, hm⟩ := k2; exact DataW.trod_lt m _ _ _ hm
  have k3 := h3
  have lt3 : ∀ x ∈ p3, x.block < W.heap.size := by obtain ⟨m, hm⟩ := k3; exact DataW.trod_lt m _ _ _ hm
  clear hA0
  obtain ⟨z0, e0, _, _, wf0⟩ := open_int Tryz.underlying3 (hval 0 3 v0 rfl rfl) h0
  subst e0
  obtain ⟨z1, e1, _, _, wf1⟩ := open_int Tryz.underlying3 (hval 1 3 v1 rfl rfl) h1
  subst e1
  obtain ⟨ρ2, σ2, u2, g2, w2, o2, x2, s2⟩ := reads_slice (M := maxLen) (k := 2) Tryz.underlying31 (by kernel_rfl) (hval 2 31 v2 rfl rfl) h2 (.inl (Nat.le_refl _)) (rel_none W) ro_none
  obtain ⟨z3, e3, _⟩ := open_bool Tryz.underlying4 (hval 3 4 v3 rfl rfl) h3
  subst e3
  obtain ⟨y2, e2, n2, b2⟩ := sh_ints (P := Tryz.prog) Tryz.underlying31 Tryz.underlying3 (by kernel_rfl) s2
  have hargs1 : VsRel ρ2 #[.int .i64 z0, .int .i64 z1, u2, .bool z3] #[.int .i64 z0, .int .i64 z1, v2, .bool z3] := VlRel.toArray (.cons (.int .i64 z0) (.cons (.int .i64 z1) (.cons x2 (.cons (.bool _) (.nil _)))))
  have hh := lift_of (g := σ2.get) (n := σ2.nxt) (repCalls_c begunOk e2) g2 hargs1 o2
  clear hargs1
  refine hh.mono fun e W' hq => ?_
  obtain ⟨he, bel⟩ := hq
  subst he
  have hT0 := Below.trod (P := Tryz.prog) laidOut (by kernel_rfl) (of_decide_eq_true (by kernel_rfl)) k0 bel lt0
  have hT1 := Below.trod (P := Tryz.prog) laidOut (by kernel_rfl) (of_decide_eq_true (by kernel_rfl)) k1 bel lt1
  have hT2 := Below.trod (P := Tryz.prog) laidOut (by kernel_rfl) (of_decide_eq_true (by kernel_rfl)) k2 bel lt2
  have hT3 := Below.trod (P := Tryz.prog) laidOut (by kernel_rfl) (of_decide_eq_true (by kernel_rfl)) k3 bel lt3
  refine ⟨_, rfl, ?_⟩
  exact ⟨_, _, _, [], _, [], hW', trodAll_mk1 (shut_bool Tryz.underlying4 _), trodAll_cons_mk hT0 (trodAll_cons_mk hT1 (trodAll_cons_mk hT2 (trodAll_cons_mk hT3 trodAll_mk0))), rfl, bel.frame _, fun h => by cases h⟩

set_option maxRecDepth 100000 in
theorem replicaCalls_lifted (os : Os) (started : os.Started) (H : Type) (enc : TypeId × Value → H) :
    ReturnsInHanded {} Tryz.checked os 4 .any (Rows.replicaCallsSpec.pre6 enc Tryz.prog Tryz.f4 Rows.replicaCallsRow.domain false) (Rows.replicaCallsSpec.post enc Tryz.prog Tryz.f4 false true false false) := by
  refine returnsInHanded_of_change (C := Tryz.checked) own started (by kernel_rfl) Tryz.func4
    (ChangeSpec.witness6 (enc := enc) (C := Tryz.checked) false ⟨#[], #[(.int .i64 0), (.int .i64 0), .slice none 0 0, (.bool false)], []⟩ 8 (by kernel_rfl) (by kernel_rfl) (by kernel_rfl) (by kernel_rfl)) ?_
  intro W base args ds gs before hval hW _ _
  exact replicaCalls_contract H enc W base args ds gs before hval hW

set_option maxRecDepth 100000 in
set_option maxHeartbeats 4000000 in
theorem replicaCalls_closed : joinedFacts Tryz.prog 4 Tryz.f4 Rows.replicaCallsSpec Rows.replicaCallsRow = true := by
  unfold joinedFacts
  repeat' (with_reducible refine replicaCalls_and ?_ ?_)
  all_goals (as_aux_lemma => kernel_rfl)

theorem replicaCalls_over : Rows.replicaCallsRow.holds Tryz.pinned (OpenSpec.ofChange Rows.replicaCallsSpec) :=
  OpenClaim.holds_of_wide 4 Tryz.f4 rfl rfl rfl rfl rfl rfl rfl ⟨rfl, rfl, rfl, rfl, rfl⟩ rfl rfl rfl rfl rfl (by as_aux_lemma => kernel_rfl) Tryz.func4 replicaCalls_closed
    (of_decide_eq_true (by as_aux_lemma => kernel_rfl)) (by as_aux_lemma => (unfold Func.isWrapper; first | (rw [if_pos (by decide +kernel)]; kernel_rfl) | (rw [if_neg (by decide +kernel)]; exact ⟨rfl, rfl⟩)))
    (fun os started H enc _ => replicaCalls_lifted os started H enc)

theorem replicaCalls_holds : Rows.ReplicaCallsSaid := replicaCalls_over

end Go.Proofs.YtfchjhfccnodpaaGreat
