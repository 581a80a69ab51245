/-
  The statement on StoreForm: it answers true whatever comes in, and leaves it as it was. No condition but those of the row.
-/
import Derived.Test.YtehmailaabjdjaaGreatRows
import Derived.Test.YtehmailaabjdjaaGreatReads
import Derived.Test.YtehmailaabjdjaaGreatReadT
import Derived.Test.YtehmailaabjdjaaGreatStFrm
import Derived.Test.YtehmailaabjdjaaGreatBegunOk
import Derived.WalkKit
import Derived.ProofKit
import Derived.OpenShut
import Derived.ShutString
import Derived.ChangeOld
import Derived.Below
namespace Go.Proofs.YtehmailaabjdjaaGreat
open Go.ChangeShapes Go.WideShapes Go.ChangeAt Go.RowKit
open Go.ChangeMaps (open_string shut_string)
set_option linter.unusedVariables false
set_option linter.unusedSimpArgs false

theorem storeForm_and {a b : Bool} (h : a = true) (k : b = true) : (a && b) = true := by rw [h, k]; rfl

set_option maxRecDepth 100000 in
theorem storeForm_contract (H : Type) (enc : TypeId × Value → H) (W : World) (base : Nat) (args : Array Value) (ds gs : List (DataW H)) (before : List MemPlace)
  (hval : ∀ (j : Nat) t v, Tryz.f10.params[j]? = some t → args[j]? = some v → Value.okWide Tryz.prog W .any base t v)
  (hW : DataW.Whole enc Tryz.prog Tryz.f10.params.toList Rows.storeFormSpec.vars false W args.toList ds gs before) :
  Calls Tryz.prog 10 args W fun e W' => ∃ v, e = .returned v ∧ Rows.storeFormSpec.post enc Tryz.prog Tryz.f10 false true false false W args v W' := by
 have hW' := hW
 obtain ⟨p, q, hA0, hV, rfl, hfz, hnd⟩ := hW
 have hA : DataW.TrodAll enc Tryz.prog W 0 (fun _ => true) true Tryz.f10.params.toList args.toList ds p := hA0
 rw [Tryz.params10] at hA hval
 obtain ⟨v0, vs0, d0, ds0, p0, q0, hargs, rfl, rfl, h0, r0⟩ := trodAll_cons hA
 obtain ⟨v1, vs1, d1, ds1, p1, q1, hv1, rfl, rfl, h1, r1⟩ := trodAll_cons r0
 obtain ⟨v2, vs2, d2, ds2, p2, q2, hv2, rfl, rfl, h2, r2⟩ := trodAll_cons r1
 obtain ⟨rfl, rfl, rfl⟩ := trodAll_nil r2
 subst hv2
 subst hv1
 obtain rfl : args = #[v0, v1, v2] := by cases args; simp_all
 obtain ⟨rfl, rfl⟩ := trodVars_none hV
 have k0 := h0
 have lt0 : ∀ x ∈ p0, x.block < W.heap.size := by obtain ⟨m, hm⟩ := k0; exact DataW.trod_lt m _ _ _ hm
 have k1 := h1
 have lt1 : ∀ x ∈ p1, x.block < W.heap.size := by obtain ⟨m, hm⟩ := k1; exact DataW.trod_lt m _ _ _ hm
 have k2 := h2
 have lt2 : ∀ x ∈ p2, x.block < W.heap.size := by obtain ⟨m, hm⟩ := k2; exact DataW.trod_lt m _ _ _ hm
 clear hA0
 obtain ⟨ρ0, σ0, u0, g0, w0, o0, x0, s0⟩ := reads_struct (M := maxLen) (k := 5) Tryz.underlying42 (by kernel_rfl) (hval 0 42 v0 rfl rfl) h0 (.inl (Nat.le_refl _)) (rel_none W) ro_none
 obtain ⟨z1, e1, _, _, wf1⟩ := open_int Tryz.underlying3 (hval 1 3 v1 rfl rfl) h1
 subst e1
 obtain ⟨z2, e2, _, _, wf2⟩ := open_int Tryz.underlying3 (hval 2 3 v2 rfl rfl) h2
 subst e2
 obtain ⟨gv0, wv0, y0, yw0, q0', e0, f0, n0, m0, _⟩ := sh_txn s0
 subst q0'
 have hargs1 : VsRel ρ0 #[.agg [gv0, wv0].toArray, .int .i64 z1, .int .i64 z2] #[v0, .int .i64 z1, .int .i64 z2] := VlRel.toArray (.cons x0 (.cons (.int .i64 z1) (.cons (.int .i64 z2) (.nil _))))
 have hh := lift_of (g := σ0.get) (n := σ0.nxt) (storeForm_c begunOk e0 f0) g0 hargs1 o0
 clear hargs1
 refine hh.mono fun e W' hq => ?_
 obtain ⟨he, bel⟩ := hq
 subst he
 have hT0 := Below.trod (P := Tryz.prog) laidOut (by kernel_rfl) (of_decide_eq_true (by kernel_rfl)) k0 bel lt0
 have hT1 := Below.trod (P := Tryz.prog) laidOut (by kernel_rfl) (of_decide_eq_true (by kernel_rfl)) k1 bel lt1
 have hT2 := Below.trod (P := Tryz.prog) laidOut (by kernel_rfl) (of_decide_eq_true (by kernel_rfl)) k2 bel lt2
 refine ⟨_, rfl, ?_⟩
 exact ⟨_, _, _, [], _, [], hW', trodAll_mk1 (shut_bool Tryz.underlying4 _), trodAll_cons_mk hT0 (trodAll_cons_mk hT1 (trodAll_cons_mk hT2 trodAll_mk0)), rfl, bel.frame _, fun h => by cases h⟩

set_option maxRecDepth 100000 in
theorem storeForm_lifted (os : Os) (started : os.Started) (H : Type) (enc : TypeId × Value → H) :
  ReturnsInHanded {} Tryz.checked os 10 .any (Rows.storeFormSpec.pre6 enc Tryz.prog Tryz.f10 Rows.storeFormRow.domain false) (Rows.storeFormSpec.post enc Tryz.prog Tryz.f10 false true false false) := by
 refine returnsInHanded_of_change (C := Tryz.checked) own started (by kernel_rfl) Tryz.func10
  (ChangeSpec.witness6 (enc := enc) (C := Tryz.checked) false ⟨#[], #[.agg #[.slice none 0 0, .slice none 0 0], (.int .i64 0), (.int .i64 0)], []⟩ 8 (by kernel_rfl) (by kernel_rfl) (by kernel_rfl) (by kernel_rfl)) ?_
 intro W base args ds gs before hval hW _ _
 exact storeForm_contract H enc W base args ds gs before hval hW

set_option maxRecDepth 100000 in
set_option maxHeartbeats 4000000 in
theorem storeForm_closed : joinedFacts Tryz.prog 10 Tryz.f10 Rows.storeFormSpec Rows.storeFormRow = true := by
 unfold joinedFacts
 repeat' (with_reducible refine storeForm_and ?_ ?_)
 all_goals (as_aux_lemma => kernel_rfl)

theorem storeForm_over : Rows.storeFormRow.holds Tryz.pinned (OpenSpec.ofChange Rows.storeFormSpec) :=
 OpenClaim.holds_of_wide 10 Tryz.f10 rfl rfl rfl rfl rfl rfl rfl ⟨rfl, rfl, rfl, rfl, rfl⟩ rfl rfl rfl rfl rfl (by as_aux_lemma => kernel_rfl) Tryz.func10 storeForm_closed
  (of_decide_eq_true (by as_aux_lemma => kernel_rfl)) (by as_aux_lemma => (unfold Func.isWrapper; first | (rw [if_pos (by decide +kernel)]; kernel_rfl) | (rw [if_neg (by decide +kernel)]; exact ⟨rfl, rfl⟩)))
  (fun os started H enc _ => storeForm_lifted os started H enc)

theorem storeForm_holds : Rows.StoreFormSaid := storeForm_over

end Go.Proofs.YtehmailaabjdjaaGreat
