/-
  The statement on ReplyOf: it answers true whatever comes in, and leaves it as it was. No condition but those of the row.
-/
import Derived.Test.YtehmailaabjdjaaGreatRows
import Derived.Test.YtehmailaabjdjaaGreatReads
import Derived.Test.YtehmailaabjdjaaGreatReadU
import Derived.Test.YtehmailaabjdjaaGreatBegunOk
import Derived.WalkKit
import Derived.ProofKit
import Derived.OpenShut
import Derived.ShutString
import Derived.ChangeOld
import Derived.Below
namespace Go.Proofs.YtehmailaabjdjaaGreat
open Go.ChangeShapes Go.WideShapes Go.ChangeAt Go.RowKit
open Go.ChangeMaps (open_string shut_string)
set_option linter.unusedVariables false
set_option linter.unusedSimpArgs false

theorem replyOf_and {a b : Bool} (h : a = true) (k : b = true) : (a && b) = true := by rw [h, k]; rfl

set_option maxRecDepth 100000 in
theorem replyOf_contract (H : Type) (enc : TypeId × Value → H) (W : World) (base : Nat) (args : Array Value) (ds gs : List (DataW H)) (before : List MemPlace)
  (hval : ∀ (j : Nat) t v, Tryz.f6.params[j]? = some t → args[j]? = some v → Value.okWide Tryz.prog W .any base t v)
  (hW : DataW.Whole enc Tryz.prog Tryz.f6.params.toList Rows.replyOfSpec.vars false W args.toList ds gs before) :
  Calls Tryz.prog 6 args W fun e W' => ∃ v, e = .returned v ∧ Rows.replyOfSpec.post enc Tryz.prog Tryz.f6 false true false false W args v W' := by
 have hW' := hW
 obtain ⟨p, q, hA0, hV, rfl, hfz, hnd⟩ := hW
 have hA : DataW.TrodAll enc Tryz.prog W 0 (fun _ => true) true Tryz.f6.params.toList args.toList ds p := hA0
 rw [Tryz.params6] at hA hval
 obtain ⟨v0, vs0, d0, ds0, p0, q0, hargs, rfl, rfl, h0, r0⟩ := trodAll_cons hA
 obtain ⟨v1, vs1, d1, ds1, p1, q1, hv1, rfl, rfl, h1, r1⟩ := trodAll_cons r0
 obtain ⟨rfl, rfl, rfl⟩ := trodAll_nil r1
 subst hv1
 obtain rfl : args = #[v0, v1] := by cases args; simp_all
 obtain ⟨rfl, rfl⟩ := trodVars_none hV
 have k0 := h0
 have lt0 : ∀ x ∈ p0, x.block < W.heap.size := by obtain ⟨m, hm⟩ := k0; exact DataW.trod_lt m _ _ _ hm
 have k1 := h1
 have lt1 : ∀ x ∈ p1, x.block < W.heap.size := by obtain ⟨m, hm⟩ := k1; exact DataW.trod_lt m _ _ _ hm
 clear hA0
 obtain ⟨ρ0, σ0, u0, g0, w0, o0, x0, s0⟩ := reads_slice (M := maxLen) (k := 7) Tryz.underlying44 (by kernel_rfl) (hval 0 44 v0 rfl rfl) h0 (.inl (Nat.le_refl _)) (rel_none W) ro_none
 obtain ⟨ρ1, σ1, u1, g1, w1, o1, x1, s1⟩ := reads_slice (M := maxLen) (k := 7) Tryz.underlying62 (by kernel_rfl) (hval 1 62 v1 rfl rfl) h1 (.inl (Nat.le_refl _)) g0 o0
 obtain ⟨y0, e0, n0⟩ := sh_sops (Sh.up w1.sub s0)
 obtain ⟨y1, e1, n1⟩ := sh_cals s1
 have hargs1 : VsRel ρ1 #[u0, u1] #[v0, v1] := VlRel.toArray (.cons (x0.mono w1.le) (.cons x1 (.nil _)))
 have hh := lift_of (g := σ1.get) (n := σ1.nxt) (replyOf_c begunOk e0 e1) g1 hargs1 o1
 clear hargs1
 refine hh.mono fun e W' hq => ?_
 obtain ⟨he, bel⟩ := hq
 subst he
 have hT0 := Below.trod (P := Tryz.prog) laidOut (by kernel_rfl) (of_decide_eq_true (by kernel_rfl)) k0 bel lt0
 have hT1 := Below.trod (P := Tryz.prog) laidOut (by kernel_rfl) (of_decide_eq_true (by kernel_rfl)) k1 bel lt1
 refine ⟨_, rfl, ?_⟩
 exact ⟨_, _, _, [], _, [], hW', trodAll_mk1 (shut_bool Tryz.underlying4 _), trodAll_cons_mk hT0 (trodAll_cons_mk hT1 trodAll_mk0), rfl, bel.frame _, fun h => by cases h⟩

set_option maxRecDepth 100000 in
theorem replyOf_lifted (os : Os) (started : os.Started) (H : Type) (enc : TypeId × Value → H) :
  ReturnsInHanded {} Tryz.checked os 6 .any (Rows.replyOfSpec.pre6 enc Tryz.prog Tryz.f6 Rows.replyOfRow.domain false) (Rows.replyOfSpec.post enc Tryz.prog Tryz.f6 false true false false) := by
 refine returnsInHanded_of_change (C := Tryz.checked) own started (by kernel_rfl) Tryz.func6
  (ChangeSpec.witness6 (enc := enc) (C := Tryz.checked) false ⟨#[], #[.slice none 0 0, .slice none 0 0], []⟩ 8 (by kernel_rfl) (by kernel_rfl) (by kernel_rfl) (by kernel_rfl)) ?_
 intro W base args ds gs before hval hW _ _
 exact replyOf_contract H enc W base args ds gs before hval hW

set_option maxRecDepth 100000 in
set_option maxHeartbeats 4000000 in
theorem replyOf_closed : joinedFacts Tryz.prog 6 Tryz.f6 Rows.replyOfSpec Rows.replyOfRow = true := by
 unfold joinedFacts
 repeat' (with_reducible refine replyOf_and ?_ ?_)
 all_goals (as_aux_lemma => kernel_rfl)

theorem replyOf_over : Rows.replyOfRow.holds Tryz.pinned (OpenSpec.ofChange Rows.replyOfSpec) :=
 OpenClaim.holds_of_wide 6 Tryz.f6 rfl rfl rfl rfl rfl rfl rfl ⟨rfl, rfl, rfl, rfl, rfl⟩ rfl rfl rfl rfl rfl (by as_aux_lemma => kernel_rfl) Tryz.func6 replyOf_closed
  (of_decide_eq_true (by as_aux_lemma => kernel_rfl)) (by as_aux_lemma => (unfold Func.isWrapper; first | (rw [if_pos (by decide +kernel)]; kernel_rfl) | (rw [if_neg (by decide +kernel)]; exact ⟨rfl, rfl⟩)))
  (fun os started H enc _ => replyOf_lifted os started H enc)

theorem replyOf_holds : Rows.ReplyOfSaid := replyOf_over

end Go.Proofs.YtehmailaabjdjaaGreat
