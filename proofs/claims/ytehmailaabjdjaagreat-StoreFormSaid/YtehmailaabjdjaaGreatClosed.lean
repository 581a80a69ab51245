/-
  A closed call, from any heap. No condition.
-/
import Derived.Test.YtehmailaabjdjaaGreatMemo
namespace Go.Proofs.YtehmailaabjdjaaGreat
set_option linter.unusedSimpArgs false
set_option linter.unusedVariables false

theorem acall_closed {P : Program} {f : FuncId} {c : Value} {σ₀ : Heap} (h0 : ∀ l, σ₀.get l = none) (hc : plainV c = true) (h : ACall P f #[] σ₀ fun v _ => v = c) (σ : Heap) :
  ACall P f #[] σ fun v τ => v = c ∧ τ = σ := by
 intro ρ w args' hrel hargs
 have hrel0 : Rel (fun _ => none) σ₀ w := ⟨fun l o hl => (by rw [h0] at hl; cases hl), fun l l' o o' p p' _ hl => (by rw [h0] at hl; cases hl), fun l p hl => (by cases hl)⟩
 have ha : args' = #[] := by
  have := hargs.1
  simp at this
  exact Array.eq_empty_of_size_eq_zero this.symm
 subst ha
 have hargs0 : VsRel (fun _ => none) (#[] : Array Value) (#[] : Array Value) := ⟨rfl, fun i v v' h1 => (by simp at h1)⟩
 refine (h _ w _ hrel0 hargs0).mono ?_
 rintro e w' ⟨v, v', ρ', σ', he, hR, hF, hN, hv, rfl⟩
 have hv' := plainV_eq hc hv
 subst hv'
 have hblk : ∀ b, b < w.heap.size → w'.heap[b]? = w.heap[b]? := fun b hb => hF.blk b hb fun ⟨l, o, p, hl, _⟩ => (by rw [h0] at hl; cases hl)
 refine ⟨v', v', ρ, σ, he, ⟨fun l o hl => ?_, hrel.excl, fun l p hp => ?_⟩, ⟨ρ.le_refl, hF.os, hF.tape, hF.output, hF.size, Nat.le_refl _, fun b hb _ => hblk b hb, fun _ _ _ h => h⟩, Fin.refl _ _, plainV_rel ρ hc, rfl, rfl⟩
 ·obtain ⟨p, hp, hre⟩ := hrel.dom l o hl
  exact ⟨p, hp, hre.mono ρ.le_refl (hblk _ (hrel.bnd _ _ hp).2)⟩
 ·exact ⟨(hrel.bnd l p hp).1, Nat.lt_of_lt_of_le (hrel.bnd l p hp).2 hF.size⟩

end Go.Proofs.YtehmailaabjdjaaGreat
