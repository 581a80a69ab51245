/-
  An operation whose guard was itself left out is left out. No condition.
-/
import Derived.Test.YtehmailaabjdjaaGreatWkD
open Go.Proofs
namespace Go.Proofs.YtehmailaabjdjaaGreat
set_option linter.unusedSimpArgs false
set_option linter.unusedVariables false
set_option maxRecDepth 100000

theorem wanted_undef {ops : Array Oper} {a : Act} {o : Oper} {j d : Nat} {b : Bool} (hg : o.guard = some (j, b)) (h1 : gdst ops j = some d) (h2 : aeval a (.tmp d) = some undef) :
    Region.wanted o (yielded ops a.tmps) = false := by
  simp only [Region.wanted, hg, yielded]
  unfold gdst at h1
  rw [h1]
  simp only [aeval, Option.some.injEq] at h2
  simp only [Option.bind_some]
  rw [Array.getD_eq_getD_getElem?] at h2
  cases hd : a.tmps[d]? with
  | none => rfl
  | some u =>
    rw [hd] at h2
    simp only [Option.getD_some] at h2
    subst h2
    rfl

section
variable {X : Cx} {k : List Fm} {f : Nat → Value} {s : Sls} {g : Gm} {m j m₀ j₀ i : Nat} {ops : Array Oper} {op : Op} {ty : TypeId} {pos : String} {af : Array Edge} {lo : List Nat} {L : List (Nat × List Nat)} {D : List Rec} {os : List Oper}

theorem n_skU {jg d : Nat} {b : Bool} {dd : Tmp} (hd : gdL ops.toList jg = some d) (hv : ov X.N s (.tmp d) = some undef) (h : RN X k ops m₀ j₀ (i + 1) os f ((dd, undef) :: s) g m j) :
    RN X k ops m₀ j₀ i (⟨some dd, op, ty, pos, af, some (jg, b)⟩ :: os) f s g m j := by
  refine ⟨fun hops => ?_⟩
  rw [List.length_cons, List.range'_succ]
  have ho := rn_here hops
  simp only [runL, ho]
  rw [if_neg (by rw [wanted_undef rfl (gdL_ok hd) (ov_ok hv)]; simp), Fr_put]
  exact h.out (rn_rest hops)
theorem d_skU {jg d : Nat} {b : Bool} {dd : Tmp} (ho : nth ops.toList i = some ⟨some dd, op, ty, pos, af, some (jg, b)⟩) (hd : gdL ops.toList jg = some d) (hv : ov X.N s (.tmp d) = some undef) (h : RD X k ops m₀ j₀ L D f ((dd, undef) :: s) g m j) :
    RD X k ops m₀ j₀ ((i, lo) :: L) D f s g m j := by
  replace ho := nth_ok ho
  refine ⟨fun dep pre D' hpl hS => ?_⟩
  obtain ⟨hp, hpl2⟩ := plan_lo hpl
  simp only [List.map_cons, runD, ho]
  rw [if_neg (by rw [wanted_undef rfl (gdL_ok hd) (ov_ok hv)]; simp), Fr_put]
  exact h.out dep (i :: pre) _ hpl2 hS.grow

/-- The heap by another name. -/
theorem w_gen {c : Code} (h : ∀ g' n', g' = g → n' = m + j → WF g' n' → W X k c f s g' n' 0) : W X k c f s g m j :=
  w_wf fun hw => ⟨(h g (m + j) rfl rfl hw).out⟩
end

end Go.Proofs.YtehmailaabjdjaaGreat
