/-
  OPERATIONS ON A LOG THAT COME IN, their bytes not too long. No condition.
-/
import Derived.Test.YtehmailaabjdjaaGreatReadE
import Derived.Test.YtehmailaabjdjaaGreatLogAll
namespace Go.Proofs.YtehmailaabjdjaaGreat
open Go.ChangeShapes Go.WideShapes Go.ChangeAt Go.RowKit
set_option linter.unusedVariables false
set_option linter.unusedSimpArgs false
set_option maxRecDepth 100000

theorem sh_lop {g : Gm} {us : List Value} (h : Sh Tryz.prog 1048576 g 5 97 us) : ∃ o : {o : LOp // o.es.length ≤ 1048576}, OpC g us o.1 := by
  have c2 : Tryz.prog.cellsOf 2 = 1 := by kernel_rfl
  have c3 : Tryz.prog.cellsOf 3 = 1 := by kernel_rfl
  have c65 : Tryz.prog.cellsOf 65 = 1 := by kernel_rfl
  have c97 : Tryz.prog.cellsOf 97 = 3 := by kernel_rfl
  unfold Sh at h
  rw [Tryz.underlying97] at h
  simp only [List.forall_mem_cons, List.forall_mem_nil, and_true, c2, c3, c65, c97] at h
  obtain ⟨hl, f0, f1, f2⟩ := h
  obtain ⟨a, b, c, rfl⟩ : ∃ a b c, us = [a, b, c] := by
    match us, hl with
    | [a, b, c], _ => exact ⟨a, b, c, rfl⟩
  have f0 : Sh Tryz.prog 1048576 g 4 3 [a] := f0
  have f1 : Sh Tryz.prog 1048576 g 4 65 [b] := f1
  have f2 : Sh Tryz.prog 1048576 g 4 2 [c] := f2.1
  unfold Sh at f0 f2
  rw [Tryz.underlying3] at f0
  rw [Tryz.underlying2] at f2
  obtain ⟨n, e0, _⟩ := f0
  obtain ⟨m, e2, _⟩ := f2
  cases e0
  cases e2
  obtain ⟨es, k1, k2⟩ := sh_evs f1
  exact ⟨⟨⟨n, es, m⟩, k2⟩, b, rfl, k1⟩

theorem sh_ops {g : Gm} {u : Value} (h : Sh Tryz.prog 1048576 g 6 94 [u]) : ∃ os : List LOp, OpsRd g u os ∧ ∀ o ∈ os, o.es.length ≤ 1048576 := by
  obtain ⟨n, cs, h1, h2, h3⟩ := sh_slice Tryz.underlying94 h
  have c97 : Tryz.prog.cellsOf 97 = 3 := by kernel_rfl
  rw [c97] at h1 h3
  obtain ⟨os, k1, k2⟩ := rows_of (R := fun c (o : {o : LOp // o.es.length ≤ 1048576}) => OpC g c o.1) h1.1 (fun i hi => sh_lop (h3 i hi))
  have key : ∀ (xs : List {o : LOp // o.es.length ≤ 1048576}) (cs : List Value), Rows 3 (fun c o => OpC g c o.1) cs xs → Rows 3 (OpC g) cs (xs.map (·.1)) := by
    intro xs
    induction xs with
    | nil => intro cs h; exact h
    | cons x r ih =>
      intro cs h
      obtain ⟨c, d, e, e2, e3, e4⟩ := h
      exact ⟨c, d, e, e2, e3, ih d e4⟩
  refine ⟨os.map (·.1), ⟨cs, by rw [List.length_map, k1]; exact h1, key os cs k2⟩, fun o ho => ?_⟩
  obtain ⟨x, _, rfl⟩ := List.mem_map.1 ho
  exact x.2

end Go.Proofs.YtehmailaabjdjaaGreat
