/-
  CALLS that come in, beside operations on stores. No condition.
-/
import Derived.Test.YtehmailaabjdjaaGreatReadT
import Derived.Test.YtehmailaabjdjaaGreatRpC
namespace Go.Proofs.YtehmailaabjdjaaGreat
open Go.ChangeShapes Go.WideShapes Go.ChangeAt Go.RowKit
set_option linter.unusedVariables false
set_option linter.unusedSimpArgs false
set_option maxRecDepth 100000

section
variable {M : Nat} {g : Gm}

theorem sh_cal {us : List Value} (h : Sh Tryz.prog M g 6 55 us) : ∃ (x : Cal) (gv wv : Value), us = calC x gv wv ∧ CalAt g x gv wv ∧ x.gs.length ≤ M ∧ x.ws.length ≤ M := by
 have c2 : Tryz.prog.cellsOf 2 = 1 := by kernel_rfl
 have c3 : Tryz.prog.cellsOf 3 = 1 := by kernel_rfl
 have c9 : Tryz.prog.cellsOf 9 = 1 := by kernel_rfl
 have c42 : Tryz.prog.cellsOf 42 = 2 := by kernel_rfl
 have c55 : Tryz.prog.cellsOf 55 = 7 := by kernel_rfl
 unfold Sh at h
 rw [Tryz.underlying55] at h
 simp only [List.forall_mem_cons, List.forall_mem_nil, and_true, c2, c3, c9, c42, c55] at h
 obtain ⟨hl, f0, f1, f2, f3, f4, f5⟩ := h
 obtain ⟨a, b, c, d, e, p, q, rfl⟩ : ∃ a b c d e p q, us = [a, b, c, d, e, p, q] := by
  match us, hl with
  | [a, b, c, d, e, p, q], _ => exact ⟨a, b, c, d, e, p, q, rfl⟩
 have f0 : Sh Tryz.prog M g 5 3 [a] := f0
 have f1 : Sh Tryz.prog M g 5 2 [b] := f1
 have f2 : Sh Tryz.prog M g 5 3 [c] := f2
 have f3 : Sh Tryz.prog M g 5 9 [d] := f3
 have f4 : Sh Tryz.prog M g 5 2 [e] := f4
 have f6 : Sh Tryz.prog M g 5 42 [p, q] := f5.1
 unfold Sh at f0 f1 f2 f3 f4
 rw [Tryz.underlying3] at f0 f2
 rw [Tryz.underlying2] at f1 f4
 rw [Tryz.underlying9] at f3
 obtain ⟨n0, e0, _⟩ := f0
 obtain ⟨n1, e1, _⟩ := f1
 obtain ⟨n2, e2, _⟩ := f2
 obtain ⟨s, e3, _⟩ := f3
 obtain ⟨n4, e4, _⟩ := f4
 cases e0; cases e1; cases e2; cases e3; cases e4
 obtain ⟨gv, wv, gs, ws, e5, k1, k2, k3, k4, k5⟩ := sh_txn f6
 cases e5
 exact ⟨⟨n0, n1, n2, s.data.toList, n4, gs, ws⟩, p, q, by simp only [calC, strD'], ⟨k1, k2⟩, k3, k4⟩

theorem sh_cals {u : Value} (h : Sh Tryz.prog M g 7 62 [u]) : ∃ xs : List Cal, CalsRd g u xs ∧ xs.length ≤ M ∧ ∀ x ∈ xs, x.gs.length ≤ M ∧ x.ws.length ≤ M := by
 obtain ⟨n, cs, h1, h2, h3⟩ := sh_slice Tryz.underlying62 h
 have c55 : Tryz.prog.cellsOf 55 = 7 := by kernel_rfl
 rw [c55] at h1 h3
 obtain ⟨xs, k1, k2⟩ := rows_of (R := fun c (x : {x : Cal // x.gs.length ≤ M ∧ x.ws.length ≤ M}) => ∃ gv wv, c = calC x.1 gv wv ∧ CalAt g x.1 gv wv) h1.1 (fun i hi => by
  obtain ⟨x, gv, wv, a, b, c, d⟩ := sh_cal (h3 i hi)
  exact ⟨⟨x, c, d⟩, gv, wv, a, b⟩)
 refine ⟨xs.map (·.1), ⟨cs, by rw [List.length_map, k1]; exact h1, rows_val (R := fun c x => ∃ gv wv, c = calC x gv wv ∧ CalAt g x gv wv) xs cs k2⟩, by rw [List.length_map]; omega, fun x hx => ?_⟩
 obtain ⟨y, _, rfl⟩ := List.mem_map.1 hx
 exact y.2
end

end Go.Proofs.YtehmailaabjdjaaGreat
