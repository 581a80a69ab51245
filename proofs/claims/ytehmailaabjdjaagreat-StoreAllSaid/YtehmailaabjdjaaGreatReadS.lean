/-
  What comes in, read: rows of rows of bytes, strings in a row. No condition.
-/
import Derived.Test.YtehmailaabjdjaaGreatReads
import Derived.Test.YtehmailaabjdjaaGreatStoY
open Go.Proofs
namespace Go.Proofs.YtehmailaabjdjaaGreat
set_option linter.unusedVariables false
set_option linter.unusedSimpArgs false
set_option maxRecDepth 100000

section
variable {M : Nat} {g : Gm}

theorem rows_val2 {α : Type} {p : α → Prop} {z : Nat} {R : List Value → α → Prop} : ∀ (xs : List {o : α // p o}) (cs : List Value), Rows z (fun c o => R c o.1) cs xs → Rows z R cs (xs.map (·.1))
 | [], cs, h => h
 | x :: r, cs, h => by
  obtain ⟨c, d, e, e2, e3, e4⟩ := h
  exact ⟨c, d, e, e2, e3, rows_val2 r d e4⟩

theorem rows_f {α : Type} {f : α → Value} : ∀ (xs : List α) (cs : List Value), Rows 1 (fun c x => c = [f x]) cs xs → cs = xs.map f
 | [], cs, h => h
 | x :: r, cs, h => by
  obtain ⟨c, d, e, _, e3, e4⟩ := h
  rw [e, e3, rows_f r d e4]
  rfl
theorem sh_strs {u : Value} (h : Sh Tryz.prog M g 3 52 [u]) : ∃ ks : List Bs, StrsAt g u ks ∧ ks.length ≤ M := by
 obtain ⟨n, cs, h1, h2, h3⟩ := sh_slice Tryz.underlying52 h
 have c9 : Tryz.prog.cellsOf 9 = 1 := by kernel_rfl
 rw [c9] at h1 h3
 obtain ⟨ks, k1, k2⟩ := rows_of (R := fun c (x : Bs) => c = [strV1 x]) h1.1 (fun i hi => by
  have h4 := h3 i hi
  obtain ⟨w, hw⟩ : ∃ w, (cs.drop (i * 1)).take 1 = [w] := by
   have hl := h1.1
   have : i * 1 < cs.length := by omega
   exact ⟨cs[i * 1], by rw [List.drop_eq_getElem_cons this]; rfl⟩
  rw [hw] at h4 ⊢
  unfold Sh at h4
  rw [Tryz.underlying9] at h4
  obtain ⟨s, e, _⟩ := h4
  cases e
  exact ⟨s.data.toList, by rw [strV1, str_of]⟩)
 refine ⟨ks, ?_, by omega⟩
 have := rows_f (f := strV1) ks cs k2
 subst this
 rw [StrsAt, k1]
 exact h1

theorem sh_bss {u : Value} (h : Sh Tryz.prog M g 3 56 [u]) : ∃ xs : List Bs, BssRd g u xs ∧ xs.length ≤ M ∧ ∀ x ∈ xs, x.length ≤ M := by
 obtain ⟨n, cs, h1, h2, h3⟩ := sh_slice Tryz.underlying56 h
 have c26 : Tryz.prog.cellsOf 26 = 1 := by kernel_rfl
 rw [c26] at h1 h3
 obtain ⟨xs, k1, k2⟩ := rows_of (R := fun c (x : {x : Bs // x.length ≤ M}) => ∃ w, c = [w] ∧ BytesAt g w x.1) h1.1 (fun i hi => by
  have h4 := h3 i hi
  obtain ⟨w, hw⟩ : ∃ w, (cs.drop (i * 1)).take 1 = [w] := by
   have hl := h1.1
   have : i * 1 < cs.length := by omega
   exact ⟨cs[i * 1], by rw [List.drop_eq_getElem_cons this]; rfl⟩
  rw [hw] at h4
  obtain ⟨bs, a, b⟩ := sh_bytes (k := 0) Tryz.underlying26 Tryz.underlying5 (by kernel_rfl) h4
  exact ⟨⟨bs, b⟩, w, hw, a⟩)
 refine ⟨xs.map (·.1), ⟨cs, by rw [List.length_map, k1]; exact h1, rows_val2 (R := fun c x => ∃ w, c = [w] ∧ BytesAt g w x) xs cs k2⟩, by rw [List.length_map]; omega, fun x hx => ?_⟩
 obtain ⟨y, _, rfl⟩ := List.mem_map.1 hx
 exact y.2
end

end Go.Proofs.YtehmailaabjdjaaGreat
