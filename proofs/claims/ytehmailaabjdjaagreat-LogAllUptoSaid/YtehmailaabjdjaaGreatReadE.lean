/-
  EVENTS THAT COME IN, their bytes not too long. No condition.
-/
import Derived.Test.YtehmailaabjdjaaGreatReads
namespace Go.Proofs.YtehmailaabjdjaaGreat
open Go.ChangeShapes Go.WideShapes Go.ChangeAt Go.RowKit
set_option linter.unusedVariables false
set_option linter.unusedSimpArgs false
set_option maxRecDepth 100000

theorem strD (s : ByteArray) : str s.data.toList = s := by
  cases s
  simp [str]

theorem sh_evt {M : Nat} {g : Gm} {us : List Value} (hM : M ≤ 2 ^ 46) (h : Sh Tryz.prog M g 3 82 us) : ∃ e : Evt, EvC (BytesAt g) us e := by
  have c2 : Tryz.prog.cellsOf 2 = 1 := by kernel_rfl
  have c9 : Tryz.prog.cellsOf 9 = 1 := by kernel_rfl
  have c26 : Tryz.prog.cellsOf 26 = 1 := by kernel_rfl
  have c4 : Tryz.prog.cellsOf 4 = 1 := by kernel_rfl
  have c82 : Tryz.prog.cellsOf 82 = 4 := by kernel_rfl
  unfold Sh at h
  rw [Tryz.underlying82] at h
  simp only [List.forall_mem_cons, List.forall_mem_nil, and_true, c2, c9, c26, c4, c82] at h
  obtain ⟨hl, f0, f1, f2, f3⟩ := h
  obtain ⟨a, b, c, d, rfl⟩ : ∃ a b c d, us = [a, b, c, d] := by
    match us, hl with
    | [a, b, c, d], _ => exact ⟨a, b, c, d, rfl⟩
  have f0 : Sh Tryz.prog M g 2 2 [a] := f0
  have f1 : Sh Tryz.prog M g 2 9 [b] := f1
  have f2 : Sh Tryz.prog M g 2 26 [c] := f2
  have f3 : Sh Tryz.prog M g 2 4 [d] := f3.1
  unfold Sh at f0 f1 f3
  rw [Tryz.underlying2] at f0
  rw [Tryz.underlying9] at f1
  rw [Tryz.underlying4] at f3
  obtain ⟨n, e0, _⟩ := f0
  obtain ⟨s, e1, _⟩ := f1
  obtain ⟨q, e3⟩ := f3
  cases e0
  cases e1
  cases e3
  obtain ⟨bs, k1, k2⟩ := sh_bytes (k := 0) Tryz.underlying26 Tryz.underlying5 (by kernel_rfl) f2
  obtain ⟨a', p, rfl⟩ := k1.len
  refine ⟨⟨n, s.data.toList, bs, q⟩, a', p, ?_, k1, Nat.le_trans k2 hM⟩
  simp only [evtC, strD]

theorem sh_evs {g : Gm} {u : Value} (h : Sh Tryz.prog 1048576 g 4 65 [u]) : ∃ es : List Evt, EvsRd g u es ∧ es.length ≤ 1048576 := by
  obtain ⟨n, cs, h1, h2, h3⟩ := sh_slice Tryz.underlying65 h
  have c82 : Tryz.prog.cellsOf 82 = 4 := by kernel_rfl
  rw [c82] at h1 h3
  obtain ⟨es, k1, k2⟩ := rows_of (R := EvC (BytesAt g)) h1.1 (fun i hi => sh_evt (by decide) (h3 i hi))
  exact ⟨es, ⟨cs, by rw [k1]; exact h1, k2⟩, by omega⟩

end Go.Proofs.YtehmailaabjdjaaGreat
