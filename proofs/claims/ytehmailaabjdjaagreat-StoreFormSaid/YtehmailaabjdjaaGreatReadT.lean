/-
  GUARDS, WRITES, TXNS, operations on stores that come in. No condition.
-/
import Derived.Test.YtehmailaabjdjaaGreatReads
import Derived.Test.YtehmailaabjdjaaGreatStoY
namespace Go.Proofs.YtehmailaabjdjaaGreat
open Go.ChangeShapes Go.WideShapes Go.ChangeAt Go.RowKit
set_option linter.unusedVariables false
set_option linter.unusedSimpArgs false
set_option maxRecDepth 100000

section
variable {H : Type} {enc : TypeId × Value → H} {P : Program} {W : World} {M : Nat}
theorem reads_struct {k : Nat} {t : TypeId} {fs : Array Field} {v : Value} {d : DataW H} {ps : List MemPlace} (ht : P.underlying t = some (.struct fs)) (hr : rdT P k t = true) (hv : Value.okWide P W .any 0 t v) (h : DataW.Trod enc P W 0 (fun _ => true) true t v d ps) (hB : Bnd M d)
  {ρ : LMap} {σ : Heap} (hrel : Rel ρ σ W) (hro : Ro σ) : ∃ ρ' σ' us, Rel ρ' σ' W ∧ Grow ρ σ ρ' σ' ∧ Ro σ' ∧ VRel ρ' (.agg us.toArray) v ∧ Sh P M σ'.get k t us := by
 have hv' : ∃ cs, v = .agg cs := by
  unfold Value.okWide at hv
  rw [ht] at hv
  obtain ⟨cs, h, _⟩ := hv
  exact ⟨cs, h⟩
 obtain ⟨cs, rfl⟩ := hv'
 obtain ⟨fuel, hf⟩ := h
 obtain ⟨ρ', σ', us, h1, h2, h3, h4, h5⟩ := reads_of (M := M) k t hr _ fuel _ hf hB ρ σ hrel hro
 have h4 : VlRel ρ' us cs.toList := h4
 have h6 := h4.toArray
 exact ⟨ρ', σ', us, h1, h2, h3, .agg (by simpa using h6.1) (fun i v v' a b => h6.2 i v v' a (by simpa using b)), h5⟩
end

theorem byte_of {n : Int} (h : (Lit.int .u8 n).wf = true) : ∃ b : UInt8, n = (b.toNat : Int) := by
 have h1 : (decide (IntKind.u8.min ≤ n) && decide (n ≤ IntKind.u8.max)) = true := h
 simp only [Bool.and_eq_true, decide_eq_true_eq] at h1
 have h2 : (0 : Int) ≤ n := h1.1
 have h3 : n ≤ 255 := h1.2
 exact ⟨UInt8.ofNat n.toNat, by rw [UInt8.toNat_ofNat']; omega⟩

theorem strD' (s : ByteArray) : str s.data.toList = s := by
 cases s
 simp [str]
theorem strL (s : ByteArray) : s.data.toList.length = s.size := by
 cases s
 simp [ByteArray.size]

section
variable {M : Nat} {g : Gm}

theorem sh_gd {us : List Value} (h : Sh Tryz.prog M g 3 36 us) : ∃ x : Gd, us = gdC x := by
 have c2 : Tryz.prog.cellsOf 2 = 1 := by kernel_rfl
 have c9 : Tryz.prog.cellsOf 9 = 1 := by kernel_rfl
 have c4 : Tryz.prog.cellsOf 4 = 1 := by kernel_rfl
 have c36 : Tryz.prog.cellsOf 36 = 3 := by kernel_rfl
 unfold Sh at h
 rw [Tryz.underlying36] at h
 simp only [List.forall_mem_cons, List.forall_mem_nil, and_true, c2, c9, c4, c36] at h
 obtain ⟨hl, f0, f1, f2⟩ := h
 obtain ⟨a, b, c, rfl⟩ : ∃ a b c, us = [a, b, c] := by
  match us, hl with
  | [a, b, c], _ => exact ⟨a, b, c, rfl⟩
 have f0 : Sh Tryz.prog M g 2 9 [a] := f0
 have f1 : Sh Tryz.prog M g 2 2 [b] := f1
 have f2 : Sh Tryz.prog M g 2 4 [c] := f2.1
 unfold Sh at f0 f1 f2
 rw [Tryz.underlying9] at f0
 rw [Tryz.underlying2] at f1
 rw [Tryz.underlying4] at f2
 obtain ⟨s, e0, _⟩ := f0
 obtain ⟨n, e1, _⟩ := f1
 obtain ⟨q, e2⟩ := f2
 cases e0
 cases e1
 cases e2
 exact ⟨⟨s.data.toList, n, q⟩, by simp only [gdC, strD']⟩

theorem sh_wr {us : List Value} (h : Sh Tryz.prog M g 3 39 us) : ∃ x : Wr, WrC (BytesAt g) us x ∧ x.val.length ≤ M := by
 have c9 : Tryz.prog.cellsOf 9 = 1 := by kernel_rfl
 have c26 : Tryz.prog.cellsOf 26 = 1 := by kernel_rfl
 have c4 : Tryz.prog.cellsOf 4 = 1 := by kernel_rfl
 have c39 : Tryz.prog.cellsOf 39 = 3 := by kernel_rfl
 unfold Sh at h
 rw [Tryz.underlying39] at h
 simp only [List.forall_mem_cons, List.forall_mem_nil, and_true, c26, c9, c4, c39] at h
 obtain ⟨hl, f0, f1, f2⟩ := h
 obtain ⟨a, b, c, rfl⟩ : ∃ a b c, us = [a, b, c] := by
  match us, hl with
  | [a, b, c], _ => exact ⟨a, b, c, rfl⟩
 have f0 : Sh Tryz.prog M g 2 9 [a] := f0
 have f1 : Sh Tryz.prog M g 2 26 [b] := f1
 have f2 : Sh Tryz.prog M g 2 4 [c] := f2.1
 unfold Sh at f0 f2
 rw [Tryz.underlying9] at f0
 rw [Tryz.underlying4] at f2
 obtain ⟨s, e0, _⟩ := f0
 obtain ⟨q, e2⟩ := f2
 cases e0
 cases e2
 obtain ⟨bs, k1, k2⟩ := sh_bytes (k := 0) Tryz.underlying26 Tryz.underlying5 (by kernel_rfl) f1
 obtain ⟨a', p, rfl⟩ := BytesAt.len k1
 exact ⟨⟨s.data.toList, bs, q⟩, ⟨a', p, by simp only [wrC, strD'], k1⟩, k2⟩

theorem sh_gds {u : Value} (h : Sh Tryz.prog M g 4 37 [u]) : ∃ gs : List Gd, GdsRd g u gs ∧ gs.length ≤ M := by
 obtain ⟨n, cs, h1, h2, h3⟩ := sh_slice Tryz.underlying37 h
 have c36 : Tryz.prog.cellsOf 36 = 3 := by kernel_rfl
 rw [c36] at h1 h3
 obtain ⟨gs, k1, k2⟩ := rows_of (R := fun c x => c = gdC x) h1.1 (fun i hi => sh_gd (h3 i hi))
 exact ⟨gs, ⟨cs, by rw [k1]; exact h1, k2⟩, by omega⟩

def WrsUp (M : Nat) (ws : List Wr) : Prop := ∀ x ∈ ws, x.val.length ≤ M

theorem rows_val {α : Type} {p : α → Prop} {z : Nat} {R : List Value → α → Prop} : ∀ (xs : List {o : α // p o}) (cs : List Value), Rows z (fun c o => R c o.1) cs xs → Rows z R cs (xs.map (·.1))
 | [], cs, h => h
 | x :: r, cs, h => by
  obtain ⟨c, d, e, e2, e3, e4⟩ := h
  exact ⟨c, d, e, e2, e3, rows_val r d e4⟩

theorem sh_wrs {u : Value} (h : Sh Tryz.prog M g 4 40 [u]) : ∃ ws : List Wr, WrsRd g u ws ∧ ws.length ≤ M ∧ WrsUp M ws := by
 obtain ⟨n, cs, h1, h2, h3⟩ := sh_slice Tryz.underlying40 h
 have c39 : Tryz.prog.cellsOf 39 = 3 := by kernel_rfl
 rw [c39] at h1 h3
 obtain ⟨ws, k1, k2⟩ := rows_of (R := fun c (x : {x : Wr // x.val.length ≤ M}) => WrC (BytesAt g) c x.1) h1.1 (fun i hi => by
  obtain ⟨x, a, b⟩ := sh_wr (h3 i hi)
  exact ⟨⟨x, b⟩, a⟩)
 refine ⟨ws.map (·.1), ⟨cs, by rw [List.length_map, k1]; exact h1, rows_val ws cs k2⟩, by rw [List.length_map]; omega, fun x hx => ?_⟩
 obtain ⟨y, _, rfl⟩ := List.mem_map.1 hx
 exact y.2

theorem sh_txn {us : List Value} (h : Sh Tryz.prog M g 5 42 us) : ∃ gv wv gs ws, us = [gv, wv] ∧ GdsRd g gv gs ∧ WrsRd g wv ws ∧ gs.length ≤ M ∧ ws.length ≤ M ∧ WrsUp M ws := by
 have c37 : Tryz.prog.cellsOf 37 = 1 := by kernel_rfl
 have c40 : Tryz.prog.cellsOf 40 = 1 := by kernel_rfl
 have c42 : Tryz.prog.cellsOf 42 = 2 := by kernel_rfl
 unfold Sh at h
 rw [Tryz.underlying42] at h
 simp only [List.forall_mem_cons, List.forall_mem_nil, and_true, c37, c40, c42] at h
 obtain ⟨hl, f0, f1⟩ := h
 obtain ⟨a, b, rfl⟩ : ∃ a b, us = [a, b] := by
  match us, hl with
  | [a, b], _ => exact ⟨a, b, rfl⟩
 have f0 : Sh Tryz.prog M g 4 37 [a] := f0
 have f1 : Sh Tryz.prog M g 4 40 [b] := f1.1
 obtain ⟨gs, k1, k2⟩ := sh_gds f0
 obtain ⟨ws, k3, k4, k5⟩ := sh_wrs f1
 exact ⟨a, b, gs, ws, rfl, k1, k3, k2, k4, k5⟩

theorem sh_sop {us : List Value} (h : Sh Tryz.prog M g 6 47 us) : ∃ x : SOp, SopC g us x := by
 have c3 : Tryz.prog.cellsOf 3 = 1 := by kernel_rfl
 have c2 : Tryz.prog.cellsOf 2 = 1 := by kernel_rfl
 have c42 : Tryz.prog.cellsOf 42 = 2 := by kernel_rfl
 have c47 : Tryz.prog.cellsOf 47 = 4 := by kernel_rfl
 unfold Sh at h
 rw [Tryz.underlying47] at h
 simp only [List.forall_mem_cons, List.forall_mem_nil, and_true, c2, c3, c42, c47] at h
 obtain ⟨hl, f0, f1, f2⟩ := h
 obtain ⟨a, b, c, d, rfl⟩ : ∃ a b c d, us = [a, b, c, d] := by
  match us, hl with
  | [a, b, c, d], _ => exact ⟨a, b, c, d, rfl⟩
 have f0 : Sh Tryz.prog M g 5 3 [a] := f0
 have f1 : Sh Tryz.prog M g 5 42 [b, c] := f1
 have f2 : Sh Tryz.prog M g 5 2 [d] := f2.1
 unfold Sh at f0 f2
 rw [Tryz.underlying3] at f0
 rw [Tryz.underlying2] at f2
 obtain ⟨n0, e0, _⟩ := f0
 obtain ⟨n2, e2, _⟩ := f2
 cases e0; cases e2
 obtain ⟨gv, wv, gs, ws, e, k1, k2, _⟩ := sh_txn f1
 cases e
 exact ⟨⟨n0, gs, ws, n2⟩, b, c, rfl, k1, k2⟩
theorem sh_sops {u : Value} (h : Sh Tryz.prog M g 7 44 [u]) : ∃ xs : List SOp, SopsRd g u xs ∧ xs.length ≤ M := by
 obtain ⟨n, cs, h1, h2, h3⟩ := sh_slice Tryz.underlying44 h
 have c47 : Tryz.prog.cellsOf 47 = 4 := by kernel_rfl
 rw [c47] at h1 h3
 obtain ⟨xs, k1, k2⟩ := rows_of (R := SopC g) h1.1 (fun i hi => sh_sop (h3 i hi))
 exact ⟨xs, ⟨cs, by rw [k1]; exact h1, k2⟩, by omega⟩
end

end Go.Proofs.YtehmailaabjdjaaGreat
