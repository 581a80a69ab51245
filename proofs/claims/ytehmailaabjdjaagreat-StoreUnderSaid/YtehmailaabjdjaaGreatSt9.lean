/-
  What the laws of the store need more: strings that are joined, rows of rows of bytes, a store whose names are new. No condition.
-/
import Derived.Test.YtehmailaabjdjaaGreatStoX
open Go.Proofs
namespace Go.Proofs.YtehmailaabjdjaaGreat
set_option linter.unusedSimpArgs false
set_option linter.unusedVariables false
set_option maxRecDepth 100000

theorem str_app (a b : Bs) : str a ++ str b = str (a ++ b) := by
  apply ByteArray.ext
  simp [str]
theorem bi_cat {P : Program} {t : TypeId} {a b : Bs} (h : a.length + b.length ≤ 9223372036854775807) : binS P .add t (.string (str a)) (.string (str b)) = some (.string (str (a ++ b))) := by
  show (if (((str a).size + (str b).size : Nat) : Int) > IntKind.i64.max then none else some (Value.string (str a ++ str b))) = _
  rw [str_size, str_size, if_neg (by show ¬ ((a.length + b.length : Nat) : Int) > 9223372036854775807; omega), str_app]

/-- Rows of bytes in a row. -/
def BssRd (g : Gm) (v : Value) (xs : List Bs) : Prop := ∃ cs, SlC g 1 v xs.length cs ∧ Rows 1 (fun c x => ∃ w, c = [w] ∧ BytesAt g w x) cs xs
section
variable {F : Nat → AObj → Prop} {g g' : Gm} {n : Nat} {v : Value} {xs : List Bs}
theorem BssRd.kp (h : BssRd g v xs) (hk : Kp F g n g') (hw : WF g n) (hF : NoB F) (hv : Off F g v) : BssRd g' v xs := by
  obtain ⟨cs, h1, h2⟩ := h
  exact ⟨cs, h1.kp hk hw hv, h2.mono fun c x _ ⟨w, e, hx⟩ => ⟨w, e, hx.kp hk hw hF⟩⟩
theorem BssRd.kp0 (h : BssRd g v xs) (hk : K0 g n g') (hw : WF g n) : BssRd g' v xs := h.kp hk hw NoB.z (Off.z g v)
theorem BssRd.len (h : BssRd g v xs) : ∃ a c, v = .slice a xs.length c := by
  obtain ⟨cs, h1, _⟩ := h
  obtain ⟨a, c, e, _⟩ := h1.len
  exact ⟨a, c, e⟩
theorem BssRd.at {i : Nat} (h : BssRd g v xs) (hi : i < xs.length) : ∃ l o c cl ro a p, v = .slice (some ⟨l, o, none⟩) xs.length c ∧ g l = some (.cells cl 1 ro) ∧ cl[o + i * 1]? = some (.slice a xs[i].length p) ∧ BytesAt g (.slice a xs[i].length p) xs[i] := by
  obtain ⟨cs, h1, h2⟩ := h
  obtain ⟨l, o, c, cl, ro, rfl, hc, h3, h4, h5⟩ := h1.pos (by omega)
  have h6 := h2.get hi
  rw [← take_part h5 (show i * 1 + 1 ≤ xs.length * 1 by omega)] at h6
  obtain ⟨w, h7, h8⟩ := h6
  obtain ⟨a, p, rfl, _⟩ := h8.len
  refine ⟨l, o, c, cl, ro, a, p, rfl, h3, ?_, h8⟩
  have := congrArg (fun x => x[0]?) h7
  simpa [List.getElem?_take, List.getElem?_drop] using this
end

theorem st_newB (g : Gm) (n : Nat) : C 24 #[] g n fun u g' n' => ∃ s m1 m2 l, u = .pointer (some ⟨s, 0, none⟩) ∧ StAt n g' s m1 m2 l (.slice none 0 0) Sto.new ∧ (n ≤ s ∧ n ≤ m1 ∧ n ≤ m2 ∧ n ≤ l) ∧ K0 g n g' := by
  refine c_in0 Tryz.func24 rfl Tryz.ntmps24 fun hw => ?_
  repeat (first | refine w_seq ?_ | refine w_blk ?_ | refine z_seq ?_ | refine z_blk ?_ | refine w_skip ?_)
  refine w_reg 1 rfl rfl (j' := 1) ?_
  refine n_op .no (q := 0) rfl (s_as rfl ?_)
  refine n_nil ?_
  repeat (first | refine w_seq ?_ | refine w_blk ?_ | refine z_seq ?_ | refine z_blk ?_ | refine w_skip ?_)
  refine w_reg 6 rfl rfl (j' := 7) ?_
  refine n_op .no (q := 1) rfl (s_mm ?_)
  refine n_op .no (q := 2) rfl (s_mm ?_)
  refine n_call .no rfl rfl rfl ?_
  refine C.use (log_new _ _ 64) fun v g2 n2 hw2 hn2 hq => ?_
  obtain ⟨l, rfl, hl, hA, k2⟩ := hq
  refine n_op .no (q := 4) rfl (s_bld pl_127 zl_127 rfl rfl rfl ?_)
  refine n_op .no (q := 5) rfl (s_boxa rfl ?_)
  refine n_op .no (q := 6) rfl (s_as rfl ?_)
  refine n_nil ?_
  repeat (first | refine w_ret ?_ | refine w_seq ?_ | refine w_blk ?_ | refine z_seq ?_ | refine z_blk ?_ | refine w_skip ?_)
  refine z_r1 rfl rfl ?_
  refine ⟨_, n + 1, n + 2, l, rfl, ⟨gs_same _ _ _, ⟨[], 0, ?_, MapKept.stamped_empty 0, trivial⟩, ⟨[], 0, ?_, MapKept.stamped_empty 0, trivial⟩, ?_, by omega⟩, ⟨by omega, by omega, by omega, by omega⟩, ?_⟩
  · exact (gs_ne (by omega) _).trans (k2.lt (by omega) ((gs_ne (by omega) _).trans (gs_same _ _ _)))
  · exact (gs_ne (by omega) _).trans (k2.lt (by omega) (gs_same _ _ _))
  · exact (hA.kp (n := n2) (F := fun x _ => x < n + 7) (by repeat (first | exact Kp.refl _ _ _ | refine Kp.low ?_ (by omega) _ | refine Kp.new ?_ (by omega) _)) hw2 (fun x _ _ h => by omega) (fun o h => by omega) (fun x o hx => by cases hx)).up (by omega)
  · exact Kp.new (Kp.trans0 (n' := n) (by repeat (first | exact Kp.refl _ _ _ | refine Kp.new ?_ (by omega) _)) (k2.dn (by omega)) (by omega)) (by omega) _

/-- Text: of a string its first so many bytes. -/
theorem text23_c {g : Gm} {n j : Nat} (k : Bs) : C 23 #[.string (str k), .int .i64 (j : Int)] g n fun u g' n' => u = .string (str (k.take j)) ∧ g' = g := by
  refine c_in2 Tryz.func23 rfl Tryz.ntmps23 rfl fun hw => ?_
  repeat (first | refine w_seq ?_ | refine w_blk ?_ | refine z_seq ?_ | refine z_blk ?_ | refine w_skip ?_)
  refine w_reg 1 rfl rfl (j' := 1) ?_
  refine n_op .no (q := 0) rfl (s_as rfl ?_)
  refine n_nil ?_
  have hsz : (str k).size = k.length := str_size k
  repeat (first | refine w_seq ?_ | refine w_blk ?_ | refine z_seq ?_ | refine z_blk ?_ | refine w_skip ?_)
  refine w_reg 7 rfl rfl (j' := 8) ?_
  refine n_op .no (q := 1) rfl (s_mv rfl ?_)
  refine n_op .no (q := 2) rfl (s_mv rfl ?_)
  refine n_op .no (q := 3) rfl (s_len rfl rfl un_9 rfl ?_)
  refine n_op .no (q := 4) rfl (s_mv rfl ?_)
  refine n_op .no (q := 5) rfl (s_min rfl rfl (c := ((min k.length j : Nat) : Int)) (by omega) ?_)
  refine n_op .no (q := 6) rfl (s_hiS rfl rfl (Nat.min_le_left _ _) ?_)
  refine n_op .no (q := 7) rfl (s_as rfl ?_)
  refine n_nil ?_
  repeat (first | refine w_ret ?_ | refine w_seq ?_ | refine w_blk ?_ | refine z_seq ?_ | refine z_blk ?_ | refine w_skip ?_)
  refine z_r1 rfl rfl ?_
  refine ⟨?_, rfl⟩
  rcases Nat.le_total k.length j with h | h
  · rw [Nat.min_eq_left h, List.take_length, List.take_of_length_le h]
  · rw [Nat.min_eq_right h]

section
variable {g g' : Gm} {n b q s m1 m2 l : Nat} {sl : Value} {S : Sto}
theorem StAt.up {b' : Nat} (h : StAt b g s m1 m2 l sl S) (hb : b' ≤ b) : StAt b' g s m1 m2 l sl S := by
  refine ⟨h.cell, ?_, h.last, ⟨h.log.cell, h.log.evs.up hb⟩, h.ne⟩
  obtain ⟨es, c, q1, q2, q3⟩ := h.now
  exact ⟨es, c, q1, q2, q3.mono fun v e he => he.mono fun v bs hv => hv.up hb⟩
/-- A store's steps leave what was there before it. -/
theorem StAt.low (h : StAt b g s m1 m2 l sl S) (hq : q ≤ s ∧ q ≤ m1 ∧ q ≤ m2 ∧ q ≤ l) (hb : q ≤ b) (hn : q ≤ n) (hk : Kp (FS s m1 m2 l sl) g n g') : K0 g q g' := fun x o hx ho _ =>
  hk x o (by omega) ho fun hf => by
    rcases hf with ⟨e | e, _⟩ | ⟨e | e, _⟩ | ⟨e, _⟩
    · omega
    · omega
    · omega
    · omega
    · have := h.log.evs.from_ _ e; omega
theorem StAt.lowC (hq : q ≤ s) (hn : q ≤ n) (hk : Kp (FC s) g n g') : K0 g q g' := fun x o hx ho _ =>
  hk x o (by omega) ho fun hf => by have := hf.1; omega
end

end Go.Proofs.YtehmailaabjdjaaGreat
