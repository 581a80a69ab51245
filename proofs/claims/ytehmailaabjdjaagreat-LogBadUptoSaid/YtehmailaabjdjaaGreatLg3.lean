/-
  package log: Cut, From, by contract; the references' EqEvents. No condition.
-/
import Derived.Test.YtehmailaabjdjaaGreatLg2
open Go.Proofs
namespace Go.Proofs.YtehmailaabjdjaaGreat
set_option linter.unusedSimpArgs false
set_option linter.unusedVariables false
set_option maxRecDepth 100000

theorem EvsOwn.lt {b : Nat} {g : Gm} {n : Nat} {v : Value} {es : List Evt} (h : EvsOwn b g v es) (hw : WF g n) {x : Nat} (hx : vname v = some x) : x < n := by
  obtain ⟨⟨cs, ⟨_, ⟨rfl, _⟩ | ⟨l', o, c, cl, rfl, _, h4, _⟩⟩, _⟩, _⟩ := h
  · cases hx
  · simp only [vname, Option.some.injEq] at hx
    subst hx
    exact hw _ _ h4
theorem EvsOwn.nbo {b : Nat} {g : Gm} {v : Value} {es : List Evt} (h : EvsOwn b g v es) {x : Nat} (hx : vname v = some x) {o : AObj} (ho : g x = some o) : nb o := by
  obtain ⟨⟨cs, ⟨_, ⟨rfl, _⟩ | ⟨l', o', c, cl, rfl, _, h4, _⟩⟩, _⟩, _⟩ := h
  · cases hx
  · simp only [vname, Option.some.injEq] at hx
    subst hx
    rw [h4] at ho; cases ho
    intro h; cases h

/-- A write into a cell of a kind other than bytes. -/
theorem Kp.cell {g g' : Gm} {n l : Nat} {c : List Value} {z : Nat} {ro : Bool} (h : Kp (fun x o => x = l ∧ nb o) g n g') (hl : g l = some (.cells c z ro)) (hz : z ≠ 1) (o : AObj) : Kp (fun x o => x = l ∧ nb o) g n (gset g' l o) :=
  h.set (fun o ho => ⟨rfl, by rw [hl] at ho; cases ho; exact hz⟩) o

section
variable {g : Gm} {n b l : Nat} {sl : Value} {L : Log}

theorem log_cut {rev : Int} (h : LogAt b g l sl L) (hn : L.evs.length ≤ 2 ^ 40) :
    C 52 #[.pointer (some ⟨l, 0, none⟩), .int .i64 rev] g n fun u g' n' => ∃ sl', LogAt b g' l sl' (L.cut rev) ∧ vname sl' = vname sl ∧ Kp (FL l sl) g n g' := by
  have hl := h.cell
  refine c_in2 Tryz.func52 rfl Tryz.ntmps52 rfl fun hw => ?_
  have hll := hw _ _ hl
  repeat (first | refine w_seq ?_ | refine w_blk ?_ | refine z_seq ?_ | refine z_blk ?_ | refine w_skip ?_)
  refine w_reg 1 rfl rfl (j' := 1) ?_
  refine n_op .no (q := 0) rfl (s_box rfl rfl ?_)
  refine n_nil ?_
  repeat (first | refine w_seq ?_ | refine w_blk ?_ | refine z_seq ?_ | refine z_blk ?_ | refine w_skip ?_)
  refine w_reg 2 rfl rfl (j' := 3) ?_
  refine n_op .no (q := 1) rfl (s_mv rfl ?_)
  refine n_op .no (q := 2) rfl (s_bin rfl rfl (bi_d un_78 rfl) ?_)
  refine n_nil ?_
  repeat (first | refine w_seq ?_ | refine w_blk ?_ | refine z_seq ?_ | refine z_blk ?_ | refine w_skip ?_)
  refine w_no rfl (rfl) ?_
  repeat (first | refine w_seq ?_ | refine w_blk ?_ | refine z_seq ?_ | refine z_blk ?_ | refine w_skip ?_)
  refine w_reg 10 rfl rfl (j' := 13) ?_
  refine n_op .no (q := 3) rfl (s_mv rfl ?_)
  refine n_op .no (q := 4) rfl (s_mv rfl ?_)
  refine n_op .no (q := 5) rfl (s_nil rfl ?_)
  first | refine n_op .no (q := 6) rfl (s_fa0 rfl fo_166_0 ?_) | refine n_op .no (q := 6) rfl (s_fa rfl fo_166_0 ?_)
  refine n_op .no (q := 7) rfl (s_ld rfl (by repeat (first | exact gs_same _ _ _ | exact hl | refine (gs_ne (by omega) _).trans ?_)) ag_65 (by first | exact rfl | exact hl) ?_)
  refine n_op .no (q := 8) rfl (s_mf rfl rfl rfl ?_)
  refine n_call .no rfl rfl rfl ?_
  refine C.use (delF_c (rev := rev) (EvsOwn.kp0 h.evs (by repeat (first | exact Kp.refl _ _ _ | refine Kp.new ?_ (by omega) _)) hw) (by repeat (first | exact gs_same _ _ _ | refine (gs_ne (by omega) _).trans ?_)) hn) fun v g1 n1 hw1 hn1 hq => ?_
  obtain ⟨q1, q2, k1⟩ := hq
  obtain ⟨a, c, rfl⟩ := q1.lenE
  have hl1 : g1 l = some (logC sl L) := k1 _ _ (by omega) (by repeat (first | exact gs_same _ _ _ | exact hl | refine (gs_ne (by omega) _).trans ?_)) (fun hF => h.ne hF.1)
  have hb1 : g1 (n + 0) = some (.cells [.int .i64 rev] 0 false) := k1 _ _ (by omega) (by repeat (first | exact gs_same _ _ _ | refine (gs_ne (by omega) _).trans ?_)) (fun hF => by have := h.evs.lt hw hF.1; omega)
  refine n_op .no (q := 10) rfl (s_nil rfl ?_)
  first | refine n_op .no (q := 11) rfl (s_fa0 rfl fo_166_0 ?_) | refine n_op .no (q := 11) rfl (s_fa rfl fo_166_0 ?_)
  refine n_op .no (q := 12) rfl (s_st rfl rfl sz_65 (by repeat (first | exact gs_same _ _ _ | exact hl1 | refine (gs_ne (by omega) _).trans ?_)) rfl rfl (by exact rfl) ?_)
  refine n_nil ?_
  repeat (first | refine w_seq ?_ | refine w_blk ?_ | refine z_seq ?_ | refine z_blk ?_ | refine w_skip ?_)
  refine w_drw (T6 52 3) [(0, []), (1, []), (2, []), (3, []), (4, []), (5, [4]), (6, [4, 5]), (7, [4, 5]), (8, [4, 5]), (9, [4, 5]), (10, [4]), (11, []), (12, []), (13, []), (14, [])] 15 (by kernel_rfl) rfl rfl (j' := 15) ?_
  refine d_op rfl rfl .no (q := 0) rfl (s_mv rfl ⟨⟨rfl, rfl⟩, ?_⟩)
  refine d_op rfl rfl .no (q := 1) rfl (s_mv rfl ⟨⟨rfl, rfl⟩, ?_⟩)
  refine d_op rfl rfl .no (q := 2) rfl (s_nil rfl ⟨⟨rfl, rfl⟩, ?_⟩)
  first | refine d_op rfl rfl .no (q := 3) rfl (s_fa0 rfl fo_166_2 ⟨⟨rfl, rfl⟩, ?_⟩) | refine d_op rfl rfl .no (q := 3) rfl (s_fa rfl fo_166_2 ⟨⟨rfl, rfl⟩, ?_⟩)
  refine d_tc rfl rfl rfl .no (q := 4) rfl (s_ld rfl (by repeat (first | exact gs_same _ _ _ | exact hl1 | exact hb1 | refine (gs_ne (by omega) _).trans ?_)) ag_2 (by first | exact rfl | exact hl1 | exact hb1) ⟨clash_nil, ?_⟩)
  refine d_tc rfl rfl rfl .no (q := 5) rfl (s_ld rfl (by repeat (first | exact gs_same _ _ _ | exact hl1 | exact hb1 | refine (gs_ne (by omega) _).trans ?_)) ag_2 (by first | exact rfl | exact hl1 | exact hb1) ⟨clash_rd rfl, ?_⟩)
  refine d_op rfl rfl .no (q := 6) rfl (s_mv rfl ⟨⟨rfl, rfl⟩, ?_⟩)
  refine d_op rfl rfl .no (q := 7) rfl (s_nil rfl ⟨⟨rfl, rfl⟩, ?_⟩)
  first | refine d_op rfl rfl .no (q := 8) rfl (s_fa0 rfl fo_166_3 ⟨⟨rfl, rfl⟩, ?_⟩) | refine d_op rfl rfl .no (q := 8) rfl (s_fa rfl fo_166_3 ⟨⟨rfl, rfl⟩, ?_⟩)
  refine d_tc rfl rfl rfl .no (q := 9) rfl (s_ld rfl (by repeat (first | exact gs_same _ _ _ | exact hl1 | exact hb1 | refine (gs_ne (by omega) _).trans ?_)) ag_2 (by first | exact rfl | exact hl1 | exact hb1) ⟨clash_rd rfl, ?_⟩)
  refine d_op rfl rfl .no (q := 10) rfl (s_min rfl rfl rfl ⟨⟨rfl, rfl⟩, ?_⟩)
  refine d_op rfl rfl .no (q := 11) rfl (s_max rfl rfl rfl ⟨⟨rfl, rfl⟩, ?_⟩)
  refine d_op rfl rfl .no (q := 12) rfl (s_nil rfl ⟨⟨rfl, rfl⟩, ?_⟩)
  first | refine d_op rfl rfl .no (q := 13) rfl (s_fa0 rfl fo_166_2 ⟨⟨rfl, rfl⟩, ?_⟩) | refine d_op rfl rfl .no (q := 13) rfl (s_fa rfl fo_166_2 ⟨⟨rfl, rfl⟩, ?_⟩)
  refine d_tc rfl rfl rfl .no (q := 14) rfl (s_st rfl rfl sz_2 (by repeat (first | exact gs_same _ _ _ | exact hl1 | exact hb1 | refine (gs_ne (by omega) _).trans ?_)) rfl rfl (by exact rfl) ⟨clash_nil, ?_⟩)
  refine d_nil ?_
  repeat (first | refine w_seq ?_ | refine w_blk ?_ | refine z_seq ?_ | refine z_blk ?_ | refine w_skip ?_)
  refine z_r0 rfl ?_
  have hw1' := hw1 _ _ hl1
  refine ⟨.slice a _ c, ⟨?_, ?_⟩, q2, ?_⟩
  · exact gs_same _ _ _
  · exact q1.kp (n := n1) (F := fun x o => x = l ∧ nb o) (((Kp.refl _ _ _).cell hl1 (by decide) _).cell hl1 (by decide) _) hw1 (fun x cl ro _ h => h.2 rfl) (fun x o hx ho e => h.ne (by rw [← q2, hx, e.1]))
  · refine Kp.set (Kp.set (fun x o hx ho hF => k1 x o (by omega) (by repeat (first | exact gs_same _ _ _ | exact ho | refine (gs_ne (by omega) _).trans ?_)) fun e => hF ⟨.inr e.1, e.2⟩) ?_ _) ?_ _
    · intro o ho; rw [hl] at ho; cases ho; exact ⟨.inl rfl, fun e => by cases e⟩
    · intro o ho; rw [hl] at ho; cases ho; exact ⟨.inl rfl, fun e => by cases e⟩
end

end Go.Proofs.YtehmailaabjdjaaGreat
