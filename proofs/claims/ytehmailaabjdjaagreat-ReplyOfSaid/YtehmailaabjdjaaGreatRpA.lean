/-
  Answers in memory; sameAnswer and the law's own may, by contract. No condition.
-/
import Derived.Test.YtehmailaabjdjaaGreatStoY
import Derived.Test.YtehmailaabjdjaaGreatCallX
import Derived.Test.YtehmailaabjdjaaGreatWkH
open Go.Proofs
namespace Go.Proofs.YtehmailaabjdjaaGreat
set_option linter.unusedSimpArgs false
set_option linter.unusedVariables false
set_option maxRecDepth 100000

structure Ans where
 to_ : Int
 id : Int
 kind : Int
 err : Int
 rev : Int
 ents : List SEnt
 evs : List Evt
def ansC (x : Ans) (ev vv : Value) : List Value := [.int .i64 x.to_, .int .i64 x.id, .int .i64 x.kind, .int .i64 x.err, .int .i64 x.rev, ev, vv]
theorem Ans.ext' {x y : Ans} (h0 : x.to_ = y.to_) (h1 : x.id = y.id) (h2 : x.kind = y.kind) (h3 : x.err = y.err) (h4 : x.rev = y.rev) (h5 : x.ents = y.ents) (h6 : x.evs = y.evs) : x = y := by
 cases x; cases y; simp_all

theorem sameAnswer_c {g : Gm} {n : Nat} {x y : Ans} {ev vv ev' vv' : Value} (h1 : EntsRd g ev x.ents) (h2 : EvsRd g vv x.evs) (h3 : EntsRd g ev' y.ents) (h4 : EvsRd g vv' y.evs) (hn : x.ents.length < 2 ^ 40 ∧ x.evs.length < 2 ^ 40) :
  C 40 #[.agg (ansC x ev vv).toArray, .agg (ansC y ev' vv').toArray] g n fun u g' n' => (∃ r, u = .bool r ∧ (r = true ↔ x = y)) ∧ K0 g n g' := by
 obtain ⟨a1, c1, rfl⟩ := h1.len
 obtain ⟨a2, c2, rfl⟩ := h2.len
 obtain ⟨a3, c3, rfl⟩ := h3.len
 obtain ⟨a4, c4, rfl⟩ := h4.len
 refine c_in2 Tryz.func40 rfl Tryz.ntmps40 rfl fun hw => (Na (w_reg 3 rfl rfl (j' := 3) (n_op .no (q := 0) rfl (s_boxa rfl (n_op .no (q := 1) rfl (s_boxa rfl (nA rfl (n_nil ?_))))))))
 by_cases e0 : x.to_ = y.to_
 rotate_left
 ·refine Nc (Na (w_reg 48 rfl rfl (j' := 51) (nO (s_fa0 rfl fo_67_0 (nO (sL rfl ag_3 ?_))))))
  refine nO (s_fa0 rfl fo_67_0 (nO (sL rfl ag_3 ?_)))
  refine nO (s_bin rfl rfl rfl (nM rfl (nSk rfl rfl (beq_eq_false_iff_ne.2 e0) rfl 4 rfl (nO (s_pf rfl (beq_eq_false_iff_ne.2 e0) rfl (nM rfl (nSk rfl rfl (rfl) rfl 4 rfl (nO (s_pf rfl (rfl) rfl (nM rfl (nSk rfl rfl (rfl) rfl 4 rfl (nO (s_pf rfl (rfl) rfl (nM rfl (nSk rfl rfl (rfl) rfl 4 rfl (nO (s_pf rfl (rfl) rfl (nM rfl (nSk rfl rfl (rfl) rfl 4 rfl (nO (s_pf rfl (rfl) rfl (nM rfl (nSk rfl rfl (rfl) rfl 4 rfl (nO (s_pf rfl (rfl) rfl (nA rfl (n_nil (Nc (Nf (z_r1 rfl rfl ?_))))))))))))))))))))))))))))))
  exact ⟨⟨_, rfl, ⟨fun h => (by cases h), fun h => absurd (by rw [h]) e0⟩⟩, (by repeat (first | exact Kp.refl _ _ _ | refine Kp.new ?_ (by omega) _))⟩
 by_cases e1 : x.id = y.id
 rotate_left
 ·refine Nc (Na (w_reg 48 rfl rfl (j' := 51) (nO (s_fa0 rfl fo_67_0 (nO (sL rfl ag_3 ?_))))))
  refine nO (s_fa0 rfl fo_67_0 (nO (sL rfl ag_3 ?_)))
  refine nO (s_bin rfl rfl rfl (nM rfl (nY rfl rfl (beq_iff_eq.2 e0) (s_fa0 rfl fo_67_1 (nY rfl rfl (beq_iff_eq.2 e0) (sL rfl ag_2 ?_))))))
  refine nY rfl rfl (beq_iff_eq.2 e0) (s_fa0 rfl fo_67_1 (nY rfl rfl (beq_iff_eq.2 e0) (sL rfl ag_2 ?_)))
  refine nY rfl rfl (beq_iff_eq.2 e0) (s_bin rfl rfl rfl (nO (s_pt rfl (beq_iff_eq.2 e0) rfl (nM rfl (nSk rfl rfl (beq_eq_false_iff_ne.2 e1) rfl 4 rfl (nO (s_pf rfl (beq_eq_false_iff_ne.2 e1) rfl (nM rfl (nSk rfl rfl (rfl) rfl 4 rfl (nO (s_pf rfl (rfl) rfl (nM rfl (nSk rfl rfl (rfl) rfl 4 rfl (nO (s_pf rfl (rfl) rfl (nM rfl (nSk rfl rfl (rfl) rfl 4 rfl (nO (s_pf rfl (rfl) rfl (nM rfl (nSk rfl rfl (rfl) rfl 4 rfl (nO (s_pf rfl (rfl) rfl (nA rfl (n_nil (Nc (Nf (z_r1 rfl rfl ?_))))))))))))))))))))))))))))
  exact ⟨⟨_, rfl, ⟨fun h => (by cases h), fun h => absurd (by rw [h]) e1⟩⟩, (by repeat (first | exact Kp.refl _ _ _ | refine Kp.new ?_ (by omega) _))⟩
 by_cases e2 : x.kind = y.kind
 rotate_left
 ·refine Nc (Na (w_reg 48 rfl rfl (j' := 51) (nO (s_fa0 rfl fo_67_0 (nO (sL rfl ag_3 ?_))))))
  refine nO (s_fa0 rfl fo_67_0 (nO (sL rfl ag_3 ?_)))
  refine nO (s_bin rfl rfl rfl (nM rfl (nY rfl rfl (beq_iff_eq.2 e0) (s_fa0 rfl fo_67_1 (nY rfl rfl (beq_iff_eq.2 e0) (sL rfl ag_2 ?_))))))
  refine nY rfl rfl (beq_iff_eq.2 e0) (s_fa0 rfl fo_67_1 (nY rfl rfl (beq_iff_eq.2 e0) (sL rfl ag_2 ?_)))
  refine nY rfl rfl (beq_iff_eq.2 e0) (s_bin rfl rfl rfl (nO (s_pt rfl (beq_iff_eq.2 e0) rfl (nM rfl (nY rfl rfl (beq_iff_eq.2 e1) (s_fa0 rfl fo_67_2 (nY rfl rfl (beq_iff_eq.2 e1) (sL rfl ag_3 ?_))))))))
  refine nY rfl rfl (beq_iff_eq.2 e1) (s_fa0 rfl fo_67_2 (nY rfl rfl (beq_iff_eq.2 e1) (sL rfl ag_3 ?_)))
  refine nY rfl rfl (beq_iff_eq.2 e1) (s_bin rfl rfl rfl (nO (s_pt rfl (beq_iff_eq.2 e1) rfl (nM rfl (nSk rfl rfl (beq_eq_false_iff_ne.2 e2) rfl 4 rfl (nO (s_pf rfl (beq_eq_false_iff_ne.2 e2) rfl (nM rfl (nSk rfl rfl (rfl) rfl 4 rfl (nO (s_pf rfl (rfl) rfl (nM rfl (nSk rfl rfl (rfl) rfl 4 rfl (nO (s_pf rfl (rfl) rfl (nM rfl (nSk rfl rfl (rfl) rfl 4 rfl (nO (s_pf rfl (rfl) rfl (nA rfl (n_nil (Nc (Nf (z_r1 rfl rfl ?_))))))))))))))))))))))))
  exact ⟨⟨_, rfl, ⟨fun h => (by cases h), fun h => absurd (by rw [h]) e2⟩⟩, (by repeat (first | exact Kp.refl _ _ _ | refine Kp.new ?_ (by omega) _))⟩
 by_cases e3 : x.err = y.err
 rotate_left
 ·refine Nc (Na (w_reg 48 rfl rfl (j' := 51) (nO (s_fa0 rfl fo_67_0 (nO (sL rfl ag_3 ?_))))))
  refine nO (s_fa0 rfl fo_67_0 (nO (sL rfl ag_3 ?_)))
  refine nO (s_bin rfl rfl rfl (nM rfl (nY rfl rfl (beq_iff_eq.2 e0) (s_fa0 rfl fo_67_1 (nY rfl rfl (beq_iff_eq.2 e0) (sL rfl ag_2 ?_))))))
  refine nY rfl rfl (beq_iff_eq.2 e0) (s_fa0 rfl fo_67_1 (nY rfl rfl (beq_iff_eq.2 e0) (sL rfl ag_2 ?_)))
  refine nY rfl rfl (beq_iff_eq.2 e0) (s_bin rfl rfl rfl (nO (s_pt rfl (beq_iff_eq.2 e0) rfl (nM rfl (nY rfl rfl (beq_iff_eq.2 e1) (s_fa0 rfl fo_67_2 (nY rfl rfl (beq_iff_eq.2 e1) (sL rfl ag_3 ?_))))))))
  refine nY rfl rfl (beq_iff_eq.2 e1) (s_fa0 rfl fo_67_2 (nY rfl rfl (beq_iff_eq.2 e1) (sL rfl ag_3 ?_)))
  refine nY rfl rfl (beq_iff_eq.2 e1) (s_bin rfl rfl rfl (nO (s_pt rfl (beq_iff_eq.2 e1) rfl (nM rfl (nY rfl rfl (beq_iff_eq.2 e2) (s_fa0 rfl fo_67_3 (nY rfl rfl (beq_iff_eq.2 e2) (sL rfl ag_32 ?_))))))))
  refine nY rfl rfl (beq_iff_eq.2 e2) (s_fa0 rfl fo_67_3 (nY rfl rfl (beq_iff_eq.2 e2) (sL rfl ag_32 ?_)))
  refine nY rfl rfl (beq_iff_eq.2 e2) (s_bin rfl rfl rfl (nO (s_pt rfl (beq_iff_eq.2 e2) rfl (nM rfl (nSk rfl rfl (beq_eq_false_iff_ne.2 e3) rfl 4 rfl (nO (s_pf rfl (beq_eq_false_iff_ne.2 e3) rfl (nM rfl (nSk rfl rfl (rfl) rfl 4 rfl (nO (s_pf rfl (rfl) rfl (nM rfl (nSk rfl rfl (rfl) rfl 4 rfl (nO (s_pf rfl (rfl) rfl (nA rfl (n_nil (Nc (Nf (z_r1 rfl rfl ?_))))))))))))))))))))
  exact ⟨⟨_, rfl, ⟨fun h => (by cases h), fun h => absurd (by rw [h]) e3⟩⟩, (by repeat (first | exact Kp.refl _ _ _ | refine Kp.new ?_ (by omega) _))⟩
 by_cases e4 : x.rev = y.rev
 rotate_left
 ·refine Nc (Na (w_reg 48 rfl rfl (j' := 51) (nO (s_fa0 rfl fo_67_0 (nO (sL rfl ag_3 ?_))))))
  refine nO (s_fa0 rfl fo_67_0 (nO (sL rfl ag_3 ?_)))
  refine nO (s_bin rfl rfl rfl (nM rfl (nY rfl rfl (beq_iff_eq.2 e0) (s_fa0 rfl fo_67_1 (nY rfl rfl (beq_iff_eq.2 e0) (sL rfl ag_2 ?_))))))
  refine nY rfl rfl (beq_iff_eq.2 e0) (s_fa0 rfl fo_67_1 (nY rfl rfl (beq_iff_eq.2 e0) (sL rfl ag_2 ?_)))
  refine nY rfl rfl (beq_iff_eq.2 e0) (s_bin rfl rfl rfl (nO (s_pt rfl (beq_iff_eq.2 e0) rfl (nM rfl (nY rfl rfl (beq_iff_eq.2 e1) (s_fa0 rfl fo_67_2 (nY rfl rfl (beq_iff_eq.2 e1) (sL rfl ag_3 ?_))))))))
  refine nY rfl rfl (beq_iff_eq.2 e1) (s_fa0 rfl fo_67_2 (nY rfl rfl (beq_iff_eq.2 e1) (sL rfl ag_3 ?_)))
  refine nY rfl rfl (beq_iff_eq.2 e1) (s_bin rfl rfl rfl (nO (s_pt rfl (beq_iff_eq.2 e1) rfl (nM rfl (nY rfl rfl (beq_iff_eq.2 e2) (s_fa0 rfl fo_67_3 (nY rfl rfl (beq_iff_eq.2 e2) (sL rfl ag_32 ?_))))))))
  refine nY rfl rfl (beq_iff_eq.2 e2) (s_fa0 rfl fo_67_3 (nY rfl rfl (beq_iff_eq.2 e2) (sL rfl ag_32 ?_)))
  refine nY rfl rfl (beq_iff_eq.2 e2) (s_bin rfl rfl rfl (nO (s_pt rfl (beq_iff_eq.2 e2) rfl (nM rfl (nY rfl rfl (beq_iff_eq.2 e3) (s_fa0 rfl fo_67_4 (nY rfl rfl (beq_iff_eq.2 e3) (sL rfl ag_2 ?_))))))))
  refine nY rfl rfl (beq_iff_eq.2 e3) (s_fa0 rfl fo_67_4 (nY rfl rfl (beq_iff_eq.2 e3) (sL rfl ag_2 ?_)))
  refine nY rfl rfl (beq_iff_eq.2 e3) (s_bin rfl rfl rfl (nO (s_pt rfl (beq_iff_eq.2 e3) rfl (nM rfl (nSk rfl rfl (beq_eq_false_iff_ne.2 e4) rfl 4 rfl (nO (s_pf rfl (beq_eq_false_iff_ne.2 e4) rfl (nM rfl (nSk rfl rfl (rfl) rfl 4 rfl (nO (s_pf rfl (rfl) rfl (nA rfl (n_nil (Nc (Nf (z_r1 rfl rfl ?_))))))))))))))))
  exact ⟨⟨_, rfl, ⟨fun h => (by cases h), fun h => absurd (by rw [h]) e4⟩⟩, (by repeat (first | exact Kp.refl _ _ _ | refine Kp.new ?_ (by omega) _))⟩
 refine Nc (Na (w_reg 48 rfl rfl (j' := 51) (nO (s_fa0 rfl fo_67_0 (nO (sL rfl ag_3 ?_))))))
 refine nO (s_fa0 rfl fo_67_0 (nO (sL rfl ag_3 ?_)))
 refine nO (s_bin rfl rfl rfl (nM rfl (nY rfl rfl (beq_iff_eq.2 e0) (s_fa0 rfl fo_67_1 (nY rfl rfl (beq_iff_eq.2 e0) (sL rfl ag_2 ?_))))))
 refine nY rfl rfl (beq_iff_eq.2 e0) (s_fa0 rfl fo_67_1 (nY rfl rfl (beq_iff_eq.2 e0) (sL rfl ag_2 ?_)))
 refine nY rfl rfl (beq_iff_eq.2 e0) (s_bin rfl rfl rfl (nO (s_pt rfl (beq_iff_eq.2 e0) rfl (nM rfl (nY rfl rfl (beq_iff_eq.2 e1) (s_fa0 rfl fo_67_2 (nY rfl rfl (beq_iff_eq.2 e1) (sL rfl ag_3 ?_))))))))
 refine nY rfl rfl (beq_iff_eq.2 e1) (s_fa0 rfl fo_67_2 (nY rfl rfl (beq_iff_eq.2 e1) (sL rfl ag_3 ?_)))
 refine nY rfl rfl (beq_iff_eq.2 e1) (s_bin rfl rfl rfl (nO (s_pt rfl (beq_iff_eq.2 e1) rfl (nM rfl (nY rfl rfl (beq_iff_eq.2 e2) (s_fa0 rfl fo_67_3 (nY rfl rfl (beq_iff_eq.2 e2) (sL rfl ag_32 ?_))))))))
 refine nY rfl rfl (beq_iff_eq.2 e2) (s_fa0 rfl fo_67_3 (nY rfl rfl (beq_iff_eq.2 e2) (sL rfl ag_32 ?_)))
 refine nY rfl rfl (beq_iff_eq.2 e2) (s_bin rfl rfl rfl (nO (s_pt rfl (beq_iff_eq.2 e2) rfl (nM rfl (nY rfl rfl (beq_iff_eq.2 e3) (s_fa0 rfl fo_67_4 (nY rfl rfl (beq_iff_eq.2 e3) (sL rfl ag_2 ?_))))))))
 refine nY rfl rfl (beq_iff_eq.2 e3) (s_fa0 rfl fo_67_4 (nY rfl rfl (beq_iff_eq.2 e3) (sL rfl ag_2 ?_)))
 refine nY rfl rfl (beq_iff_eq.2 e3) (s_bin rfl rfl rfl (nO (s_pt rfl (beq_iff_eq.2 e3) rfl (nM rfl (nY rfl rfl (beq_iff_eq.2 e4) (s_fa0 rfl fo_67_5 (nY rfl rfl (beq_iff_eq.2 e4) (sL rfl ag_48 ?_))))))))
 refine nY rfl rfl (beq_iff_eq.2 e4) (s_fa0 rfl fo_67_5 (nY rfl rfl (beq_iff_eq.2 e4) (sL rfl ag_48 ?_)))
 refine n_call (.yes rfl rfl (beq_iff_eq.2 e4)) rfl rfl rfl (C.use (eqEntries_c (h1.kp0 (n := n) (by repeat (first | exact Kp.refl _ _ _ | refine Kp.new ?_ (by omega) _)) hw) (h3.kp0 (n := n) (by repeat (first | exact Kp.refl _ _ _ | refine Kp.new ?_ (by omega) _)) hw) hn.1) fun v g1 n1 hw1 hn1 hq => ?_)
 obtain ⟨⟨b, rfl, hb⟩, k1⟩ := hq
 have k1' : K0 g n g1 := Kp.trans0 (by repeat (first | exact Kp.refl _ _ _ | refine Kp.new ?_ (by omega) _)) (k1.dn (m := n) (by omega)) (by omega)
 have b0 := k1.lt (by omega) (show gset (gset g (n + 0) (.cells (ansC x (.slice a1 x.ents.length c1) (.slice a2 x.evs.length c2)) 0 false)) (n + 1) (.cells (ansC y (.slice a3 y.ents.length c3) (.slice a4 y.evs.length c4)) 0 false) (n + 0) = some (.cells (ansC x (.slice a1 x.ents.length c1) (.slice a2 x.evs.length c2)) 0 false) from (by repeat first | exact gS | refine gN (by omega) ?_))
 have b1 := k1.lt (by omega) (show gset (gset g (n + 0) (.cells (ansC x (.slice a1 x.ents.length c1) (.slice a2 x.evs.length c2)) 0 false)) (n + 1) (.cells (ansC y (.slice a3 y.ents.length c3) (.slice a4 y.evs.length c4)) 0 false) (n + 1) = some (.cells (ansC y (.slice a3 y.ents.length c3) (.slice a4 y.evs.length c4)) 0 false) from (by repeat first | exact gS | refine gN (by omega) ?_))
 by_cases e5 : x.ents = y.ents
 rotate_left
 ·have : b = false := by
   cases b with
   | false => rfl
   | true => exact absurd (hb.1 rfl) e5
  subst this
  refine nO (s_pt rfl (beq_iff_eq.2 e4) rfl (nM rfl (nSk rfl rfl (rfl) rfl 4 rfl (nO (s_pf rfl (rfl) rfl (nA rfl (n_nil (Nc (Nf (z_r1 rfl rfl ?_))))))))))
  exact ⟨⟨_, rfl, ⟨fun h => (by cases h), fun h => absurd (by rw [h]) e5⟩⟩, k1'⟩
 obtain rfl : b = true := hb.2 e5
 refine nO (s_pt rfl (beq_iff_eq.2 e4) rfl (nM rfl (nY rfl rfl (rfl) (s_fa0 rfl fo_67_6 (nY rfl rfl (rfl) (sL rfl ag_65 ?_))))))
 refine nY rfl rfl (rfl) (s_fa0 rfl fo_67_6 (nY rfl rfl (rfl) (sL rfl ag_65 ?_)))
 refine n_call (.yes rfl rfl (rfl)) rfl rfl rfl (C.use (eqEvents_c (h2.kp0 k1' hw) (h4.kp0 k1' hw) hn.2) fun v g2 n2 hw2 hn2 hq => ?_)
 obtain ⟨⟨b, rfl, hb2⟩, k2⟩ := hq
 refine nO (s_pt rfl (rfl) rfl (nA rfl (n_nil (Nc (Nf (z_r1 rfl rfl ?_))))))
 exact ⟨⟨b, rfl, ⟨fun h => Ans.ext' e0 e1 e2 e3 e4 e5 (hb2.1 h), fun h => hb2.2 (by rw [h])⟩⟩, k1'.trans0 k2 (by omega)⟩

theorem str_neT {a : Bs} (h : a ≠ []) : ((str a).toList != ByteArray.empty.toList) = true := by
 have := str_f (a := a) (b := []) h
 show (!((str a).toList == (str []).toList)) = true
 rw [this]; rfl
theorem str_neF {a : Bs} (h : a = []) : ((str a).toList != ByteArray.empty.toList) = false := by
 have := str_t (a := a) (b := []) h
 show (!((str a).toList == (str []).toList)) = false
 rw [this]; rfl
theorem may_flat (x : Cal) : x.may ↔ (0 ≤ x.from_ ∧ x.from_ ≤ 7 ∧ 1 ≤ x.id ∧ x.id ≤ 1099511627776) ∧ (1 ≤ x.kind ∧ x.kind ≤ 4) ∧ (x.kind ≠ 4 → x.gs = [] ∧ x.ws = []) ∧ (x.kind ≠ 1 → x.key = []) ∧ (x.kind ≠ 3 → x.rev = 0) ∧ (x.kind = 1 → keyOk x.key) ∧ revOk x.rev ∧ txnOk x.gs x.ws := by
 constructor
 ·rintro ⟨⟨h1, h2, h3, h4, h5⟩, h6⟩
  have ek : x.key = if x.kind = 1 then x.key else [] := congrArg Cal.key h5
  have er : x.rev = if x.kind = 3 then x.rev else 0 := congrArg Cal.rev h5
  have eg : x.gs = if x.kind = 4 then x.gs else [] := congrArg Cal.gs h5
  have ew : x.ws = if x.kind = 4 then x.ws else [] := congrArg Cal.ws h5
  have k1 : x.kind ≠ 1 → x.key = [] := fun e => by rw [if_neg e] at ek; exact ek
  have k3 : x.kind ≠ 3 → x.rev = 0 := fun e => by rw [if_neg e] at er; exact er
  have k4 : x.kind ≠ 4 → x.gs = [] := fun e => by rw [if_neg e] at eg; exact eg
  have k5 : x.kind ≠ 4 → x.ws = [] := fun e => by rw [if_neg e] at ew; exact ew
  have hno : x.kind ≠ 4 → txnOk x.gs x.ws := fun e => by
   rw [k4 e, k5 e]
   exact ⟨by simp, by simp, (fun _ h => by cases h), fun _ h => by cases h⟩
  have hrv : x.kind ≠ 3 → revOk x.rev := fun e => by rw [k3 e]; exact ⟨by decide, by decide⟩
  refine ⟨⟨h1, h2, h3, h4⟩, ?_, fun e => ⟨k4 e, k5 e⟩, k1, k3, fun e => ?_, ?_, ?_⟩
  ·rcases h6 with ⟨e, _⟩ | e | ⟨e, _⟩ | ⟨e, _⟩ <;> omega
  ·rcases h6 with ⟨_, h⟩ | e' | ⟨e', _⟩ | ⟨e', _⟩
   ·exact h
   all_goals omega
  ·rcases h6 with ⟨e, _⟩ | e | ⟨e, h⟩ | ⟨e, _⟩
   ·exact hrv (by omega)
   ·exact hrv (by omega)
   ·exact h
   ·exact hrv (by omega)
  ·rcases h6 with ⟨e, _⟩ | e | ⟨e, _⟩ | ⟨e, h⟩
   ·exact hno (by omega)
   ·exact hno (by omega)
   ·exact hno (by omega)
   ·exact h
 ·rintro ⟨⟨h1, h2, h3, h4⟩, ⟨k1, k2⟩, h5, h6, h7, h8, h9, h10⟩
  refine ⟨⟨h1, h2, h3, h4, ?_⟩, ?_⟩
  ·obtain ⟨a, b, c, d, e, f, w⟩ := x
   simp only [Cal.bare, Cal.mk.injEq, true_and]
   simp only at h5 h6 h7
   refine ⟨?_, ?_, ?_, ?_⟩
   ·split
    ·rfl
    ·rename_i h; exact h6 h
   ·split
    ·rfl
    ·rename_i h; exact h7 h
   ·split
    ·rfl
    ·rename_i h; exact (h5 h).1
   ·split
    ·rfl
    ·rename_i h; exact (h5 h).2
  ·have : x.kind = 1 ∨ x.kind = 2 ∨ x.kind = 3 ∨ x.kind = 4 := by omega
   rcases this with e | e | e | e
   ·exact .inl ⟨e, h8 e⟩
   ·exact .inr (.inl e)
   ·exact .inr (.inr (.inl ⟨e, h9⟩))
   ·exact .inr (.inr (.inr ⟨e, h10⟩))

theorem may37_c {g : Gm} {n : Nat} {x : Cal} {gv wv : Value} (h1 : CalAt g x gv wv) (hn : x.gs.length < 2 ^ 40 ∧ x.ws.length < 2 ^ 40) :
  C 37 #[.agg (calC x gv wv).toArray] g n fun u g' n' => (∃ r, u = .bool r ∧ (r = true ↔ x.may)) ∧ K0 g n g' := by
 obtain ⟨a1, c1, rfl⟩ := h1.gs.len
 obtain ⟨a2, c2, rfl⟩ := h1.ws.len
 have hks := str_size x.key
 refine c_in1 Tryz.func37 rfl Tryz.ntmps37 rfl fun hw => (Na (w_reg 2 rfl rfl (j' := 2) (n_op .no (q := 0) rfl (s_boxa rfl (nA rfl (n_nil ?_))))))
 by_cases b0 : 0 ≤ x.from_
 rotate_left
 ·refine Nc (Na (Na (w_reg 28 rfl rfl (j' := 30) (nO (s_fa0 rfl fo_55_0 (nO (sL rfl ag_3 ?_)))))))
  refine nO (s_bin rfl rfl rfl (nM rfl (nSk rfl rfl (decide_eq_true (by omega)) rfl 2 rfl (nO (s_pt rfl (decide_eq_true (by omega)) rfl (nM rfl (nSk rfl rfl (rfl) rfl 2 rfl (nO (s_pt rfl (rfl) rfl (nM rfl (nSk rfl rfl (rfl) rfl 2 rfl (nO (s_pt rfl (rfl) rfl (nM rfl (nSk rfl rfl (rfl) rfl 2 rfl (nO (s_pt rfl (rfl) rfl (nM rfl (nSk rfl rfl (rfl) rfl 2 rfl (nO (s_pt rfl (rfl) rfl (n_nil (Nc (w_yes rfl (rfl) (Na (w_reg 1 rfl rfl (j' := 31) (nA rfl (n_nil (Nc (Nf (z_r1 rfl rfl ?_)))))))))))))))))))))))))))))))
  exact ⟨⟨_, rfl, ⟨fun h => (by cases h), fun h => by obtain ⟨⟨q1, q2, q3, q4, _⟩, _⟩ := h; omega⟩⟩, (by repeat (first | exact Kp.refl _ _ _ | refine Kp.new ?_ (by omega) _))⟩
 by_cases b1 : x.from_ ≤ 7
 rotate_left
 ·refine Nc (Na (Na (w_reg 28 rfl rfl (j' := 30) (nO (s_fa0 rfl fo_55_0 (nO (sL rfl ag_3 ?_)))))))
  refine nO (s_bin rfl rfl rfl (nM rfl (nY rfl rfl (decide_eq_false (by omega)) (s_fa0 rfl fo_55_0 (nY rfl rfl (decide_eq_false (by omega)) (sL rfl ag_3 ?_))))))
  refine nY rfl rfl (decide_eq_false (by omega)) (s_bin rfl rfl rfl (nO (s_pf rfl (decide_eq_false (by omega)) rfl (nM rfl (nSk rfl rfl (decide_eq_true (by omega)) rfl 2 rfl (nO (s_pt rfl (decide_eq_true (by omega)) rfl (nM rfl (nSk rfl rfl (rfl) rfl 2 rfl (nO (s_pt rfl (rfl) rfl (nM rfl (nSk rfl rfl (rfl) rfl 2 rfl (nO (s_pt rfl (rfl) rfl (nM rfl (nSk rfl rfl (rfl) rfl 2 rfl (nO (s_pt rfl (rfl) rfl (n_nil (Nc (w_yes rfl (rfl) (Na (w_reg 1 rfl rfl (j' := 31) (nA rfl (n_nil (Nc (Nf (z_r1 rfl rfl ?_)))))))))))))))))))))))))))))
  exact ⟨⟨_, rfl, ⟨fun h => (by cases h), fun h => by obtain ⟨⟨q1, q2, q3, q4, _⟩, _⟩ := h; omega⟩⟩, (by repeat (first | exact Kp.refl _ _ _ | refine Kp.new ?_ (by omega) _))⟩
 by_cases b2 : 1 ≤ x.id
 rotate_left
 ·refine Nc (Na (Na (w_reg 28 rfl rfl (j' := 30) (nO (s_fa0 rfl fo_55_0 (nO (sL rfl ag_3 ?_)))))))
  refine nO (s_bin rfl rfl rfl (nM rfl (nY rfl rfl (decide_eq_false (by omega)) (s_fa0 rfl fo_55_0 (nY rfl rfl (decide_eq_false (by omega)) (sL rfl ag_3 ?_))))))
  refine nY rfl rfl (decide_eq_false (by omega)) (s_bin rfl rfl rfl (nO (s_pf rfl (decide_eq_false (by omega)) rfl (nM rfl (nY rfl rfl (decide_eq_false (by omega)) (s_fa0 rfl fo_55_1 (nY rfl rfl (decide_eq_false (by omega)) (sL rfl ag_2 ?_))))))))
  refine nY rfl rfl (decide_eq_false (by omega)) (s_bin rfl rfl rfl (nO (s_pf rfl (decide_eq_false (by omega)) rfl (nM rfl (nSk rfl rfl (decide_eq_true (by omega)) rfl 2 rfl (nO (s_pt rfl (decide_eq_true (by omega)) rfl (nM rfl (nSk rfl rfl (rfl) rfl 2 rfl (nO (s_pt rfl (rfl) rfl (nM rfl (nSk rfl rfl (rfl) rfl 2 rfl (nO (s_pt rfl (rfl) rfl (n_nil (Nc (w_yes rfl (rfl) (Na (w_reg 1 rfl rfl (j' := 31) (nA rfl (n_nil (Nc (Nf (z_r1 rfl rfl ?_)))))))))))))))))))))))))
  exact ⟨⟨_, rfl, ⟨fun h => (by cases h), fun h => by obtain ⟨⟨q1, q2, q3, q4, _⟩, _⟩ := h; omega⟩⟩, (by repeat (first | exact Kp.refl _ _ _ | refine Kp.new ?_ (by omega) _))⟩
 by_cases b3 : x.id ≤ 1099511627776
 rotate_left
 ·refine Nc (Na (Na (w_reg 28 rfl rfl (j' := 30) (nO (s_fa0 rfl fo_55_0 (nO (sL rfl ag_3 ?_)))))))
  refine nO (s_bin rfl rfl rfl (nM rfl (nY rfl rfl (decide_eq_false (by omega)) (s_fa0 rfl fo_55_0 (nY rfl rfl (decide_eq_false (by omega)) (sL rfl ag_3 ?_))))))
  refine nY rfl rfl (decide_eq_false (by omega)) (s_bin rfl rfl rfl (nO (s_pf rfl (decide_eq_false (by omega)) rfl (nM rfl (nY rfl rfl (decide_eq_false (by omega)) (s_fa0 rfl fo_55_1 (nY rfl rfl (decide_eq_false (by omega)) (sL rfl ag_2 ?_))))))))
  refine nY rfl rfl (decide_eq_false (by omega)) (s_bin rfl rfl rfl (nO (s_pf rfl (decide_eq_false (by omega)) rfl (nM rfl (nY rfl rfl (decide_eq_false (by omega)) (s_fa0 rfl fo_55_1 (nY rfl rfl (decide_eq_false (by omega)) (sL rfl ag_2 ?_))))))))
  refine nY rfl rfl (decide_eq_false (by omega)) (s_bin rfl rfl rfl (nO (s_pf rfl (decide_eq_false (by omega)) rfl (nM rfl (nSk rfl rfl (decide_eq_true (by omega)) rfl 2 rfl (nO (s_pt rfl (decide_eq_true (by omega)) rfl (nM rfl (nSk rfl rfl (rfl) rfl 2 rfl (nO (s_pt rfl (rfl) rfl (n_nil (Nc (w_yes rfl (rfl) (Na (w_reg 1 rfl rfl (j' := 31) (nA rfl (n_nil (Nc (Nf (z_r1 rfl rfl ?_)))))))))))))))))))))
  exact ⟨⟨_, rfl, ⟨fun h => (by cases h), fun h => by obtain ⟨⟨q1, q2, q3, q4, _⟩, _⟩ := h; omega⟩⟩, (by repeat (first | exact Kp.refl _ _ _ | refine Kp.new ?_ (by omega) _))⟩
 by_cases b4 : 1 ≤ x.kind
 rotate_left
 ·refine Nc (Na (Na (w_reg 28 rfl rfl (j' := 30) (nO (s_fa0 rfl fo_55_0 (nO (sL rfl ag_3 ?_)))))))
  refine nO (s_bin rfl rfl rfl (nM rfl (nY rfl rfl (decide_eq_false (by omega)) (s_fa0 rfl fo_55_0 (nY rfl rfl (decide_eq_false (by omega)) (sL rfl ag_3 ?_))))))
  refine nY rfl rfl (decide_eq_false (by omega)) (s_bin rfl rfl rfl (nO (s_pf rfl (decide_eq_false (by omega)) rfl (nM rfl (nY rfl rfl (decide_eq_false (by omega)) (s_fa0 rfl fo_55_1 (nY rfl rfl (decide_eq_false (by omega)) (sL rfl ag_2 ?_))))))))
  refine nY rfl rfl (decide_eq_false (by omega)) (s_bin rfl rfl rfl (nO (s_pf rfl (decide_eq_false (by omega)) rfl (nM rfl (nY rfl rfl (decide_eq_false (by omega)) (s_fa0 rfl fo_55_1 (nY rfl rfl (decide_eq_false (by omega)) (sL rfl ag_2 ?_))))))))
  refine nY rfl rfl (decide_eq_false (by omega)) (s_bin rfl rfl rfl (nO (s_pf rfl (decide_eq_false (by omega)) rfl (nM rfl (nY rfl rfl (decide_eq_false (by omega)) (s_fa0 rfl fo_55_2 (nY rfl rfl (decide_eq_false (by omega)) (sL rfl ag_3 ?_))))))))
  refine nY rfl rfl (decide_eq_false (by omega)) (s_bin rfl rfl rfl (nO (s_pf rfl (decide_eq_false (by omega)) rfl (nM rfl (nSk rfl rfl (decide_eq_true (by omega)) rfl 2 rfl (nO (s_pt rfl (decide_eq_true (by omega)) rfl (n_nil (Nc (w_yes rfl (rfl) (Na (w_reg 1 rfl rfl (j' := 31) (nA rfl (n_nil (Nc (Nf (z_r1 rfl rfl ?_)))))))))))))))))
  exact ⟨⟨_, rfl, ⟨fun h => (by cases h), fun h => by rcases h.2 with h | h | h | h <;> omega⟩⟩, (by repeat (first | exact Kp.refl _ _ _ | refine Kp.new ?_ (by omega) _))⟩
 by_cases b5 : x.kind ≤ 4
 rotate_left
 ·refine Nc (Na (Na (w_reg 28 rfl rfl (j' := 30) (nO (s_fa0 rfl fo_55_0 (nO (sL rfl ag_3 ?_)))))))
  refine nO (s_bin rfl rfl rfl (nM rfl (nY rfl rfl (decide_eq_false (by omega)) (s_fa0 rfl fo_55_0 (nY rfl rfl (decide_eq_false (by omega)) (sL rfl ag_3 ?_))))))
  refine nY rfl rfl (decide_eq_false (by omega)) (s_bin rfl rfl rfl (nO (s_pf rfl (decide_eq_false (by omega)) rfl (nM rfl (nY rfl rfl (decide_eq_false (by omega)) (s_fa0 rfl fo_55_1 (nY rfl rfl (decide_eq_false (by omega)) (sL rfl ag_2 ?_))))))))
  refine nY rfl rfl (decide_eq_false (by omega)) (s_bin rfl rfl rfl (nO (s_pf rfl (decide_eq_false (by omega)) rfl (nM rfl (nY rfl rfl (decide_eq_false (by omega)) (s_fa0 rfl fo_55_1 (nY rfl rfl (decide_eq_false (by omega)) (sL rfl ag_2 ?_))))))))
  refine nY rfl rfl (decide_eq_false (by omega)) (s_bin rfl rfl rfl (nO (s_pf rfl (decide_eq_false (by omega)) rfl (nM rfl (nY rfl rfl (decide_eq_false (by omega)) (s_fa0 rfl fo_55_2 (nY rfl rfl (decide_eq_false (by omega)) (sL rfl ag_3 ?_))))))))
  refine nY rfl rfl (decide_eq_false (by omega)) (s_bin rfl rfl rfl (nO (s_pf rfl (decide_eq_false (by omega)) rfl (nM rfl (nY rfl rfl (decide_eq_false (by omega)) (s_fa0 rfl fo_55_2 (nY rfl rfl (decide_eq_false (by omega)) (sL rfl ag_3 ?_))))))))
  refine nY rfl rfl (decide_eq_false (by omega)) (s_bin rfl rfl rfl (nO (s_pf rfl (decide_eq_false (by omega)) rfl (n_nil (Nc (w_yes rfl (decide_eq_true (by omega)) (Na (w_reg 1 rfl rfl (j' := 31) (nA rfl (n_nil (Nc (Nf (z_r1 rfl rfl ?_)))))))))))))
  exact ⟨⟨_, rfl, ⟨fun h => (by cases h), fun h => by rcases h.2 with h | h | h | h <;> omega⟩⟩, (by repeat (first | exact Kp.refl _ _ _ | refine Kp.new ?_ (by omega) _))⟩
 refine Nc (Na (Na (w_reg 28 rfl rfl (j' := 30) (nO (s_fa0 rfl fo_55_0 (nO (sL rfl ag_3 ?_)))))))
 refine nO (s_bin rfl rfl rfl (nM rfl (nY rfl rfl (decide_eq_false (by omega)) (s_fa0 rfl fo_55_0 (nY rfl rfl (decide_eq_false (by omega)) (sL rfl ag_3 ?_))))))
 refine nY rfl rfl (decide_eq_false (by omega)) (s_bin rfl rfl rfl (nO (s_pf rfl (decide_eq_false (by omega)) rfl (nM rfl (nY rfl rfl (decide_eq_false (by omega)) (s_fa0 rfl fo_55_1 (nY rfl rfl (decide_eq_false (by omega)) (sL rfl ag_2 ?_))))))))
 refine nY rfl rfl (decide_eq_false (by omega)) (s_bin rfl rfl rfl (nO (s_pf rfl (decide_eq_false (by omega)) rfl (nM rfl (nY rfl rfl (decide_eq_false (by omega)) (s_fa0 rfl fo_55_1 (nY rfl rfl (decide_eq_false (by omega)) (sL rfl ag_2 ?_))))))))
 refine nY rfl rfl (decide_eq_false (by omega)) (s_bin rfl rfl rfl (nO (s_pf rfl (decide_eq_false (by omega)) rfl (nM rfl (nY rfl rfl (decide_eq_false (by omega)) (s_fa0 rfl fo_55_2 (nY rfl rfl (decide_eq_false (by omega)) (sL rfl ag_3 ?_))))))))
 refine nY rfl rfl (decide_eq_false (by omega)) (s_bin rfl rfl rfl (nO (s_pf rfl (decide_eq_false (by omega)) rfl (nM rfl (nY rfl rfl (decide_eq_false (by omega)) (s_fa0 rfl fo_55_2 (nY rfl rfl (decide_eq_false (by omega)) (sL rfl ag_3 ?_))))))))
 refine nY rfl rfl (decide_eq_false (by omega)) (s_bin rfl rfl rfl (nO (s_pf rfl (decide_eq_false (by omega)) rfl (n_nil (Nc (w_no rfl (decide_eq_false (by omega)) (Ne (Nc (Na (w_reg 4 rfl rfl (j' := 34) (nO (s_fa0 rfl fo_55_5 (nO (sLf rfl ag_42 sz_42 ?_))))))))))))))
 refine n_op .no (q := 32) rfl (s_al zl_42 (nO (sSw rfl rfl sz_42 rfl rfl ?_)))
 refine n_nil ?_
 refine z_seq ?_
 refine w_seq ?_
 refine w_gen fun g1 n1 hg1 hn1 hwg1 => ?_
 have k1 : K0 g n g1 := by rw [hg1]; exact (by repeat (first | exact Kp.refl _ _ _ | refine Kp.new ?_ (by omega) _))
 have hx1 : g1 (n + 0) = some (.cells (calC x (.slice a1 x.gs.length c1) (.slice a2 x.ws.length c2)) 0 false) := by rw [hg1]; exact (by repeat first | exact gS | refine gN (by omega) ?_)
 obtain ⟨q, hq⟩ : ∃ q, q = n + 32 := ⟨_, rfl⟩
 have ht1 : g1 q = some (.cells [.slice a1 x.gs.length c1, .slice a2 x.ws.length c2] 0 false) := by rw [hg1, hq]; exact gs_same _ _ _
 rw [← hq]
 have hG1 := h1.gs.kp0 k1 hw
 have hW1 := h1.ws.kp0 k1 hw
 clear hg1
 have hp : 0 ≤ x.from_ ∧ x.from_ ≤ 7 ∧ 1 ≤ x.id ∧ x.id ≤ 1099511627776 := ⟨b0, b1, b2, b3⟩
 refine z_meet (β := Unit) (fun _ => [(3, .pointer (some ⟨q, 0, none⟩))]) (fun _ g' n' => n1 ≤ n' ∧ g' = g1 ∧ (x.kind ≠ 4 → x.gs = [] ∧ x.ws = []) ∧ (x.kind ≠ 1 → x.key = []) ∧ (x.kind ≠ 3 → x.rev = 0) ∧ (x.kind = 1 → keyOk x.key) ∧ revOk x.rev) ?_ ?_
 ·by_cases d4 : x.kind = 4
  ·by_cases dk : x.key = []
   rotate_left
   ·repeat first | refine Na ?_ | refine Nb ?_ | refine Nc ?_ | refine Nd ?_ | refine Ne ?_
    refine w_reg 62 rfl rfl (j' := 62) (nO (s_fa0 rfl fo_55_2 (nO (sL rfl ag_3 ?_))))
    refine nO (s_bin rfl rfl rfl (nM rfl (nSk rfl rfl (bne_eq_false_iff_eq.2 d4) rfl 4 rfl (n_skU rfl rfl (n_skU rfl rfl (n_skU rfl rfl (n_skU rfl rfl (n_sk rfl rfl (bne_eq_false_iff_eq.2 d4) (nO (s_pf rfl (bne_eq_false_iff_eq.2 d4) rfl (nM rfl (nY rfl rfl (rfl) (s_fa0 rfl fo_55_2 (nY rfl rfl (rfl) (sL rfl ag_3 ?_)))))))))))))))
    refine nY rfl rfl (rfl) (s_bin rfl rfl rfl (nG rfl rfl (rfl) rfl (nY rfl rfl (bne_iff_ne.2 (by omega)) (s_fa0 rfl fo_55_3 (nY rfl rfl (bne_iff_ne.2 (by omega)) (sL rfl ag_9 ?_))))))
    refine nY rfl rfl (bne_iff_ne.2 (by omega)) (s_bin rfl rfl rfl (nY rfl rfl (rfl) (s_pt rfl (bne_iff_ne.2 (by omega)) rfl (nO (s_pf rfl (rfl) rfl (nM rfl (nSk rfl rfl (str_neT dk) rfl 3 rfl (n_skU rfl rfl (n_skU rfl rfl (n_skU rfl rfl (n_sk rfl rfl (str_neT dk) (nO (s_pt rfl (str_neT dk) rfl (nM rfl (nSk rfl rfl (rfl) rfl 3 rfl (n_skU rfl rfl (n_skU rfl rfl (n_skU rfl rfl (n_skU rfl rfl (n_skU rfl rfl (n_skU rfl rfl (n_skU rfl rfl (n_skU rfl rfl (n_skU rfl rfl (n_skU rfl rfl (n_sk rfl rfl (rfl) (nO (s_pt rfl (rfl) rfl (nM rfl (nSk rfl rfl (rfl) rfl 2 rfl (nO (s_pt rfl (rfl) rfl (nM rfl (nSk rfl rfl (rfl) rfl 2 rfl (nO (s_pt rfl (rfl) rfl (n_nil (Nc (w_yes rfl (rfl) (Na (w_reg 1 rfl rfl (j' := 63) (nA rfl (n_nil (Nc (Nf (z_r1 rfl rfl ?_))))))))))))))))))))))))))))))))))))))))))))))
    refine ⟨⟨_, rfl, ⟨fun h => (by cases h), fun h => ?_⟩⟩, k1⟩
    exfalso; obtain ⟨_, _, q3, q4, q5, q6, q7, _⟩ := (may_flat x).1 h
    exact dk (q4 (by omega))
   by_cases dr : x.rev = 0
   rotate_left
   ·repeat first | refine Na ?_ | refine Nb ?_ | refine Nc ?_ | refine Nd ?_ | refine Ne ?_
    refine w_reg 62 rfl rfl (j' := 62) (nO (s_fa0 rfl fo_55_2 (nO (sL rfl ag_3 ?_))))
    refine nO (s_bin rfl rfl rfl (nM rfl (nSk rfl rfl (bne_eq_false_iff_eq.2 d4) rfl 4 rfl (n_skU rfl rfl (n_skU rfl rfl (n_skU rfl rfl (n_skU rfl rfl (n_sk rfl rfl (bne_eq_false_iff_eq.2 d4) (nO (s_pf rfl (bne_eq_false_iff_eq.2 d4) rfl (nM rfl (nY rfl rfl (rfl) (s_fa0 rfl fo_55_2 (nY rfl rfl (rfl) (sL rfl ag_3 ?_)))))))))))))))
    refine nY rfl rfl (rfl) (s_bin rfl rfl rfl (nG rfl rfl (rfl) rfl (nY rfl rfl (bne_iff_ne.2 (by omega)) (s_fa0 rfl fo_55_3 (nY rfl rfl (bne_iff_ne.2 (by omega)) (sL rfl ag_9 ?_))))))
    refine nY rfl rfl (bne_iff_ne.2 (by omega)) (s_bin rfl rfl rfl (nY rfl rfl (rfl) (s_pt rfl (bne_iff_ne.2 (by omega)) rfl (nO (s_pf rfl (rfl) rfl (nM rfl (nY rfl rfl (str_neF dk) (s_fa0 rfl fo_55_2 (nY rfl rfl (str_neF dk) (sL rfl ag_3 ?_))))))))))
    refine nY rfl rfl (str_neF dk) (s_bin rfl rfl rfl (nG rfl rfl (str_neF dk) rfl (nY rfl rfl (bne_iff_ne.2 (by omega)) (s_fa0 rfl fo_55_4 (nY rfl rfl (bne_iff_ne.2 (by omega)) (sL rfl ag_2 ?_))))))
    refine nY rfl rfl (bne_iff_ne.2 (by omega)) (s_bin rfl rfl rfl (nY rfl rfl (str_neF dk) (s_pt rfl (bne_iff_ne.2 (by omega)) rfl (nO (s_pf rfl (str_neF dk) rfl (nM rfl (nSk rfl rfl (bne_iff_ne.2 dr) rfl 3 rfl (n_skU rfl rfl (n_skU rfl rfl (n_skU rfl rfl (n_skU rfl rfl (n_skU rfl rfl (n_skU rfl rfl (n_skU rfl rfl (n_skU rfl rfl (n_skU rfl rfl (n_skU rfl rfl (n_sk rfl rfl (bne_iff_ne.2 dr) (nO (s_pt rfl (bne_iff_ne.2 dr) rfl (nM rfl (nSk rfl rfl (rfl) rfl 2 rfl (nO (s_pt rfl (rfl) rfl (nM rfl (nSk rfl rfl (rfl) rfl 2 rfl (nO (s_pt rfl (rfl) rfl (n_nil (Nc (w_yes rfl (rfl) (Na (w_reg 1 rfl rfl (j' := 63) (nA rfl (n_nil (Nc (Nf (z_r1 rfl rfl ?_))))))))))))))))))))))))))))))))))))))
    refine ⟨⟨_, rfl, ⟨fun h => (by cases h), fun h => ?_⟩⟩, k1⟩
    exfalso; obtain ⟨_, _, q3, q4, q5, q6, q7, _⟩ := (may_flat x).1 h
    exact dr (q5 (by omega))
   repeat first | refine Na ?_ | refine Nb ?_ | refine Nc ?_ | refine Nd ?_ | refine Ne ?_
   refine w_reg 62 rfl rfl (j' := 62) (nO (s_fa0 rfl fo_55_2 (nO (sL rfl ag_3 ?_))))
   refine nO (s_bin rfl rfl rfl (nM rfl (nSk rfl rfl (bne_eq_false_iff_eq.2 d4) rfl 4 rfl (n_skU rfl rfl (n_skU rfl rfl (n_skU rfl rfl (n_skU rfl rfl (n_sk rfl rfl (bne_eq_false_iff_eq.2 d4) (nO (s_pf rfl (bne_eq_false_iff_eq.2 d4) rfl (nM rfl (nY rfl rfl (rfl) (s_fa0 rfl fo_55_2 (nY rfl rfl (rfl) (sL rfl ag_3 ?_)))))))))))))))
   refine nY rfl rfl (rfl) (s_bin rfl rfl rfl (nG rfl rfl (rfl) rfl (nY rfl rfl (bne_iff_ne.2 (by omega)) (s_fa0 rfl fo_55_3 (nY rfl rfl (bne_iff_ne.2 (by omega)) (sL rfl ag_9 ?_))))))
   refine nY rfl rfl (bne_iff_ne.2 (by omega)) (s_bin rfl rfl rfl (nY rfl rfl (rfl) (s_pt rfl (bne_iff_ne.2 (by omega)) rfl (nO (s_pf rfl (rfl) rfl (nM rfl (nY rfl rfl (str_neF dk) (s_fa0 rfl fo_55_2 (nY rfl rfl (str_neF dk) (sL rfl ag_3 ?_))))))))))
   refine nY rfl rfl (str_neF dk) (s_bin rfl rfl rfl (nG rfl rfl (str_neF dk) rfl (nY rfl rfl (bne_iff_ne.2 (by omega)) (s_fa0 rfl fo_55_4 (nY rfl rfl (bne_iff_ne.2 (by omega)) (sL rfl ag_2 ?_))))))
   refine nY rfl rfl (bne_iff_ne.2 (by omega)) (s_bin rfl rfl rfl (nY rfl rfl (str_neF dk) (s_pt rfl (bne_iff_ne.2 (by omega)) rfl (nO (s_pf rfl (str_neF dk) rfl (nM rfl (nY rfl rfl (bne_eq_false_iff_eq.2 dr) (s_fa0 rfl fo_55_2 (nY rfl rfl (bne_eq_false_iff_eq.2 dr) (sL rfl ag_3 ?_))))))))))
   refine nY rfl rfl (bne_eq_false_iff_eq.2 dr) (s_bin rfl rfl rfl (nG rfl rfl (bne_eq_false_iff_eq.2 dr) rfl (nSk rfl rfl (beq_eq_false_iff_ne.2 (by omega)) rfl 4 rfl (n_skU rfl rfl (n_skU rfl rfl (n_skU rfl rfl (n_skU rfl rfl (n_sk rfl rfl (beq_eq_false_iff_ne.2 (by omega)) (nY rfl rfl (bne_eq_false_iff_eq.2 dr) (s_pf rfl (beq_eq_false_iff_ne.2 (by omega)) rfl (nO (s_pf rfl (bne_eq_false_iff_eq.2 dr) rfl (nM rfl (nY rfl rfl (rfl) (s_fa0 rfl fo_55_4 (nY rfl rfl (rfl) (sL rfl ag_2 ?_)))))))))))))))))
   refine nY rfl rfl (rfl) (s_bin rfl rfl rfl (nO (s_pf rfl (rfl) rfl (nM rfl (nY rfl rfl (decide_eq_false (by omega)) (s_fa0 rfl fo_55_4 (nY rfl rfl (decide_eq_false (by omega)) (sL rfl ag_2 ?_))))))))
   refine nY rfl rfl (decide_eq_false (by omega)) (s_bin rfl rfl rfl (nO (s_pf rfl (decide_eq_false (by omega)) rfl (n_nil (Nc (w_no rfl (decide_eq_false (by omega)) ?_))))))
   repeat first | refine Na ?_ | refine Nb ?_ | refine Nc ?_ | refine Nd ?_ | refine Ne ?_
   exact z_met () ⟨rfl, trivial⟩ ⟨by omega, rfl, fun e => absurd d4 e, fun _ => dk, fun _ => dr, fun e => by omega, ⟨by omega, by omega⟩⟩
  by_cases dg : x.gs.length = 0
  rotate_left
  ·repeat first | refine Na ?_ | refine Nb ?_ | refine Nc ?_ | refine Nd ?_ | refine Ne ?_
   refine w_reg 62 rfl rfl (j' := 62) (nO (s_fa0 rfl fo_55_2 (nO (sL rfl ag_3 ?_))))
   refine nO (s_bin rfl rfl rfl (nM rfl (nY rfl rfl (bne_iff_ne.2 d4) (s_fa0 rfl fo_42_0 (nY rfl rfl (bne_iff_ne.2 d4) (sL rfl ag_37 ?_))))))
   refine nY rfl rfl (bne_iff_ne.2 d4) (s_len rfl rfl un_37 rfl (nY rfl rfl (bne_iff_ne.2 d4) (s_bin rfl rfl rfl (nG rfl rfl (bne_iff_ne.2 d4) rfl (nSk rfl rfl (decide_eq_true (by omega)) rfl 3 rfl (nY rfl rfl (bne_iff_ne.2 d4) (s_pt rfl (decide_eq_true (by omega)) rfl (nO (s_pt rfl (bne_iff_ne.2 d4) rfl (nM rfl (nSk rfl rfl (rfl) rfl 3 rfl (n_skU rfl rfl (n_skU rfl rfl (n_skU rfl rfl (n_sk rfl rfl (rfl) (nO (s_pt rfl (rfl) rfl (nM rfl (nSk rfl rfl (rfl) rfl 3 rfl (n_skU rfl rfl (n_skU rfl rfl (n_skU rfl rfl (n_sk rfl rfl (rfl) (nO (s_pt rfl (rfl) rfl (nM rfl (nSk rfl rfl (rfl) rfl 3 rfl (n_skU rfl rfl (n_skU rfl rfl (n_skU rfl rfl (n_skU rfl rfl (n_skU rfl rfl (n_skU rfl rfl (n_skU rfl rfl (n_skU rfl rfl (n_skU rfl rfl (n_skU rfl rfl (n_sk rfl rfl (rfl) (nO (s_pt rfl (rfl) rfl (nM rfl (nSk rfl rfl (rfl) rfl 2 rfl (nO (s_pt rfl (rfl) rfl (nM rfl (nSk rfl rfl (rfl) rfl 2 rfl (nO (s_pt rfl (rfl) rfl (n_nil (Nc (w_yes rfl (rfl) (Na (w_reg 1 rfl rfl (j' := 63) (nA rfl (n_nil (Nc (Nf (z_r1 rfl rfl ?_))))))))))))))))))))))))))))))))))))))))))))))))))))))))))
   refine ⟨⟨_, rfl, ⟨fun h => (by cases h), fun h => ?_⟩⟩, k1⟩
   exfalso; obtain ⟨_, _, q3, q4, q5, q6, q7, _⟩ := (may_flat x).1 h
   exact dg (by rw [(q3 d4).1]; rfl)
  by_cases dw : x.ws.length = 0
  rotate_left
  ·repeat first | refine Na ?_ | refine Nb ?_ | refine Nc ?_ | refine Nd ?_ | refine Ne ?_
   refine w_reg 62 rfl rfl (j' := 62) (nO (s_fa0 rfl fo_55_2 (nO (sL rfl ag_3 ?_))))
   refine nO (s_bin rfl rfl rfl (nM rfl (nY rfl rfl (bne_iff_ne.2 d4) (s_fa0 rfl fo_42_0 (nY rfl rfl (bne_iff_ne.2 d4) (sL rfl ag_37 ?_))))))
   refine nY rfl rfl (bne_iff_ne.2 d4) (s_len rfl rfl un_37 rfl (nY rfl rfl (bne_iff_ne.2 d4) (s_bin rfl rfl rfl (nG rfl rfl (bne_iff_ne.2 d4) rfl (nY rfl rfl (decide_eq_false (by omega)) (s_fa0 rfl fo_42_1 (nY rfl rfl (decide_eq_false (by omega)) (sL rfl ag_40 ?_))))))))
   refine nY rfl rfl (decide_eq_false (by omega)) (s_len rfl rfl un_40 rfl (nY rfl rfl (decide_eq_false (by omega)) (s_bin rfl rfl rfl (nY rfl rfl (bne_iff_ne.2 d4) (s_pf rfl (decide_eq_false (by omega)) rfl (nO (s_pt rfl (bne_iff_ne.2 d4) rfl (nM rfl (nSk rfl rfl (decide_eq_true (by omega)) rfl 3 rfl (n_skU rfl rfl (n_skU rfl rfl (n_skU rfl rfl (n_sk rfl rfl (decide_eq_true (by omega)) (nO (s_pt rfl (decide_eq_true (by omega)) rfl (nM rfl (nSk rfl rfl (rfl) rfl 3 rfl (n_skU rfl rfl (n_skU rfl rfl (n_skU rfl rfl (n_sk rfl rfl (rfl) (nO (s_pt rfl (rfl) rfl (nM rfl (nSk rfl rfl (rfl) rfl 3 rfl (n_skU rfl rfl (n_skU rfl rfl (n_skU rfl rfl (n_skU rfl rfl (n_skU rfl rfl (n_skU rfl rfl (n_skU rfl rfl (n_skU rfl rfl (n_skU rfl rfl (n_skU rfl rfl (n_sk rfl rfl (rfl) (nO (s_pt rfl (rfl) rfl (nM rfl (nSk rfl rfl (rfl) rfl 2 rfl (nO (s_pt rfl (rfl) rfl (nM rfl (nSk rfl rfl (rfl) rfl 2 rfl (nO (s_pt rfl (rfl) rfl (n_nil (Nc (w_yes rfl (rfl) (Na (w_reg 1 rfl rfl (j' := 63) (nA rfl (n_nil (Nc (Nf (z_r1 rfl rfl ?_))))))))))))))))))))))))))))))))))))))))))))))))))))))))
   refine ⟨⟨_, rfl, ⟨fun h => (by cases h), fun h => ?_⟩⟩, k1⟩
   exfalso; obtain ⟨_, _, q3, q4, q5, q6, q7, _⟩ := (may_flat x).1 h
   exact dw (by rw [(q3 d4).2]; rfl)
  have hgw : x.kind ≠ 4 → x.gs = [] ∧ x.ws = [] := fun _ => ⟨List.eq_nil_of_length_eq_zero dg, List.eq_nil_of_length_eq_zero dw⟩
  by_cases d1 : x.kind = 1
  ·by_cases dr : x.rev = 0
   rotate_left
   ·repeat first | refine Na ?_ | refine Nb ?_ | refine Nc ?_ | refine Nd ?_ | refine Ne ?_
    refine w_reg 62 rfl rfl (j' := 62) (nO (s_fa0 rfl fo_55_2 (nO (sL rfl ag_3 ?_))))
    refine nO (s_bin rfl rfl rfl (nM rfl (nY rfl rfl (bne_iff_ne.2 d4) (s_fa0 rfl fo_42_0 (nY rfl rfl (bne_iff_ne.2 d4) (sL rfl ag_37 ?_))))))
    refine nY rfl rfl (bne_iff_ne.2 d4) (s_len rfl rfl un_37 rfl (nY rfl rfl (bne_iff_ne.2 d4) (s_bin rfl rfl rfl (nG rfl rfl (bne_iff_ne.2 d4) rfl (nY rfl rfl (decide_eq_false (by omega)) (s_fa0 rfl fo_42_1 (nY rfl rfl (decide_eq_false (by omega)) (sL rfl ag_40 ?_))))))))
    refine nY rfl rfl (decide_eq_false (by omega)) (s_len rfl rfl un_40 rfl (nY rfl rfl (decide_eq_false (by omega)) (s_bin rfl rfl rfl (nY rfl rfl (bne_iff_ne.2 d4) (s_pf rfl (decide_eq_false (by omega)) rfl (nO (s_pt rfl (bne_iff_ne.2 d4) rfl (nM rfl (nY rfl rfl (decide_eq_false (by omega)) (s_fa0 rfl fo_55_2 (nY rfl rfl (decide_eq_false (by omega)) (sL rfl ag_3 ?_))))))))))))
    refine nY rfl rfl (decide_eq_false (by omega)) (s_bin rfl rfl rfl (nG rfl rfl (decide_eq_false (by omega)) rfl (nSk rfl rfl (bne_eq_false_iff_eq.2 d1) rfl 2 rfl (nY rfl rfl (decide_eq_false (by omega)) (s_pf rfl (bne_eq_false_iff_eq.2 d1) rfl (nO (s_pf rfl (decide_eq_false (by omega)) rfl (nM rfl (nY rfl rfl (rfl) (s_fa0 rfl fo_55_2 (nY rfl rfl (rfl) (sL rfl ag_3 ?_))))))))))))
    refine nY rfl rfl (rfl) (s_bin rfl rfl rfl (nG rfl rfl (rfl) rfl (nY rfl rfl (bne_iff_ne.2 (by omega)) (s_fa0 rfl fo_55_4 (nY rfl rfl (bne_iff_ne.2 (by omega)) (sL rfl ag_2 ?_))))))
    refine nY rfl rfl (bne_iff_ne.2 (by omega)) (s_bin rfl rfl rfl (nY rfl rfl (rfl) (s_pt rfl (bne_iff_ne.2 (by omega)) rfl (nO (s_pf rfl (rfl) rfl (nM rfl (nSk rfl rfl (bne_iff_ne.2 dr) rfl 3 rfl (n_skU rfl rfl (n_skU rfl rfl (n_skU rfl rfl (n_skU rfl rfl (n_skU rfl rfl (n_skU rfl rfl (n_skU rfl rfl (n_skU rfl rfl (n_skU rfl rfl (n_skU rfl rfl (n_sk rfl rfl (bne_iff_ne.2 dr) (nO (s_pt rfl (bne_iff_ne.2 dr) rfl (nM rfl (nSk rfl rfl (rfl) rfl 2 rfl (nO (s_pt rfl (rfl) rfl (nM rfl (nSk rfl rfl (rfl) rfl 2 rfl (nO (s_pt rfl (rfl) rfl (n_nil (Nc (w_yes rfl (rfl) (Na (w_reg 1 rfl rfl (j' := 63) (nA rfl (n_nil (Nc (Nf (z_r1 rfl rfl ?_))))))))))))))))))))))))))))))))))))))
    refine ⟨⟨_, rfl, ⟨fun h => (by cases h), fun h => ?_⟩⟩, k1⟩
    exfalso; obtain ⟨_, _, q3, q4, q5, q6, q7, _⟩ := (may_flat x).1 h
    exact dr (q5 (by omega))
   by_cases dl : 1 ≤ x.key.length
   rotate_left
   ·repeat first | refine Na ?_ | refine Nb ?_ | refine Nc ?_ | refine Nd ?_ | refine Ne ?_
    refine w_reg 62 rfl rfl (j' := 62) (nO (s_fa0 rfl fo_55_2 (nO (sL rfl ag_3 ?_))))
    refine nO (s_bin rfl rfl rfl (nM rfl (nY rfl rfl (bne_iff_ne.2 d4) (s_fa0 rfl fo_42_0 (nY rfl rfl (bne_iff_ne.2 d4) (sL rfl ag_37 ?_))))))
    refine nY rfl rfl (bne_iff_ne.2 d4) (s_len rfl rfl un_37 rfl (nY rfl rfl (bne_iff_ne.2 d4) (s_bin rfl rfl rfl (nG rfl rfl (bne_iff_ne.2 d4) rfl (nY rfl rfl (decide_eq_false (by omega)) (s_fa0 rfl fo_42_1 (nY rfl rfl (decide_eq_false (by omega)) (sL rfl ag_40 ?_))))))))
    refine nY rfl rfl (decide_eq_false (by omega)) (s_len rfl rfl un_40 rfl (nY rfl rfl (decide_eq_false (by omega)) (s_bin rfl rfl rfl (nY rfl rfl (bne_iff_ne.2 d4) (s_pf rfl (decide_eq_false (by omega)) rfl (nO (s_pt rfl (bne_iff_ne.2 d4) rfl (nM rfl (nY rfl rfl (decide_eq_false (by omega)) (s_fa0 rfl fo_55_2 (nY rfl rfl (decide_eq_false (by omega)) (sL rfl ag_3 ?_))))))))))))
    refine nY rfl rfl (decide_eq_false (by omega)) (s_bin rfl rfl rfl (nG rfl rfl (decide_eq_false (by omega)) rfl (nSk rfl rfl (bne_eq_false_iff_eq.2 d1) rfl 2 rfl (nY rfl rfl (decide_eq_false (by omega)) (s_pf rfl (bne_eq_false_iff_eq.2 d1) rfl (nO (s_pf rfl (decide_eq_false (by omega)) rfl (nM rfl (nY rfl rfl (rfl) (s_fa0 rfl fo_55_2 (nY rfl rfl (rfl) (sL rfl ag_3 ?_))))))))))))
    refine nY rfl rfl (rfl) (s_bin rfl rfl rfl (nG rfl rfl (rfl) rfl (nY rfl rfl (bne_iff_ne.2 (by omega)) (s_fa0 rfl fo_55_4 (nY rfl rfl (bne_iff_ne.2 (by omega)) (sL rfl ag_2 ?_))))))
    refine nY rfl rfl (bne_iff_ne.2 (by omega)) (s_bin rfl rfl rfl (nY rfl rfl (rfl) (s_pt rfl (bne_iff_ne.2 (by omega)) rfl (nO (s_pf rfl (rfl) rfl (nM rfl (nY rfl rfl (bne_eq_false_iff_eq.2 dr) (s_fa0 rfl fo_55_2 (nY rfl rfl (bne_eq_false_iff_eq.2 dr) (sL rfl ag_3 ?_))))))))))
    refine nY rfl rfl (bne_eq_false_iff_eq.2 dr) (s_bin rfl rfl rfl (nG rfl rfl (bne_eq_false_iff_eq.2 dr) rfl (nY rfl rfl (beq_iff_eq.2 d1) (s_fa0 rfl fo_55_3 (nY rfl rfl (beq_iff_eq.2 d1) (sL rfl ag_9 ?_))))))
    refine nY rfl rfl (beq_iff_eq.2 d1) (s_len rfl rfl un_9 rfl (nY rfl rfl (beq_iff_eq.2 d1) (s_bin rfl rfl rfl (nG rfl rfl (beq_iff_eq.2 d1) rfl (nSk rfl rfl (decide_eq_true (by omega)) rfl 3 rfl (nY rfl rfl (beq_iff_eq.2 d1) (s_pt rfl (decide_eq_true (by omega)) rfl (nY rfl rfl (bne_eq_false_iff_eq.2 dr) (s_pt rfl (beq_iff_eq.2 d1) rfl (nO (s_pf rfl (bne_eq_false_iff_eq.2 dr) rfl (nM rfl (nSk rfl rfl (rfl) rfl 2 rfl (nO (s_pt rfl (rfl) rfl (nM rfl (nSk rfl rfl (rfl) rfl 2 rfl (nO (s_pt rfl (rfl) rfl (n_nil (Nc (w_yes rfl (rfl) (Na (w_reg 1 rfl rfl (j' := 63) (nA rfl (n_nil (Nc (Nf (z_r1 rfl rfl ?_)))))))))))))))))))))))))))))
    refine ⟨⟨_, rfl, ⟨fun h => (by cases h), fun h => ?_⟩⟩, k1⟩
    exfalso; obtain ⟨_, _, q3, q4, q5, q6, q7, _⟩ := (may_flat x).1 h
    exact dl (q6 d1).1
   by_cases dm : x.key.length ≤ 20
   rotate_left
   ·repeat first | refine Na ?_ | refine Nb ?_ | refine Nc ?_ | refine Nd ?_ | refine Ne ?_
    refine w_reg 62 rfl rfl (j' := 62) (nO (s_fa0 rfl fo_55_2 (nO (sL rfl ag_3 ?_))))
    refine nO (s_bin rfl rfl rfl (nM rfl (nY rfl rfl (bne_iff_ne.2 d4) (s_fa0 rfl fo_42_0 (nY rfl rfl (bne_iff_ne.2 d4) (sL rfl ag_37 ?_))))))
    refine nY rfl rfl (bne_iff_ne.2 d4) (s_len rfl rfl un_37 rfl (nY rfl rfl (bne_iff_ne.2 d4) (s_bin rfl rfl rfl (nG rfl rfl (bne_iff_ne.2 d4) rfl (nY rfl rfl (decide_eq_false (by omega)) (s_fa0 rfl fo_42_1 (nY rfl rfl (decide_eq_false (by omega)) (sL rfl ag_40 ?_))))))))
    refine nY rfl rfl (decide_eq_false (by omega)) (s_len rfl rfl un_40 rfl (nY rfl rfl (decide_eq_false (by omega)) (s_bin rfl rfl rfl (nY rfl rfl (bne_iff_ne.2 d4) (s_pf rfl (decide_eq_false (by omega)) rfl (nO (s_pt rfl (bne_iff_ne.2 d4) rfl (nM rfl (nY rfl rfl (decide_eq_false (by omega)) (s_fa0 rfl fo_55_2 (nY rfl rfl (decide_eq_false (by omega)) (sL rfl ag_3 ?_))))))))))))
    refine nY rfl rfl (decide_eq_false (by omega)) (s_bin rfl rfl rfl (nG rfl rfl (decide_eq_false (by omega)) rfl (nSk rfl rfl (bne_eq_false_iff_eq.2 d1) rfl 2 rfl (nY rfl rfl (decide_eq_false (by omega)) (s_pf rfl (bne_eq_false_iff_eq.2 d1) rfl (nO (s_pf rfl (decide_eq_false (by omega)) rfl (nM rfl (nY rfl rfl (rfl) (s_fa0 rfl fo_55_2 (nY rfl rfl (rfl) (sL rfl ag_3 ?_))))))))))))
    refine nY rfl rfl (rfl) (s_bin rfl rfl rfl (nG rfl rfl (rfl) rfl (nY rfl rfl (bne_iff_ne.2 (by omega)) (s_fa0 rfl fo_55_4 (nY rfl rfl (bne_iff_ne.2 (by omega)) (sL rfl ag_2 ?_))))))
    refine nY rfl rfl (bne_iff_ne.2 (by omega)) (s_bin rfl rfl rfl (nY rfl rfl (rfl) (s_pt rfl (bne_iff_ne.2 (by omega)) rfl (nO (s_pf rfl (rfl) rfl (nM rfl (nY rfl rfl (bne_eq_false_iff_eq.2 dr) (s_fa0 rfl fo_55_2 (nY rfl rfl (bne_eq_false_iff_eq.2 dr) (sL rfl ag_3 ?_))))))))))
    refine nY rfl rfl (bne_eq_false_iff_eq.2 dr) (s_bin rfl rfl rfl (nG rfl rfl (bne_eq_false_iff_eq.2 dr) rfl (nY rfl rfl (beq_iff_eq.2 d1) (s_fa0 rfl fo_55_3 (nY rfl rfl (beq_iff_eq.2 d1) (sL rfl ag_9 ?_))))))
    refine nY rfl rfl (beq_iff_eq.2 d1) (s_len rfl rfl un_9 rfl (nY rfl rfl (beq_iff_eq.2 d1) (s_bin rfl rfl rfl (nG rfl rfl (beq_iff_eq.2 d1) rfl (nY rfl rfl (decide_eq_false (by omega)) (s_fa0 rfl fo_55_3 (nY rfl rfl (decide_eq_false (by omega)) (sL rfl ag_9 ?_))))))))
    refine nY rfl rfl (decide_eq_false (by omega)) (s_len rfl rfl un_9 rfl (nY rfl rfl (decide_eq_false (by omega)) (s_bin rfl rfl rfl (nY rfl rfl (beq_iff_eq.2 d1) (s_pf rfl (decide_eq_false (by omega)) rfl (nY rfl rfl (bne_eq_false_iff_eq.2 dr) (s_pt rfl (beq_iff_eq.2 d1) rfl (nO (s_pf rfl (bne_eq_false_iff_eq.2 dr) rfl (nM rfl (nSk rfl rfl (decide_eq_true (by omega)) rfl 2 rfl (nO (s_pt rfl (decide_eq_true (by omega)) rfl (nM rfl (nSk rfl rfl (rfl) rfl 2 rfl (nO (s_pt rfl (rfl) rfl (n_nil (Nc (w_yes rfl (rfl) (Na (w_reg 1 rfl rfl (j' := 63) (nA rfl (n_nil (Nc (Nf (z_r1 rfl rfl ?_)))))))))))))))))))))))))))
    refine ⟨⟨_, rfl, ⟨fun h => (by cases h), fun h => ?_⟩⟩, k1⟩
    exfalso; obtain ⟨_, _, q3, q4, q5, q6, q7, _⟩ := (may_flat x).1 h
    exact dm (q6 d1).2
   repeat first | refine Na ?_ | refine Nb ?_ | refine Nc ?_ | refine Nd ?_ | refine Ne ?_
   refine w_reg 62 rfl rfl (j' := 62) (nO (s_fa0 rfl fo_55_2 (nO (sL rfl ag_3 ?_))))
   refine nO (s_bin rfl rfl rfl (nM rfl (nY rfl rfl (bne_iff_ne.2 d4) (s_fa0 rfl fo_42_0 (nY rfl rfl (bne_iff_ne.2 d4) (sL rfl ag_37 ?_))))))
   refine nY rfl rfl (bne_iff_ne.2 d4) (s_len rfl rfl un_37 rfl (nY rfl rfl (bne_iff_ne.2 d4) (s_bin rfl rfl rfl (nG rfl rfl (bne_iff_ne.2 d4) rfl (nY rfl rfl (decide_eq_false (by omega)) (s_fa0 rfl fo_42_1 (nY rfl rfl (decide_eq_false (by omega)) (sL rfl ag_40 ?_))))))))
   refine nY rfl rfl (decide_eq_false (by omega)) (s_len rfl rfl un_40 rfl (nY rfl rfl (decide_eq_false (by omega)) (s_bin rfl rfl rfl (nY rfl rfl (bne_iff_ne.2 d4) (s_pf rfl (decide_eq_false (by omega)) rfl (nO (s_pt rfl (bne_iff_ne.2 d4) rfl (nM rfl (nY rfl rfl (decide_eq_false (by omega)) (s_fa0 rfl fo_55_2 (nY rfl rfl (decide_eq_false (by omega)) (sL rfl ag_3 ?_))))))))))))
   refine nY rfl rfl (decide_eq_false (by omega)) (s_bin rfl rfl rfl (nG rfl rfl (decide_eq_false (by omega)) rfl (nSk rfl rfl (bne_eq_false_iff_eq.2 d1) rfl 2 rfl (nY rfl rfl (decide_eq_false (by omega)) (s_pf rfl (bne_eq_false_iff_eq.2 d1) rfl (nO (s_pf rfl (decide_eq_false (by omega)) rfl (nM rfl (nY rfl rfl (rfl) (s_fa0 rfl fo_55_2 (nY rfl rfl (rfl) (sL rfl ag_3 ?_))))))))))))
   refine nY rfl rfl (rfl) (s_bin rfl rfl rfl (nG rfl rfl (rfl) rfl (nY rfl rfl (bne_iff_ne.2 (by omega)) (s_fa0 rfl fo_55_4 (nY rfl rfl (bne_iff_ne.2 (by omega)) (sL rfl ag_2 ?_))))))
   refine nY rfl rfl (bne_iff_ne.2 (by omega)) (s_bin rfl rfl rfl (nY rfl rfl (rfl) (s_pt rfl (bne_iff_ne.2 (by omega)) rfl (nO (s_pf rfl (rfl) rfl (nM rfl (nY rfl rfl (bne_eq_false_iff_eq.2 dr) (s_fa0 rfl fo_55_2 (nY rfl rfl (bne_eq_false_iff_eq.2 dr) (sL rfl ag_3 ?_))))))))))
   refine nY rfl rfl (bne_eq_false_iff_eq.2 dr) (s_bin rfl rfl rfl (nG rfl rfl (bne_eq_false_iff_eq.2 dr) rfl (nY rfl rfl (beq_iff_eq.2 d1) (s_fa0 rfl fo_55_3 (nY rfl rfl (beq_iff_eq.2 d1) (sL rfl ag_9 ?_))))))
   refine nY rfl rfl (beq_iff_eq.2 d1) (s_len rfl rfl un_9 rfl (nY rfl rfl (beq_iff_eq.2 d1) (s_bin rfl rfl rfl (nG rfl rfl (beq_iff_eq.2 d1) rfl (nY rfl rfl (decide_eq_false (by omega)) (s_fa0 rfl fo_55_3 (nY rfl rfl (decide_eq_false (by omega)) (sL rfl ag_9 ?_))))))))
   refine nY rfl rfl (decide_eq_false (by omega)) (s_len rfl rfl un_9 rfl (nY rfl rfl (decide_eq_false (by omega)) (s_bin rfl rfl rfl (nY rfl rfl (beq_iff_eq.2 d1) (s_pf rfl (decide_eq_false (by omega)) rfl (nY rfl rfl (bne_eq_false_iff_eq.2 dr) (s_pt rfl (beq_iff_eq.2 d1) rfl (nO (s_pf rfl (bne_eq_false_iff_eq.2 dr) rfl (nM rfl (nY rfl rfl (decide_eq_false (by omega)) (s_fa0 rfl fo_55_4 (nY rfl rfl (decide_eq_false (by omega)) (sL rfl ag_2 ?_))))))))))))))
   refine nY rfl rfl (decide_eq_false (by omega)) (s_bin rfl rfl rfl (nO (s_pf rfl (decide_eq_false (by omega)) rfl (nM rfl (nY rfl rfl (decide_eq_false (by omega)) (s_fa0 rfl fo_55_4 (nY rfl rfl (decide_eq_false (by omega)) (sL rfl ag_2 ?_))))))))
   refine nY rfl rfl (decide_eq_false (by omega)) (s_bin rfl rfl rfl (nO (s_pf rfl (decide_eq_false (by omega)) rfl (n_nil (Nc (w_no rfl (decide_eq_false (by omega)) ?_))))))
   repeat first | refine Na ?_ | refine Nb ?_ | refine Nc ?_ | refine Nd ?_ | refine Ne ?_
   exact z_met () ⟨rfl, trivial⟩ ⟨by omega, rfl, hgw, fun e => absurd d1 e, fun _ => dr, fun _ => ⟨dl, dm⟩, ⟨by omega, by omega⟩⟩
  by_cases dk : x.key = []
  rotate_left
  ·repeat first | refine Na ?_ | refine Nb ?_ | refine Nc ?_ | refine Nd ?_ | refine Ne ?_
   refine w_reg 62 rfl rfl (j' := 62) (nO (s_fa0 rfl fo_55_2 (nO (sL rfl ag_3 ?_))))
   refine nO (s_bin rfl rfl rfl (nM rfl (nY rfl rfl (bne_iff_ne.2 d4) (s_fa0 rfl fo_42_0 (nY rfl rfl (bne_iff_ne.2 d4) (sL rfl ag_37 ?_))))))
   refine nY rfl rfl (bne_iff_ne.2 d4) (s_len rfl rfl un_37 rfl (nY rfl rfl (bne_iff_ne.2 d4) (s_bin rfl rfl rfl (nG rfl rfl (bne_iff_ne.2 d4) rfl (nY rfl rfl (decide_eq_false (by omega)) (s_fa0 rfl fo_42_1 (nY rfl rfl (decide_eq_false (by omega)) (sL rfl ag_40 ?_))))))))
   refine nY rfl rfl (decide_eq_false (by omega)) (s_len rfl rfl un_40 rfl (nY rfl rfl (decide_eq_false (by omega)) (s_bin rfl rfl rfl (nY rfl rfl (bne_iff_ne.2 d4) (s_pf rfl (decide_eq_false (by omega)) rfl (nO (s_pt rfl (bne_iff_ne.2 d4) rfl (nM rfl (nY rfl rfl (decide_eq_false (by omega)) (s_fa0 rfl fo_55_2 (nY rfl rfl (decide_eq_false (by omega)) (sL rfl ag_3 ?_))))))))))))
   refine nY rfl rfl (decide_eq_false (by omega)) (s_bin rfl rfl rfl (nG rfl rfl (decide_eq_false (by omega)) rfl (nY rfl rfl (bne_iff_ne.2 d1) (s_fa0 rfl fo_55_3 (nY rfl rfl (bne_iff_ne.2 d1) (sL rfl ag_9 ?_))))))
   refine nY rfl rfl (bne_iff_ne.2 d1) (s_bin rfl rfl rfl (nY rfl rfl (decide_eq_false (by omega)) (s_pt rfl (bne_iff_ne.2 d1) rfl (nO (s_pf rfl (decide_eq_false (by omega)) rfl (nM rfl (nSk rfl rfl (str_neT dk) rfl 3 rfl (n_skU rfl rfl (n_skU rfl rfl (n_skU rfl rfl (n_sk rfl rfl (str_neT dk) (nO (s_pt rfl (str_neT dk) rfl (nM rfl (nSk rfl rfl (rfl) rfl 3 rfl (n_skU rfl rfl (n_skU rfl rfl (n_skU rfl rfl (n_skU rfl rfl (n_skU rfl rfl (n_skU rfl rfl (n_skU rfl rfl (n_skU rfl rfl (n_skU rfl rfl (n_skU rfl rfl (n_sk rfl rfl (rfl) (nO (s_pt rfl (rfl) rfl (nM rfl (nSk rfl rfl (rfl) rfl 2 rfl (nO (s_pt rfl (rfl) rfl (nM rfl (nSk rfl rfl (rfl) rfl 2 rfl (nO (s_pt rfl (rfl) rfl (n_nil (Nc (w_yes rfl (rfl) (Na (w_reg 1 rfl rfl (j' := 63) (nA rfl (n_nil (Nc (Nf (z_r1 rfl rfl ?_))))))))))))))))))))))))))))))))))))))))))))))
   refine ⟨⟨_, rfl, ⟨fun h => (by cases h), fun h => ?_⟩⟩, k1⟩
   exfalso; obtain ⟨_, _, q3, q4, q5, q6, q7, _⟩ := (may_flat x).1 h
   exact dk (q4 d1)
  by_cases d3 : x.kind = 3
  ·by_cases dr : 0 ≤ x.rev
   rotate_left
   ·repeat first | refine Na ?_ | refine Nb ?_ | refine Nc ?_ | refine Nd ?_ | refine Ne ?_
    refine w_reg 62 rfl rfl (j' := 62) (nO (s_fa0 rfl fo_55_2 (nO (sL rfl ag_3 ?_))))
    refine nO (s_bin rfl rfl rfl (nM rfl (nY rfl rfl (bne_iff_ne.2 d4) (s_fa0 rfl fo_42_0 (nY rfl rfl (bne_iff_ne.2 d4) (sL rfl ag_37 ?_))))))
    refine nY rfl rfl (bne_iff_ne.2 d4) (s_len rfl rfl un_37 rfl (nY rfl rfl (bne_iff_ne.2 d4) (s_bin rfl rfl rfl (nG rfl rfl (bne_iff_ne.2 d4) rfl (nY rfl rfl (decide_eq_false (by omega)) (s_fa0 rfl fo_42_1 (nY rfl rfl (decide_eq_false (by omega)) (sL rfl ag_40 ?_))))))))
    refine nY rfl rfl (decide_eq_false (by omega)) (s_len rfl rfl un_40 rfl (nY rfl rfl (decide_eq_false (by omega)) (s_bin rfl rfl rfl (nY rfl rfl (bne_iff_ne.2 d4) (s_pf rfl (decide_eq_false (by omega)) rfl (nO (s_pt rfl (bne_iff_ne.2 d4) rfl (nM rfl (nY rfl rfl (decide_eq_false (by omega)) (s_fa0 rfl fo_55_2 (nY rfl rfl (decide_eq_false (by omega)) (sL rfl ag_3 ?_))))))))))))
    refine nY rfl rfl (decide_eq_false (by omega)) (s_bin rfl rfl rfl (nG rfl rfl (decide_eq_false (by omega)) rfl (nY rfl rfl (bne_iff_ne.2 d1) (s_fa0 rfl fo_55_3 (nY rfl rfl (bne_iff_ne.2 d1) (sL rfl ag_9 ?_))))))
    refine nY rfl rfl (bne_iff_ne.2 d1) (s_bin rfl rfl rfl (nY rfl rfl (decide_eq_false (by omega)) (s_pt rfl (bne_iff_ne.2 d1) rfl (nO (s_pf rfl (decide_eq_false (by omega)) rfl (nM rfl (nY rfl rfl (str_neF dk) (s_fa0 rfl fo_55_2 (nY rfl rfl (str_neF dk) (sL rfl ag_3 ?_))))))))))
    refine nY rfl rfl (str_neF dk) (s_bin rfl rfl rfl (nG rfl rfl (str_neF dk) rfl (nSk rfl rfl (bne_eq_false_iff_eq.2 d3) rfl 2 rfl (nY rfl rfl (str_neF dk) (s_pf rfl (bne_eq_false_iff_eq.2 d3) rfl (nO (s_pf rfl (str_neF dk) rfl (nM rfl (nY rfl rfl (rfl) (s_fa0 rfl fo_55_2 (nY rfl rfl (rfl) (sL rfl ag_3 ?_))))))))))))
    refine nY rfl rfl (rfl) (s_bin rfl rfl rfl (nG rfl rfl (rfl) rfl (nSk rfl rfl (beq_eq_false_iff_ne.2 d1) rfl 4 rfl (n_skU rfl rfl (n_skU rfl rfl (n_skU rfl rfl (n_skU rfl rfl (n_sk rfl rfl (beq_eq_false_iff_ne.2 d1) (nY rfl rfl (rfl) (s_pf rfl (beq_eq_false_iff_ne.2 d1) rfl (nO (s_pf rfl (rfl) rfl (nM rfl (nY rfl rfl (rfl) (s_fa0 rfl fo_55_4 (nY rfl rfl (rfl) (sL rfl ag_2 ?_)))))))))))))))))
    refine nY rfl rfl (rfl) (s_bin rfl rfl rfl (nO (s_pf rfl (rfl) rfl (nM rfl (nSk rfl rfl (decide_eq_true (by omega)) rfl 2 rfl (nO (s_pt rfl (decide_eq_true (by omega)) rfl (n_nil (Nc (w_yes rfl (rfl) (Na (w_reg 1 rfl rfl (j' := 63) (nA rfl (n_nil (Nc (Nf (z_r1 rfl rfl ?_)))))))))))))))))
    refine ⟨⟨_, rfl, ⟨fun h => (by cases h), fun h => ?_⟩⟩, k1⟩
    exfalso; obtain ⟨_, _, q3, q4, q5, q6, q7, _⟩ := (may_flat x).1 h
    exact dr q7.1
   by_cases ds : x.rev ≤ 1099511627776
   rotate_left
   ·repeat first | refine Na ?_ | refine Nb ?_ | refine Nc ?_ | refine Nd ?_ | refine Ne ?_
    refine w_reg 62 rfl rfl (j' := 62) (nO (s_fa0 rfl fo_55_2 (nO (sL rfl ag_3 ?_))))
    refine nO (s_bin rfl rfl rfl (nM rfl (nY rfl rfl (bne_iff_ne.2 d4) (s_fa0 rfl fo_42_0 (nY rfl rfl (bne_iff_ne.2 d4) (sL rfl ag_37 ?_))))))
    refine nY rfl rfl (bne_iff_ne.2 d4) (s_len rfl rfl un_37 rfl (nY rfl rfl (bne_iff_ne.2 d4) (s_bin rfl rfl rfl (nG rfl rfl (bne_iff_ne.2 d4) rfl (nY rfl rfl (decide_eq_false (by omega)) (s_fa0 rfl fo_42_1 (nY rfl rfl (decide_eq_false (by omega)) (sL rfl ag_40 ?_))))))))
    refine nY rfl rfl (decide_eq_false (by omega)) (s_len rfl rfl un_40 rfl (nY rfl rfl (decide_eq_false (by omega)) (s_bin rfl rfl rfl (nY rfl rfl (bne_iff_ne.2 d4) (s_pf rfl (decide_eq_false (by omega)) rfl (nO (s_pt rfl (bne_iff_ne.2 d4) rfl (nM rfl (nY rfl rfl (decide_eq_false (by omega)) (s_fa0 rfl fo_55_2 (nY rfl rfl (decide_eq_false (by omega)) (sL rfl ag_3 ?_))))))))))))
    refine nY rfl rfl (decide_eq_false (by omega)) (s_bin rfl rfl rfl (nG rfl rfl (decide_eq_false (by omega)) rfl (nY rfl rfl (bne_iff_ne.2 d1) (s_fa0 rfl fo_55_3 (nY rfl rfl (bne_iff_ne.2 d1) (sL rfl ag_9 ?_))))))
    refine nY rfl rfl (bne_iff_ne.2 d1) (s_bin rfl rfl rfl (nY rfl rfl (decide_eq_false (by omega)) (s_pt rfl (bne_iff_ne.2 d1) rfl (nO (s_pf rfl (decide_eq_false (by omega)) rfl (nM rfl (nY rfl rfl (str_neF dk) (s_fa0 rfl fo_55_2 (nY rfl rfl (str_neF dk) (sL rfl ag_3 ?_))))))))))
    refine nY rfl rfl (str_neF dk) (s_bin rfl rfl rfl (nG rfl rfl (str_neF dk) rfl (nSk rfl rfl (bne_eq_false_iff_eq.2 d3) rfl 2 rfl (nY rfl rfl (str_neF dk) (s_pf rfl (bne_eq_false_iff_eq.2 d3) rfl (nO (s_pf rfl (str_neF dk) rfl (nM rfl (nY rfl rfl (rfl) (s_fa0 rfl fo_55_2 (nY rfl rfl (rfl) (sL rfl ag_3 ?_))))))))))))
    refine nY rfl rfl (rfl) (s_bin rfl rfl rfl (nG rfl rfl (rfl) rfl (nSk rfl rfl (beq_eq_false_iff_ne.2 d1) rfl 4 rfl (n_skU rfl rfl (n_skU rfl rfl (n_skU rfl rfl (n_skU rfl rfl (n_sk rfl rfl (beq_eq_false_iff_ne.2 d1) (nY rfl rfl (rfl) (s_pf rfl (beq_eq_false_iff_ne.2 d1) rfl (nO (s_pf rfl (rfl) rfl (nM rfl (nY rfl rfl (rfl) (s_fa0 rfl fo_55_4 (nY rfl rfl (rfl) (sL rfl ag_2 ?_)))))))))))))))))
    refine nY rfl rfl (rfl) (s_bin rfl rfl rfl (nO (s_pf rfl (rfl) rfl (nM rfl (nY rfl rfl (decide_eq_false (by omega)) (s_fa0 rfl fo_55_4 (nY rfl rfl (decide_eq_false (by omega)) (sL rfl ag_2 ?_))))))))
    refine nY rfl rfl (decide_eq_false (by omega)) (s_bin rfl rfl rfl (nO (s_pf rfl (decide_eq_false (by omega)) rfl (n_nil (Nc (w_yes rfl (decide_eq_true (by omega)) (Na (w_reg 1 rfl rfl (j' := 63) (nA rfl (n_nil (Nc (Nf (z_r1 rfl rfl ?_)))))))))))))
    refine ⟨⟨_, rfl, ⟨fun h => (by cases h), fun h => ?_⟩⟩, k1⟩
    exfalso; obtain ⟨_, _, q3, q4, q5, q6, q7, _⟩ := (may_flat x).1 h
    exact ds q7.2
   repeat first | refine Na ?_ | refine Nb ?_ | refine Nc ?_ | refine Nd ?_ | refine Ne ?_
   refine w_reg 62 rfl rfl (j' := 62) (nO (s_fa0 rfl fo_55_2 (nO (sL rfl ag_3 ?_))))
   refine nO (s_bin rfl rfl rfl (nM rfl (nY rfl rfl (bne_iff_ne.2 d4) (s_fa0 rfl fo_42_0 (nY rfl rfl (bne_iff_ne.2 d4) (sL rfl ag_37 ?_))))))
   refine nY rfl rfl (bne_iff_ne.2 d4) (s_len rfl rfl un_37 rfl (nY rfl rfl (bne_iff_ne.2 d4) (s_bin rfl rfl rfl (nG rfl rfl (bne_iff_ne.2 d4) rfl (nY rfl rfl (decide_eq_false (by omega)) (s_fa0 rfl fo_42_1 (nY rfl rfl (decide_eq_false (by omega)) (sL rfl ag_40 ?_))))))))
   refine nY rfl rfl (decide_eq_false (by omega)) (s_len rfl rfl un_40 rfl (nY rfl rfl (decide_eq_false (by omega)) (s_bin rfl rfl rfl (nY rfl rfl (bne_iff_ne.2 d4) (s_pf rfl (decide_eq_false (by omega)) rfl (nO (s_pt rfl (bne_iff_ne.2 d4) rfl (nM rfl (nY rfl rfl (decide_eq_false (by omega)) (s_fa0 rfl fo_55_2 (nY rfl rfl (decide_eq_false (by omega)) (sL rfl ag_3 ?_))))))))))))
   refine nY rfl rfl (decide_eq_false (by omega)) (s_bin rfl rfl rfl (nG rfl rfl (decide_eq_false (by omega)) rfl (nY rfl rfl (bne_iff_ne.2 d1) (s_fa0 rfl fo_55_3 (nY rfl rfl (bne_iff_ne.2 d1) (sL rfl ag_9 ?_))))))
   refine nY rfl rfl (bne_iff_ne.2 d1) (s_bin rfl rfl rfl (nY rfl rfl (decide_eq_false (by omega)) (s_pt rfl (bne_iff_ne.2 d1) rfl (nO (s_pf rfl (decide_eq_false (by omega)) rfl (nM rfl (nY rfl rfl (str_neF dk) (s_fa0 rfl fo_55_2 (nY rfl rfl (str_neF dk) (sL rfl ag_3 ?_))))))))))
   refine nY rfl rfl (str_neF dk) (s_bin rfl rfl rfl (nG rfl rfl (str_neF dk) rfl (nSk rfl rfl (bne_eq_false_iff_eq.2 d3) rfl 2 rfl (nY rfl rfl (str_neF dk) (s_pf rfl (bne_eq_false_iff_eq.2 d3) rfl (nO (s_pf rfl (str_neF dk) rfl (nM rfl (nY rfl rfl (rfl) (s_fa0 rfl fo_55_2 (nY rfl rfl (rfl) (sL rfl ag_3 ?_))))))))))))
   refine nY rfl rfl (rfl) (s_bin rfl rfl rfl (nG rfl rfl (rfl) rfl (nSk rfl rfl (beq_eq_false_iff_ne.2 d1) rfl 4 rfl (n_skU rfl rfl (n_skU rfl rfl (n_skU rfl rfl (n_skU rfl rfl (n_sk rfl rfl (beq_eq_false_iff_ne.2 d1) (nY rfl rfl (rfl) (s_pf rfl (beq_eq_false_iff_ne.2 d1) rfl (nO (s_pf rfl (rfl) rfl (nM rfl (nY rfl rfl (rfl) (s_fa0 rfl fo_55_4 (nY rfl rfl (rfl) (sL rfl ag_2 ?_)))))))))))))))))
   refine nY rfl rfl (rfl) (s_bin rfl rfl rfl (nO (s_pf rfl (rfl) rfl (nM rfl (nY rfl rfl (decide_eq_false (by omega)) (s_fa0 rfl fo_55_4 (nY rfl rfl (decide_eq_false (by omega)) (sL rfl ag_2 ?_))))))))
   refine nY rfl rfl (decide_eq_false (by omega)) (s_bin rfl rfl rfl (nO (s_pf rfl (decide_eq_false (by omega)) rfl (n_nil (Nc (w_no rfl (decide_eq_false (by omega)) ?_))))))
   repeat first | refine Na ?_ | refine Nb ?_ | refine Nc ?_ | refine Nd ?_ | refine Ne ?_
   exact z_met () ⟨rfl, trivial⟩ ⟨by omega, rfl, hgw, fun _ => dk, fun e => absurd d3 e, fun e => absurd e d1, ⟨dr, ds⟩⟩
  by_cases dr : x.rev = 0
  rotate_left
  ·repeat first | refine Na ?_ | refine Nb ?_ | refine Nc ?_ | refine Nd ?_ | refine Ne ?_
   refine w_reg 62 rfl rfl (j' := 62) (nO (s_fa0 rfl fo_55_2 (nO (sL rfl ag_3 ?_))))
   refine nO (s_bin rfl rfl rfl (nM rfl (nY rfl rfl (bne_iff_ne.2 d4) (s_fa0 rfl fo_42_0 (nY rfl rfl (bne_iff_ne.2 d4) (sL rfl ag_37 ?_))))))
   refine nY rfl rfl (bne_iff_ne.2 d4) (s_len rfl rfl un_37 rfl (nY rfl rfl (bne_iff_ne.2 d4) (s_bin rfl rfl rfl (nG rfl rfl (bne_iff_ne.2 d4) rfl (nY rfl rfl (decide_eq_false (by omega)) (s_fa0 rfl fo_42_1 (nY rfl rfl (decide_eq_false (by omega)) (sL rfl ag_40 ?_))))))))
   refine nY rfl rfl (decide_eq_false (by omega)) (s_len rfl rfl un_40 rfl (nY rfl rfl (decide_eq_false (by omega)) (s_bin rfl rfl rfl (nY rfl rfl (bne_iff_ne.2 d4) (s_pf rfl (decide_eq_false (by omega)) rfl (nO (s_pt rfl (bne_iff_ne.2 d4) rfl (nM rfl (nY rfl rfl (decide_eq_false (by omega)) (s_fa0 rfl fo_55_2 (nY rfl rfl (decide_eq_false (by omega)) (sL rfl ag_3 ?_))))))))))))
   refine nY rfl rfl (decide_eq_false (by omega)) (s_bin rfl rfl rfl (nG rfl rfl (decide_eq_false (by omega)) rfl (nY rfl rfl (bne_iff_ne.2 d1) (s_fa0 rfl fo_55_3 (nY rfl rfl (bne_iff_ne.2 d1) (sL rfl ag_9 ?_))))))
   refine nY rfl rfl (bne_iff_ne.2 d1) (s_bin rfl rfl rfl (nY rfl rfl (decide_eq_false (by omega)) (s_pt rfl (bne_iff_ne.2 d1) rfl (nO (s_pf rfl (decide_eq_false (by omega)) rfl (nM rfl (nY rfl rfl (str_neF dk) (s_fa0 rfl fo_55_2 (nY rfl rfl (str_neF dk) (sL rfl ag_3 ?_))))))))))
   refine nY rfl rfl (str_neF dk) (s_bin rfl rfl rfl (nG rfl rfl (str_neF dk) rfl (nY rfl rfl (bne_iff_ne.2 d3) (s_fa0 rfl fo_55_4 (nY rfl rfl (bne_iff_ne.2 d3) (sL rfl ag_2 ?_))))))
   refine nY rfl rfl (bne_iff_ne.2 d3) (s_bin rfl rfl rfl (nY rfl rfl (str_neF dk) (s_pt rfl (bne_iff_ne.2 d3) rfl (nO (s_pf rfl (str_neF dk) rfl (nM rfl (nSk rfl rfl (bne_iff_ne.2 dr) rfl 3 rfl (n_skU rfl rfl (n_skU rfl rfl (n_skU rfl rfl (n_skU rfl rfl (n_skU rfl rfl (n_skU rfl rfl (n_skU rfl rfl (n_skU rfl rfl (n_skU rfl rfl (n_skU rfl rfl (n_sk rfl rfl (bne_iff_ne.2 dr) (nO (s_pt rfl (bne_iff_ne.2 dr) rfl (nM rfl (nSk rfl rfl (rfl) rfl 2 rfl (nO (s_pt rfl (rfl) rfl (nM rfl (nSk rfl rfl (rfl) rfl 2 rfl (nO (s_pt rfl (rfl) rfl (n_nil (Nc (w_yes rfl (rfl) (Na (w_reg 1 rfl rfl (j' := 63) (nA rfl (n_nil (Nc (Nf (z_r1 rfl rfl ?_))))))))))))))))))))))))))))))))))))))
   refine ⟨⟨_, rfl, ⟨fun h => (by cases h), fun h => ?_⟩⟩, k1⟩
   exfalso; obtain ⟨_, _, q3, q4, q5, q6, q7, _⟩ := (may_flat x).1 h
   exact dr (q5 d3)
  repeat first | refine Na ?_ | refine Nb ?_ | refine Nc ?_ | refine Nd ?_ | refine Ne ?_
  refine w_reg 62 rfl rfl (j' := 62) (nO (s_fa0 rfl fo_55_2 (nO (sL rfl ag_3 ?_))))
  refine nO (s_bin rfl rfl rfl (nM rfl (nY rfl rfl (bne_iff_ne.2 d4) (s_fa0 rfl fo_42_0 (nY rfl rfl (bne_iff_ne.2 d4) (sL rfl ag_37 ?_))))))
  refine nY rfl rfl (bne_iff_ne.2 d4) (s_len rfl rfl un_37 rfl (nY rfl rfl (bne_iff_ne.2 d4) (s_bin rfl rfl rfl (nG rfl rfl (bne_iff_ne.2 d4) rfl (nY rfl rfl (decide_eq_false (by omega)) (s_fa0 rfl fo_42_1 (nY rfl rfl (decide_eq_false (by omega)) (sL rfl ag_40 ?_))))))))
  refine nY rfl rfl (decide_eq_false (by omega)) (s_len rfl rfl un_40 rfl (nY rfl rfl (decide_eq_false (by omega)) (s_bin rfl rfl rfl (nY rfl rfl (bne_iff_ne.2 d4) (s_pf rfl (decide_eq_false (by omega)) rfl (nO (s_pt rfl (bne_iff_ne.2 d4) rfl (nM rfl (nY rfl rfl (decide_eq_false (by omega)) (s_fa0 rfl fo_55_2 (nY rfl rfl (decide_eq_false (by omega)) (sL rfl ag_3 ?_))))))))))))
  refine nY rfl rfl (decide_eq_false (by omega)) (s_bin rfl rfl rfl (nG rfl rfl (decide_eq_false (by omega)) rfl (nY rfl rfl (bne_iff_ne.2 d1) (s_fa0 rfl fo_55_3 (nY rfl rfl (bne_iff_ne.2 d1) (sL rfl ag_9 ?_))))))
  refine nY rfl rfl (bne_iff_ne.2 d1) (s_bin rfl rfl rfl (nY rfl rfl (decide_eq_false (by omega)) (s_pt rfl (bne_iff_ne.2 d1) rfl (nO (s_pf rfl (decide_eq_false (by omega)) rfl (nM rfl (nY rfl rfl (str_neF dk) (s_fa0 rfl fo_55_2 (nY rfl rfl (str_neF dk) (sL rfl ag_3 ?_))))))))))
  refine nY rfl rfl (str_neF dk) (s_bin rfl rfl rfl (nG rfl rfl (str_neF dk) rfl (nY rfl rfl (bne_iff_ne.2 d3) (s_fa0 rfl fo_55_4 (nY rfl rfl (bne_iff_ne.2 d3) (sL rfl ag_2 ?_))))))
  refine nY rfl rfl (bne_iff_ne.2 d3) (s_bin rfl rfl rfl (nY rfl rfl (str_neF dk) (s_pt rfl (bne_iff_ne.2 d3) rfl (nO (s_pf rfl (str_neF dk) rfl (nM rfl (nY rfl rfl (bne_eq_false_iff_eq.2 dr) (s_fa0 rfl fo_55_2 (nY rfl rfl (bne_eq_false_iff_eq.2 dr) (sL rfl ag_3 ?_))))))))))
  refine nY rfl rfl (bne_eq_false_iff_eq.2 dr) (s_bin rfl rfl rfl (nG rfl rfl (bne_eq_false_iff_eq.2 dr) rfl (nSk rfl rfl (beq_eq_false_iff_ne.2 d1) rfl 4 rfl (n_skU rfl rfl (n_skU rfl rfl (n_skU rfl rfl (n_skU rfl rfl (n_sk rfl rfl (beq_eq_false_iff_ne.2 d1) (nY rfl rfl (bne_eq_false_iff_eq.2 dr) (s_pf rfl (beq_eq_false_iff_ne.2 d1) rfl (nO (s_pf rfl (bne_eq_false_iff_eq.2 dr) rfl (nM rfl (nY rfl rfl (rfl) (s_fa0 rfl fo_55_4 (nY rfl rfl (rfl) (sL rfl ag_2 ?_)))))))))))))))))
  refine nY rfl rfl (rfl) (s_bin rfl rfl rfl (nO (s_pf rfl (rfl) rfl (nM rfl (nY rfl rfl (decide_eq_false (by omega)) (s_fa0 rfl fo_55_4 (nY rfl rfl (decide_eq_false (by omega)) (sL rfl ag_2 ?_))))))))
  refine nY rfl rfl (decide_eq_false (by omega)) (s_bin rfl rfl rfl (nO (s_pf rfl (decide_eq_false (by omega)) rfl (n_nil (Nc (w_no rfl (decide_eq_false (by omega)) ?_))))))
  repeat first | refine Na ?_ | refine Nb ?_ | refine Nc ?_ | refine Nd ?_ | refine Ne ?_
  exact z_met () ⟨rfl, trivial⟩ ⟨by omega, rfl, hgw, fun _ => dk, fun _ => dr, fun e => absurd e d1, ⟨by omega, by omega⟩⟩
 rintro _ f g2 n2 hw2 ⟨hn2, rfl, f3, f4, f5, f6, f7⟩
 have hfin : txnOk x.gs x.ws → x.may := fun h => (may_flat x).2 ⟨hp, ⟨b4, b5⟩, f3, f4, f5, f6, f7, h⟩
 have hfl : ¬ txnOk x.gs x.ws → ¬ x.may := fun h q => h ((may_flat x).1 q).2.2.2.2.2.2.2
 have hqn := hw2 _ _ ht1
 clear f3 f4 f5 f6 f7
 repeat first | refine Na ?_ | refine Nb ?_ | refine Nc ?_ | refine Nd ?_ | refine Ne ?_
 refine w_reg 4 rfl rfl (j' := 4) (nO (s_fa0 rfl fo_42_0 (nO (sL rfl ag_37 ?_))))
 refine nO (s_len rfl rfl un_37 rfl (nM rfl (n_nil ?_)))
 refine z_seq ?_
 refine z_meet (β := Unit) (fun _ => [(3, .pointer (some ⟨q, 0, none⟩))]) (fun _ g' n' => n2 ≤ n' ∧ K0 g2 n2 g' ∧ ∀ y ∈ x.gs, y.may) ?_ ?_
 ·repeat first | refine Na ?_ | refine Nb ?_ | refine Nc ?_ | refine Nd ?_ | refine Ne ?_
  refine w_loop (β := Nat) (fun i => [(3, .pointer (some ⟨q, 0, none⟩)), (101, .slice a1 x.gs.length c1), (102, .int .i64 x.gs.length), (103, .int .i64 (i : Int))])
   (fun i g' n' => i ≤ x.gs.length ∧ n2 ≤ n' ∧ K0 g2 n2 g' ∧ ∀ j, (h : j < x.gs.length) → j < i → x.gs[j].may) (fun i => x.gs.length - i) 0 ⟨rfl, rfl, rfl, rfl, trivial⟩ ⟨by omega, by omega, Kp.refl _ _ _, fun j _ h => absurd h (by omega)⟩ ?_
  rintro i f gL nL hwL ⟨hi, hnL, kL, ht⟩
  repeat first | refine Na ?_ | refine Nb ?_ | refine Nc ?_ | refine Nd ?_ | refine Ne ?_
  refine w_reg 1 rfl rfl (j' := 1) (nO (s_bin rfl rfl rfl (n_nil (Nc (Na (w_if rfl (fun hb => ?_) (fun hb => ?_)))))))
  ·have hi : i < x.gs.length := by have := of_decide_eq_true hb; omega
   obtain ⟨l3, o3, c3, cl3, ro3, x1, x2, x0, x5⟩ := (hG1.kp0 kL hw2).at hi
   cases x1
   obtain ⟨y, hy⟩ : ∃ y, y = x.gs[i]'hi := ⟨_, rfl⟩
   rw [← hy] at x5
   have hys := str_size y.key
   have hbad : ¬ y.may → ¬ x.may := fun q => hfl fun t => q (by rw [hy]; exact t.2.2.1 _ (List.getElem_mem hi))
   repeat first | refine Na ?_ | refine Nb ?_ | refine Nc ?_ | refine Nd ?_ | refine Ne ?_
   refine w_reg 4 rfl rfl (j' := 5) (nO (s_ia rfl rfl el_37 (by first | assumption | omega) (nO (sLa rfl ag_36 sz_36 ?_))))
   refine n_op .no (q := 3) rfl (s_al zl_36 (nO (sSw rfl rfl sz_36 rfl rfl ?_)))
   refine n_nil ?_
   by_cases j1 : 1 ≤ y.key.length
   rotate_left
   ·refine Nc (Na (w_reg 20 rfl rfl (j' := 25) (nO (s_fa0 rfl fo_36_0 (nO (sL rfl ag_9 ?_))))))
    refine nO (s_len rfl rfl un_9 rfl (nO (s_bin rfl rfl rfl (nM rfl (nSk rfl rfl (decide_eq_true (by omega)) rfl 3 rfl (nO (s_pt rfl (decide_eq_true (by omega)) rfl (nM rfl (nSk rfl rfl (rfl) rfl 2 rfl (nO (s_pt rfl (rfl) rfl (nM rfl (nSk rfl rfl (rfl) rfl 2 rfl (nO (s_pt rfl (rfl) rfl (n_nil (Nc (w_yes rfl (rfl) (Na (w_reg 1 rfl rfl (j' := 26) (nA rfl (n_nil (Nc (Nf (z_r1 rfl rfl ?_)))))))))))))))))))))))))
    exact ⟨⟨_, rfl, ⟨fun h => (by cases h), fun h => absurd h (hbad fun t => j1 t.1.1)⟩⟩, k1.trans0 (n' := n) (Kp.trans0 (n' := nL) (kL.dn (by omega)) (by repeat (first | exact Kp.refl _ _ _ | refine Kp.new ?_ (by omega) _)) (by omega)) (by omega)⟩
   by_cases j2 : y.key.length ≤ 20
   rotate_left
   ·refine Nc (Na (w_reg 20 rfl rfl (j' := 25) (nO (s_fa0 rfl fo_36_0 (nO (sL rfl ag_9 ?_))))))
    refine nO (s_len rfl rfl un_9 rfl (nO (s_bin rfl rfl rfl (nM rfl (nY rfl rfl (decide_eq_false (by omega)) (s_fa0 rfl fo_36_0 (nY rfl rfl (decide_eq_false (by omega)) (sL rfl ag_9 ?_))))))))
    refine nY rfl rfl (decide_eq_false (by omega)) (s_len rfl rfl un_9 rfl (nY rfl rfl (decide_eq_false (by omega)) (s_bin rfl rfl rfl (nO (s_pf rfl (decide_eq_false (by omega)) rfl (nM rfl (nSk rfl rfl (decide_eq_true (by omega)) rfl 2 rfl (nO (s_pt rfl (decide_eq_true (by omega)) rfl (nM rfl (nSk rfl rfl (rfl) rfl 2 rfl (nO (s_pt rfl (rfl) rfl (n_nil (Nc (w_yes rfl (rfl) (Na (w_reg 1 rfl rfl (j' := 26) (nA rfl (n_nil (Nc (Nf (z_r1 rfl rfl ?_)))))))))))))))))))))))
    exact ⟨⟨_, rfl, ⟨fun h => (by cases h), fun h => absurd h (hbad fun t => j2 t.1.2)⟩⟩, k1.trans0 (n' := n) (Kp.trans0 (n' := nL) (kL.dn (by omega)) (by repeat (first | exact Kp.refl _ _ _ | refine Kp.new ?_ (by omega) _)) (by omega)) (by omega)⟩
   by_cases j3 : 0 ≤ y.rev
   rotate_left
   ·refine Nc (Na (w_reg 20 rfl rfl (j' := 25) (nO (s_fa0 rfl fo_36_0 (nO (sL rfl ag_9 ?_))))))
    refine nO (s_len rfl rfl un_9 rfl (nO (s_bin rfl rfl rfl (nM rfl (nY rfl rfl (decide_eq_false (by omega)) (s_fa0 rfl fo_36_0 (nY rfl rfl (decide_eq_false (by omega)) (sL rfl ag_9 ?_))))))))
    refine nY rfl rfl (decide_eq_false (by omega)) (s_len rfl rfl un_9 rfl (nY rfl rfl (decide_eq_false (by omega)) (s_bin rfl rfl rfl (nO (s_pf rfl (decide_eq_false (by omega)) rfl (nM rfl (nY rfl rfl (decide_eq_false (by omega)) (s_fa0 rfl fo_36_1 (nY rfl rfl (decide_eq_false (by omega)) (sL rfl ag_2 ?_))))))))))
    refine nY rfl rfl (decide_eq_false (by omega)) (s_bin rfl rfl rfl (nO (s_pf rfl (decide_eq_false (by omega)) rfl (nM rfl (nSk rfl rfl (decide_eq_true (by omega)) rfl 2 rfl (nO (s_pt rfl (decide_eq_true (by omega)) rfl (n_nil (Nc (w_yes rfl (rfl) (Na (w_reg 1 rfl rfl (j' := 26) (nA rfl (n_nil (Nc (Nf (z_r1 rfl rfl ?_)))))))))))))))))
    exact ⟨⟨_, rfl, ⟨fun h => (by cases h), fun h => absurd h (hbad fun t => j3 t.2.1)⟩⟩, k1.trans0 (n' := n) (Kp.trans0 (n' := nL) (kL.dn (by omega)) (by repeat (first | exact Kp.refl _ _ _ | refine Kp.new ?_ (by omega) _)) (by omega)) (by omega)⟩
   by_cases j4 : y.rev ≤ 1099511627776
   rotate_left
   ·refine Nc (Na (w_reg 20 rfl rfl (j' := 25) (nO (s_fa0 rfl fo_36_0 (nO (sL rfl ag_9 ?_))))))
    refine nO (s_len rfl rfl un_9 rfl (nO (s_bin rfl rfl rfl (nM rfl (nY rfl rfl (decide_eq_false (by omega)) (s_fa0 rfl fo_36_0 (nY rfl rfl (decide_eq_false (by omega)) (sL rfl ag_9 ?_))))))))
    refine nY rfl rfl (decide_eq_false (by omega)) (s_len rfl rfl un_9 rfl (nY rfl rfl (decide_eq_false (by omega)) (s_bin rfl rfl rfl (nO (s_pf rfl (decide_eq_false (by omega)) rfl (nM rfl (nY rfl rfl (decide_eq_false (by omega)) (s_fa0 rfl fo_36_1 (nY rfl rfl (decide_eq_false (by omega)) (sL rfl ag_2 ?_))))))))))
    refine nY rfl rfl (decide_eq_false (by omega)) (s_bin rfl rfl rfl (nO (s_pf rfl (decide_eq_false (by omega)) rfl (nM rfl (nY rfl rfl (decide_eq_false (by omega)) (s_fa0 rfl fo_36_1 (nY rfl rfl (decide_eq_false (by omega)) (sL rfl ag_2 ?_))))))))
    refine nY rfl rfl (decide_eq_false (by omega)) (s_bin rfl rfl rfl (nO (s_pf rfl (decide_eq_false (by omega)) rfl (n_nil (Nc (w_yes rfl (decide_eq_true (by omega)) (Na (w_reg 1 rfl rfl (j' := 26) (nA rfl (n_nil (Nc (Nf (z_r1 rfl rfl ?_)))))))))))))
    exact ⟨⟨_, rfl, ⟨fun h => (by cases h), fun h => absurd h (hbad fun t => j4 t.2.2)⟩⟩, k1.trans0 (n' := n) (Kp.trans0 (n' := nL) (kL.dn (by omega)) (by repeat (first | exact Kp.refl _ _ _ | refine Kp.new ?_ (by omega) _)) (by omega)) (by omega)⟩
   refine Nc (Na (w_reg 20 rfl rfl (j' := 25) (nO (s_fa0 rfl fo_36_0 (nO (sL rfl ag_9 ?_))))))
   refine nO (s_len rfl rfl un_9 rfl (nO (s_bin rfl rfl rfl (nM rfl (nY rfl rfl (decide_eq_false (by omega)) (s_fa0 rfl fo_36_0 (nY rfl rfl (decide_eq_false (by omega)) (sL rfl ag_9 ?_))))))))
   refine nY rfl rfl (decide_eq_false (by omega)) (s_len rfl rfl un_9 rfl (nY rfl rfl (decide_eq_false (by omega)) (s_bin rfl rfl rfl (nO (s_pf rfl (decide_eq_false (by omega)) rfl (nM rfl (nY rfl rfl (decide_eq_false (by omega)) (s_fa0 rfl fo_36_1 (nY rfl rfl (decide_eq_false (by omega)) (sL rfl ag_2 ?_))))))))))
   refine nY rfl rfl (decide_eq_false (by omega)) (s_bin rfl rfl rfl (nO (s_pf rfl (decide_eq_false (by omega)) rfl (nM rfl (nY rfl rfl (decide_eq_false (by omega)) (s_fa0 rfl fo_36_1 (nY rfl rfl (decide_eq_false (by omega)) (sL rfl ag_2 ?_))))))))
   refine nY rfl rfl (decide_eq_false (by omega)) (s_bin rfl rfl rfl (nO (s_pf rfl (decide_eq_false (by omega)) rfl (n_nil (Nc (w_no rfl (decide_eq_false (by omega)) ?_))))))
   repeat first | refine Na ?_ | refine Nb ?_ | refine Nc ?_ | refine Nd ?_ | refine Ne ?_
   repeat first | refine Na ?_ | refine Nb ?_ | refine Nc ?_ | refine Nd ?_ | refine Ne ?_
   refine w_reg 2 rfl rfl (j' := 27) (nO (s_bin rfl rfl (by first | exact bi_inc (by omega) | exact bi_add rfl (by omega) (by omega)) ?_))
   refine nM rfl (n_nil ?_)
   exact z_round (i + 1) ⟨rfl, rfl, rfl, rfl, trivial⟩ ⟨hi, by omega, Kp.trans0 (n' := nL) kL (by repeat (first | exact Kp.refl _ _ _ | refine Kp.new ?_ (by omega) _)) (by omega), fun j hj hlt => by
    by_cases e : j = i
    ·subst e; rw [← hy]; exact ⟨⟨j1, j2⟩, j3, j4⟩
    ·exact ht j hj (by omega)⟩ (by omega)
  ·refine w_exit rfl ?_
   have : i = x.gs.length := by have := of_decide_eq_false hb; omega
   subst this
   exact z_met () ⟨rfl, trivial⟩ ⟨by omega, kL, fun y hy => by
    obtain ⟨j, hj, rfl⟩ := List.mem_iff_getElem.1 hy
    exact ht j hj hj⟩
 rintro _ f g5 n5 hw5 ⟨hn5, k5, hgs⟩
 have ht5 := k5.at0 hw2 ht1
 have hW5 := hW1.kp0 k5 hw2
 have k15 : K0 g n g5 := k1.trans0 (k5.dn (m := n) (by omega)) (by omega)
 refine w_seq ?_
 repeat first | refine Na ?_ | refine Nb ?_ | refine Nc ?_ | refine Nd ?_ | refine Ne ?_
 refine w_reg 4 rfl rfl (j' := 4) (nO (s_fa0 rfl fo_42_1 (nO (sL rfl ag_40 ?_))))
 refine nO (s_len rfl rfl un_40 rfl (nM rfl (n_nil ?_)))
 refine z_seq ?_
 refine z_meet (β := Unit) (fun _ => [(3, .pointer (some ⟨q, 0, none⟩))]) (fun _ g' n' => n5 ≤ n' ∧ K0 g5 n5 g' ∧ ∀ y ∈ x.ws, y.may) ?_ ?_
 ·repeat first | refine Na ?_ | refine Nb ?_ | refine Nc ?_ | refine Nd ?_ | refine Ne ?_
  refine w_loop (β := Nat) (fun i => [(3, .pointer (some ⟨q, 0, none⟩)), (129, .slice a2 x.ws.length c2), (130, .int .i64 x.ws.length), (131, .int .i64 (i : Int))])
   (fun i g' n' => i ≤ x.ws.length ∧ n5 ≤ n' ∧ K0 g5 n5 g' ∧ ∀ j, (h : j < x.ws.length) → j < i → x.ws[j].may) (fun i => x.ws.length - i) 0 ⟨rfl, rfl, rfl, rfl, trivial⟩ ⟨by omega, by omega, Kp.refl _ _ _, fun j _ h => absurd h (by omega)⟩ ?_
  rintro i f gL nL hwL ⟨hi, hnL, kL, ht⟩
  repeat first | refine Na ?_ | refine Nb ?_ | refine Nc ?_ | refine Nd ?_ | refine Ne ?_
  refine w_reg 1 rfl rfl (j' := 1) (nO (s_bin rfl rfl rfl (n_nil (Nc (Na (w_if rfl (fun hb => ?_) (fun hb => ?_)))))))
  ·have hi : i < x.ws.length := by have := of_decide_eq_true hb; omega
   obtain ⟨l3, o3, c3, cl3, ro3, p3, q3, x1, x2, x0, x5, x6⟩ := (hW5.kp0 kL hw5).at hi
   cases x1
   obtain ⟨y, hy⟩ : ∃ y, y = x.ws[i]'hi := ⟨_, rfl⟩
   rw [← hy] at x5 x6
   have hys := str_size y.key
   have hbad : ¬ y.may → ¬ x.may := fun q => hfl fun t => q (by rw [hy]; exact t.2.2.2 _ (List.getElem_mem hi))
   repeat first | refine Na ?_ | refine Nb ?_ | refine Nc ?_ | refine Nd ?_ | refine Ne ?_
   refine w_reg 4 rfl rfl (j' := 5) (nO (s_ia rfl rfl el_40 (by first | assumption | omega) (nO (sLa rfl ag_39 sz_39 ?_))))
   refine n_op .no (q := 3) rfl (s_al zl_39 (nO (sSw rfl rfl sz_39 rfl rfl ?_)))
   refine n_nil ?_
   by_cases j1 : 1 ≤ y.key.length
   rotate_left
   ·refine Nc (Na (w_reg 16 rfl rfl (j' := 21) (nO (s_fa0 rfl fo_39_0 (nO (sL rfl ag_9 ?_))))))
    refine nO (s_len rfl rfl un_9 rfl (nO (s_bin rfl rfl rfl (nM rfl (nSk rfl rfl (decide_eq_true (by omega)) rfl 3 rfl (nO (s_pt rfl (decide_eq_true (by omega)) rfl (nM rfl (nSk rfl rfl (rfl) rfl 3 rfl (nO (s_pt rfl (rfl) rfl (n_nil (Nc (w_yes rfl (rfl) (Na (w_reg 1 rfl rfl (j' := 22) (nA rfl (n_nil (Nc (Nf (z_r1 rfl rfl ?_)))))))))))))))))))))
    exact ⟨⟨_, rfl, ⟨fun h => (by cases h), fun h => absurd h (hbad fun t => j1 t.1.1)⟩⟩, k15.trans0 (n' := n) (Kp.trans0 (n' := nL) (kL.dn (by omega)) (by repeat (first | exact Kp.refl _ _ _ | refine Kp.new ?_ (by omega) _)) (by omega)) (by omega)⟩
   by_cases j2 : y.key.length ≤ 20
   rotate_left
   ·refine Nc (Na (w_reg 16 rfl rfl (j' := 21) (nO (s_fa0 rfl fo_39_0 (nO (sL rfl ag_9 ?_))))))
    refine nO (s_len rfl rfl un_9 rfl (nO (s_bin rfl rfl rfl (nM rfl (nY rfl rfl (decide_eq_false (by omega)) (s_fa0 rfl fo_39_0 (nY rfl rfl (decide_eq_false (by omega)) (sL rfl ag_9 ?_))))))))
    refine nY rfl rfl (decide_eq_false (by omega)) (s_len rfl rfl un_9 rfl (nY rfl rfl (decide_eq_false (by omega)) (s_bin rfl rfl rfl (nO (s_pf rfl (decide_eq_false (by omega)) rfl (nM rfl (nSk rfl rfl (decide_eq_true (by omega)) rfl 3 rfl (nO (s_pt rfl (decide_eq_true (by omega)) rfl (n_nil (Nc (w_yes rfl (rfl) (Na (w_reg 1 rfl rfl (j' := 22) (nA rfl (n_nil (Nc (Nf (z_r1 rfl rfl ?_)))))))))))))))))))
    exact ⟨⟨_, rfl, ⟨fun h => (by cases h), fun h => absurd h (hbad fun t => j2 t.1.2)⟩⟩, k15.trans0 (n' := n) (Kp.trans0 (n' := nL) (kL.dn (by omega)) (by repeat (first | exact Kp.refl _ _ _ | refine Kp.new ?_ (by omega) _)) (by omega)) (by omega)⟩
   by_cases j3 : y.val.length ≤ 4000
   rotate_left
   ·refine Nc (Na (w_reg 16 rfl rfl (j' := 21) (nO (s_fa0 rfl fo_39_0 (nO (sL rfl ag_9 ?_))))))
    refine nO (s_len rfl rfl un_9 rfl (nO (s_bin rfl rfl rfl (nM rfl (nY rfl rfl (decide_eq_false (by omega)) (s_fa0 rfl fo_39_0 (nY rfl rfl (decide_eq_false (by omega)) (sL rfl ag_9 ?_))))))))
    refine nY rfl rfl (decide_eq_false (by omega)) (s_len rfl rfl un_9 rfl (nY rfl rfl (decide_eq_false (by omega)) (s_bin rfl rfl rfl (nO (s_pf rfl (decide_eq_false (by omega)) rfl (nM rfl (nY rfl rfl (decide_eq_false (by omega)) (s_fa0 rfl fo_39_1 (nY rfl rfl (decide_eq_false (by omega)) (sL rfl ag_26 ?_))))))))))
    refine nY rfl rfl (decide_eq_false (by omega)) (s_len rfl rfl un_26 rfl (nY rfl rfl (decide_eq_false (by omega)) (s_bin rfl rfl rfl (nO (s_pf rfl (decide_eq_false (by omega)) rfl (n_nil (Nc (w_yes rfl (decide_eq_true (by omega)) (Na (w_reg 1 rfl rfl (j' := 22) (nA rfl (n_nil (Nc (Nf (z_r1 rfl rfl ?_)))))))))))))))
    exact ⟨⟨_, rfl, ⟨fun h => (by cases h), fun h => absurd h (hbad fun t => j3 t.2)⟩⟩, k15.trans0 (n' := n) (Kp.trans0 (n' := nL) (kL.dn (by omega)) (by repeat (first | exact Kp.refl _ _ _ | refine Kp.new ?_ (by omega) _)) (by omega)) (by omega)⟩
   refine Nc (Na (w_reg 16 rfl rfl (j' := 21) (nO (s_fa0 rfl fo_39_0 (nO (sL rfl ag_9 ?_))))))
   refine nO (s_len rfl rfl un_9 rfl (nO (s_bin rfl rfl rfl (nM rfl (nY rfl rfl (decide_eq_false (by omega)) (s_fa0 rfl fo_39_0 (nY rfl rfl (decide_eq_false (by omega)) (sL rfl ag_9 ?_))))))))
   refine nY rfl rfl (decide_eq_false (by omega)) (s_len rfl rfl un_9 rfl (nY rfl rfl (decide_eq_false (by omega)) (s_bin rfl rfl rfl (nO (s_pf rfl (decide_eq_false (by omega)) rfl (nM rfl (nY rfl rfl (decide_eq_false (by omega)) (s_fa0 rfl fo_39_1 (nY rfl rfl (decide_eq_false (by omega)) (sL rfl ag_26 ?_))))))))))
   refine nY rfl rfl (decide_eq_false (by omega)) (s_len rfl rfl un_26 rfl (nY rfl rfl (decide_eq_false (by omega)) (s_bin rfl rfl rfl (nO (s_pf rfl (decide_eq_false (by omega)) rfl (n_nil (Nc (w_no rfl (decide_eq_false (by omega)) ?_))))))))
   repeat first | refine Na ?_ | refine Nb ?_ | refine Nc ?_ | refine Nd ?_ | refine Ne ?_
   repeat first | refine Na ?_ | refine Nb ?_ | refine Nc ?_ | refine Nd ?_ | refine Ne ?_
   refine w_reg 2 rfl rfl (j' := 23) (nO (s_bin rfl rfl (by first | exact bi_inc (by omega) | exact bi_add rfl (by omega) (by omega)) ?_))
   refine nM rfl (n_nil ?_)
   exact z_round (i + 1) ⟨rfl, rfl, rfl, rfl, trivial⟩ ⟨hi, by omega, Kp.trans0 (n' := nL) kL (by repeat (first | exact Kp.refl _ _ _ | refine Kp.new ?_ (by omega) _)) (by omega), fun j hj hlt => by
    by_cases e : j = i
    ·subst e; rw [← hy]; exact ⟨⟨j1, j2⟩, j3⟩
    ·exact ht j hj (by omega)⟩ (by omega)
  ·refine w_exit rfl ?_
   have : i = x.ws.length := by have := of_decide_eq_false hb; omega
   subst this
   exact z_met () ⟨rfl, trivial⟩ ⟨by omega, kL, fun y hy => by
    obtain ⟨j, hj, rfl⟩ := List.mem_iff_getElem.1 hy
    exact ht j hj hj⟩
 rintro _ f g8 n8 hw8 ⟨hn8, k8, hws⟩
 have ht8 := k8.at0 hw5 ht5
 have k18 : K0 g n g8 := k15.trans0 (k8.dn (m := n) (by omega)) (by omega)
 by_cases e1 : x.gs.length ≤ 20
 rotate_left
 ·repeat first | refine Na ?_ | refine Nb ?_ | refine Nc ?_ | refine Nd ?_ | refine Ne ?_
  refine w_reg 11 rfl rfl (j' := 11) (nO (s_fa0 rfl fo_42_0 (nO (sL rfl ag_37 ?_))))
  refine nO (s_len rfl rfl un_37 rfl (nO (s_bin rfl rfl rfl (nM rfl (nSk rfl rfl (decide_eq_false (by omega)) rfl 3 rfl (nO (s_pf rfl (decide_eq_false (by omega)) rfl (nA rfl (n_nil (Nc (Nf (z_r1 rfl rfl ?_))))))))))))
  exact ⟨⟨_, rfl, ⟨fun h => (by cases h), fun h => absurd h (hfl fun t => e1 t.1)⟩⟩, k18⟩
 repeat first | refine Na ?_ | refine Nb ?_ | refine Nc ?_ | refine Nd ?_ | refine Ne ?_
 refine w_reg 11 rfl rfl (j' := 11) (nO (s_fa0 rfl fo_42_0 (nO (sL rfl ag_37 ?_))))
 refine nO (s_len rfl rfl un_37 rfl (nO (s_bin rfl rfl rfl (nM rfl (nY rfl rfl (decide_eq_true (by omega)) (s_fa0 rfl fo_42_1 (nY rfl rfl (decide_eq_true (by omega)) (sL rfl ag_40 ?_))))))))
 refine nY rfl rfl (decide_eq_true (by omega)) (s_len rfl rfl un_40 rfl (nY rfl rfl (decide_eq_true (by omega)) (s_bin rfl rfl rfl (nO (s_pt rfl (decide_eq_true (by omega)) rfl (nA rfl (n_nil (Nc (Nf (z_r1 rfl rfl ?_))))))))))
 exact ⟨⟨_, rfl, ⟨fun h => hfin ⟨e1, by have := of_decide_eq_true h; omega, hgs, hws⟩, fun h => decide_eq_true (by have := ((may_flat x).1 h).2.2.2.2.2.2.2.2.1; omega)⟩⟩, k18⟩

end Go.Proofs.YtehmailaabjdjaaGreat
