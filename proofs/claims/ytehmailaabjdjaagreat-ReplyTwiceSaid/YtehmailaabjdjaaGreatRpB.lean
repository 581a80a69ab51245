/-
  reply.Of, by contract: what a store answers to a call. No condition.
-/
import Derived.Test.YtehmailaabjdjaaGreatRpA
open Go.Proofs
namespace Go.Proofs.YtehmailaabjdjaaGreat
set_option linter.unusedSimpArgs false
set_option linter.unusedVariables false
set_option maxRecDepth 100000

open Classical in
noncomputable def Sto.ans (S : Sto) (x : Cal) : Ans :=
 if ¬ x.may then ⟨x.from_, x.id, x.kind, 1, 0, [], []⟩
 else if x.kind = 1 then (match findK x.key S.now with | some e => ⟨x.from_, x.id, x.kind, 0, S.rev, [e], []⟩ | none => ⟨x.from_, x.id, x.kind, 3, S.rev, [], []⟩)
 else if x.kind = 2 then ⟨x.from_, x.id, x.kind, 0, S.rev, S.list, []⟩
 else if x.kind = 3 then ⟨x.from_, x.id, x.kind, (S.log.from_ x.rev).2, S.rev, [], (S.log.from_ x.rev).1⟩
 else ⟨x.from_, x.id, x.kind, (S.txn x.gs x.ws).2.2, (S.txn x.gs x.ws).1.rev, [], []⟩
open Classical in
noncomputable def Sto.aft (S : Sto) (x : Cal) : Sto :=
 if ¬ x.may then S else if x.kind = 4 then (S.txn x.gs x.ws).1 else { S with reads := S.reads + 1 }

section
variable {S : Sto} {x : Cal}
theorem ans_form (h : ¬ x.may) : S.ans x = ⟨x.from_, x.id, x.kind, 1, 0, [], []⟩ := if_pos h
theorem ans_get {e : SEnt} (h : x.may) (h1 : x.kind = 1) (hf : findK x.key S.now = some e) : S.ans x = ⟨x.from_, x.id, x.kind, 0, S.rev, [e], []⟩ := by
 unfold Sto.ans; rw [if_neg (fun q => q h), if_pos h1, hf]
theorem ans_none (h : x.may) (h1 : x.kind = 1) (hf : findK x.key S.now = none) : S.ans x = ⟨x.from_, x.id, x.kind, 3, S.rev, [], []⟩ := by
 unfold Sto.ans; rw [if_neg (fun q => q h), if_pos h1, hf]
theorem ans_list (h : x.may) (h1 : x.kind = 2) : S.ans x = ⟨x.from_, x.id, x.kind, 0, S.rev, S.list, []⟩ := by
 unfold Sto.ans; rw [if_neg (fun q => q h), if_neg (by omega), if_pos h1]
theorem ans_watch (h : x.may) (h1 : x.kind = 3) : S.ans x = ⟨x.from_, x.id, x.kind, (S.log.from_ x.rev).2, S.rev, [], (S.log.from_ x.rev).1⟩ := by
 unfold Sto.ans; rw [if_neg (fun q => q h), if_neg (by omega), if_neg (by omega), if_pos h1]
theorem ans_txn (h : x.may) (h1 : x.kind = 4) : S.ans x = ⟨x.from_, x.id, x.kind, (S.txn x.gs x.ws).2.2, (S.txn x.gs x.ws).1.rev, [], []⟩ := by
 unfold Sto.ans; rw [if_neg (fun q => q h), if_neg (by omega), if_neg (by omega), if_neg (by omega)]
theorem aft_form (h : ¬ x.may) : S.aft x = S := if_pos h
theorem aft_txn (h : x.may) (h1 : x.kind = 4) : S.aft x = (S.txn x.gs x.ws).1 := by
 unfold Sto.aft; rw [if_neg (fun q => q h), if_pos h1]
theorem aft_read (h : x.may) (h1 : x.kind ≠ 4) : S.aft x = { S with reads := S.reads + 1 } := by
 unfold Sto.aft; rw [if_neg (fun q => q h), if_neg h1]
theorem ans_rev (h : x.may) : (S.ans x).rev = (S.aft x).rev := by
 have hk := ((may_flat x).1 h).2.1
 have : x.kind = 1 ∨ x.kind = 2 ∨ x.kind = 3 ∨ x.kind = 4 := by omega
 rcases this with e | e | e | e
 ·rw [aft_read h (by omega)]
  cases hf : findK x.key S.now with
  | none => rw [ans_none h e hf]
  | some q => rw [ans_get h e hf]
 ·rw [aft_read h (by omega), ans_list h e]
 ·rw [aft_read h (by omega), ans_watch h e]
 ·rw [aft_txn h e, ans_txn h e]
theorem Sto.Inv.aft {N : Nat} (h : S.Inv N) (x : Cal) : (S.aft x).Inv (N + 1) := by
 by_cases hm : x.may
 ·by_cases hk : x.kind = 4
  ·rw [aft_txn hm hk]; exact h.txn
  ·rw [aft_read hm hk]; exact h.read
 ·rw [aft_form hm]; exact h.up (by omega)
end
theorem ents_one {g : Gm} {e : SEnt} {j : Nat} {ro : Bool} {a : Option Addr} {p : Nat} (h : g j = some (.cells (entC e (.slice a e.val.length p)) 3 ro)) (hv : BytesAt g (.slice a e.val.length p) e.val) (hl : e.val.length ≤ 4000) : EntsRd g (.slice (some ⟨j, 0, none⟩) 1 1) [e] :=
 ⟨_, ⟨rfl, .inr (.inr ⟨j, 0, 1, rfl, Nat.le_refl _, .inr ⟨_, ro, h, Nat.le_refl _, rfl⟩⟩)⟩, Rows.one rfl ⟨a, p, rfl, hv, hl⟩⟩
theorem EvsRd.nil (g : Gm) : EvsRd g (.slice none 0 0) [] := ⟨[], SlC.nil _ _, rfl⟩

section
variable {g : Gm} {n b s m1 m2 l N : Nat} {sl : Value} {S : Sto}

theorem Kp.hi {F : Nat → AObj → Prop} {g g' g'' : Gm} {n n' q : Nat} (h : Kp F g n g') (k : Kp (FC q) g' n' g'') (hn : n ≤ n') (hq : n ≤ q) : Kp F g n g'' := fun x o hx ho hf =>
 k x o (by omega) (h x o hx ho hf) fun e => by have := e.1; omega
structure OfI (b s m1 m2 l q4 q5 n : Nat) (sl : Value) (S' : Sto) (A : Ans) (ev vv : Value) (g0 g' : Gm) (sl' : Value) : Prop where
 c4 : g' q4 = some (.cells (ansC ⟨0, 0, 0, 0, 0, [], []⟩ (.slice none 0 0) (.slice none 0 0)) 0 false)
 c5 : g' q5 = some (.cells (ansC { A with rev := 0 } ev vv) 0 false)
 en : EntsRd g' ev A.ents
 evs : EvsRd g' vv A.evs
 st : StAt b g' s m1 m2 l sl' S'
 mvd : Mvd n sl sl'
 kp : Kp (FS s m1 m2 l sl) g0 n g'

theorem of_c {x : Cal} {gv wv : Value} (hS : StAt b g s m1 m2 l sl S) (hi : S.Inv N) (hN : N ≤ 1000000) (hb : b ≤ n) (hx : CalAt g x gv wv) (hn : x.gs.length < 2 ^ 40 ∧ x.ws.length < 2 ^ 40) :
  C 41 #[.pointer (some ⟨s, 0, none⟩), .agg (calC x gv wv).toArray] g n fun u g' n' => ∃ sl' ev vv, u = .agg (ansC (S.ans x) ev vv).toArray ∧ EntsRd g' ev (S.ans x).ents ∧ EvsRd g' vv (S.ans x).evs ∧
   StAt b g' s m1 m2 l sl' (S.aft x) ∧ Mvd n sl sl' ∧ Kp (FS s m1 m2 l sl) g n g' := by
 obtain ⟨a1, c1, rfl⟩ := hx.gs.len
 obtain ⟨a2, c2, rfl⟩ := hx.ws.len
 refine c_in2 Tryz.func41 rfl Tryz.ntmps41 rfl fun hw => ?_
 have hal : s < n ∧ l < n := ⟨hw _ _ hS.cell, hw _ _ hS.log.cell⟩
 refine Na (w_reg 2 rfl rfl (j' := 2) (n_op .no (q := 0) rfl (s_boxa rfl (n_op .no (q := 1) rfl (s_al zl_67 (n_nil (Nc (Na (w_reg 9 rfl rfl (j' := 11) (nO (s_fa0 rfl fo_55_0 (nO (sL rfl ag_3 ?_)))))))))))))
 refine nO (s_fa0 rfl fo_55_1 (nO (sL rfl ag_2 ?_)))
 refine nO (s_fa0 rfl fo_55_2 (nO (sL rfl ag_3 ?_)))
 refine nO (s_bld pl_67 zl_67 rfl rfl rfl (n_op .no (q := 9) rfl (s_al zl_67 (nO (sSw rfl rfl sz_67 rfl rfl ?_)))))
 refine n_nil ?_
 repeat first | refine Na ?_ | refine Nb ?_ | refine Nc ?_ | refine Nd ?_ | refine Ne ?_
 refine w_gen fun g1 n1 hg1 hn1 hwg1 => ?_
 have k1 : K0 g n g1 := by rw [hg1]; exact (by repeat (first | exact Kp.refl _ _ _ | refine Kp.new ?_ (by omega) _))
 obtain ⟨q3, hq3⟩ : ∃ q, q = n + 0 := ⟨_, rfl⟩
 obtain ⟨q4, hq4⟩ : ∃ q, q = n + 1 := ⟨_, rfl⟩
 obtain ⟨q5, hq5⟩ : ∃ q, q = n + 9 := ⟨_, rfl⟩
 have b3 : g1 q3 = some (.cells (calC x (.slice a1 x.gs.length c1) (.slice a2 x.ws.length c2)) 0 false) := by rw [hg1, hq3]; exact (by repeat first | exact gS | refine gN (by omega) ?_)
 have b4 : g1 q4 = some (.cells (ansC ⟨0, 0, 0, 0, 0, [], []⟩ (.slice none 0 0) (.slice none 0 0)) 0 false) := by rw [hg1, hq4]; exact (by repeat first | exact gS | refine gN (by omega) ?_)
 have b5 : g1 q5 = some (.cells (ansC ⟨x.from_, x.id, x.kind, 0, 0, [], []⟩ (.slice none 0 0) (.slice none 0 0)) 0 false) := by rw [hg1, hq5]; exact gs_same _ _ _
 rw [← hq3, ← hq4, ← hq5]
 have hqs : n ≤ q3 ∧ q3 < q4 ∧ q4 < q5 ∧ q5 < n1 := by omega
 have hS1 := hS.kp0 k1 hw
 have hx1 := hx.kp0 k1 hw
 clear hg1 hq3 hq4 hq5
 repeat first | refine Na ?_ | refine Nb ?_ | refine Nc ?_ | refine Nd ?_ | refine Ne ?_
 refine w_reg 3 rfl rfl (j' := 3) (nO (sLf rfl ag_55 sz_55 ?_))
 refine n_call .no rfl rfl rfl (C.use (may_c hx1 hn) fun v g2 n2 hw2 hn2 hq => ?_)
 obtain ⟨⟨r, rfl, hr⟩, k2⟩ := hq
 have k2' := k2.dn (m := n1) (by omega)
 have k12 : K0 g n g2 := k1.trans0 k2' (by omega)
 have b32 := k2'.at0 hwg1 b3
 have b42 := k2'.at0 hwg1 b4
 have b52 := k2'.at0 hwg1 b5
 have hS2 := hS1.kp0 k2' hwg1
 have hx2 := hx1.kp0 k2' hwg1
 clear b3 b4 b5 hS1 hx1 k1 k2 k2'
 refine nO (s_not rfl (n_nil ?_))
 by_cases hm : x.may
 rotate_left
 ·have : r = false := by
   cases r with
   | false => rfl
   | true => exact absurd (hr.1 rfl) hm
  subst this
  refine Nc (w_yes rfl (rfl) (Na (w_reg 2 rfl rfl (j' := 2) (nO (s_fa0 rfl fo_67_3 (nO (sS rfl rfl sz_32 rfl rfl ?_)))))))
  refine n_nil (Nc (Na (w_reg 2 rfl rfl (j' := 4) (nO (sLf rfl ag_67 sz_67 ?_)))))
  refine nO (sSw rfl rfl sz_67 rfl rfl ?_)
  refine n_nil (Nc (Nf (z_rc rfl rfl (by repeat first | exact gS | refine gN (by omega) ?_) ag_67 sz_67 (by exact rfl) (by exact Nat.le_of_ble_eq_true rfl) ?_)))
  rw [ans_form hm, aft_form hm]
  have k5 : Kp (FC q5) g2 n2 (gset g2 q5 (.cells (ansC ⟨x.from_, x.id, x.kind, 1, 0, [], []⟩ (.slice none 0 0) (.slice none 0 0)) 0 false)) := Kp.set (Kp.refl _ _ _) (FC.of b52) _
  have hS5 := hS2.fc k5 hw2 (by omega) (by omega)
  refine ⟨sl, .slice none 0 0, .slice none 0 0, rfl, EntsRd.nil _, EvsRd.nil _, ?_, Mvd.refl _ _, (Kp.new (Kp.new k12 (by omega) _) (by omega) _).z⟩
  exact hS5.fc (x := q4) (n := n2) (Kp.set (Kp.refl _ _ _) (fun o ho => ⟨rfl, _, _, Option.some.inj (ho.symm.trans ((gs_ne (by omega) _).trans b42))⟩) _) (hw2.gs (by omega) (by omega) _) (by omega) (by omega)
 obtain rfl : r = true := hr.2 hm
 refine Nc (w_no rfl (rfl) ?_)
 have hkk := ((may_flat x).1 hm).2.1
 refine Ne (Nc (Na (Na (w_reg 2 rfl rfl (j' := 2) (nO (s_fa0 rfl fo_55_2 (nO (sL rfl ag_3 ?_))))))))
 refine n_nil ?_
 refine z_seq ?_
 refine z_meet (β := Unit) (fun _ => [(0, .pointer (some ⟨s, 0, none⟩)), (4, .pointer (some ⟨q4, 0, none⟩)), (5, .pointer (some ⟨q5, 0, none⟩))])
  (fun _ g' n' => n2 ≤ n' ∧ ∃ ev vv sl', OfI b s m1 m2 l q4 q5 n sl (S.aft x) (S.ans x) ev vv g g' sl') ?_ ?_
 ·repeat first | refine Na ?_ | refine Nb ?_ | refine Nc ?_ | refine Nd ?_ | refine Ne ?_
  refine w_reg 2 rfl rfl (j' := 4) (nO (s_bin rfl rfl rfl (nA rfl (n_nil ?_))))
  by_cases d1 : x.kind = 1
  ·refine Nc (w_yes rfl (beq_iff_eq.2 d1) (Na (w_reg 10 rfl rfl (j' := 14) (nM rfl (nO (s_fa0 rfl fo_55_3 (nO (sL rfl ag_9 ?_))))))))
   refine n_call .no rfl rfl rfl (C.useG (st_get_i (k := x.key) hS2 hi hN) fun v g7 n7 hw7 hn7 hx7 hq => ?_)
   obtain ⟨c7, e7, ok7, rfl, hE7, hf7, hS7, k7⟩ := hq
   obtain ⟨a7, p7, rfl, hB7, hl7⟩ := hE7
   have k7' := k7.dn (m := n2) (by omega)
   have b47 := k7'.at hw2 b42 (fun hf => by have := hf.1; omega)
   have b57 := k7'.at hw2 b52 (fun hf => by have := hf.1; omega)
   have kN : Kp (FS s m1 m2 l sl) g n g7 := (Kp.z k12).tr' (FC.fs k7') (by omega)
   have hS7' : StAt b g7 s m1 m2 l sl (S.aft x) := by rw [aft_read hm (by omega)]; exact hS7
   have z7 : g7 (n2 + 11) = none := hx7 _ (by omega) (hw2.none (by omega))
   refine nM rfl (nO (s_ext rfl rfl (nO (s_ext rfl rfl (n_op .no (q := 11) rfl (s_al zl_28 (nO (sSw rfl rfl sz_28 rfl rfl ?_))))))))
   refine nA rfl (n_nil (Nc (Na (w_reg 1 rfl rfl (j' := 1) (nM rfl (n_nil ?_))))))
   rcases hf7 with ⟨hf, rfl⟩ | ⟨hf, rfl, rfl⟩
   ·have hA := ans_get hm d1 hf
    refine Nc (w_yes rfl (rfl) (w_reg 4 rfl rfl (j' := 5) (nO (sLf rfl ag_28 sz_28 ?_))))
    refine n_op .no (q := 2) rfl (s_bs el_48 ez_48 rfl rfl rfl (nO (s_fa0 rfl fo_67_5 (nO (sS rfl rfl sz_48 rfl rfl ?_)))))
    refine n_nil ?_
    repeat first | refine Na ?_ | refine Nb ?_ | refine Nc ?_ | refine Nd ?_ | refine Ne ?_
    refine z_gen fun g8 hg8 => ?_
    have k8 : Kp (FC q5) g7 n7 g8 := by rw [hg8]; exact Kp.set (Kp.new (Kp.add (Kp.add (Kp.refl _ _ _) z7 _) z7 _) (by omega) _) (FC.of b57) _
    have c48 : g8 q4 = some (.cells (ansC ⟨0, 0, 0, 0, 0, [], []⟩ (.slice none 0 0) (.slice none 0 0)) 0 false) := by rw [hg8]; exact (by repeat first | exact gS | exact b47 | refine gN (by omega) ?_)
    have hr8 : g8 (n7 + 2) = some (.cells (entC e7 (.slice a7 e7.val.length p7)) 3 false) := by rw [hg8]; exact (by repeat first | exact gS | refine gN (by omega) ?_)
    refine z_met () ⟨rfl, rfl, rfl, trivial⟩ ⟨by omega, .slice (some ⟨n7 + 2, 0, none⟩) 1 1, .slice none 0 0, sl, ⟨c48, ?_, ?_, ?_, hS7'.fc k8 hw7 (by omega) (by omega), Mvd.refl _ _, kN.hi k8 (by omega) (by omega)⟩⟩
    ·rw [hA, hg8]; exact gs_same _ _ _
    ·rw [hA]; exact ents_one hr8 (hB7.at.kp k8 hw7 (FC.nob _)) hl7
    ·rw [hA]; exact EvsRd.nil _
   ·have hA := ans_none hm d1 hf
    refine Nc (w_no rfl (rfl) (w_reg 2 rfl rfl (j' := 3) (nO (s_fa0 rfl fo_67_3 (nO (sS rfl rfl sz_32 rfl rfl ?_))))))
    refine n_nil ?_
    repeat first | refine Na ?_ | refine Nb ?_ | refine Nc ?_ | refine Nd ?_ | refine Ne ?_
    refine z_gen fun g8 hg8 => ?_
    have k8 : Kp (FC q5) g7 n7 g8 := by rw [hg8]; exact Kp.set (Kp.add (Kp.add (Kp.refl _ _ _) z7 _) z7 _) (FC.of b57) _
    have c48 : g8 q4 = some (.cells (ansC ⟨0, 0, 0, 0, 0, [], []⟩ (.slice none 0 0) (.slice none 0 0)) 0 false) := by rw [hg8]; exact (by repeat first | exact gS | exact b47 | refine gN (by omega) ?_)
    refine z_met () ⟨rfl, rfl, rfl, trivial⟩ ⟨by omega, .slice none 0 0, .slice none 0 0, sl, ⟨c48, ?_, ?_, ?_, hS7'.fc k8 hw7 (by omega) (by omega), Mvd.refl _ _, kN.hi k8 (by omega) (by omega)⟩⟩
    ·rw [hA, hg8]; exact gs_same _ _ _
    ·rw [hA]; exact EntsRd.nil _
    ·rw [hA]; exact EvsRd.nil _
  refine Nc (w_no rfl (beq_eq_false_iff_ne.2 d1) (Na (w_reg 2 rfl rfl (j' := 6) (nO (s_bin rfl rfl rfl (nA rfl (n_nil ?_)))))))
  by_cases d2 : x.kind = 2
  ·have hA := ans_list (S := S) hm d2
   refine Nc (w_yes rfl (beq_iff_eq.2 d2) (w_reg 4 rfl rfl (j' := 10) (nM rfl (n_call .no rfl rfl rfl (C.use (st_list_i hS2 hi hN) fun v g7 n7 hw7 hn7 hq => ?_)))))
   obtain ⟨hE7, hS7, k7⟩ := hq
   have k7' := k7.dn (m := n2) (by omega)
   have b47 := k7'.at hw2 b42 (fun hf => by have := hf.1; omega)
   have b57 := k7'.at hw2 b52 (fun hf => by have := hf.1; omega)
   have kN : Kp (FS s m1 m2 l sl) g n g7 := (Kp.z k12).tr' (FC.fs k7') (by omega)
   have hS7' : StAt b g7 s m1 m2 l sl (S.aft x) := by rw [aft_read hm (by omega)]; exact hS7
   obtain ⟨a7, p7, rfl⟩ := hE7.len
   refine nO (s_fa0 rfl fo_67_5 (nO (sS rfl rfl sz_48 rfl rfl ?_)))
   refine n_nil ?_
   repeat first | refine Na ?_ | refine Nb ?_ | refine Nc ?_ | refine Nd ?_ | refine Ne ?_
   refine z_gen fun g8 hg8 => ?_
   have k8 : Kp (FC q5) g7 n7 g8 := by rw [hg8]; exact Kp.set (by repeat (first | exact Kp.refl _ _ _ | refine Kp.new ?_ (by omega) _)) (FC.of b57) _
   have c48 : g8 q4 = some (.cells (ansC ⟨0, 0, 0, 0, 0, [], []⟩ (.slice none 0 0) (.slice none 0 0)) 0 false) := by rw [hg8]; exact (by repeat first | exact gS | exact b47 | refine gN (by omega) ?_)
   refine z_met () ⟨rfl, rfl, rfl, trivial⟩ ⟨by omega, .slice a7 S.list.length p7, .slice none 0 0, sl, ⟨c48, ?_, ?_, ?_, hS7'.fc k8 hw7 (by omega) (by omega), Mvd.refl _ _, kN.hi k8 (by omega) (by omega)⟩⟩
   ·rw [hA, hg8]; exact gs_same _ _ _
   ·rw [hA]; exact hE7.rd.kk k8 hw7 (FC.no3 _) (FC.nob _)
   ·rw [hA]; exact EvsRd.nil _
  refine Nc (w_no rfl (beq_eq_false_iff_ne.2 d2) (Na (w_reg 2 rfl rfl (j' := 8) (nO (s_bin rfl rfl rfl (nA rfl (n_nil ?_)))))))
  by_cases d3 : x.kind = 3
  ·have hA := ans_watch (S := S) hm d3
   refine Nc (w_yes rfl (beq_iff_eq.2 d3) (w_reg 11 rfl rfl (j' := 19) (nM rfl (nO (s_fa0 rfl fo_55_4 (nO (sL rfl ag_2 ?_)))))))
   refine n_call .no rfl rfl rfl (C.use (st_watch_i (rev := x.rev) hS2 hi hN) fun v g7 n7 hw7 hn7 hq => ?_)
   obtain ⟨v7, rfl, hE7, hS7, k7⟩ := hq
   have k7' := k7.dn (m := n2) (by omega)
   have b47 := k7'.at hw2 b42 (fun hf => by have := hf.1; omega)
   have b57 := k7'.at hw2 b52 (fun hf => by have := hf.1; omega)
   have kN : Kp (FS s m1 m2 l sl) g n g7 := (Kp.z k12).tr' (FC.fs k7') (by omega)
   have hS7' : StAt b g7 s m1 m2 l sl (S.aft x) := by rw [aft_read hm (by omega)]; exact hS7
   obtain ⟨a7, p7, rfl⟩ := hE7.rd.len
   refine nM rfl (nO (s_ext rfl rfl (nO (s_ext rfl rfl (nO (s_fa0 rfl fo_67_6 (nO (sS rfl rfl sz_65 rfl rfl ?_))))))))
   refine nO (s_fa0 rfl fo_67_3 (nO (sS rfl rfl sz_32 rfl rfl ?_)))
   refine n_nil ?_
   repeat first | refine Na ?_ | refine Nb ?_ | refine Nc ?_ | refine Nd ?_ | refine Ne ?_
   refine z_gen fun g8 hg8 => ?_
   have k8 : Kp (FC q5) g7 n7 g8 := by rw [hg8]; exact Kp.set (Kp.set (Kp.refl _ _ _) (FC.of b57) _) (FC.of b57) _
   have c48 : g8 q4 = some (.cells (ansC ⟨0, 0, 0, 0, 0, [], []⟩ (.slice none 0 0) (.slice none 0 0)) 0 false) := by rw [hg8]; exact (by repeat first | exact gS | exact b47 | refine gN (by omega) ?_)
   refine z_met () ⟨rfl, rfl, rfl, trivial⟩ ⟨by omega, .slice none 0 0, .slice a7 (S.log.from_ x.rev).1.length p7, sl, ⟨c48, ?_, ?_, ?_, hS7'.fc k8 hw7 (by omega) (by omega), Mvd.refl _ _, kN.hi k8 (by omega) (by omega)⟩⟩
   ·rw [hA, hg8]; exact gs_same _ _ _
   ·rw [hA]; exact EntsRd.nil _
   ·rw [hA]; exact hE7.rd.kv k8 hw7 (FC.nob _) (fun x c ro _ hf => by obtain ⟨_, c', q, e⟩ := hf; cases e)
  have d4 : x.kind = 4 := by omega
  have hA := ans_txn (S := S) hm d4
  refine Nc (w_no rfl (beq_eq_false_iff_ne.2 d3) (Na (w_reg 2 rfl rfl (j' := 10) (nO (s_bin rfl rfl rfl (nA rfl (n_nil (Nc (w_yes rfl (beq_iff_eq.2 d4) (w_reg 9 rfl rfl (j' := 19) (nM rfl (nO (s_fa0 rfl fo_55_5 (nO (sLf rfl ag_42 sz_42 ?_)))))))))))))))
  refine n_call .no rfl rfl rfl (C.use (st_txn_i hS2 hi hN (by omega) hx2.gs hx2.ws) fun v g7 n7 hw7 hn7 hq => ?_)
  obtain ⟨sl7, rfl, hS7, hM7, k7⟩ := hq
  have k7' := k7.dn (m := n2) (by omega)
  have b47 := k7'.at hw2 b42 (FS.no0 (by omega) (by omega))
  have b57 := k7'.at hw2 b52 (FS.no0 (by omega) (by omega))
  have kN : Kp (FS s m1 m2 l sl) g n g7 := (Kp.z k12).tr' k7' (by omega)
  have hS7' : StAt b g7 s m1 m2 l sl7 (S.aft x) := by rw [aft_txn hm d4]; exact hS7
  have hM : Mvd n sl sl7 := by
   rcases hM7 with e | e
   ·exact .inl e
   ·exact .inr fun x hx => by have := e x hx; omega
  refine nM rfl (nO (s_ext rfl rfl (nO (s_ext rfl rfl (nO (s_fa0 rfl fo_67_3 (nO (sS rfl rfl sz_32 rfl rfl ?_))))))))
  refine n_nil ?_
  repeat first | refine Na ?_ | refine Nb ?_ | refine Nc ?_ | refine Nd ?_ | refine Ne ?_
  refine z_gen fun g8 hg8 => ?_
  have k8 : Kp (FC q5) g7 n7 g8 := by rw [hg8]; exact Kp.set (by repeat (first | exact Kp.refl _ _ _ | refine Kp.new ?_ (by omega) _)) (FC.of b57) _
  have c48 : g8 q4 = some (.cells (ansC ⟨0, 0, 0, 0, 0, [], []⟩ (.slice none 0 0) (.slice none 0 0)) 0 false) := by rw [hg8]; exact (by repeat first | exact gS | exact b47 | refine gN (by omega) ?_)
  refine z_met () ⟨rfl, rfl, rfl, trivial⟩ ⟨by omega, .slice none 0 0, .slice none 0 0, sl7, ⟨c48, ?_, ?_, ?_, hS7'.fc k8 hw7 (by omega) (by omega), hM, kN.hi k8 (by omega) (by omega)⟩⟩
  ·rw [hA, hg8]; exact gs_same _ _ _
  ·rw [hA]; exact EntsRd.nil _
  ·rw [hA]; exact EvsRd.nil _
 rintro _ f g9 n9 hw9 ⟨hn9, ev, vv, sl', H⟩
 obtain ⟨c4, c5, hE, hV, hS9, hM9, kN⟩ := H
 obtain ⟨ae, ce, rfl⟩ := hE.len
 obtain ⟨av, cv, rfl⟩ := hV.len
 repeat first | refine Na ?_ | refine Nb ?_ | refine Nc ?_ | refine Nd ?_ | refine Ne ?_
 refine w_reg 4 rfl rfl (j' := 4) (nM rfl (n_call .no rfl rfl rfl (C.use (st_rev hS9) fun v g10 n10 hw10 hn10 hq => ?_)))
 obtain ⟨rfl, k10⟩ := hq
 have k10' := k10.dn (m := n9) (by omega)
 have c410 := k10'.at0 hw9 c4
 have c510 := k10'.at0 hw9 c5
 have hS10 := hS9.kp0 k10' hw9
 have hE10 := hE.kp0 k10' hw9
 have hV10 := hV.kp0 k10' hw9
 refine nO (s_fa0 rfl fo_67_4 (nO (sS rfl rfl sz_2 rfl rfl ?_)))
 refine n_nil ?_
 repeat first | refine Na ?_ | refine Nb ?_ | refine Nc ?_ | refine Nd ?_ | refine Ne ?_
 refine w_gen fun g11 n11 hg11 hn11 hwg11 => ?_
 have k11 : Kp (FC q5) g10 n10 g11 := by rw [hg11]; exact Kp.set (Kp.refl _ _ _) (FC.of c510) _
 have c511 : g11 q5 = some (.cells (ansC (S.ans x) (.slice ae (S.ans x).ents.length ce) (.slice av (S.ans x).evs.length cv)) 0 false) := by
  rw [hg11]
  refine (gs_same _ _ _).trans ?_
  show some (AObj.cells (ansC { S.ans x with rev := (S.aft x).rev } _ _) 0 false) = _
  rw [← ans_rev hm]
 have c411 : g11 q4 = some (.cells (ansC ⟨0, 0, 0, 0, 0, [], []⟩ (.slice none 0 0) (.slice none 0 0)) 0 false) := by rw [hg11]; exact (by repeat first | exact gS | exact c410 | refine gN (by omega) ?_)
 have hS11 := hS10.fc k11 hw10 (by omega) (by omega)
 clear hg11
 repeat first | refine Na ?_ | refine Nb ?_ | refine Nc ?_ | refine Nd ?_ | refine Ne ?_
 refine w_reg 2 rfl rfl (j' := 2) (nO (sLf rfl ag_67 sz_67 ?_))
 refine nO (sSw rfl rfl sz_67 rfl rfl ?_)
 refine n_nil (Nc (Nf (z_rc rfl rfl (by repeat first | exact gS | refine gN (by omega) ?_) ag_67 sz_67 (by exact rfl) (by exact Nat.le_of_ble_eq_true rfl) ?_)))
 have k12 : ∀ o, Kp (FC q4) g11 n11 (gset g11 q4 o) := fun o => Kp.set (Kp.refl _ _ _) (FC.of c411) _
 exact ⟨sl', .slice ae (S.ans x).ents.length ce, .slice av (S.ans x).evs.length cv, rfl, (hE10.kk k11 hw10 (FC.no3 _) (FC.nob _)).kk (k12 _) hwg11 (FC.no3 _) (FC.nob _),
  (hV10.kv k11 hw10 (FC.nob _) (fun x c ro _ hf => by obtain ⟨_, c', q, e⟩ := hf; cases e)).kv (k12 _) hwg11 (FC.nob _) (fun x c ro _ hf => by obtain ⟨_, c', q, e⟩ := hf; cases e),
  hS11.fc (k12 _) hwg11 (by omega) (by omega), hM9, ((kN.trans0 k10' (by omega)).hi k11 (by omega) (by omega)).hi (k12 _) (by omega) (by omega)⟩
end

end Go.Proofs.YtehmailaabjdjaaGreat
