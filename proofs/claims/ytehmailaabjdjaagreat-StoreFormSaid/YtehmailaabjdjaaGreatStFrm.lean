/-
  StoreForm answers true. No condition but that begun does.
-/
import Derived.Test.YtehmailaabjdjaaGreatRsX
import Derived.Test.YtehmailaabjdjaaGreatWkH
open Go.Proofs
namespace Go.Proofs.YtehmailaabjdjaaGreat
set_option linter.unusedSimpArgs false
set_option linter.unusedVariables false
set_option maxRecDepth 100000

theorem app37f : AppT E6.P 37 37 3 32 := ⟨36, _, un_37, sz_36, by_36, zp_36, rfl, by decide, by decide, by rw [un_37]; rfl⟩
theorem txn_code (S : Sto) (gs : List Gd) (ws : List Wr) : (S.txn gs ws).2.2 = S.can gs ws := by
 by_cases h : S.can gs ws = 0
 ·unfold Sto.txn
  rw [if_pos h]
  exact h.symm
 ·rw [Sto.txn_no h]
theorem form_can {x : Int} (gs : List Gd) (ws : List Wr) : ({ Sto.new with writes := x } : Sto).can gs ws = Sto.new.can gs ws := rfl
theorem not_may_key {gs : List Gd} {w : Wr} (h : ¬ w.ok) : ¬ txnMay gs [w] := fun q => h (q.2.2.2.2.1 _ (List.mem_singleton.2 rfl))

def FRw (r : Nat) (x : Nat) (o : AObj) : Prop := x = r ∧ ∃ c ro, o = .cells c 3 ro
theorem FRw.nob (r : Nat) : NoB (FRw r) := fun x cl ro h => by obtain ⟨_, c, q, e⟩ := h; cases e

theorem storeForm_c (hB : BegunOk) {g : Gm} {n : Nat} {gv wv : Value} {y z : Int} {gs : List Gd} {ws : List Wr} (hg : GdsRd g gv gs) (hv : WrsRd g wv ws) : C 10 #[.agg [gv, wv].toArray, .int .i64 y, .int .i64 z] g n fun u g' n' => u = .bool true := by
 obtain ⟨a1, c1, rfl⟩ := hg.len
 obtain ⟨a2, c2, rfl⟩ := hv.len
 refine c_in3 Tryz.func10 rfl Tryz.ntmps10 rfl fun hw => (Na (w_reg 2 rfl rfl (j' := 2) (n_op .no (q := 0) rfl (s_boxa rfl (nA rfl (n_nil (Nc (Na (w_reg 2 rfl rfl (j' := 4) (n_call .no rfl rfl rfl (C.use (hB _ _) fun v g1 n1 hw1 hn1 hq => ?_)))))))))))
 obtain ⟨rfl, rfl⟩ := hq
 refine nA rfl (n_nil (Nc (Na (Na (w_reg 2 rfl rfl (j' := 2) (nM rfl (nO (s_not rfl (n_nil (Nc (w_no rfl (rfl) ?_)))))))))))
 repeat first | refine Na ?_ | refine Nb ?_ | refine Nc ?_ | refine Nd ?_ | refine Ne ?_
 refine w_gen fun g1 n1 hg1 hn1 hwg1 => ?_
 have hg1' : K0 g n g1 := by rw [hg1]; exact (by repeat (first | exact Kp.refl _ _ _ | refine Kp.new ?_ (by omega) _))
 have hGa : GdsRd g1 (.slice a1 gs.length c1) gs := hg.kp0 hg1' hw
 have hWa : WrsRd g1 (.slice a2 ws.length c2) ws := hv.kp0 hg1' hw
 obtain ⟨qt, hqt⟩ : ∃ q, q = n + 0 := ⟨_, rfl⟩
 have ht1 : g1 qt = some (.cells [.slice a1 gs.length c1, .slice a2 ws.length c2] 0 false) := by rw [hg1, hqt]; exact gs_same _ _ _
 rw [← hqt]
 clear hg1' hg1
 repeat first | refine Na ?_ | refine Nb ?_ | refine Nc ?_ | refine Nd ?_ | refine Ne ?_
 refine w_reg 2 rfl rfl (j' := 2) (n_call .no rfl rfl rfl (C.use (st_newB _ _) fun v g2 n2 hw2 hn2 hq => ?_))
 obtain ⟨s, m1, m2, l, rfl, hS2, hb2, k2⟩ := hq
 refine nA rfl (n_nil ?_)
 have k2' := k2.dn (m := n1) (by omega)
 have t1 := tmod_lt (a := z) (b := 30) (by omega)
 have t2 := tmod_nn (a := z.tmod 30 + 30) (b := 30) (by omega) (by omega)
 have t3 := tmod_lt (a := z.tmod 30 + 30) (b := 30) (by omega)
 obtain ⟨m, hm⟩ : ∃ m : Nat, 1 + (z.tmod 30 + 30).tmod 30 = (m : Int) := ⟨(1 + (z.tmod 30 + 30).tmod 30).toNat, by omega⟩
 have hm1 : 1 ≤ m ∧ m ≤ 30 := by omega
 refine Nc (Na (w_reg 6 rfl rfl (j' := 6) (nM rfl (nO (s_bin rfl rfl (r := .int .i64 (z.tmod 30)) (bi_rem (by omega) (by first | rfl | assumption | omega)) (nO (s_bin rfl rfl (r := .int .i64 (z.tmod 30 + 30)) (by first | exact bi_add (by omega) (by omega) (by omega) | exact bi_add rfl (by omega) (by omega)) ?_)))))))
 refine nO (s_bin rfl rfl (r := .int .i64 ((z.tmod 30 + 30).tmod 30)) (bi_rem (by omega) (by first | rfl | assumption | omega)) (nO (s_bin rfl rfl (r := .int .i64 ((m : Int))) (by first | exact bi_add (by omega) (by omega) (by omega) | exact bi_add rfl (by omega) (by omega)) ?_)))
 refine nA rfl (n_nil (Nc (Na (w_reg 5 rfl rfl (j' := 11) (nM rfl (nO (s_bin rfl rfl (r := .int .i64 (((20 + m : Nat) : Int))) (by first | exact bi_add (by omega) (by omega) (by omega) | exact bi_add rfl (by omega) (by omega)) ?_)))))))
 refine n_op .no (q := 8) rfl (s_msB un_26 sz_5 by_5 zp_5 rfl rfl (by omega) ?_)
 obtain ⟨b0, hb0, hl0⟩ : ∃ bs : List UInt8, bs = List.replicate (20 + m) 0 ∧ bs.length = 20 + m := ⟨_, rfl, List.length_replicate⟩
 rw [← hb0, ← hl0]
 refine n_op .no (q := 9) rfl (s_b2s un_26 un_9 un_5 rfl (BytesNew.at (bytes_row (b := 0) (bs := b0) (gs_same _ _ _) rfl (by omega))) fun tc => (nA rfl (n_nil (Nc (Na (w_reg 7 rfl rfl (j' := 18) (n_op .no (q := 11) rfl (s_bs el_26 ez_26 rfl rfl rfl (n_op .no (q := 12) rfl (s_mark' un_26 un_5 rfl (gs_same _ _ _) (nO (s_bld pl_39 zl_39 rfl rfl rfl (n_op .no (q := 14) rfl (s_bs el_40 ez_40 rfl rfl rfl (nO (s_bld pl_42 zl_42 rfl rfl rfl (n_op .no (q := 16) rfl (s_al zl_42 (nO (sSw rfl rfl sz_42 rfl rfl ?_))))))))))))))))))))
 refine n_nil ?_
 repeat first | refine Na ?_ | refine Nb ?_ | refine Nc ?_ | refine Nd ?_ | refine Ne ?_
 refine w_gen fun g7 n7 hg7 hn7 hwg7 => ?_
 obtain ⟨q, hqq⟩ : ∃ q, q = n2 + 16 := ⟨_, rfl⟩
 obtain ⟨rw', hrr⟩ : ∃ q, q = n2 + 14 := ⟨_, rfl⟩
 obtain ⟨bx, hbb⟩ : ∃ q, q = n2 + 11 := ⟨_, rfl⟩
 have k7 : K0 g2 n2 g7 := by rw [hg7]; exact (by repeat (first | exact Kp.refl _ _ _ | refine Kp.new ?_ (by omega) _))
 have hbx : g7 bx = some (.cells (u8c [120]) 1 false) := by rw [hg7, hbb]; exact (by repeat first | exact gS | refine gN (by omega) ?_)
 have hrw : g7 rw' = some (.cells (wrC ⟨[97], [120], false⟩ (.slice (some ⟨bx, 0, none⟩) 1 1)) 3 false) := by rw [hg7, hrr, hbb]; exact (by repeat first | exact gS | refine gN (by omega) ?_)
 have hq7 : g7 q = some (.cells [.slice none 0 0, .slice (some ⟨rw', 0, none⟩) 1 1] 0 false) := by rw [hg7, hqq, hrr]; exact gs_same _ _ _
 rw [← hqq]
 have hlt7 : n2 ≤ bx ∧ n2 ≤ rw' ∧ n2 ≤ q ∧ rw' < n7 ∧ q < n7 ∧ rw' < q ∧ bx < rw' := by omega
 have hB7 : BytesAt g7 (.slice (some ⟨bx, 0, none⟩) 1 1) [120] := (bytes_row (b := 0) (bs := [120]) hbx rfl (Nat.zero_le _)).at
 have hW7 : WrsRd g7 (.slice (some ⟨rw', 0, none⟩) 1 1) [⟨[97], [120], false⟩] := wrs_one (x := ⟨[97], [120], false⟩) hrw hB7
 have kR : ∀ c, Kp (FRw rw') g7 n7 (gset g7 rw' (.cells c 3 false)) := fun c => Kp.set (Kp.refl _ _ _) (fun o ho => ⟨rfl, _, _, Option.some.inj (ho.symm.trans hrw)⟩) _
 clear hg7
 have u1 := tmod_lt (a := y) (b := 8) (by omega)
 have u2 := tmod_nn (a := y.tmod 8 + 8) (b := 8) (by omega) (by omega)
 have u3 := tmod_lt (a := y.tmod 8 + 8) (b := 8) (by omega)
 repeat first | refine Na ?_ | refine Nb ?_ | refine Nc ?_ | refine Nd ?_ | refine Ne ?_
 refine w_reg 4 rfl rfl (j' := 4) (nM rfl (nO (s_bin rfl rfl (r := .int .i64 (y.tmod 8)) (bi_rem (by omega) (by first | rfl | assumption | omega)) (nO (s_bin rfl rfl (r := .int .i64 (y.tmod 8 + 8)) (by first | exact bi_add (by omega) (by omega) (by omega) | exact bi_add rfl (by omega) (by omega)) ?_)))))
 refine nO (s_bin rfl rfl (r := .int .i64 ((y.tmod 8 + 8).tmod 8)) (bi_rem (by omega) (by first | rfl | assumption | omega)) (n_nil ?_))
 generalize (y.tmod 8 + 8).tmod 8 = zz at *
 refine z_seq ?_
 refine z_meet (β := (Value × Value) × List Gd × List Wr) (fun x => [(3, .pointer (some ⟨qt, 0, none⟩)), (8, .pointer (some ⟨s, 0, none⟩)), (10, .pointer (some ⟨q, 0, none⟩))])
  (fun x g' n' => n7 ≤ n' ∧ K0 g2 n2 g' ∧ g' q = some (.cells [x.1.1, x.1.2] 0 false) ∧ GdsRd g' x.1.1 x.2.1 ∧ WrsRd g' x.1.2 x.2.2 ∧ ¬ txnMay x.2.1 x.2.2) ?_ ?_
 ·repeat first | refine Na ?_ | refine Nb ?_ | refine Nc ?_ | refine Nd ?_ | refine Ne ?_
  refine w_reg 2 rfl rfl (j' := 6) (nO (s_bin rfl rfl rfl (nA rfl (n_nil ?_))))
  by_cases h0 : zz = 0
  ·refine Nc (w_yes rfl (beq_iff_eq.2 h0) (w_reg 2 rfl rfl (j' := 8) (nO (s_fa0 rfl fo_42_1 (nO (sS rfl rfl sz_40 rfl rfl ?_))))))
   refine n_nil ?_
   repeat first | refine Na ?_ | refine Nb ?_ | refine Nc ?_ | refine Nd ?_ | refine Ne ?_
   exact z_met ((.slice none 0 0, .slice none 0 0), [], []) ⟨rfl, rfl, rfl, trivial⟩ ⟨by omega, Kp.new k7 (by omega) _, gs_same _ _ _, GdsRd.nil _, ⟨[], SlC.nil _ _, rfl⟩, fun h => absurd h.2.1 (by simp)⟩
  refine Nc (w_no rfl (beq_eq_false_iff_ne.2 h0) (Na (w_reg 2 rfl rfl (j' := 8) (nO (s_bin rfl rfl rfl (nA rfl (n_nil ?_)))))))
  by_cases h1 : zz = 1
  ·refine Nc (w_yes rfl (beq_iff_eq.2 h1) (w_reg 7 rfl rfl (j' := 15) (nO (s_fa0 rfl fo_42_1 (nO (sL rfl ag_40 ?_))))))
   refine nO (s_bld pl_39 zl_39 rfl rfl rfl (n_op .no (q := 11) rfl (s_bs el_40 ez_40 rfl rfl rfl (n_op .no (q := 12) rfl (s_app app40' rfl rfl (own_row (by repeat first | exact gS | exact hrw | refine gN (by omega) ?_) rfl) (src_one (gs_same _ _ _) rfl) rfl (by omega) fun a5 c5 g5 tc5 wr5 hrow hgr => ?_)))))
   have hq5 : g5 q = some (.cells [.slice none 0 0, .slice (some ⟨rw', 0, none⟩) 1 1] 0 false) := (hgr.same _ (by omega) (fun e => by simp only [vname, Option.some.injEq] at e; omega)).trans (by repeat first | exact gS | exact hq7 | refine gN (by omega) ?_)
   have hb5 : g5 bx = some (.cells (u8c [120]) 1 false) := (hgr.same _ (by omega) (fun e => by simp only [vname, Option.some.injEq] at e; omega)).trans (by repeat first | exact gS | exact hbx | refine gN (by omega) ?_)
   have k5 : K0 g2 n2 g5 := hgr.kp (Kp.new k7 (by omega) _) (by omega) fun x hx => .inl (by simp only [vname, Option.some.injEq] at hx; omega)
   have hW5 : WrsRd g5 (.slice a5 2 c5) [⟨[97], [120], false⟩, ⟨[97], [], false⟩] := ⟨_, hrow.slc, Rows.append (Rows.one rfl ⟨_, _, rfl, ⟨rfl, .inr (.inr ⟨bx, 0, 1, rfl, Nat.le_refl _, .inr ⟨_, _, hb5, Nat.le_refl _, rfl⟩⟩)⟩⟩) (Rows.one rfl ⟨none, 0, rfl, SlC.nil _ _⟩)⟩
   refine nO (s_fa0 rfl fo_42_1 (nO (sS rfl rfl sz_40 rfl rfl ?_)))
   refine n_nil ?_
   repeat first | refine Na ?_ | refine Nb ?_ | refine Nc ?_ | refine Nd ?_ | refine Ne ?_
   refine z_gen fun g6 hg6 => ?_
   have hw5 : WF g5 (n7 + 12 + 1) := hgr.wf (hwg7.gs (x := n7 + 11) (n' := n7 + 12) (by omega) (by omega) _) (by omega) (fun x hx => by simp only [vname, Option.some.injEq] at hx; omega)
   have kF : Kp (FC q) g5 (n7 + 12 + 1) g6 := by rw [hg6]; exact Kp.set (Kp.refl _ _ _) (FC.of hq5) _
   refine z_met ((.slice none 0 0, .slice a5 2 c5), [], [⟨[97], [120], false⟩, ⟨[97], [], false⟩]) ⟨rfl, rfl, rfl, trivial⟩ ⟨by omega, by rw [hg6]; exact Kp.new k5 (by omega) _, by rw [hg6]; exact gs_same _ _ _, GdsRd.nil _, hW5.kk kF hw5 (FC.no3 _) (FC.nob _), fun h => absurd h.2.2.2.2.2 (by simp)⟩
  refine Nc (w_no rfl (beq_eq_false_iff_ne.2 h1) (Na (w_reg 2 rfl rfl (j' := 10) (nO (s_bin rfl rfl rfl (nA rfl (n_nil ?_)))))))
  by_cases h2 : zz = 2
  ·refine Nc (w_yes rfl (beq_iff_eq.2 h2) (w_reg 5 rfl rfl (j' := 15) (nO (s_fa0 rfl fo_42_1 (nO (sL rfl ag_40 ?_))))))
   refine nO (s_ia0 rfl rfl el_40 (by first | assumption | omega) (nO (s_fa rfl fo_39_0 (nO (sS rfl rfl sz_9 rfl rfl ?_)))))
   refine n_nil ?_
   repeat first | refine Na ?_ | refine Nb ?_ | refine Nc ?_ | refine Nd ?_ | refine Ne ?_
   exact z_met ((.slice none 0 0, .slice (some ⟨rw', 0, none⟩) 1 1), [], [⟨[], [120], false⟩]) ⟨rfl, rfl, rfl, trivial⟩ ⟨by omega, Kp.new k7 (by omega) _, (by repeat first | exact gS | exact hq7 | refine gN (by omega) ?_), GdsRd.nil _, wrs_one (x := ⟨[], [120], false⟩) (gs_same _ _ _) (hB7.kp (kR _) hwg7 (FRw.nob _)), not_may_key fun h => absurd h.1.1 (by simp)⟩
  refine Nc (w_no rfl (beq_eq_false_iff_ne.2 h2) (Na (w_reg 2 rfl rfl (j' := 12) (nO (s_bin rfl rfl rfl (nA rfl (n_nil ?_)))))))
  by_cases h3 : zz = 3
  ·refine Nc (w_yes rfl (beq_iff_eq.2 h3) (w_reg 6 rfl rfl (j' := 18) (nO (s_fa0 rfl fo_42_1 (nO (sL rfl ag_40 ?_))))))
   refine nM rfl (nO (s_ia0 rfl rfl el_40 (by first | assumption | omega) (nO (s_fa rfl fo_39_0 (nO (sS rfl rfl sz_9 rfl rfl ?_))))))
   refine n_nil ?_
   repeat first | refine Na ?_ | refine Nb ?_ | refine Nc ?_ | refine Nd ?_ | refine Ne ?_
   exact z_met ((.slice none 0 0, .slice (some ⟨rw', 0, none⟩) 1 1), [], [⟨b0, [120], false⟩]) ⟨rfl, rfl, rfl, trivial⟩ ⟨by omega, Kp.new k7 (by omega) _, (by repeat first | exact gS | exact hq7 | refine gN (by omega) ?_), GdsRd.nil _, wrs_one (x := ⟨b0, [120], false⟩) (gs_same _ _ _) (hB7.kp (kR _) hwg7 (FRw.nob _)), not_may_key fun h => absurd h.1.2 (by show ¬ b0.length ≤ 20; omega)⟩
  refine Nc (w_no rfl (beq_eq_false_iff_ne.2 h3) (Na (w_reg 2 rfl rfl (j' := 14) (nO (s_bin rfl rfl rfl (nA rfl (n_nil ?_)))))))
  by_cases h4 : zz = 4
  ·refine Nc (w_yes rfl (beq_iff_eq.2 h4) (w_reg 5 rfl rfl (j' := 19) (nO (s_fa0 rfl fo_42_1 (nO (sL rfl ag_40 ?_))))))
   refine nO (s_ia0 rfl rfl el_40 (by first | assumption | omega) (nO (s_fa rfl fo_39_2 (nO (sS rfl rfl sz_4 rfl rfl ?_)))))
   refine n_nil ?_
   repeat first | refine Na ?_ | refine Nb ?_ | refine Nc ?_ | refine Nd ?_ | refine Ne ?_
   exact z_met ((.slice none 0 0, .slice (some ⟨rw', 0, none⟩) 1 1), [], [⟨[97], [120], true⟩]) ⟨rfl, rfl, rfl, trivial⟩ ⟨by omega, Kp.new k7 (by omega) _, (by repeat first | exact gS | exact hq7 | refine gN (by omega) ?_), GdsRd.nil _, wrs_one (x := ⟨[97], [120], true⟩) (gs_same _ _ _) (hB7.kp (kR _) hwg7 (FRw.nob _)), not_may_key fun h => h.2.1 ⟨rfl, by simp⟩⟩
  refine Nc (w_no rfl (beq_eq_false_iff_ne.2 h4) (Na (w_reg 2 rfl rfl (j' := 16) (nO (s_bin rfl rfl rfl (nA rfl (n_nil ?_)))))))
  by_cases h5 : zz = 5
  ·obtain ⟨bs, hbs, hbl⟩ : ∃ bs : List UInt8, bs = List.replicate (4000 + m) 0 ∧ bs.length = 4000 + m := ⟨_, rfl, List.length_replicate⟩
   refine Nc (w_yes rfl (beq_iff_eq.2 h5) (w_drw (T6 10 24) [(0, []), (1, []), (2, [1]), (3, [1]), (4, [1]), (5, []), (6, []), (7, [])] 8 (by kernel_rfl) rfl rfl (j' := 24) (dO rfl rfl (s_fa0 rfl fo_42_1 ⟨⟨rfl, rfl⟩, (dT rfl rfl rfl (sL rfl ag_40 ⟨clash_nil, ?_⟩))⟩))))
   refine dM rfl rfl (dO rfl rfl (s_bin rfl rfl (r := .int .i64 (((4000 + m : Nat) : Int))) (by first | exact bi_add (by omega) (by omega) (by omega) | exact bi_add rfl (by omega) (by omega)) ⟨⟨rfl, rfl⟩, ?_⟩))
   refine d_tc rfl rfl rfl .no (q := 20) rfl (s_msB un_26 sz_5 by_5 zp_5 rfl rfl (by omega) ⟨?_, ?_⟩)
   ·simp only [clashS, memN, cases2, neAll, ne1, if_true, if_false, Nat.reduceEqDiff, reduceIte, and_true, true_and]; omega
   rw [← hbs, ← hbl]
   refine dO rfl rfl (s_ia0 rfl rfl el_40 (by first | assumption | omega) ⟨⟨rfl, rfl⟩, (dO rfl rfl (s_fa rfl fo_39_1 ⟨⟨rfl, rfl⟩, (dT rfl rfl rfl (sS rfl rfl sz_26 rfl rfl ⟨clash_nil, ?_⟩))⟩))⟩)
   refine d_nil ?_
   repeat first | refine Na ?_ | refine Nb ?_ | refine Nc ?_ | refine Nd ?_ | refine Ne ?_
   refine z_gen fun g6 hg6 => ?_
   have hb6 : g6 (n7 + 20) = some (.cells (u8c bs) 1 false) := by rw [hg6]; exact (by repeat first | exact gS | refine gN (by omega) ?_)
   refine z_met ((.slice none 0 0, .slice (some ⟨rw', 0, none⟩) 1 1), [], [⟨[97], bs, false⟩]) ⟨rfl, rfl, rfl, trivial⟩ ⟨by omega, by rw [hg6]; exact Kp.new (Kp.new k7 (by omega) _) (by omega) _, by rw [hg6]; exact (by repeat first | exact gS | exact hq7 | refine gN (by omega) ?_), GdsRd.nil _, ?_, not_may_key fun h => absurd h.2.2 (by show ¬ bs.length ≤ 4000; omega)⟩
   exact wrs_one (x := ⟨[97], bs, false⟩) (a := some ⟨n7 + 20, 0, none⟩) (p := bs.length) (by rw [hg6]; exact gs_same _ _ _) (bytes_row (b := 0) hb6 rfl (Nat.zero_le _)).at
  refine Nc (w_no rfl (beq_eq_false_iff_ne.2 h5) (Na (w_reg 2 rfl rfl (j' := 18) (nO (s_bin rfl rfl rfl (nA rfl (n_nil ?_)))))))
  by_cases h6 : zz = 6
  ·refine Nc (w_yes rfl (beq_iff_eq.2 h6) (w_reg 6 rfl rfl (j' := 24) (nM rfl (n_op .no (q := 19) rfl (s_neg rfl (b := -(m : Int)) rfl (by omega) (by omega) (nO (s_bld pl_36 zl_36 rfl rfl rfl (n_op .no (q := 21) rfl (s_bs el_37 ez_37 rfl rfl rfl (nO (s_fa0 rfl fo_42_0 (nO (sS rfl rfl sz_37 rfl rfl ?_)))))))))))))
   refine n_nil ?_
   repeat first | refine Na ?_ | refine Nb ?_ | refine Nc ?_ | refine Nd ?_ | refine Ne ?_
   refine z_gen fun g6 hg6 => ?_
   have kF : Kp (FC q) g7 n7 g6 := by rw [hg6]; exact Kp.set (by repeat (first | exact Kp.refl _ _ _ | refine Kp.new ?_ (by omega) _)) (FC.of hq7) _
   refine z_met ((.slice (some ⟨n7 + 21, 0, none⟩) 1 1, .slice (some ⟨rw', 0, none⟩) 1 1), [⟨[97], -(m : Int), false⟩], [⟨[97], [120], false⟩]) ⟨rfl, rfl, rfl, trivial⟩ ⟨by omega, by rw [hg6]; exact Kp.new (Kp.new k7 (by omega) _) (by omega) _, by rw [hg6]; exact gs_same _ _ _, ?_, hW7.kk kF hwg7 (FC.no3 _) (FC.nob _), fun h => ?_⟩
   ·exact gds_one (x := ⟨[97], -(m : Int), false⟩) (by rw [hg6]; exact (by repeat first | exact gS | refine gN (by omega) ?_))
   ·have := (h.2.2.2.1 _ (List.mem_singleton.2 rfl)).2
    have : (0 : Int) ≤ -(m : Int) := this
    omega
  refine Nc (w_no rfl (beq_eq_false_iff_ne.2 h6) (Na (w_reg 1 rfl rfl (j' := 19) (nA rfl (n_nil ?_)))))
  repeat first | refine Na ?_ | refine Nb ?_ | refine Nc ?_ | refine Nd ?_ | refine Ne ?_
  refine w_loop (β := Nat × Value) (fun x => [(2, .int .i64 (m : Int)), (3, .pointer (some ⟨qt, 0, none⟩)), (8, .pointer (some ⟨s, 0, none⟩)), (10, .pointer (some ⟨q, 0, none⟩)), (11, .int .i64 (x.1 : Int))])
   (fun x g' n' => x.1 ≤ 20 + m ∧ n7 ≤ n' ∧ K0 g2 n2 g' ∧ g' q = some (.cells [x.2, .slice (some ⟨rw', 0, none⟩) 1 1] 0 false) ∧ Kp (FC q) g7 n7 g' ∧ (∃ cs, SlOwn g' 3 x.2 x.1 cs ∧ Rows 3 (fun c x => c = gdC x) cs (List.replicate x.1 ⟨[110, 111, 110, 101], 0, false⟩)) ∧ ∀ z, vname x.2 = some z → n7 ≤ z) (fun x => 20 + m - x.1) (0, .slice none 0 0) ⟨rfl, rfl, rfl, rfl, rfl, trivial⟩
   ⟨by simp, by omega, k7, hq7, Kp.refl _ _ _, ⟨[], SlOwn.nil _ _, rfl⟩, fun z hz => by cases hz⟩ ?_
  rintro ⟨j, ve⟩ f gL nL hwL ⟨hj, hnL, kL, hqL, kF, ⟨cs, hs, hR⟩, hve⟩
  simp only at hj hqL hs hR hve
  by_cases hjm : j < 20 + m
  ·repeat first | refine Na ?_ | refine Nb ?_ | refine Nc ?_ | refine Nd ?_ | refine Ne ?_
   refine w_reg 4 rfl rfl (j' := 4) (nM rfl (nM rfl (nO (s_bin rfl rfl (r := .int .i64 (((20 + m : Nat) : Int))) (by first | exact bi_add (by omega) (by omega) (by omega) | exact bi_add rfl (by omega) (by omega)) ?_))))
   refine nO (s_bin rfl rfl rfl (n_nil (Nc (w_yes rfl (decide_eq_true (by omega)) (Ne (Nc (Na (Nb (w_reg 7 rfl rfl (j' := 11) (nO (s_fa0 rfl fo_42_0 (nO (sL rfl ag_37 ?_)))))))))))))
   refine nO (s_bld pl_36 zl_36 rfl rfl rfl (n_op .no (q := 7) rfl (s_bs el_37 ez_37 rfl rfl rfl (n_op .no (q := 8) rfl (s_app app37f rfl rfl (hs.kp0 (n := nL) (by repeat (first | exact Kp.refl _ _ _ | refine Kp.new ?_ (by omega) _)) hwL) (src_one (gs_same _ _ _) rfl) rfl (by omega) fun a5 c5 g5 tc5 wr5 hrow hgr => ?_)))))
   have hq5 : g5 q = some (.cells [ve, .slice (some ⟨rw', 0, none⟩) 1 1] 0 false) := (hgr.same _ (by omega) (fun e => by have := hve _ e; omega)).trans (by repeat first | exact gS | exact hqL | refine gN (by omega) ?_)
   have k5 : K0 g2 n2 g5 := hgr.kp (Kp.new kL (by omega) _) (by omega) fun x hx => .inl (by have := hve _ hx; omega)
   have kF5 : Kp (FC q) g7 n7 g5 := hgr.kp (Kp.new kF (by omega) _) (by omega) fun x hx => .inl (hve _ hx)
   obtain ⟨av, cv, rfl, _⟩ := hs.slc.len
   refine nO (s_fa0 rfl fo_42_0 (nO (sS rfl rfl sz_37 rfl rfl ?_)))
   refine n_nil ?_
   repeat first | refine Na ?_ | refine Nb ?_ | refine Nc ?_ | refine Nd ?_ | refine Ne ?_
   repeat first | refine Na ?_ | refine Nb ?_ | refine Nc ?_ | refine Nd ?_ | refine Ne ?_
   refine w_reg 3 rfl rfl (j' := 14) (nM rfl (nO (s_bin rfl rfl (by first | exact bi_inc (by omega) | exact bi_add rfl (by omega) (by omega)) ?_)))
   refine nA rfl (n_nil ?_)
   have hnm : ∀ z, vname (.slice a5 (j + 1) c5) = some z → n7 ≤ z := fun z hz => by
    rcases hgr.name with e | e | e
    ·rw [e] at hz; cases hz
    ·rw [e] at hz; exact hve _ hz
    ·rw [e] at hz; simp only [Option.some.injEq] at hz; omega
   have hnq : vname (.slice a5 (j + 1) c5) ≠ some q := fun e => by have := hnm _ e; omega
   refine z_round (j + 1, .slice a5 (j + 1) c5) ⟨rfl, rfl, rfl, rfl, rfl, trivial⟩ ⟨by simp only; omega, by omega, Kp.new k5 (by omega) _, gs_same _ _ _, Kp.set kF5 (FC.of hq7) _, ⟨_, hrow.other hnq _, ?_⟩, hnm⟩ (by simp only; omega)
   simp only
   rw [List.replicate_succ']
   exact Rows.append hR (Rows.one rfl rfl)
  ·repeat first | refine Na ?_ | refine Nb ?_ | refine Nc ?_ | refine Nd ?_ | refine Ne ?_
   refine w_reg 4 rfl rfl (j' := 4) (nM rfl (nM rfl (nO (s_bin rfl rfl (r := .int .i64 (((20 + m : Nat) : Int))) (by first | exact bi_add (by omega) (by omega) (by omega) | exact bi_add rfl (by omega) (by omega)) ?_))))
   refine nO (s_bin rfl rfl rfl (n_nil (Nc (w_no rfl (decide_eq_false (by omega)) ?_))))
   refine w_exit rfl ?_
   repeat first | refine Na ?_ | refine Nb ?_ | refine Nc ?_ | refine Nd ?_ | refine Ne ?_
   refine z_met ((ve, .slice (some ⟨rw', 0, none⟩) 1 1), List.replicate j ⟨[110, 111, 110, 101], 0, false⟩, [⟨[97], [120], false⟩]) ⟨rfl, rfl, rfl, trivial⟩ ⟨by omega, kL, hqL, ⟨cs, by rw [List.length_replicate]; exact hs.slc, hR⟩, hW7.kk kF hwg7 (FC.no3 _) (FC.nob _), fun h => ?_⟩
   have := h.1
   rw [List.length_replicate] at this
   omega
 rintro ⟨⟨gvx, wvx⟩, gsx, wsx⟩ f g8 n8 hw8 ⟨hn8, k8, hq8, hG8, hW8, hno⟩
 simp only at hq8 hG8 hW8 hno
 have hS8 := (hS2.up (b' := n1) (by omega)).kp0 k8 hw2
 have hq : n1 ≤ s ∧ n1 ≤ m1 ∧ n1 ≤ m2 ∧ n1 ≤ l := by omega
 have hal2 := hS2.alive hw2
 have w8 : K0 g1 n1 g8 := k2'.trans0 (k8.dn (m := n1) (by omega)) (Nat.le_refl _)
 have hcan := can_form (S := Sto.new) hno
 have hnt := Sto.txn_no (S := Sto.new) (gs := gsx) (ws := wsx) (by rw [hcan]; decide)
 rw [hcan] at hnt
 repeat first | refine Na ?_ | refine Nb ?_ | refine Nc ?_ | refine Nd ?_ | refine Ne ?_
 refine w_reg 8 rfl rfl (j' := 8) (nM rfl (nO (sLf rfl ag_42 sz_42 ?_)))
 refine n_call .no rfl rfl rfl (C.use (st_txn_i hS8 Sto.Inv.new (by omega) (by omega) hG8 hW8) fun v g10 n10 hw10 hn10 hq => ?_)
 obtain ⟨sl10, rfl, hS10, hM10, k10⟩ := hq
 rw [hnt] at hS10
 rw [hnt]
 have w10 : K0 g1 n1 g10 := w8.trans0 (hS8.low hq (Nat.le_refl _) (by omega) k10) (Nat.le_refl _)
 refine nM rfl (nO (s_ext rfl rfl (nO (s_ext rfl rfl (nA rfl (nA rfl (n_nil (Nc (Na (w_reg 2 rfl rfl (j' := 2) (n_call .no rfl rfl rfl (C.use (rs_new _ _) fun v g11 n11 hw11 hn11 hq => ?_))))))))))))
 obtain ⟨r, me, lr, rfl, hb11, hR11, k11⟩ := hq
 have k11' := k11.dn (m := n10) (by omega)
 have hal10 := hS10.alive hw10
 have ha : Apt s m1 m2 l r me lr := ⟨by omega, by omega⟩
 have hT11 : Two n1 s m1 m2 l r me lr { Sto.new with writes := Sto.new.writes + 1 } Sto.new sl10 (.slice none 0 0) (.slice none 0 0) [] g11 n11 := ⟨hS10.kp0 k11' hw10, hR11, (fun x hx => by cases hx), (fun x hx => by cases hx)⟩
 have w11 : K0 g1 n1 g11 := w10.trans0 (k11'.dn (m := n1) (by omega)) (Nat.le_refl _)
 have ht11 := w11.at0 hwg1 ht1
 refine nA rfl (n_nil (Nc (Na (w_reg 9 rfl rfl (j' := 9) (nM rfl (nO (sLf rfl ag_42 sz_42 ?_)))))))
 refine n_call .no rfl rfl rfl (C.use (cut_c (hGa.kp0 w11 hwg1) (hWa.kp0 w11 hwg1)) fun v g12 n12 hw12 hn12 hq => ?_)
 obtain ⟨v12, w12', rfl, hG12, hW12, k12⟩ := hq
 have k12' := k12.dn (m := n11) (by omega)
 have hT12 := hT11.kp0 (n' := n12) k12' hw11 (by omega)
 have hi12 : ({ Sto.new with writes := Sto.new.writes + 1 } : Sto).Inv 1 := by
  have := Sto.Inv.new.txn (gs := gsx) (ws := wsx)
  rw [hnt] at this
  exact this
 refine n_call .no rfl rfl rfl (C.use (st_txn_i hT12.st hi12 (by omega) (by omega) hG12 hW12) fun v g13 n13 hw13 hn13 hq => ?_)
 obtain ⟨sl13, rfl, hS13, hM13, k13⟩ := hq
 have hT13 := hT12.fs k13 hw12 ha hS13 hM13 (n' := n13) (by omega)
 have w13 : K0 g1 n1 g13 := (w11.trans0 (k12'.dn (m := n1) (by omega)) (Nat.le_refl _)).trans0 (hT12.lowS hq (Nat.le_refl _) (by omega) k13) (Nat.le_refl _)
 have ht13 := w13.at0 hwg1 ht1
 refine nM rfl (nO (s_ext rfl rfl (nO (s_ext rfl rfl (nA rfl (nA rfl (n_nil (Nc (Na (w_reg 9 rfl rfl (j' := 9) (nM rfl (nO (sLf rfl ag_42 sz_42 ?_)))))))))))))
 refine n_call .no rfl rfl rfl (C.use (cut_c (hGa.kp0 w13 hwg1) (hWa.kp0 w13 hwg1)) fun v g14 n14 hw14 hn14 hq => ?_)
 obtain ⟨v14, w14', rfl, hG14, hW14, k14⟩ := hq
 have k14' := k14.dn (m := n13) (by omega)
 have hT14 := hT13.kp0 (n' := n14) k14' hw13 (by omega)
 refine n_call .no rfl rfl rfl (C.use (rtxn_c hT14.rs Hist.new.top (by decide) (by decide) (by decide) (by decide) (by decide) (by simp) hG14 hW14 (by rw [List.length_take]; omega) (by rw [List.length_take]; omega) hT14.lt) fun v g15 n15 hw15 hn15 hq => ?_)
 obtain ⟨lv15, rsl15, L15, rfl, hR15, _, k15⟩ := hq
 refine nM rfl (nO (s_ext rfl rfl (nO (s_ext rfl rfl (nA rfl (nA rfl (n_nil (Nc (Na (w_reg 8 rfl rfl (j' := 8) (nM rfl (nO (s_bin rfl rfl rfl (nM rfl (nG rfl rfl (rfl) rfl (nG rfl rfl (rfl) rfl (nY rfl rfl (rfl) (s_bin rfl rfl rfl (nO (s_pt rfl (rfl) rfl (nA rfl (n_nil (Nc (Nf (z_r1 rfl rfl ?_)))))))))))))))))))))))))
 show Value.bool (_ == _) = _
 rw [txn_code, txn_code, form_can, beq_self_eq_true]

end Go.Proofs.YtehmailaabjdjaaGreat
