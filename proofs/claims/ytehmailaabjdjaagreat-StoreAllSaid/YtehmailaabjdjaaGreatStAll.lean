/-
  StoreAll answers true. No condition but that begun does.
-/
import Derived.Test.YtehmailaabjdjaaGreatRsX
open Go.Proofs
namespace Go.Proofs.YtehmailaabjdjaaGreat
set_option linter.unusedSimpArgs false
set_option linter.unusedVariables false
set_option maxRecDepth 100000

theorem from_le (L : Log) (r : Int) : (L.from_ r).1.length ≤ L.evs.length := by
 unfold Log.from_
 split
 ·simp
 ·split
  ·simp
  ·exact List.length_filter_le _ _

theorem storeAll_c (hB : BegunOk) {g : Gm} {n : Nat} {v w : Value} {xs : List SOp} {ks : List Bs} (h : SopsRd g v xs) (h' : StrsAt g w ks) : C 21 #[v, w] g n fun u g' n' => u = .bool true := by
 obtain ⟨a, c, rfl⟩ := h.len
 obtain ⟨a', c', rfl⟩ := h'.len
 refine c_in2 Tryz.func21 rfl Tryz.ntmps21 rfl fun hw => (Na (w_reg 1 rfl rfl (j' := 1) (nA rfl (n_nil (Nc (Na (w_reg 2 rfl rfl (j' := 3) (n_call .no rfl rfl rfl (C.use (hB _ _) fun v g1 n1 hw1 hn1 hq => ?_)))))))))
 obtain ⟨rfl, rfl⟩ := hq
 refine nA rfl (n_nil (Nc (Na (Na (w_reg 2 rfl rfl (j' := 2) (nM rfl (nO (s_not rfl (n_nil (Nc (w_no rfl (rfl) ?_)))))))))))
 have h1 : SopsRd g1 (.slice a xs.length c) xs := h
 have h1' : StrsAt g1 (.slice a' ks.length c') ks := h'
 refine Ne (Nc (Na (w_reg 4 rfl rfl (j' := 6) (n_call .no rfl rfl rfl (C.use (st_newB _ _) fun v g2 n2 hw2 hn2 hq => ?_)))))
 obtain ⟨s, m1, m2, l, rfl, hS2, hb2, k2⟩ := hq
 refine n_call .no rfl rfl rfl (C.use (rs_new _ _) fun v g3 n3 hw3 hn3 hq => ?_)
 obtain ⟨r, me, lr, rfl, hb3, hR3, k3⟩ := hq
 refine nA rfl (nA rfl (n_nil ?_))
 have hal2 := hS2.alive hw2
 have ha : Apt s m1 m2 l r me lr := ⟨by omega, by omega⟩
 have hT3 : Two n1 s m1 m2 l r me lr Sto.new Sto.new (.slice none 0 0) (.slice none 0 0) (.slice none 0 0) [] g3 n3 := ⟨(hS2.kp0 (k3.dn (by omega)) hw2).up (by omega), hR3, (fun x hx => by cases hx), (fun x hx => by cases hx)⟩
 have hq : n1 ≤ s ∧ n1 ≤ m1 ∧ n1 ≤ m2 ∧ n1 ≤ l := by omega
 have hqr : n1 ≤ r ∧ n1 ≤ me ∧ n1 ≤ lr := by omega
 have w3 : K0 g1 n1 g3 := (k2.dn (m := n1) (by omega)).trans0 (k3.dn (m := n1) (by omega)) (Nat.le_refl _)
 clear k2 k3 hS2 hR3
 refine Nc (Na (Na (w_reg 1 rfl rfl (j' := 1) (nA rfl (n_nil ?_)))))
 repeat first | refine Na ?_ | refine Nb ?_ | refine Nc ?_ | refine Nd ?_ | refine Ne ?_
 refine w_loop (β := Nat) (fun i => [(0, .slice a xs.length c), (1, .slice a' ks.length c'), (6, .pointer (some ⟨s, 0, none⟩)), (7, .pointer (some ⟨r, 0, none⟩)), (8, .int .i64 (i : Int))])
  (fun i g' n' => i ≤ xs.length ∧ i ≤ 50 ∧ n3 ≤ n' ∧ K0 g1 n1 g' ∧ ∃ S sl lv rsl L all, S.Inv (8 * i) ∧ Hist S all ∧ Two n1 s m1 m2 l r me lr S S sl lv rsl L g' n') (fun i => 50 - i) 0 ⟨rfl, rfl, rfl, rfl, rfl, trivial⟩
  ⟨by simp, by simp, by omega, w3, _, _, _, _, _, _, Sto.Inv.new, Hist.new, hT3.up (by omega)⟩ ?_
 rintro i f gL nL hwL ⟨hi, hi50, hnL, wL, S, sl, lv, rsl, L, all, hinv, hhist, hT⟩
 by_cases e1 : i < xs.length
 rotate_left
 ·repeat first | refine Na ?_ | refine Nb ?_ | refine Nc ?_ | refine Nd ?_ | refine Ne ?_
  refine w_reg 8 rfl rfl (j' := 8) (nM rfl (nM rfl (nO (s_len rfl rfl un_44 rfl (nO (s_bin rfl rfl rfl (nM rfl (n_sk rfl rfl (decide_eq_false (by omega)) (n_sk rfl rfl (decide_eq_false (by omega)) (nO (s_pf rfl (decide_eq_false (by omega)) rfl (n_nil (Nc (w_no rfl (rfl) ?_))))))))))))))
  refine w_exit rfl ?_
  repeat first | refine Na ?_ | refine Nb ?_ | refine Nc ?_ | refine Nd ?_ | refine Ne ?_
  refine w_reg 1 rfl rfl (j' := 9) (nA rfl (n_nil (Nc (Nf (z_r1 rfl rfl ?_)))))
  exact rfl
 by_cases e2 : i < 50
 rotate_left
 ·repeat first | refine Na ?_ | refine Nb ?_ | refine Nc ?_ | refine Nd ?_ | refine Ne ?_
  refine w_reg 8 rfl rfl (j' := 8) (nM rfl (nM rfl (nO (s_len rfl rfl un_44 rfl (nO (s_bin rfl rfl rfl (nM rfl (nG rfl rfl (decide_eq_true (by omega)) rfl (nY rfl rfl (decide_eq_true (by omega)) (s_bin rfl rfl rfl (nO (s_pt rfl (decide_eq_true (by omega)) rfl (n_nil (Nc (w_no rfl (decide_eq_false (by omega)) ?_)))))))))))))))
  refine w_exit rfl ?_
  repeat first | refine Na ?_ | refine Nb ?_ | refine Nc ?_ | refine Nd ?_ | refine Ne ?_
  refine w_reg 1 rfl rfl (j' := 9) (nA rfl (n_nil (Nc (Nf (z_r1 rfl rfl ?_)))))
  exact rfl
 repeat first | refine Na ?_ | refine Nb ?_ | refine Nc ?_ | refine Nd ?_ | refine Ne ?_
 refine w_reg 8 rfl rfl (j' := 8) (nM rfl (nM rfl (nO (s_len rfl rfl un_44 rfl (nO (s_bin rfl rfl rfl (nM rfl (nG rfl rfl (decide_eq_true (by omega)) rfl (nY rfl rfl (decide_eq_true (by omega)) (s_bin rfl rfl rfl (nO (s_pt rfl (decide_eq_true (by omega)) rfl (n_nil (Nc (w_yes rfl (decide_eq_true (by omega)) ?_)))))))))))))))
 obtain ⟨l3, o3, c3, cl3, ro3, a1, d1, a2, d2, x1, x2, x3, x4, x7, x8⟩ := (h1.kp0 wL hw1).all e1
 cases x1
 generalize xs[i] = op at *
 have hal := hT.st.alive hwL
 have hlr := hT.rs.alive hwL
 refine Ne (Nc (Na (Nb (Na (w_reg 6 rfl rfl (j' := 14) (nM rfl (nM rfl (nO (s_ia rfl rfl el_44 (by first | assumption | omega) (nO (sLa rfl ag_47 sz_47 ?_)))))))))))
 refine n_op .no (q := 12) rfl (s_al zl_47 (nO (sSw rfl rfl sz_47 rfl rfl ?_)))
 refine n_nil (Nc (Na (w_reg 5 rfl rfl (j' := 19) (nO (s_fa0 rfl fo_47_1 (nO (sLf rfl ag_42 sz_42 ?_)))))))
 refine n_call .no rfl rfl rfl (C.use (cut_c (x7.kp0 (n := nL) (by repeat (first | exact Kp.refl _ _ _ | refine Kp.new ?_ (by omega) _)) hwL) (x8.kp0 (n := nL) (by repeat (first | exact Kp.refl _ _ _ | refine Kp.new ?_ (by omega) _)) hwL)) fun v g4 n4 hw4 hn4 hq => ?_)
 obtain ⟨gv', wv', rfl, hG, hW, k4⟩ := hq
 obtain ⟨ag, cg, rfl⟩ := hG.len
 obtain ⟨aw, cw, rfl⟩ := hW.len
 refine nO (s_fa0 rfl fo_47_1 (nO (s_sta rfl rfl sz_42 rfl (by repeat first | exact gS | refine Kp.lt k4 (by omega) ?_ | refine gN (by omega) ?_) (by first | exact Nat.le_of_ble_eq_true rfl | assumption | omega) rfl ?_)))
 refine n_nil ?_
 repeat first | refine Na ?_ | refine Nb ?_ | refine Nc ?_ | refine Nd ?_ | refine Ne ?_
 refine w_gen fun g5 n5 hg5 hn5 hwg5 => ?_
 have c4 : g4 (nL + 12) = some (.cells [.int .i64 op.kind, .slice a1 op.gs.length d1, .slice a2 op.ws.length d2, .int .i64 op.rev] 0 false) := k4.lt (by omega) (gs_same _ _ _)
 have c5 : g5 (nL + 12) = some (.cells [.int .i64 op.kind, .slice ag (op.gs.take 25).length cg, .slice aw (op.ws.take 70).length cw, .int .i64 op.rev] 0 false) := by rw [hg5]; exact gs_same _ _ _
 have kz : Kp (FC (nL + 12)) g4 n4 g5 := by rw [hg5]; exact Kp.set (Kp.refl _ _ _) (FC.of c4) _
 have k5 : K0 gL nL g5 := by rw [hg5]; exact Kp.new (Kp.trans0 (n' := nL) (by repeat (first | exact Kp.refl _ _ _ | refine Kp.new ?_ (by omega) _)) (k4.dn (by omega)) (by omega)) (by omega) _
 have hG5 := hG.kk kz hw4 (FC.no3 _)
 have hW5 := hW.kk kz hw4 (FC.no3 _) (FC.nob _)
 have hT5 := hT.kp0 (n' := n5) k5 hwL (by omega)
 have w5 : K0 g1 n1 g5 := wL.trans0 (k5.dn (m := n1) (by omega)) (Nat.le_refl _)
 have hlg : (op.gs.take 25).length ≤ 2 ^ 40 := by rw [List.length_take]; omega
 have hlw : (op.ws.take 70).length ≤ 2 ^ 40 := by rw [List.length_take]; omega
 have hq5 : nL + 12 < n5 := by omega
 generalize hgs : op.gs.take 25 = gs at *
 generalize hws : op.ws.take 70 = ws at *
 generalize hqq : nL + 12 = q at *
 clear hg5 kz k4 hG hW c4 x4 x7 x8 hT wL
 repeat first | refine Na ?_ | refine Nb ?_ | refine Nc ?_ | refine Nd ?_ | refine Ne ?_
 refine w_reg 2 rfl rfl (j' := 2) (nO (s_fa0 rfl fo_47_0 (nO (sL rfl ag_3 ?_))))
 refine n_nil ?_
 refine z_seq ?_
 refine z_meet (β := Unit) (fun _ => [(0, .slice (some ⟨l3, o3, none⟩) xs.length c), (1, .slice a' ks.length c'), (6, .pointer (some ⟨s, 0, none⟩)), (7, .pointer (some ⟨r, 0, none⟩)), (8, .int .i64 (i : Int))])
  (fun _ g' n' => n5 ≤ n' ∧ K0 g1 n1 g' ∧ ∃ S sl lv rsl L all, S.Inv (8 * i + 1) ∧ Hist S all ∧ Two n1 s m1 m2 l r me lr S S sl lv rsl L g' n') ?_ ?_
 ·have hLl := hT5.len hinv
  by_cases hk0 : op.kind = 0
  ·repeat first | refine Na ?_ | refine Nb ?_ | refine Nc ?_ | refine Nd ?_ | refine Ne ?_
   refine w_reg 2 rfl rfl (j' := 4) (nO (s_bin rfl rfl rfl (nA rfl (n_nil (Nc (w_yes rfl (beq_iff_eq.2 hk0) (Na (w_reg 9 rfl rfl (j' := 13) (nM rfl (nO (s_fa0 rfl fo_47_1 (nO (sLf rfl ag_42 sz_42 ?_)))))))))))))
   refine n_call .no rfl rfl rfl (C.use (st_txn_i hT5.st hinv (by omega) (by omega) hG5 hW5) fun v g6 n6 hw6 hn6 hq => ?_)
   obtain ⟨sl6, rfl, hS6, hM6, k6⟩ := hq
   refine nM rfl (nO (s_ext rfl rfl (nO (s_ext rfl rfl (nA rfl (nA rfl (n_nil ?_)))))))
   have k6' := k6.dn (m := n5) (by omega)
   have c6 := k6'.at hwg5 c5 (FS.no0 (by omega) (by omega))
   have hT6 := hT5.fs k6' hwg5 ha hS6 (by first | exact hM6 | (rcases hM6 with e | e; exact .inl e; exact .inr fun x hx => by have := e x hx; omega)) (n' := n6) (by omega)
   have w6 : K0 g1 n1 g6 := w5.trans0 (hT5.lowS hq (Nat.le_refl _) (by omega) k6') (Nat.le_refl _)
   have hG6 := hG5.kk k6' hwg5 (FS.no3 _ _ _ _ _)
   have hW6 := hW5.kk k6' hwg5 (FS.no3 _ _ _ _ _) (FS.nob _ _ _ _ _)
   refine Nc (Na (w_reg 9 rfl rfl (j' := 9) (nM rfl (nO (s_fa0 rfl fo_47_1 (nO (sLf rfl ag_42 sz_42 ?_)))))))
   refine n_call .no rfl rfl rfl (C.use (rtxn_c hT6.rs hhist.top (by have := hinv.writes; omega) (by have := hinv.rev; omega) hinv.last (by have := hinv.len; omega) (by rw [hinv.most]; decide) (by omega) hG6 hW6 hlg hlw (hT6.up (by omega)).lt) fun v g7 n7 hw7 hn7 hq => ?_)
   obtain ⟨lv7, rsl7, L7, rfl, hR7, ⟨hM7, hlt7⟩, k7⟩ := hq
   refine nM rfl (nO (s_ext rfl rfl (nO (s_ext rfl rfl (nA rfl (nA rfl (n_nil ?_)))))))
   have k7' := k7.dn (m := n6) (by omega)
   have hT7 := hT6.fq k7' hw6 ha hR7 (by first | exact hM7 | (rcases hM7 with e | e; exact .inl e; exact .inr fun x hx => by have := e x hx; omega)) hlt7
   have w7 : K0 g1 n1 g7 := w6.trans0 (FQ.low hqr (by omega) k7') (Nat.le_refl _)
   obtain ⟨es, hh, _⟩ := hhist.txn gs ws
   refine Nc (Na (w_reg 8 rfl rfl (j' := 8) (nM rfl (nM rfl (nO (s_bin rfl rfl rfl (nM rfl (nG rfl rfl (bne_self_eq_false _) rfl (nG rfl rfl (bne_self_eq_false _) rfl (nY rfl rfl (bne_self_eq_false _) (s_bin rfl rfl rfl (nO (s_pf rfl (bne_self_eq_false _) rfl (n_nil (Nc (w_no rfl (bne_self_eq_false _) ?_))))))))))))))))
   repeat first | refine Na ?_ | refine Nb ?_ | refine Nc ?_ | refine Nd ?_ | refine Ne ?_
   exact z_met () ⟨rfl, rfl, rfl, rfl, rfl, trivial⟩ ⟨by omega, w7, _, _, _, _, _, _, hinv.txn, hh, hT7.up (by omega)⟩
  by_cases hk1 : op.kind = 1
  ·repeat first | refine Na ?_ | refine Nb ?_ | refine Nc ?_ | refine Nd ?_ | refine Ne ?_
   refine w_reg 2 rfl rfl (j' := 4) (nO (s_bin rfl rfl rfl (nA rfl (n_nil (Nc (w_no rfl (beq_eq_false_iff_ne.2 hk0) (Na (w_reg 2 rfl rfl (j' := 6) (nO (s_bin rfl rfl rfl (nA rfl (n_nil (Nc (w_yes rfl (beq_iff_eq.2 hk1) (Na (w_reg 4 rfl rfl (j' := 10) (nM rfl (nO (s_fa0 rfl fo_47_2 (nO (sL rfl ag_2 ?_)))))))))))))))))))))
   refine n_call .no rfl rfl rfl (C.use (st_compact (rev := op.rev) hT5.st (by have := hinv.len; omega)) fun v g6 n6 hw6 hn6 hq => ?_)
   obtain ⟨sl6, hS6, hv6, k6⟩ := hq
   refine n_nil ?_
   have k6' : Kp (FS s m1 m2 l sl) g5 n5 g6 := FL.fs hT5.st (k6.dn (m := n5) (by omega))
   have c6 := k6'.at hwg5 c5 (FS.no0 (by omega) (by omega))
   have hT6 := hT5.fs k6' hwg5 ha hS6 (.inl hv6) (n' := n6) (by omega)
   have w6 : K0 g1 n1 g6 := w5.trans0 (hT5.lowS hq (Nat.le_refl _) (by omega) k6') (Nat.le_refl _)
   have hrc6 := hT6.rs.cell
   refine Nc (w_drw (T6 21 23) [(0, []), (1, []), (2, []), (3, []), (4, [3]), (5, [3]), (6, [])] 7 (by kernel_rfl) rfl rfl (j' := 7) (dM rfl rfl (dO rfl rfl (s_nil rfl ⟨⟨rfl, rfl⟩, (dO rfl rfl (s_fa0 rfl fo_72_3 ⟨⟨rfl, rfl⟩, (dT rfl rfl rfl (sL rfl ag_70 ⟨clash_nil, ?_⟩))⟩))⟩))))
   refine dO rfl rfl (s_fa0 rfl fo_47_2 ⟨⟨rfl, rfl⟩, (dT rfl rfl rfl (sL rfl ag_2 ⟨clash_rd rfl, ?_⟩))⟩)
   refine d_call rfl .no rfl rfl rfl call_nil (C.use (ref_cut (rev := op.rev) hT6.rs.log hhist.top) fun v g7 n7 hw7 hn7 hq => ?_)
   obtain ⟨rfl, rsl7, hA7, hv7, k7⟩ := hq
   refine ⟨kept_nil, ?_⟩
   have k7' := FR.fc hT6.rs (k7.dn (m := n6) (by omega))
   have hR7 := hT6.rs.setLog hw6 k7' hA7
   have hT7 := hT6.fq (FC.fq' k7') hw6 ha hR7 (.inl hv7) (n' := n7) fun x hx => by rw [hv7] at hx; have := hT6.lt x hx; omega
   have w7 : K0 g1 n1 g7 := w6.trans0 (FQ.low hqr (by omega) (FC.fq' k7')) (Nat.le_refl _)
   refine d_nil ?_
   repeat first | refine Na ?_ | refine Nb ?_ | refine Nc ?_ | refine Nd ?_ | refine Ne ?_
   exact z_met () ⟨rfl, rfl, rfl, rfl, rfl, trivial⟩ ⟨by omega, w7, _, _, _, _, _, _, (hinv.cut op.rev).up (by omega), hhist.cut op.rev, hT7.up (by omega)⟩
  ·repeat first | refine Na ?_ | refine Nb ?_ | refine Nc ?_ | refine Nd ?_ | refine Ne ?_
   refine w_reg 2 rfl rfl (j' := 4) (nO (s_bin rfl rfl rfl (nA rfl (n_nil (Nc (w_no rfl (beq_eq_false_iff_ne.2 hk0) (Na (w_reg 2 rfl rfl (j' := 6) (nO (s_bin rfl rfl rfl (nA rfl (n_nil (Nc (w_no rfl (beq_eq_false_iff_ne.2 hk1) (Na (w_reg 9 rfl rfl (j' := 15) (nM rfl (nO (s_fa0 rfl fo_47_2 (nO (sL rfl ag_2 ?_)))))))))))))))))))))
   refine n_call .no rfl rfl rfl (C.use (st_watch_i (rev := op.rev) hT5.st hinv (by omega)) fun v g6 n6 hw6 hn6 hq => ?_)
   obtain ⟨v6, rfl, hE6, hS6, k6⟩ := hq
   refine nM rfl (nO (s_ext rfl rfl (nO (s_ext rfl rfl (nA rfl (nA rfl (n_nil ?_)))))))
   have k6' := k6.dn (m := n5) (by omega)
   have c6 := k6'.at hwg5 c5 (fun hf => by have := hf.1; omega)
   have hT6 := hT5.fc k6' hwg5 ha hS6 (n' := n6) (by omega)
   have w6 : K0 g1 n1 g6 := w5.trans0 (StAt.lowC hq.1 (by omega) k6') (Nat.le_refl _)
   have hrc6 := hT6.rs.cell
   refine Nc (Na (w_drw (T6 21 12) [(0, []), (1, []), (2, []), (3, []), (4, [3]), (5, [3]), (6, []), (7, []), (8, []), (9, []), (10, []), (11, [])] 12 (by kernel_rfl) rfl rfl (j' := 12) (dM rfl rfl (dO rfl rfl (s_nil rfl ⟨⟨rfl, rfl⟩, (dO rfl rfl (s_fa0 rfl fo_72_3 ⟨⟨rfl, rfl⟩, (dT rfl rfl rfl (sL rfl ag_70 ⟨clash_nil, ?_⟩))⟩))⟩)))))
   refine dO rfl rfl (s_fa0 rfl fo_47_2 ⟨⟨rfl, rfl⟩, (dT rfl rfl rfl (sL rfl ag_2 ⟨clash_rd rfl, ?_⟩))⟩)
   refine d_call rfl .no rfl rfl rfl call_nil (C.use (ref_from (rev := op.rev) hT6.rs.log (by have := hinv.len; omega)) fun v g7 n7 hw7 hn7 hq => ?_)
   obtain ⟨v7, rfl, hE7, _, k7⟩ := hq
   refine ⟨kept_nil, ?_⟩
   have k7' := k7.dn (m := n6) (by omega)
   have hT7 := hT6.kp0 (n' := n7) k7' hw6 (by omega)
   have hE67 := hE6.rd.kp0 k7' hw6
   have hrc7 := hT7.rs.cell
   refine dM rfl rfl (dO rfl rfl (s_ext rfl rfl ⟨⟨rfl, rfl⟩, (dO rfl rfl (s_ext rfl rfl ⟨⟨rfl, rfl⟩, (dO rfl rfl (s_as rfl ⟨⟨rfl, rfl⟩, (dO rfl rfl (s_as rfl ⟨⟨rfl, rfl⟩, (d_nil ?_)⟩))⟩))⟩))⟩))
   have hrd := hinv.reads
   refine Nc (Na (w_reg 8 rfl rfl (j' := 8) (nM rfl (nN rfl (nO (s_fa0 rfl fo_72_4 (nO (sL rfl ag_2 ?_))))))))
   refine nO (s_bin rfl rfl (r := .int .i64 (S.reads + 1)) (by first | exact bi_add (by omega) (by omega) (by omega) | exact bi_add rfl (by omega) (by omega)) ?_)
   refine nN rfl (nO (s_fa0 rfl fo_72_4 (nO (sS rfl rfl sz_2 rfl rfl ?_))))
   refine n_nil ?_
   repeat first | refine Na ?_ | refine Nb ?_ | refine Nc ?_ | refine Nd ?_ | refine Ne ?_
   refine w_gen fun g8 n8 hg8 hn8 hwg8 => ?_
   have hR8 : RsAt g8 r me lr lv rsl { S with reads := S.reads + 1 } L := by rw [hg8]; exact hT7.rs.put hw7 (S' := { S with reads := S.reads + 1 }) rfl rfl rfl
   have k8 : Kp (FC r) g7 n7 g8 := by rw [hg8]; exact Kp.set (Kp.refl _ _ _) (FC.of hrc7) _
   have hT8 := hT7.fcr (n' := n8) k8 hw7 ha hR8 (by omega)
   have w8 : K0 g1 n1 g8 := (w6.trans0 (k7'.dn (m := n1) (by omega)) (Nat.le_refl _)).trans0 (StAt.lowC hqr.1 (by omega) k8) (Nat.le_refl _)
   have hE68 := hE67.kv k8 hw7 (FC.nob _) (fun x c ro _ hf => by obtain ⟨_, c', q, e⟩ := hf; cases e)
   have hE78 := hE7.rd.kv k8 hw7 (FC.nob _) (fun x c ro _ hf => by obtain ⟨_, c', q, e⟩ := hf; cases e)
   clear hg8
   repeat first | refine Na ?_ | refine Nb ?_ | refine Nc ?_ | refine Nd ?_ | refine Ne ?_
   refine w_reg 9 rfl rfl (j' := 9) (nM rfl (nM rfl (nO (s_bin rfl rfl rfl (nM rfl (nG rfl rfl (bne_self_eq_false _) rfl (nG rfl rfl (bne_self_eq_false _) rfl (n_call (.yes rfl rfl (bne_self_eq_false _)) rfl rfl rfl (C.use (eqEvents_c hE68 hE78 (by have := from_le S.log op.rev; have := hinv.len; omega)) fun v g9 n9 hw9 hn9 hq => ?_)))))))))
   obtain ⟨⟨b, rfl, hb9⟩, k9⟩ := hq
   obtain rfl : b = true := hb9.2 rfl
   refine nY rfl rfl (bne_self_eq_false _) (s_not rfl (nO (s_pf rfl (bne_self_eq_false _) rfl (n_nil (Nc (w_no rfl (rfl) ?_))))))
   repeat first | refine Na ?_ | refine Nb ?_ | refine Nc ?_ | refine Nd ?_ | refine Ne ?_
   exact z_met () ⟨rfl, rfl, rfl, rfl, rfl, trivial⟩ ⟨by omega, w8.trans0 (k9.dn (m := n1) (by omega)) (Nat.le_refl _), _, _, _, _, _, _, hinv.read.up (by omega), hhist.read, hT8.kp0 (k9.dn (by omega)) hwg8 (by omega)⟩
 clear hinv hhist hT5 w5 c5 hG5 hW5 k5
 rintro _ f g6 n6 hw6 ⟨hn6, w6, S, sl, lv, rsl, L, all, hinv, hhist, hT⟩
 have hal := hT.st.alive hw6
 have hlr := hT.rs.alive hw6
 have hrc6 := hT.rs.cell
 repeat first | refine Na ?_ | refine Nb ?_ | refine Nc ?_ | refine Nd ?_ | refine Ne ?_
 refine w_drw (T6 21 24) [(0, []), (2, []), (3, []), (4, []), (5, []), (1, [5]), (6, []), (7, []), (8, []), (10, []), (11, []), (12, []), (13, []), (14, []), (15, []), (16, []), (9, [13, 16]), (17, []), (18, [])] 19 (by kernel_rfl) rfl rfl (j' := 19) (dM rfl rfl (dM rfl rfl (dO rfl rfl (s_nil rfl ⟨⟨rfl, rfl⟩, (dO rfl rfl (s_fa0 rfl fo_72_0 ⟨⟨rfl, rfl⟩, (dT rfl rfl rfl (sL rfl ag_2 ⟨clash_nil, ?_⟩))⟩))⟩))))
 refine d_call rfl .no rfl rfl rfl (call_rd rfl) (C.use (st_rev hT.st) fun v g7 n7 hw7 hn7 hq => ?_)
 obtain ⟨rfl, k7⟩ := hq
 refine ⟨?_, ?_⟩
 ·have k7' := k7.dn (m := n6) (by omega)
  have q := (k7'.at0 hw6 hrc6).trans hrc6.symm
  repeat' (first | exact trivial | exact q | apply And.intro)
 have k7' := k7.dn (m := n6) (by omega)
 have hT7 := hT.kp0 (n' := n7) k7' hw6 (by omega)
 have hrc7 := hT7.rs.cell
 have hlc7 := hT7.rs.log.cell
 refine dO rfl rfl (s_bin rfl rfl rfl ⟨⟨rfl, rfl⟩, (dM rfl rfl (d_op rfl rfl (.yes rfl rfl (bne_self_eq_false _)) (q := 8) rfl (s_mv rfl ⟨⟨rfl, rfl⟩, (d_op rfl rfl (.yes rfl rfl (bne_self_eq_false _)) (q := 10) rfl (s_mv rfl ⟨⟨rfl, rfl⟩, (d_op rfl rfl (.yes rfl rfl (bne_self_eq_false _)) (q := 11) rfl (s_nil rfl ⟨⟨rfl, rfl⟩, (d_op rfl rfl (.yes rfl rfl (bne_self_eq_false _)) (q := 12) rfl (s_fa0 rfl fo_72_3 ⟨⟨rfl, rfl⟩, (d_tc rfl rfl rfl (.yes rfl rfl (bne_self_eq_false _)) (q := 13) rfl (sL rfl ag_70 ⟨clash_nil, ?_⟩))⟩))⟩))⟩))⟩)))⟩)
 refine d_op rfl rfl (.yes rfl rfl (bne_self_eq_false _)) (q := 14) rfl (s_nil rfl ⟨⟨rfl, rfl⟩, (d_op rfl rfl (.yes rfl rfl (bne_self_eq_false _)) (q := 15) rfl (s_fa0 rfl fo_100_2 ⟨⟨rfl, rfl⟩, (d_tc rfl rfl rfl (.yes rfl rfl (bne_self_eq_false _)) (q := 16) rfl (sL rfl ag_2 ⟨clash_nil, ?_⟩))⟩))⟩)
 refine d_call rfl (.yes rfl rfl (bne_self_eq_false _)) rfl rfl rfl (call_rd rfl) (C.use (st_base hT7.st) fun v g8 n8 hw8 hn8 hq => ?_)
 obtain ⟨rfl, k8⟩ := hq
 refine ⟨?_, ?_⟩
 ·have k8' := k8.dn (m := n7) (by omega)
  have q := (k8'.at0 hw7 hrc7).trans hrc7.symm
  have q2 := (k8'.at0 hw7 hlc7).trans hlc7.symm
  repeat' (first | exact trivial | exact q | exact q2 | apply And.intro)
 have k8' := k8.dn (m := n7) (by omega)
 have hT8 := hT7.kp0 (n' := n8) k8' hw7 (by omega)
 refine d_op rfl rfl (.yes rfl rfl (bne_self_eq_false _)) (q := 17) rfl (s_bin rfl rfl rfl ⟨⟨rfl, rfl⟩, (dO rfl rfl (s_pf rfl (bne_self_eq_false _) rfl ⟨⟨rfl, rfl⟩, (d_nil (Nc (w_no rfl (bne_self_eq_false _) ?_)))⟩))⟩)
 have w8 : K0 g1 n1 g8 := w6.trans0 ((k7'.trans0 k8' (by omega)).dn (m := n1) (by omega)) (Nat.le_refl _)
 clear hT7 hT w6 k7 k8 k7' k8' hrc7 hlc7 hrc6
 refine w_skip ?_
 refine z_seq ?_
 refine w_seq ?_
 repeat first | refine Na ?_ | refine Nb ?_ | refine Nc ?_ | refine Nd ?_ | refine Ne ?_
 refine w_reg 1 rfl rfl (j' := 1) (nA rfl (n_nil ?_))
 refine z_seq ?_
 refine z_meet (β := Unit) (fun _ => [(0, .slice (some ⟨l3, o3, none⟩) xs.length c), (1, .slice a' ks.length c'), (6, .pointer (some ⟨s, 0, none⟩)), (7, .pointer (some ⟨r, 0, none⟩)), (8, .int .i64 (i : Int))])
  (fun _ g' n' => n8 ≤ n' ∧ K0 g1 n1 g' ∧ ∃ S sl lv rsl L all, S.Inv (8 * i + 4) ∧ Hist S all ∧ Two n1 s m1 m2 l r me lr S S sl lv rsl L g' n') ?_ ?_
 ·repeat first | refine Na ?_ | refine Nb ?_ | refine Nc ?_ | refine Nd ?_ | refine Ne ?_
  refine w_loop (β := Nat) (fun j => [(0, .slice (some ⟨l3, o3, none⟩) xs.length c), (1, .slice a' ks.length c'), (6, .pointer (some ⟨s, 0, none⟩)), (7, .pointer (some ⟨r, 0, none⟩)), (8, .int .i64 (i : Int)), (18, .int .i64 (j : Int))])
   (fun j g' n' => j ≤ 3 ∧ n8 ≤ n' ∧ K0 g1 n1 g' ∧ ∃ S sl lv rsl L all, S.Inv (8 * i + 1 + j) ∧ Hist S all ∧ Two n1 s m1 m2 l r me lr S S sl lv rsl L g' n') (fun j => 3 - j) 0 ⟨rfl, rfl, rfl, rfl, rfl, rfl, trivial⟩
   ⟨by omega, by omega, w8, _, _, _, _, _, _, hinv, hhist, hT8.up (by omega)⟩ ?_
  clear hinv hhist hT8 w8
  rintro j f g9 n9 hw9 ⟨hj, hn9, w9, S, sl, lv, rsl, L, all, hinv, hhist, hT⟩
  by_cases d1 : j < ks.length
  rotate_left
  ·repeat first | refine Na ?_ | refine Nb ?_ | refine Nc ?_ | refine Nd ?_ | refine Ne ?_
   refine w_reg 8 rfl rfl (j' := 8) (nM rfl (nM rfl (nO (s_len rfl rfl un_52 rfl (nO (s_bin rfl rfl rfl (nM rfl (n_sk rfl rfl (decide_eq_false (by omega)) (n_sk rfl rfl (decide_eq_false (by omega)) (nO (s_pf rfl (decide_eq_false (by omega)) rfl (n_nil (Nc (w_no rfl (rfl) ?_))))))))))))))
   refine w_exit rfl ?_
   exact z_met () ⟨rfl, rfl, rfl, rfl, rfl, trivial⟩ ⟨by omega, w9, _, _, _, _, _, _, hinv.up (by omega), hhist, hT.up (by omega)⟩
  by_cases d2 : j < 3
  rotate_left
  ·repeat first | refine Na ?_ | refine Nb ?_ | refine Nc ?_ | refine Nd ?_ | refine Ne ?_
   refine w_reg 8 rfl rfl (j' := 8) (nM rfl (nM rfl (nO (s_len rfl rfl un_52 rfl (nO (s_bin rfl rfl rfl (nM rfl (nG rfl rfl (decide_eq_true (by omega)) rfl (nY rfl rfl (decide_eq_true (by omega)) (s_bin rfl rfl rfl (nO (s_pt rfl (decide_eq_true (by omega)) rfl (n_nil (Nc (w_no rfl (decide_eq_false (by omega)) ?_)))))))))))))))
   refine w_exit rfl ?_
   exact z_met () ⟨rfl, rfl, rfl, rfl, rfl, trivial⟩ ⟨by omega, w9, _, _, _, _, _, _, hinv.up (by omega), hhist, hT.up (by omega)⟩
  repeat first | refine Na ?_ | refine Nb ?_ | refine Nc ?_ | refine Nd ?_ | refine Ne ?_
  refine w_reg 8 rfl rfl (j' := 8) (nM rfl (nM rfl (nO (s_len rfl rfl un_52 rfl (nO (s_bin rfl rfl rfl (nM rfl (nG rfl rfl (decide_eq_true (by omega)) rfl (nY rfl rfl (decide_eq_true (by omega)) (s_bin rfl rfl rfl (nO (s_pt rfl (decide_eq_true (by omega)) rfl (n_nil (Nc (w_yes rfl (decide_eq_true (by omega)) ?_)))))))))))))))
  obtain ⟨ly, oy, cy, cly, roy, y1, y20, y3⟩ := h1'.at d1
  cases y1
  have y2 := w9.at0 hw1 y20
  have hal := hT.st.alive hw9
  have hlr := hT.rs.alive hw9
  have hrd := hinv.reads
  have hLl := hT.len hinv
  generalize ks[j] = k at *
  refine Ne (Nc (Na (Nb (Na (w_reg 12 rfl rfl (j' := 20) (nM rfl (nM rfl (nM rfl (nO (s_ia rfl rfl el_52 (by first | assumption | omega) (nO (sL rfl ag_9 ?_))))))))))))
  refine n_call .no rfl rfl rfl (C.useG (st_get_i (k := k) hT.st hinv (by omega)) fun v g10 n10 hw10 hn10 hx10 hq => ?_)
  obtain ⟨c10, e10, ok10, rfl, hE10, hf10, hS10, k10⟩ := hq
  obtain ⟨a10, p10, rfl, hB10, hl10⟩ := hE10
  have k10' := k10.dn (m := n9) (by omega)
  have hT10 := hT.fc k10' hw9 ha hS10 (n' := n10) (by omega)
  have w10 : K0 g1 n1 g10 := w9.trans0 (StAt.lowC hq.1 (by omega) k10') (Nat.le_refl _)
  refine nM rfl (nO (s_ext rfl rfl (nO (s_ext rfl rfl (n_op .no (q := 17) rfl (s_al zl_28 (nO (sSw rfl rfl sz_28 rfl rfl ?_))))))))
  refine nA rfl (n_nil ?_)
  repeat first | refine Na ?_ | refine Nb ?_ | refine Nc ?_ | refine Nd ?_ | refine Ne ?_
  refine w_gen fun g11 n11 hg11 hn11 hwg11 => ?_
  have z11 : g10 (n9 + 17) = none := hx10 _ (by omega) (hw9.none (by omega))
  have k11 : K0 g10 n10 g11 := by rw [hg11]; exact Kp.add (Kp.add (Kp.refl _ _ _) z11 _) z11 _
  obtain ⟨q11, hqq⟩ : ∃ q, q = n9 + 17 := ⟨_, rfl⟩
  have b11 : g11 q11 = some (.cells (entC e10 (.slice a10 e10.val.length p10)) 0 false) := by rw [hg11, hqq]; exact gs_same _ _ _
  have hT11 := hT10.kp0 (n' := n11) k11 hw10 (by omega)
  have w11 : K0 g1 n1 g11 := w10.trans0 (k11.dn (m := n1) (by omega)) (Nat.le_refl _)
  have hB11 := hB10.at.kp0 k11 hw10
  have y22 := w11.at0 hw1 y20
  rw [← hqq]
  have hq11 : n9 ≤ q11 := by omega
  clear hg11
  repeat first | refine Na ?_ | refine Nb ?_ | refine Nc ?_ | refine Nd ?_ | refine Ne ?_
  refine w_reg 12 rfl rfl (j' := 12) (nM rfl (nM rfl (nM rfl (nO (s_ia rfl rfl el_52 (by first | assumption | omega) (nO (sL rfl ag_9 ?_)))))))
  refine n_call .no rfl rfl rfl (C.useG (rget_c (k := k) hT11.rs (by omega) (by omega)) fun v g12 n12 hw12 hn12 hx12 hq => ?_)
  obtain ⟨c12, e12, ok12, rfl, hE12, hf12, hR12, k12⟩ := hq
  obtain ⟨a12, p12, rfl, hB12, hl12⟩ := hE12
  have k12' := k12.dn (m := n11) (by omega)
  have hT12 := hT11.fcr k12' hwg11 ha hR12 (n' := n12) (by omega)
  have w12 : K0 g1 n1 g12 := w11.trans0 (StAt.lowC hqr.1 (by omega) k12') (Nat.le_refl _)
  have b12 := k12'.at hwg11 b11 (fun hf => by have := hf.1; omega)
  have hBB := hB11.kp k12' hwg11 (FC.nob _)
  refine nM rfl (nO (s_ext rfl rfl (nO (s_ext rfl rfl (n_op .no (q := 9) rfl (s_al zl_28 (nO (sSw rfl rfl sz_28 rfl rfl ?_))))))))
  refine nA rfl (n_nil ?_)
  repeat first | refine Na ?_ | refine Nb ?_ | refine Nc ?_ | refine Nd ?_ | refine Ne ?_
  refine w_gen fun g13 n13 hg13 hn13 hwg13 => ?_
  have z13 : g12 (n11 + 9) = none := hx12 _ (by omega) (hwg11.none (by omega))
  have k13 : K0 g12 n12 g13 := by rw [hg13]; exact Kp.add (Kp.add (Kp.refl _ _ _) z13 _) z13 _
  have b13 : g13 (n11 + 9) = some (.cells (entC e12 (.slice a12 e12.val.length p12)) 0 false) := by rw [hg13]; exact gs_same _ _ _
  have b13' := k13.at0 hw12 b12
  have hT13 := hT12.kp0 (n' := n13) k13 hw12 (by omega)
  have w13 : K0 g1 n1 g13 := w12.trans0 (k13.dn (m := n1) (by omega)) (Nat.le_refl _)
  have hBB13 := hBB.kp0 k13 hw12
  have hB13 := hB12.kp0 k13 hw12
  clear hg13
  have hee : e10 = e12 ∧ ok10 = ok12 := by
   rcases hf10 with ⟨p1, p2⟩ | ⟨p1, p2, p3⟩ <;> rcases hf12 with ⟨q1, q2⟩ | ⟨q1, q2, q3⟩
   ·rw [p1] at q1; cases q1; exact ⟨rfl, by rw [p2, q2]⟩
   ·rw [p1] at q1; cases q1
   ·rw [p1] at q1; cases q1
   ·exact ⟨by rw [p2, q2], by rw [p3, q3]⟩
  obtain ⟨rfl, rfl⟩ := hee
  repeat first | refine Na ?_ | refine Nb ?_ | refine Nc ?_ | refine Nd ?_ | refine Ne ?_
  refine w_reg 9 rfl rfl (j' := 9) (nM rfl (nM rfl (nO (s_bin rfl rfl (bi_d un_4 rfl) ?_))))
  refine nM rfl (nY rfl rfl (bne_self_eq_false _) (sLf rfl ag_28 sz_28 ?_))
  refine nY rfl rfl (bne_self_eq_false _) (sLf rfl ag_28 sz_28 ?_)
  refine n_call (.yes rfl rfl (bne_self_eq_false _)) rfl rfl rfl (C.use (eqEntry_c hBB13 hB13) fun v g14 n14 hw14 hn14 hq => ?_)
  obtain ⟨⟨b, rfl, hb14⟩, k14⟩ := hq
  obtain rfl : b = true := hb14.2 rfl
  refine nY rfl rfl (bne_self_eq_false _) (s_not rfl (nO (s_pf rfl (bne_self_eq_false _) rfl (n_nil (Nc (w_no rfl (rfl) ?_))))))
  repeat first | refine Na ?_ | refine Nb ?_ | refine Nc ?_ | refine Nd ?_ | refine Ne ?_
  repeat first | refine Na ?_ | refine Nb ?_ | refine Nc ?_ | refine Nd ?_ | refine Ne ?_
  refine w_reg 3 rfl rfl (j' := 3) (nM rfl (nO (s_bin rfl rfl (by first | exact bi_inc (by omega) | exact bi_add rfl (by omega) (by omega)) ?_)))
  refine nA rfl (n_nil ?_)
  exact z_round (j + 1) ⟨rfl, rfl, rfl, rfl, rfl, rfl, trivial⟩ ⟨by omega, by omega, w13.trans0 (k14.dn (m := n1) (by omega)) (Nat.le_refl _), _, _, _, _, _, _, hinv.read.up (by omega), hhist.read, hT13.kp0 (k14.dn (by omega)) hwg13 (by omega)⟩ (by omega)
 clear hinv hhist hT8 w8
 rintro _ f g9 n9 hw9 ⟨hn9, w9, S, sl, lv, rsl, L, all, hinv, hhist, hT⟩
 have hrc9 := hT.rs.cell
 have hrd := hinv.reads
 have hLl := hT.len hinv
 have hli := hT.rs.rl.list
 repeat first | refine Na ?_ | refine Nb ?_ | refine Nc ?_ | refine Nd ?_ | refine Ne ?_
 refine w_reg 8 rfl rfl (j' := 8) (nM rfl (nN rfl (nO (s_fa0 rfl fo_72_4 (nO (sL rfl ag_2 ?_))))))
 refine nO (s_bin rfl rfl (r := .int .i64 (S.reads + 1)) (by first | exact bi_add (by omega) (by omega) (by omega) | exact bi_add rfl (by omega) (by omega)) ?_)
 refine nN rfl (nO (s_fa0 rfl fo_72_4 (nO (sS rfl rfl sz_2 rfl rfl ?_))))
 refine n_nil ?_
 repeat first | refine Na ?_ | refine Nb ?_ | refine Nc ?_ | refine Nd ?_ | refine Ne ?_
 refine w_gen fun g10 n10 hg10 hn10 hwg10 => ?_
 have hR10 : RsAt g10 r me lr lv rsl { S with reads := S.reads + 1 } L := by rw [hg10]; exact hT.rs.put hw9 (S' := { S with reads := S.reads + 1 }) rfl rfl rfl
 have k10 : Kp (FC r) g9 n9 g10 := by rw [hg10]; exact Kp.set (Kp.refl _ _ _) (FC.of hrc9) _
 have hT10 := hT.fcr (n' := n10) k10 hw9 ha hR10 (by omega)
 have w10 : K0 g1 n1 g10 := w9.trans0 (StAt.lowC hqr.1 (by omega) k10) (Nat.le_refl _)
 clear hg10
 have hrc10 := hT10.rs.cell
 repeat first | refine Na ?_ | refine Nb ?_ | refine Nc ?_ | refine Nd ?_ | refine Ne ?_
 refine w_drw (T6 21 34) [(0, []), (2, []), (3, []), (4, []), (5, []), (1, [5]), (6, []), (7, [])] 8 (by kernel_rfl) rfl rfl (j' := 8) (dM rfl rfl (dM rfl rfl (dO rfl rfl (s_nil rfl ⟨⟨rfl, rfl⟩, (dO rfl rfl (s_fa0 rfl fo_72_1 ⟨⟨rfl, rfl⟩, (dT rfl rfl rfl (sL rfl ag_48 ⟨clash_nil, ?_⟩))⟩))⟩))))
 refine d_call rfl .no rfl rfl rfl (call_rd rfl) (C.use (st_list_i hT10.st hinv (by omega)) fun v g11 n11 hw11 hn11 hq => ?_)
 obtain ⟨hE11, hS11, k11⟩ := hq
 refine ⟨?_, ?_⟩
 ·have k11' := k11.dn (m := n10) (by omega)
  have q := (k11'.at hwg10 hrc10 (fun hf => ha.c.1 hf.1)).trans hrc10.symm
  repeat' (first | exact trivial | exact q | apply And.intro)
 have k11' := k11.dn (m := n10) (by omega)
 have hT11 := hT10.fc k11' hwg10 ha hS11 (n' := n11) (by omega)
 have w11 : K0 g1 n1 g11 := w10.trans0 (StAt.lowC hq.1 (by omega) k11') (Nat.le_refl _)
 rw [hli] at hE11
 refine d_call rfl .no rfl rfl rfl call_nil (C.use (eqEntries_c hE11.rd hT11.rs.ents (by omega)) fun v g12 n12 hw12 hn12 hq => ?_)
 obtain ⟨⟨b, rfl, hb12⟩, k12⟩ := hq
 refine ⟨kept_nil, ?_⟩
 obtain rfl : b = true := hb12.2 rfl
 have k12' := k12.dn (m := n11) (by omega)
 have hT12 := hT11.kp0 (n' := n12) k12' hw11 (by omega)
 have w12 : K0 g1 n1 g12 := w11.trans0 (k12'.dn (m := n1) (by omega)) (Nat.le_refl _)
 refine dO rfl rfl (s_not rfl ⟨⟨rfl, rfl⟩, (d_nil (Nc (w_no rfl (rfl) (Ne (Nc (Na (w_reg 7 rfl rfl (j' := 7) (nM rfl (n_call .no rfl rfl rfl (C.use (st_asked hT12.st) fun v g13 n13 hw13 hn13 hq => ?_))))))))))⟩)
 obtain ⟨rfl, k13⟩ := hq
 have k13' := k13.dn (m := n12) (by omega)
 have hT13 := hT12.kp0 (n' := n13) k13' hw12 (by omega)
 have w13 : K0 g1 n1 g13 := w12.trans0 (k13'.dn (m := n1) (by omega)) (Nat.le_refl _)
 refine nM rfl (nO (s_ext rfl rfl (nO (s_ext rfl rfl (nA rfl (nA rfl (n_nil ?_)))))))
 have hrc13 := hT13.rs.cell
 refine Nc (Na (w_reg 14 rfl rfl (j' := 14) (nM rfl (nM rfl (nN rfl (nO (s_fa0 rfl fo_72_4 (nO (sL rfl ag_2 ?_)))))))))
 refine nO (s_bin rfl rfl rfl (nM rfl (nG rfl rfl (bne_self_eq_false _) rfl (nG rfl rfl (bne_self_eq_false _) rfl (nY rfl rfl (bne_self_eq_false _) (s_nil rfl (nY rfl rfl (bne_self_eq_false _) (s_fa0 rfl fo_72_5 (nY rfl rfl (bne_self_eq_false _) (sL rfl ag_2 ?_))))))))))
 refine nY rfl rfl (bne_self_eq_false _) (s_bin rfl rfl rfl (nO (s_pf rfl (bne_self_eq_false _) rfl (n_nil (Nc (w_no rfl (bne_self_eq_false _) ?_))))))
 repeat first | refine Na ?_ | refine Nb ?_ | refine Nc ?_ | refine Nd ?_ | refine Ne ?_
 repeat first | refine Na ?_ | refine Nb ?_ | refine Nc ?_ | refine Nd ?_ | refine Ne ?_
 refine w_reg 3 rfl rfl (j' := 17) (nM rfl (nO (s_bin rfl rfl (by first | exact bi_inc (by omega) | exact bi_add rfl (by omega) (by omega)) ?_)))
 refine nA rfl (n_nil ?_)
 exact z_round (i + 1) ⟨rfl, rfl, rfl, rfl, rfl, trivial⟩ ⟨e1, e2, by omega, w13, _, _, _, _, _, _, hinv.read.up (by omega), hhist.read, hT13.up (by omega)⟩ (by omega)

end Go.Proofs.YtehmailaabjdjaaGreat
