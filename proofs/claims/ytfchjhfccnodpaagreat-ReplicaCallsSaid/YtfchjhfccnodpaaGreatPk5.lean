/-
  interrexlaw25.ReplicaCalls: the law for good numbers. No condition but begun. / CALLS THAT ARE KNOWN ALREADY, for the evaluator. No condition. / A SECOND EVALUATOR OF CLOSED CALLS, made for the kernel: it goes on by handing over, its tables are tries. No condition. / The tries of the second evaluator. No condition. / What the second evaluator's pieces say, where they say yes. No condition. / The quick ways of the second evaluator, each against what the operation is. No condition. / Whole numbers. No condition. / The long way, and the quick ways that may take it. No condition. / The quick ways of conversions, slices, append. No condition. / The quick way of append. No condition. / An operation made ready, against the operation. No condition. / Every operation made ready is the operation. No condition. / Frames of the second evaluator, and regions in the order of the text. No condition. / Regions in the order of the text. No condition. / Regions in the order of the text: all of them. No condition. / Drawn orders: operations that touch no name need not be kept. No condition. / Drawn orders: calls, and one operation. No condition. / Drawn orders: one operation, done. No condition. / Drawn orders: what may be looked at. No condition. / Drawn orders: a region. No condition. / Drawn orders: all operations. No condition. / Code in the second evaluator. No condition. / Functions in the second evaluator. No condition. / Calls reckoned by the second evaluator; calls that are known already. No condition. / A call that is known is known with other names, too. No condition. / A call that is known, with its names turned: the theorem. No condition. / A call that is known, with its names turned: looked up. No condition.
-/
import Derived.Test.YtfchjhfccnodpaaGreatPk4
import Derived.Test.YtfchjhfccnodpaaGreatPk2
section
open Go.Proofs
namespace Go.Proofs.YtfchjhfccnodpaaGreat
set_option linter.unusedSimpArgs false
set_option linter.unusedVariables false
set_option maxRecDepth 100000

theorem RepAt.map {b : Nat} {g : Gm} {r rl c el q a : Nat} {me base : Int} {pack : Bool} {asked kind id at_ : Int} {out : Bool} {x i k v : Int}
    (h : RepAt b g r rl c el q a me base pack asked kind id at_ out x i k v) {m : Nat} {es : List MapEntry} {ck : Nat} (hm : g m = some (.map es ck)) (o : AObj) : RepAt b (gset g m o) r rl c el q a me base pack asked kind id at_ out x i k v := by
  have ne : ∀ {y : Nat} {cs : List Value} {z : Nat} {ro : Bool}, g y = some (.cells cs z ro) → gset g m o y = some (.cells cs z ro) := fun {y cs z ro} hy => by
    rw [gs_ne (fun e => by subst e; rw [hm] at hy; cases hy)]; exact hy
  exact ⟨ne h.hr, ne h.hrl, ne h.hc, ne h.hel, ne h.hq, ne h.ha, h.br⟩

theorem bi_rem {P : Program} {t : TypeId} {a b c : Int} (h0 : b ≠ 0) (h : a.tmod b = c) : binS P .rem t (.int .i64 a) (.int .i64 b) = some (.int .i64 c) := by
  subst h
  simp only [binS, if_true, intV, if_neg h0]

theorem repCallsGood_c (hB : BegunOk) {g : Gm} {n : Nat} {me life : Int} {pack : Bool} {a : Option Addr} {cc : Nat} {ts : List Int} (ht : Ints g (.slice a ts.length cc) ts) (h0 : 0 ≤ me) (h7 : me ≤ 7) (l0 : 0 ≤ life) (l1 : life ≤ 1000000) :
    C 4 #[.int .i64 me, .int .i64 life, .slice a ts.length cc, .bool pack] g n fun u g' n' => u = .bool true ∧ K0 g n g' := by
  refine c_in4 Tryz.func4 rfl Tryz.ntmps4 rfl fun hw => (Na (w_reg 1 rfl rfl (j' := 1) (nA rfl (n_nil (Nc (Na (w_reg 2 rfl rfl (j' := 3) (n_call .no rfl rfl rfl (C.use (hB _ _) fun v g1 n1 hw1 hn1 hq => ?_)))))))))
  obtain ⟨rfl, rfl⟩ := hq
  refine nA rfl (n_nil (Nc (Na (Na (w_reg 2 rfl rfl (j' := 2) (nM rfl (nO (s_not rfl (n_nil (Nc (w_no rfl (rfl) (Ne (Nc (Na (w_reg 5 rfl rfl (j' := 7) (nM rfl (nM rfl (nM rfl (n_call .no rfl rfl rfl (C.use (replNew_c h0 h7 l0 l1) fun v g2 n2 hw2 hn2 hq => ?_))))))))))))))))))))
  obtain ⟨r, rl, c, el, q, a', rfl, A2, k2⟩ := hq
  refine nA rfl (n_nil (Nc (Na (Na (w_reg 14 rfl rfl (j' := 14) (nM rfl (nO (s_bin rfl rfl rfl (nM rfl (nG rfl rfl (decide_eq_false (by omega)) rfl (nY rfl rfl (decide_eq_false (by omega)) (s_bin rfl rfl rfl (nO (s_pf rfl (decide_eq_false (by omega)) rfl (nM rfl (nG rfl rfl (decide_eq_false (by omega)) rfl (nY rfl rfl (decide_eq_false (by omega)) (s_bin rfl rfl rfl (nO (s_pf rfl (decide_eq_false (by omega)) rfl (nM rfl (nG rfl rfl (decide_eq_false (by omega)) rfl (nY rfl rfl (decide_eq_false (by omega)) (s_bin rfl rfl rfl (nO (s_pf rfl (decide_eq_false (by omega)) rfl (n_nil (Nc (w_no rfl (decide_eq_false (by omega)) (Ne (Nc (Na (w_reg 2 rfl rfl (j' := 16) (n_op .no (q := 14) rfl (s_mm (nA rfl (n_nil ?_)))))))))))))))))))))))))))))))))))))
  have hI2 : Ints g2 (.slice a ts.length cc) ts := SlC.kp0 ht k2 (hw.up (by omega))
  refine Nc (Na (w_reg 1 rfl rfl (j' := 17) (nA rfl (n_nil (Nc (Na (Na (w_reg 1 rfl rfl (j' := 18) (nA rfl (n_nil ?_))))))))))
  repeat first | refine Na ?_ | refine Nb ?_ | refine Nc ?_ | refine Nd ?_ | refine Ne ?_
  refine w_loop (β := Nat × Int) (fun x => [(0, .int .i64 me), (1, .int .i64 life), (2, .slice a ts.length cc), (10, .pointer (some ⟨r, 0, none⟩)), (11, .map (some (n2 + 14))), (12, .int .i64 x.2), (13, .int .i64 x.1)])
    (fun x g' n' => x.1 ≤ 30 ∧ x.1 ≤ ts.length ∧ 0 ≤ x.2 ∧ x.2 ≤ 500 * x.1 ∧ n2 + 14 < n' ∧ K0 g1 n g' ∧ ∃ id at_ out asked kind xx i k v ks, RepAt (n1 + 7) g' r rl c el q a' me (life * 1048576) pack asked kind id at_ out xx i k v ∧ 0 ≤ id ∧ id ≤ x.1 ∧ 0 ≤ at_ ∧ at_ ≤ x.2 ∧ IMap g' (n2 + 14) ks ∧ ∀ k ∈ ks, k < life * 1048576 + 2 * id)
    (fun x => 30 - x.1) (0, 0) ⟨rfl, rfl, rfl, rfl, rfl, rfl, rfl, trivial⟩ ?_ ?_
  · refine ⟨by omega, by omega, by omega, by omega, by omega, Kp.new (k2.dn (by omega)) (by omega) _, 0, 0, false, 0, 0, 0, 0, 0, 0, [], ?_, by omega, by omega, by omega, by omega, ⟨[], 0, gs_same _ _ _, ?_, rfl⟩, by simp⟩
    · exact A2.k0 (Kp.new (Kp.refl _ _ _) (by omega) _) hw2
    · exact ⟨by simp, by simp, by simp⟩
  rintro ⟨i, now⟩ f g3 n3 hw3 ⟨i1, i2, t1, t2, hn3, k3, id, at_, out, asked, kind, xx, ii, kk, v, ks, A3, d1, d2, d3, d4, hM, hks⟩
  simp only at i1 i2 t1 t2 d2 d4
  by_cases hc : i < ts.length
  rotate_left
  · repeat first | refine Na ?_ | refine Nb ?_ | refine Nc ?_ | refine Nd ?_ | refine Ne ?_
    refine w_reg 8 rfl rfl (j' := 8) (nM rfl (nM rfl (nO (s_len rfl rfl un_31 rfl (nO (s_bin rfl rfl rfl (nM rfl (n_sk rfl rfl (decide_eq_false (by omega)) (n_sk rfl rfl (decide_eq_false (by omega)) (nO (s_pf rfl (decide_eq_false (by omega)) rfl (n_nil (Nc (w_no rfl (rfl) ?_))))))))))))))
    refine w_exit rfl ?_
    repeat first | refine Na ?_ | refine Nb ?_ | refine Nc ?_ | refine Nd ?_ | refine Ne ?_
    refine w_reg 22 rfl rfl (j' := 30) (nM rfl (nM rfl (n_call .no rfl rfl rfl (C.use (repLeads_c A3) fun v g30 n30 hw30 hn30 hq => ?_))))
    obtain ⟨rfl, k30⟩ := hq
    have A30 := A3.k0 k30 (hw3.up (by omega))
    refine nO (s_not rfl (nM rfl (nG rfl rfl (rfl) rfl (n_call (.yes rfl rfl (rfl)) rfl rfl rfl (C.use (repTerm_c A30) fun v g31 n31 hw31 hn31 hq => ?_)))))
    obtain ⟨rfl, k31⟩ := hq
    have A31 := A30.k0 k31 (hw30.up (by omega))
    unfold i0
    refine nY rfl rfl (rfl) (s_bin rfl rfl rfl (nO (s_pt rfl (rfl) rfl (nM rfl (nG rfl rfl (rfl) rfl (n_call (.yes rfl rfl (rfl)) rfl rfl rfl (C.use (repCache_c A31) fun v g32 n32 hw32 hn32 hq => ?_)))))))
    obtain ⟨rfl, k32⟩ := hq
    have A32 := A31.k0 k32 (hw31.up (by omega))
    unfold p0
    refine n_call (.yes rfl rfl (rfl)) rfl rfl rfl (C.use (cacheRev_c A32.hc) fun v g33 n33 hw33 hn33 hq => ?_)
    obtain ⟨rfl, k33⟩ := hq
    have A33 := A32.k0 k33 (hw32.up (by omega))
    unfold i0
    refine nY rfl rfl (rfl) (s_bin rfl rfl rfl (nO (s_pt rfl (rfl) rfl (nM rfl (nG rfl rfl (rfl) rfl (n_call (.yes rfl rfl (rfl)) rfl rfl rfl (C.use (repAssumed_c A33) fun v g34 n34 hw34 hn34 hq => ?_)))))))
    obtain ⟨rfl, k34⟩ := hq
    refine nY rfl rfl (rfl) (s_len rfl rfl un_83 rfl (nY rfl rfl (rfl) (s_bin rfl rfl rfl (nO (s_pt rfl (rfl) rfl (nA rfl (n_nil (Nc (Nf (z_r1 rfl rfl ?_))))))))))
    exact ⟨rfl, ((k3.trans0 (k30.dn (m := n) (by omega)) (by omega)).trans0 ((k31.dn (m := n) (by omega)).trans0 (k32.dn (m := n) (by omega)) (by omega)) (by omega)).trans0 ((k33.dn (m := n) (by omega)).trans0 (k34.dn (m := n) (by omega)) (by omega)) (by omega)⟩
  by_cases hc2 : i < 30
  rotate_left
  · repeat first | refine Na ?_ | refine Nb ?_ | refine Nc ?_ | refine Nd ?_ | refine Ne ?_
    refine w_reg 8 rfl rfl (j' := 8) (nM rfl (nM rfl (nO (s_len rfl rfl un_31 rfl (nO (s_bin rfl rfl rfl (nM rfl (nG rfl rfl (decide_eq_true (by omega)) rfl (nY rfl rfl (decide_eq_true (by omega)) (s_bin rfl rfl rfl (nO (s_pt rfl (decide_eq_true (by omega)) rfl (n_nil (Nc (w_no rfl (decide_eq_false (by omega)) ?_)))))))))))))))
    refine w_exit rfl ?_
    repeat first | refine Na ?_ | refine Nb ?_ | refine Nc ?_ | refine Nd ?_ | refine Ne ?_
    refine w_reg 22 rfl rfl (j' := 30) (nM rfl (nM rfl (n_call .no rfl rfl rfl (C.use (repLeads_c A3) fun v g30 n30 hw30 hn30 hq => ?_))))
    obtain ⟨rfl, k30⟩ := hq
    have A30 := A3.k0 k30 (hw3.up (by omega))
    refine nO (s_not rfl (nM rfl (nG rfl rfl (rfl) rfl (n_call (.yes rfl rfl (rfl)) rfl rfl rfl (C.use (repTerm_c A30) fun v g31 n31 hw31 hn31 hq => ?_)))))
    obtain ⟨rfl, k31⟩ := hq
    have A31 := A30.k0 k31 (hw30.up (by omega))
    unfold i0
    refine nY rfl rfl (rfl) (s_bin rfl rfl rfl (nO (s_pt rfl (rfl) rfl (nM rfl (nG rfl rfl (rfl) rfl (n_call (.yes rfl rfl (rfl)) rfl rfl rfl (C.use (repCache_c A31) fun v g32 n32 hw32 hn32 hq => ?_)))))))
    obtain ⟨rfl, k32⟩ := hq
    have A32 := A31.k0 k32 (hw31.up (by omega))
    unfold p0
    refine n_call (.yes rfl rfl (rfl)) rfl rfl rfl (C.use (cacheRev_c A32.hc) fun v g33 n33 hw33 hn33 hq => ?_)
    obtain ⟨rfl, k33⟩ := hq
    have A33 := A32.k0 k33 (hw32.up (by omega))
    unfold i0
    refine nY rfl rfl (rfl) (s_bin rfl rfl rfl (nO (s_pt rfl (rfl) rfl (nM rfl (nG rfl rfl (rfl) rfl (n_call (.yes rfl rfl (rfl)) rfl rfl rfl (C.use (repAssumed_c A33) fun v g34 n34 hw34 hn34 hq => ?_)))))))
    obtain ⟨rfl, k34⟩ := hq
    refine nY rfl rfl (rfl) (s_len rfl rfl un_83 rfl (nY rfl rfl (rfl) (s_bin rfl rfl rfl (nO (s_pt rfl (rfl) rfl (nA rfl (n_nil (Nc (Nf (z_r1 rfl rfl ?_))))))))))
    exact ⟨rfl, ((k3.trans0 (k30.dn (m := n) (by omega)) (by omega)).trans0 ((k31.dn (m := n) (by omega)).trans0 (k32.dn (m := n) (by omega)) (by omega)) (by omega)).trans0 ((k33.dn (m := n) (by omega)).trans0 (k34.dn (m := n) (by omega)) (by omega)) (by omega)⟩
  repeat first | refine Na ?_ | refine Nb ?_ | refine Nc ?_ | refine Nd ?_ | refine Ne ?_
  refine w_reg 8 rfl rfl (j' := 8) (nM rfl (nM rfl (nO (s_len rfl rfl un_31 rfl (nO (s_bin rfl rfl rfl (nM rfl (nG rfl rfl (decide_eq_true (by omega)) rfl (nY rfl rfl (decide_eq_true (by omega)) (s_bin rfl rfl rfl (nO (s_pt rfl (decide_eq_true (by omega)) rfl (n_nil (Nc (w_yes rfl (decide_eq_true (by omega)) ?_)))))))))))))))
  repeat first | refine Na ?_ | refine Nb ?_ | refine Nc ?_ | refine Nd ?_ | refine Ne ?_
  have hI3 : Ints g3 (.slice a ts.length cc) ts := SlC.kp0 ht k3 hw
  obtain ⟨l6, o6, c6, cl6, ro6, x1, x2, x3⟩ := SlC.one hI3 hc (w := .int .i64 ts[i]) (by rw [List.getElem?_map, List.getElem?_eq_getElem hc]; rfl)
  cases x1
  repeat first | refine Na ?_ | refine Nb ?_ | refine Nc ?_ | refine Nd ?_ | refine Ne ?_
  refine w_reg 9 rfl rfl (j' := 17) (nM rfl (nM rfl (nM rfl (nO (s_ia rfl rfl el_31 (by first | assumption | omega) (nO (sL rfl ag_2 ?_)))))))
  refine nO (s_min rfl rfl rfl (nO (s_max rfl rfl rfl (nO (s_bin rfl rfl (r := .int .i64 ((now + max 0 (min ts[i] 500)))) (by first | exact bi_add (by omega) (by omega) (by omega) | exact bi_add rfl (by omega) (by omega)) ?_)))))
  refine nA rfl (n_nil ?_)
  have hd0 : 0 ≤ max 0 (min ts[i] 500) := by omega
  have hd1 : max 0 (min ts[i] 500) ≤ 500 := by omega
  generalize max 0 (min ts[i] 500) = dd at hd0 hd1
  generalize hnow : now + dd = now'
  by_cases hgo : out = false ∨ 200 ≤ now' - at_
  · refine Nc (Na (w_reg 5 rfl rfl (j' := 22) (nM rfl (nM rfl (n_call .no rfl rfl rfl (C.use (stepA_c A3 h0 h7 (by omega) (by omega) d3 (by omega) (by omega) d1 (by omega) hgo) fun v g4 n4 hw4 hn4 hq => ?_))))))
    obtain ⟨⟨l4, o4, cp4, w4, rfl, hS4, hB4⟩, A4, k4⟩ := hq
    have hk43 : Kp (fun x _ => x = rl ∨ x = r) g3 n3 g4 := k4.dn (by omega)
    have hmr : n2 + 14 ≠ rl ∧ n2 + 14 ≠ r := by
      obtain ⟨es, ck, q1, q2, q3⟩ := hM
      exact ⟨fun e => by rw [e] at q1; have := q1.symm.trans A3.hrl; simp [reliC] at this, fun e => by rw [e] at q1; have := q1.symm.trans A3.hr; simp [replC] at this⟩
    have hM4 : IMap g4 (n2 + 14) ks := by
      obtain ⟨es, ck, q1, q2, q3⟩ := hM
      exact ⟨es, ck, hk43 _ _ (hw3 _ _ q1) q1 (fun e => e.elim hmr.1 hmr.2), q2, q3⟩
    have kk4 : K0 g1 n g4 := (k3.z.trans (hk43.dn (m := n) (by omega)) (by omega) (fun x o _ h _ => h)).low0 (fun x o e => by have := A3.br; rcases e with rfl | rfl <;> omega) (by omega)
    have hkey : life * 1048576 + 2 * (id + 1) - 1 ∉ ks := fun h => by have := hks _ h; omega
    refine nO (s_len rfl rfl un_69 rfl (nM rfl (n_nil ?_)))
    repeat first | refine Na ?_ | refine Nb ?_ | refine Nc ?_ | refine Nd ?_ | refine Ne ?_
    refine w_loop (β := Nat) (fun j => [(0, .int .i64 me), (1, .int .i64 life), (2, .slice (some ⟨l6, o6, none⟩) ts.length cc), (10, .pointer (some ⟨r, 0, none⟩)), (11, .map (some (n2 + 14))), (12, .int .i64 now'), (13, .int .i64 (i : Int)), (63, .slice (some ⟨l4, o4, none⟩) 1 cp4), (64, .int .i64 1), (65, .int .i64 (j : Int))])
      (fun j g' n' => j ≤ 1 ∧ n4 ≤ n' ∧ K0 g1 n g' ∧ RepAt (n1 + 7) g' r rl c el q a' me (life * 1048576) pack (id + 1) 2 (id + 1) now' true me (id + 1) 2 0 ∧ (j = 0 → IMap g' (n2 + 14) ks ∧ SlC g' 1 (.slice (some ⟨l4, o4, none⟩) 1 cp4) 1 [w4] ∧ BytesAt g' w4 (wire0 me (life * 1048576 + 2 * (id + 1) - 1))) ∧ (j = 1 → IMap g' (n2 + 14) (ks ++ [life * 1048576 + 2 * (id + 1) - 1])))
      (fun j => 1 - j) 0 ⟨rfl, rfl, rfl, rfl, rfl, rfl, rfl, rfl, rfl, rfl, trivial⟩ ⟨by omega, by omega, kk4, A4, fun _ => ⟨hM4, hS4, hB4⟩, fun h => by cases h⟩ ?_
    rintro j f g5 n5 hw5 ⟨hj, hn5, k5, A5, hj0, hj1⟩
    by_cases hj2 : j = 0
    · subst hj2
      obtain ⟨hM5, hS5, hB5⟩ := hj0 rfl
      repeat first | refine Na ?_ | refine Nb ?_ | refine Nc ?_ | refine Nd ?_ | refine Ne ?_
      refine w_reg 1 rfl rfl (j' := 1) (nO (s_bin rfl rfl rfl (n_nil (Nc (Na (w_yes rfl (rfl) ?_))))))
      repeat first | refine Na ?_ | refine Nb ?_ | refine Nc ?_ | refine Nd ?_ | refine Ne ?_
      obtain ⟨l7, o7, c7, cl7, ro7, y1, y2, y3⟩ := SlC.one hS5 (i := 0) (by omega) (w := w4) rfl
      cases y1
      repeat first | refine Na ?_ | refine Nb ?_ | refine Nc ?_ | refine Nd ?_ | refine Ne ?_
      refine w_reg 3 rfl rfl (j' := 4) (nO (s_ia rfl rfl el_69 (by first | assumption | omega) (nO (sL rfl ag_43 ?_))))
      refine nA rfl (n_nil (Nc (Na (w_reg 8 rfl rfl (j' := 12) (nM rfl (n_call .no rfl rfl rfl (C.useG (get0_c hB5 h0 h7 (by omega) (by omega)) fun v g6 n6 hw6 hn6 hx6 hq => ?_)))))))
      obtain ⟨rfl, k6⟩ := hq
      unfold call0
      refine nM rfl (nO (s_ext rfl rfl (nO (s_ext rfl rfl (n_op .no (q := 9) rfl (s_al zl_76 (nO (sSw rfl rfl sz_76 rfl rfl ?_))))))))
      refine nA rfl (n_nil ?_)
      repeat first | refine Na ?_ | refine Nb ?_ | refine Nc ?_ | refine Nd ?_ | refine Ne ?_
      refine w_gen fun g7 n7 hg7 hn7 hwg7 => ?_
      have k57 : K0 g5 n5 g7 := by
        rw [hg7]
        refine Kp.add (Kp.add (k6.dn (by omega)) (hw5.none (by omega)) _) (hw5.none (by omega)) _
      have c7 : g7 (n5 + 9) = some (.cells (call0 me (life * 1048576 + 2 * (id + 1) - 1) 2) 0 false) := by
        rw [hg7]; exact gs_same _ _ _
      have A7 := A5.k0 k57 hw5
      have hM7 : IMap g7 (n2 + 14) ks := by
        obtain ⟨es, ck, q1, q2, q3⟩ := hM5
        exact ⟨es, ck, k57.at0 hw5 q1, q2, q3⟩
      have kk7 : K0 g1 n g7 := k5.trans0 (k57.dn (m := n) (by omega)) (by omega)
      clear hg7
      unfold call0 at c7
      repeat first | refine Na ?_ | refine Nb ?_ | refine Nc ?_ | refine Nd ?_ | refine Ne ?_
      refine w_reg 6 rfl rfl (j' := 6) (nO (s_fa0 rfl fo_76_1 (nO (sL rfl ag_2 ?_))))
      refine nM rfl (n_op .no (q := 3) rfl (s_shl (j := 20) rfl rfl rfl (by decide) ?_))
      have e : IntKind.i64.wrap (life * 2 ^ 20) = life * 1048576 := by rw [wrap_id (by omega) (by omega)]; omega
      rw [e]
      have hodd : (2 * (id + 1) - 1).tmod 2 = 1 := by rw [Int.tmod_eq_emod_of_nonneg (by omega)]; omega
      refine nO (s_bin rfl rfl (r := .int .i64 ((2 * (id + 1) - 1))) (by first | exact bi_sub (by omega) (by omega) (by omega) | exact bi_sub rfl (by omega) (by omega)) ?_)
      refine nA rfl (n_nil (Nc (Na (Na (w_reg 46 rfl rfl (j' := 52) (nM rfl (nO (s_not rfl (nM rfl (nY rfl rfl (rfl) (s_fa0 rfl fo_76_0 (nY rfl rfl (rfl) (sL rfl ag_3 ?_)))))))))))))
      refine nG rfl rfl (rfl) rfl (nY rfl rfl (rfl) (s_bin rfl rfl rfl (nO (s_pf rfl (rfl) rfl (nM rfl (nG rfl rfl ((bne_self_eq_false _)) rfl (nY rfl rfl ((bne_self_eq_false _)) (s_bin rfl rfl rfl (nO (s_pf rfl ((bne_self_eq_false _)) rfl (nM rfl (nG rfl rfl (decide_eq_false (by omega)) rfl (nY rfl rfl (decide_eq_false (by omega)) (s_bin rfl rfl rfl (nO (s_pf rfl (decide_eq_false (by omega)) rfl (nM rfl (nG rfl rfl (decide_eq_false (by omega)) rfl (nY rfl rfl (decide_eq_false (by omega)) (s_fa0 rfl fo_76_1 (nY rfl rfl (decide_eq_false (by omega)) (sL rfl ag_2 ?_))))))))))))))))))))))
      refine n_op (.yes rfl rfl (decide_eq_false (by omega))) (q := 26) rfl (s_lkI un_30 un_2 zp_4 rfl rfl hM7 hkey (nO (s_pf rfl (decide_eq_false (by omega)) rfl (nM rfl (nG rfl rfl (rfl) rfl (nY rfl rfl (rfl) (s_bin rfl rfl (r := .int .i64 (1)) (bi_rem (by omega) (by first | rfl | assumption | omega)) (nY rfl rfl (rfl) (s_bin rfl rfl rfl (nY rfl rfl (rfl) (s_fa0 rfl fo_76_2 (nY rfl rfl (rfl) (sL rfl ag_3 ?_)))))))))))))
      refine nY rfl rfl (rfl) (s_bin rfl rfl rfl (nG rfl rfl (rfl) rfl (nSk rfl rfl (rfl) rfl 2 rfl (nY rfl rfl (rfl) (s_pt rfl (rfl) rfl (nY rfl rfl (rfl) (s_bin rfl rfl (bi_d un_4 rfl) ?_)))))))
      refine nO (s_pf rfl (rfl) rfl (nM rfl (nG rfl rfl (rfl) rfl (nY rfl rfl (rfl) (s_bin rfl rfl (r := .int .i64 (1)) (bi_rem (by omega) (by first | rfl | assumption | omega)) (nY rfl rfl (rfl) (s_bin rfl rfl rfl (nG rfl rfl (rfl) rfl (nSk rfl rfl (rfl) rfl 2 rfl (nY rfl rfl (rfl) (s_pf rfl (rfl) rfl (nO (s_pf rfl (rfl) rfl (n_nil (Nc (w_no rfl (rfl) (Ne (Nc (w_reg 4 rfl rfl (j' := 56) (nM rfl (nO (s_fa0 rfl fo_76_1 (nO (sL rfl ag_2 ?_))))))))))))))))))))))))
      refine n_op .no (q := 55) rfl (s_msetI un_30 un_2 rfl rfl rfl hM7 hkey fun o ho => (n_nil ?_))
      repeat first | refine Na ?_ | refine Nb ?_ | refine Nc ?_ | refine Nd ?_ | refine Ne ?_
      repeat first | refine Na ?_ | refine Nb ?_ | refine Nc ?_ | refine Nd ?_ | refine Ne ?_
      refine w_reg 2 rfl rfl (j' := 58) (nO (s_bin rfl rfl (by first | exact bi_inc (by omega) | exact bi_add rfl (by omega) (by omega)) ?_))
      refine nM rfl (n_nil ?_)
      refine z_round 1 ⟨rfl, rfl, rfl, rfl, rfl, rfl, rfl, rfl, rfl, rfl, trivial⟩ ⟨by omega, by omega, Kp.new kk7 (by omega) _, ?_, fun h => by (cases h), fun _ => ho _ (gs_same _ _ _)⟩ (by omega)
      obtain ⟨es, ck, q1, q2, q3⟩ := hM7
      exact A7.map q1 o
    · obtain rfl : j = 1 := by omega
      repeat first | refine Na ?_ | refine Nb ?_ | refine Nc ?_ | refine Nd ?_ | refine Ne ?_
      refine w_reg 1 rfl rfl (j' := 1) (nO (s_bin rfl rfl rfl (n_nil (Nc (Na (w_no rfl (rfl) ?_))))))
      refine w_exit rfl ?_
      repeat first | refine Na ?_ | refine Nb ?_ | refine Nc ?_ | refine Nd ?_ | refine Ne ?_
      refine w_reg 3 rfl rfl (j' := 4) (nM rfl (nO (s_bin rfl rfl (by first | exact bi_inc (by omega) | exact bi_add rfl (by omega) (by omega)) ?_)))
      refine nA rfl (n_nil ?_)
      refine z_round (i + 1, now') ⟨rfl, rfl, rfl, rfl, rfl, rfl, rfl, trivial⟩ ⟨by show i + 1 ≤ 30; omega, by show i + 1 ≤ ts.length; omega, by show 0 ≤ now'; omega, by show now' ≤ 500 * ((i + 1 : Nat) : Int); omega, by omega, k5, id + 1, now', true, id + 1, 2, me, id + 1, 2, 0, _, A5, by omega, by show id + 1 ≤ ((i + 1 : Nat) : Int); omega, by omega, by show now' ≤ now'; omega, hj1 rfl, fun k hk => ?_⟩ (by show 30 - (i + 1) < 30 - i; omega)
      rcases List.mem_append.1 hk with hk | hk
      · have := hks _ hk; omega
      · have := List.mem_singleton.1 hk; omega
  · obtain rfl : out = true := by
      cases out
      · exact absurd (.inl rfl) hgo
      · rfl
    have hlt : now' - at_ < 200 := by
      have := fun h => hgo (.inr h)
      omega
    refine Nc (Na (w_reg 5 rfl rfl (j' := 22) (nM rfl (nM rfl (n_call .no rfl rfl rfl (C.use (stepW_c A3 d3 (by omega) (by omega) hlt) fun v g4 n4 hw4 hn4 hq => ?_))))))
    obtain ⟨rfl, k4⟩ := hq
    refine nO (s_len rfl rfl un_69 rfl (nM rfl (n_nil ?_)))
    repeat first | refine Na ?_ | refine Nb ?_ | refine Nc ?_ | refine Nd ?_ | refine Ne ?_
    refine w_loop (β := Unit) (fun _ => [(0, .int .i64 me), (1, .int .i64 life), (2, .slice (some ⟨l6, o6, none⟩) ts.length cc), (10, .pointer (some ⟨r, 0, none⟩)), (11, .map (some (n2 + 14))), (12, .int .i64 now'), (13, .int .i64 (i : Int)), (64, .int .i64 0), (65, .int .i64 0)])
      (fun _ g' n' => n3 ≤ n' ∧ K0 g3 n3 g') (fun _ => 0) () ⟨rfl, rfl, rfl, rfl, rfl, rfl, rfl, rfl, rfl, trivial⟩ ⟨by omega, k4.dn (by omega)⟩ ?_
    rintro ⟨⟩ f g5 n5 hw5 ⟨hn5, k5⟩
    repeat first | refine Na ?_ | refine Nb ?_ | refine Nc ?_ | refine Nd ?_ | refine Ne ?_
    refine w_reg 1 rfl rfl (j' := 1) (nO (s_bin rfl rfl rfl (n_nil (Nc (Na (w_no rfl (rfl) ?_))))))
    refine w_exit rfl ?_
    repeat first | refine Na ?_ | refine Nb ?_ | refine Nc ?_ | refine Nd ?_ | refine Ne ?_
    refine w_reg 3 rfl rfl (j' := 4) (nM rfl (nO (s_bin rfl rfl (by first | exact bi_inc (by omega) | exact bi_add rfl (by omega) (by omega)) ?_)))
    refine nA rfl (n_nil ?_)
    refine z_round (i + 1, now') ⟨rfl, rfl, rfl, rfl, rfl, rfl, rfl, trivial⟩ ⟨by show i + 1 ≤ 30; omega, by show i + 1 ≤ ts.length; omega, by show 0 ≤ now'; omega, by show now' ≤ 500 * ((i + 1 : Nat) : Int); omega, by omega, k3.trans0 (k5.dn (m := n) (by omega)) (by omega), id, at_, true, asked, kind, xx, ii, kk, v, ks, A3.k0 k5 hw3, d1, by show id ≤ ((i + 1 : Nat) : Int); omega, d3, by show at_ ≤ now'; omega, ?_, hks⟩ (by show 30 - (i + 1) < 30 - i; omega)
    obtain ⟨es, ck, q1, q2, q3⟩ := hM
    exact ⟨es, ck, k5.at0 hw3 q1, q2, q3⟩

end Go.Proofs.YtfchjhfccnodpaaGreat
end

section
namespace Go.Proofs.YtfchjhfccnodpaaGreat
set_option linter.unusedSimpArgs false
set_option linter.unusedVariables false

theorem rel_forget {ρ : LMap} {σ τ : Heap} {w : World} (h : Rel ρ σ w) (hs : ∀ l o, τ.get l = some o → σ.get l = some o) (hn : τ.nxt = σ.nxt) : Rel ρ τ w :=
  ⟨fun l o hl => h.dom l o (hs l o hl), fun l l' o o' p p' hne h1 h2 => h.excl l l' o o' p p' hne (hs _ _ h1) (hs _ _ h2), fun l p hl => by rw [hn]; exact h.bnd l p hl⟩

theorem acall_forget {P : Program} {f : FuncId} {args : Array Value} {σ : Heap} {R R' : Value → Heap → Prop} (h : ACall P f args σ R)
    (hr : ∀ v τ, R v τ → ∃ τ', (∀ l o, τ'.get l = some o → τ.get l = some o) ∧ τ'.nxt = τ.nxt ∧ R' v τ') : ACall P f args σ R' := by
  intro ρ w args' h1 h2
  refine (h ρ w args' h1 h2).mono ?_
  rintro e w' ⟨v, v', ρ', τ, he, b, c, d, x, r⟩
  obtain ⟨τ', hs, hn, hR⟩ := hr v τ r
  refine ⟨v, v', ρ', τ', he, rel_forget b hs hn, ⟨c.le, c.os, c.tape, c.output, c.size, by rw [hn]; exact c.nxt, c.blk, ?_⟩, ⟨d.old, fun l hl hg => ?_⟩, x, hR⟩
  · rintro q k hk ⟨l, o, p, k1, k2, k3, k4⟩
    exact c.own q k hk ⟨l, o, p, hs _ _ k1, k2, k3, k4⟩
  · cases ht : τ'.get l with
    | none => rfl
    | some o => have h3 := hs l o ht; rw [d.gone l hl hg] at h3; cases h3

abbrev Ent := List (Nat × AObj)

def lk : Ent → Nat → Option AObj
  | [], _ => none
  | (x, o) :: r, l => match lk r l with
    | some o' => some o'
    | none => if l = x then some o else none

def S.puts : Ent → S → Option S
  | [], s => some s
  | (l, o) :: r, s => (s.upd l (some o)).bind (S.puts r)

def S.clears : Ent → S → Option S
  | [], s => some s
  | (l, _) :: r, s => (s.upd l none).bind (S.clears r)

theorem upd_t {s s' : S} {l : Nat} {o : Option AObj} (h : s.upd l o = some s') (x : Nat) : s'.t.get x = if x = l then o else s.t.get x := by
  have := congrArg (fun h => Heap.get h x) (S.upd_heap h)
  simpa [S.heap, Heap.upd_get] using this

theorem upd_n {s s' : S} {l : Nat} {o : Option AObj} (h : s.upd l o = some s') : s'.nxt = s.nxt := by
  have := congrArg Heap.nxt (S.upd_heap h)
  simpa [S.heap] using this

theorem puts_get : ∀ {L : Ent} {s s' : S}, s.puts L = some s' → ∀ l, s'.t.get l = match lk L l with | some o => some o | none => s.t.get l
  | [], s, s', h, l => by cases h; rfl
  | (x, o) :: r, s, s', h, l => by
    simp only [S.puts, Option.bind_eq_some_iff] at h
    obtain ⟨s₁, h1, h2⟩ := h
    rw [puts_get h2 l]
    simp only [lk]
    cases lk r l with
    | some o' => rfl
    | none =>
      simp only
      rw [upd_t h1]
      by_cases e : l = x <;> simp [e]

theorem puts_n : ∀ {L : Ent} {s s' : S}, s.puts L = some s' → s'.nxt = s.nxt
  | [], s, s', h => by cases h; rfl
  | (x, o) :: r, s, s', h => by
    simp only [S.puts, Option.bind_eq_some_iff] at h
    obtain ⟨s₁, h1, h2⟩ := h
    rw [puts_n h2, upd_n h1]

theorem clears_get : ∀ {L : Ent} {s s' : S}, s.clears L = some s' → ∀ l, s'.t.get l = if l ∈ L.map (·.1) then none else s.t.get l
  | [], s, s', h, l => by cases h; simp
  | (x, o) :: r, s, s', h, l => by
    simp only [S.clears, Option.bind_eq_some_iff] at h
    obtain ⟨s₁, h1, h2⟩ := h
    rw [clears_get h2 l, upd_t h1]
    by_cases e : l = x
    · subst e; simp
    · simp only [List.map_cons, List.mem_cons, e, false_or, if_false]

theorem lk_mem : ∀ {L : Ent} {l : Nat} {o : AObj}, lk L l = some o → (l, o) ∈ L
  | [], l, o, h => by cases h
  | (x, p) :: r, l, o, h => by
    simp only [lk] at h
    cases hr : lk r l with
    | some o' => rw [hr] at h; cases h; exact List.mem_cons_of_mem _ (lk_mem hr)
    | none =>
      rw [hr] at h
      simp only at h
      split at h
      · rename_i e; cases h; subst e; exact List.mem_cons_self ..
      · cases h

theorem lk_none : ∀ {L : Ent} {l : Nat}, lk L l = none → l ∉ L.map (·.1)
  | [], l, _ => by simp
  | (x, p) :: r, l, h => by
    simp only [lk] at h
    cases hr : lk r l with
    | some o' => rw [hr] at h; cases h
    | none =>
      rw [hr] at h
      simp only at h
      split at h
      · cases h
      · rename_i e; simpa [e] using lk_none hr

structure Memo where
  f : FuncId
  args : Array Value
  pre : Ent
  n0 : Nat
  val : Value
  post : Ent
  n1 : Nat

def Memo.Ok (E : Env) (m : Memo) : Prop := ACall E.P m.f m.args ⟨lk m.pre, m.n0⟩ fun v τ => v = m.val ∧ τ.nxt = m.n1 ∧ ∀ l o, lk m.post l = some o → τ.get l = some o

def Memo.hit (m : Memo) (f : FuncId) (args : Array Value) (s : S) : Option (Value × S) :=
  if f = m.f then
    if s.nxt = m.n0 && eqVL (eqV 20) args.toList m.args.toList && m.pre.all (fun x => eqO (s.t.get x.1) (some x.2)) then
      ((s.clears m.pre).bind (S.puts m.post)).map fun s' => (m.val, ⟨s'.t, m.n1⟩)
    else none
  else none

theorem Memo.hit_sound {E : Env} {m : Memo} (hm : m.Ok E) {f : FuncId} {args : Array Value} {s s' : S} {v : Value} (h : m.hit f args s = some (v, s')) :
    ACall E.P f args s.heap fun u τ => u = v ∧ τ = s'.heap := by
  unfold Memo.hit at h
  split at h
  case isFalse => cases h
  rename_i hf
  split at h
  case isFalse => cases h
  rename_i hc
  simp only [Bool.and_eq_true, decide_eq_true_eq, List.all_eq_true] at hc
  obtain ⟨⟨hn, ha⟩, hp⟩ := hc
  have hargs : args = m.args := Array.ext' (eqVL_sound (eqV_sound 20) _ _ ha)
  subst hf hargs
  simp only [Option.map_eq_some_iff, Option.bind_eq_some_iff, Prod.mk.injEq] at h
  obtain ⟨s₂, ⟨s₁, h1, h2⟩, rfl, rfl⟩ := h
  let g : Heap := ⟨fun l => if l ∈ m.pre.map (·.1) then none else s.t.get l, 0⟩
  have hg : ∀ l, g.get l = if l ∈ m.pre.map (·.1) then none else s.t.get l := fun _ => rfl
  have hover : s.heap = Heap.over ⟨lk m.pre, m.n0⟩ g := by
    apply Heap.ext'
    · intro l
      simp only [Heap.over, hg, S.heap]
      by_cases hl : l ∈ m.pre.map (·.1)
      · rw [if_pos hl]
        simp only
        cases hk : lk m.pre l with
        | none => exact absurd hl (lk_none hk)
        | some o => exact eqO_sound (hp _ (lk_mem hk))
      · rw [if_neg hl]
        cases hs : s.t.get l with
        | some o => rfl
        | none =>
          simp only
          cases hk : lk m.pre l with
          | none => rfl
          | some o => exact absurd (List.mem_map_of_mem (f := (·.1)) (lk_mem hk)) hl
    · exact hn
  rw [hover]
  refine acall_forget (frame_over (g := g) ?_ hm) ?_
  · intro l o hl
    rw [hg] at hl
    split at hl
    · cases hl
    · rename_i hnm
      simp only
      cases hk : lk m.pre l with
      | none => rfl
      | some o => exact absurd (List.mem_map_of_mem (f := (·.1)) (lk_mem hk)) hnm
  · rintro u τ ⟨σ', ⟨rfl, hn1, hpost⟩, hdis, rfl⟩
    refine ⟨S.heap ⟨s₂.t, m.n1⟩, ?_, hn1.symm, rfl, rfl⟩
    intro l o hl
    simp only [S.heap] at hl
    rw [puts_get h2, clears_get h1] at hl
    cases hk : lk m.post l with
    | some o' =>
      rw [hk] at hl
      cases hl
      have h3 := hpost l o hk
      have h4 : g.get l = none := by
        cases hgl : g.get l with
        | none => rfl
        | some x => rw [hdis l x hgl] at h3; cases h3
      rw [Heap.over_none h4]; exact h3
    | none =>
      rw [hk] at hl
      simp only at hl
      exact Heap.over_some (by rw [hg]; exact hl)

def memoCF : List Memo → CF
  | [], _, _, _ => none
  | m :: r, f, args, s => match m.hit f args s with
    | some x => some x
    | none => memoCF r f args s

theorem memoCF_sound {E : Env} : ∀ {M : List Memo}, (∀ m ∈ M, m.Ok E) → CfOk E (memoCF M)
  | [], _, f, args, s, v, s', h => by cases h
  | m :: r, hM, f, args, s, v, s', h => by
    simp only [memoCF] at h
    split at h
    · rename_i x hx
      cases h
      exact Memo.hit_sound (hM m (List.mem_cons_self ..)) hx
    · exact memoCF_sound (fun m hm => hM m (List.mem_cons_of_mem _ hm)) f args s v s' h

def orCF (I J : CF) : CF := fun f args s => match I f args s with
  | some x => some x
  | none => J f args s

theorem orCF_sound {E : Env} {I J : CF} (hI : CfOk E I) (hJ : CfOk E J) : CfOk E (orCF I J) := by
  intro f args s v s' h
  unfold orCF at h
  split at h
  · rename_i x hx; cases h; exact hI _ _ _ _ _ hx
  · exact hJ _ _ _ _ _ h

def Memo.check (E : Env) (T : Tab) (I : CF) (n : Nat) (m : Memo) : Bool :=
  match S.puts m.pre ⟨.leaf, m.n0⟩ with
  | some s => match evFunc E I (evC E T I n) m.f m.args s with
    | some (v, s') => eqV 20 v m.val && decide (s'.nxt = m.n1) && m.post.all fun x => eqO (s'.t.get x.1) (some x.2)
    | none => false
  | none => false

theorem Memo.check_sound {E : Env} {T : Tab} {I : CF} (hE : EnvOk E) (hA : AllOk E T) (hI : CfOk E I) (hm : E.P.follows .mixedOrders = true) {n : Nat} {m : Memo} (h : m.check E T I n = true) : m.Ok E := by
  unfold Memo.check at h
  split at h
  case h_2 => cases h
  rename_i s hs
  split at h
  case h_2 => cases h
  rename_i v s' hr
  simp only [Bool.and_eq_true, decide_eq_true_eq, List.all_eq_true] at h
  obtain ⟨⟨h1, h2⟩, h3⟩ := h
  have hv := eqV_sound 20 _ _ h1
  have key := closed_call hE hA hI hm hr
  have hh : s.heap = ⟨lk m.pre, m.n0⟩ := by
    apply Heap.ext'
    · intro l
      simp only [S.heap]
      rw [puts_get hs]
      cases lk m.pre l <;> rfl
    · exact puts_n hs
  rw [hh] at key
  refine key.mono ?_
  rintro u τ ⟨rfl, rfl⟩
  exact ⟨hv, h2, fun l o ho => eqO_sound (h3 _ (lk_mem ho))⟩

end Go.Proofs.YtfchjhfccnodpaaGreat
end

section
namespace Go.Proofs.YtfchjhfccnodpaaGreat
set_option linter.unusedSimpArgs false
set_option linter.unusedVariables false


structure Q4 (α : Type) where
  a : α
  b : α
  c : α
  d : α

noncomputable def QT (α : Type) (n : Nat) : Type := Nat.rec (motive := fun _ => Type) α (fun _ T => Q4 T) n

inductive Pt : Nat → Type where
  | z : Pt 0
  | a {n : Nat} (p : Pt n) : Pt (n + 1)
  | b {n : Nat} (p : Pt n) : Pt (n + 1)
  | c {n : Nat} (p : Pt n) : Pt (n + 1)
  | d {n : Nat} (p : Pt n) : Pt (n + 1)

noncomputable def sel4 (n : Nat) {α : Type} (a b c d : α) : α :=
  Nat.rec (motive := fun _ => α) a (fun m _ => Nat.rec (motive := fun _ => α) b (fun m _ => Nat.rec (motive := fun _ => α) c (fun _ _ => d) m) m) n

noncomputable def ptN (n : Nat) : Nat → Pt n :=
  Nat.rec (motive := fun n => Nat → Pt n) (fun _ => .z) (fun _ ih l => sel4 (Nat.land l 3) (.a (ih (Nat.shiftRight l 2))) (.b (ih (Nat.shiftRight l 2))) (.c (ih (Nat.shiftRight l 2))) (.d (ih (Nat.shiftRight l 2)))) n

noncomputable def qrep {α : Type} (x : α) (n : Nat) : QT α n := Nat.rec (motive := fun n => QT α n) x (fun _ t => ⟨t, t, t, t⟩) n

abbrev FT (d : Nat) := QT Value d

inductive BObj where
  | s (o : AObj)
  | b (n : Nat) (fr : QT Value 5) (sz : Nat)

abbrev HT := QT (Option BObj) 11

noncomputable def pget {n : Nat} : Pt n → QT Value n → (Value → Bool) → Bool :=
  Pt.rec (motive := fun n _ => QT Value n → (Value → Bool) → Bool)
    (fun t k => k t)
    (fun _ ih t k => Q4.rec (motive := fun _ => Bool) (fun a _ _ _ => ih a k) t)
    (fun _ ih t k => Q4.rec (motive := fun _ => Bool) (fun _ b _ _ => ih b k) t)
    (fun _ ih t k => Q4.rec (motive := fun _ => Bool) (fun _ _ c _ => ih c k) t)
    (fun _ ih t k => Q4.rec (motive := fun _ => Bool) (fun _ _ _ d => ih d k) t)

noncomputable def pset (v : Value) {n : Nat} : Pt n → QT Value n → (QT Value n → Bool) → Bool :=
  Pt.rec (motive := fun n _ => QT Value n → (QT Value n → Bool) → Bool)
    (fun t k => k v)
    (fun _ ih t k => Q4.rec (motive := fun _ => Bool) (fun a b c d => ih a fun a => k ⟨a, b, c, d⟩) t)
    (fun _ ih t k => Q4.rec (motive := fun _ => Bool) (fun a b c d => ih b fun b => k ⟨a, b, c, d⟩) t)
    (fun _ ih t k => Q4.rec (motive := fun _ => Bool) (fun a b c d => ih c fun c => k ⟨a, b, c, d⟩) t)
    (fun _ ih t k => Q4.rec (motive := fun _ => Bool) (fun a b c d => ih d fun d => k ⟨a, b, c, d⟩) t)

noncomputable def hgetN : (n : Nat) → Nat → QT (Option BObj) n → (Option BObj → Bool) → Bool :=
  Nat.rec (motive := fun n => Nat → QT (Option BObj) n → (Option BObj → Bool) → Bool) (fun _ t k => k t)
    (fun _ ih l t k => Q4.rec (motive := fun _ => Bool) (fun a b c d => sel4 (Nat.land l 3) (ih (Nat.shiftRight l 2) a k) (ih (Nat.shiftRight l 2) b k) (ih (Nat.shiftRight l 2) c k) (ih (Nat.shiftRight l 2) d k)) t)

noncomputable def hsetN (o : Option BObj) : (n : Nat) → Nat → QT (Option BObj) n → (QT (Option BObj) n → Bool) → Bool :=
  Nat.rec (motive := fun n => Nat → QT (Option BObj) n → (QT (Option BObj) n → Bool) → Bool) (fun _ t k => k o)
    (fun _ ih l t k => Q4.rec (motive := fun _ => Bool) (fun a b c d => sel4 (Nat.land l 3) (ih (Nat.shiftRight l 2) a fun a => k ⟨a, b, c, d⟩) (ih (Nat.shiftRight l 2) b fun b => k ⟨a, b, c, d⟩)
      (ih (Nat.shiftRight l 2) c fun c => k ⟨a, b, c, d⟩) (ih (Nat.shiftRight l 2) d fun d => k ⟨a, b, c, d⟩)) t)

noncomputable def hget (l : Nat) (t : HT) (k : Option BObj → Bool) : Bool := Bool.rec false (hgetN 11 l t k) (Nat.ble l 4194303)
noncomputable def hsetB (l : Nat) (o : Option BObj) (t : HT) (k : HT → Bool) : Bool := Bool.rec false (hsetN o 11 l t k) (Nat.ble l 4194303)
noncomputable def toBO (o : Option AObj) : Option BObj := Option.rec (motive := fun _ => Option BObj) none (fun x => some (.s x)) o
noncomputable def hset (l : Nat) (o : Option AObj) (t : HT) (k : HT → Bool) : Bool := hsetB l (toBO o) t k

noncomputable def natK (n : Nat) (k : Nat → Bool) : Bool := Nat.rec (motive := fun _ => Bool) (k 0) (fun m _ => k (Nat.succ m)) n

noncomputable def hfun : (n : Nat) → Nat → QT (Option BObj) n → Option BObj :=
  Nat.rec (motive := fun n => Nat → QT (Option BObj) n → Option BObj) (fun _ t => t)
    (fun _ ih l t => Q4.rec (motive := fun _ => Option BObj) (fun a b c d => sel4 (Nat.land l 3) (ih (Nat.shiftRight l 2) a) (ih (Nat.shiftRight l 2) b) (ih (Nat.shiftRight l 2) c) (ih (Nat.shiftRight l 2) d)) t)
noncomputable def pfun {n : Nat} : Pt n → QT Value n → Value :=
  Pt.rec (motive := fun n _ => QT Value n → Value)
    (fun t => t)
    (fun _ ih t => Q4.rec (motive := fun _ => Value) (fun a _ _ _ => ih a) t)
    (fun _ ih t => Q4.rec (motive := fun _ => Value) (fun _ b _ _ => ih b) t)
    (fun _ ih t => Q4.rec (motive := fun _ => Value) (fun _ _ c _ => ih c) t)
    (fun _ ih t => Q4.rec (motive := fun _ => Value) (fun _ _ _ d => ih d) t)
noncomputable def rowL (n : Nat) (fr : QT Value 5) : List Value := (List.range n).map fun i => pfun (ptN 5 i) fr
noncomputable def BObj.toA : BObj → AObj := BObj.rec (motive := fun _ => AObj) (fun o => o) (fun n fr sz => .cells (rowL n fr) sz false)
noncomputable def toAO (o : Option BObj) : Option AObj := Option.rec (motive := fun _ => Option AObj) none (fun b => some b.toA) o
noncomputable def fHeap (t : HT) (n : Nat) : Heap := ⟨fun l => toAO (Bool.rec none (hfun 11 l t) (Nat.ble l 4194303)), n⟩

noncomputable def buildQ (n : Nat) : (Nat → Value) → QT Value n :=
  Nat.rec (motive := fun n => (Nat → Value) → QT Value n) (fun f => f 0)
    (fun _ ih f => ⟨ih fun i => f (Nat.mul 4 i), ih fun i => f (Nat.add (Nat.mul 4 i) 1), ih fun i => f (Nat.add (Nat.mul 4 i) 2), ih fun i => f (Nat.add (Nat.mul 4 i) 3)⟩) n
noncomputable def getL (i : Nat) : List Value → Value :=
  Nat.rec (motive := fun _ => List Value → Value) (fun l => List.rec (motive := fun _ => Value) undef (fun v _ _ => v) l) (fun _ ih l => List.rec (motive := fun _ => Value) undef (fun _ l _ => ih l) l) i
noncomputable def bigO (n : Nat) (z : List Value) (sz : Nat) : BObj := .b n (buildQ 5 fun i => getL i z) sz

abbrev LK := Nat × Option (List Nat)
noncomputable def fTmp {d : Nat} (N : Nat) (fr : FT d) (t : Nat) : Value := if t < N then pfun (ptN d t) fr else undef
noncomputable def fEv {d : Nat} (lk : LK) (fr : FT d) : Ev
  | .tmp t => match lk.2 with
    | none => some (fTmp lk.1 fr t)
    | some l => if l.contains t then some (fTmp lk.1 fr t) else none
  | .const v => if plainV v then some v else none
  | .func f => some (.func (.func f) #[] #[])
  | .global _ => none

abbrev DS := List Deferred
abbrev KS (d : Nat) := FT d → DS → HT → Nat → Bool
abbrev Cl := FuncId → List Value → HT → Nat → (Value → HT → Nat → Bool) → Bool

inductive QS (d : Nat) where
  | t (p : Pt d)
  | c (v : Value)

noncomputable def fsT {d : Nat} (p : Pt d) (fr : FT d) (k : Value → Bool) : Bool := pget p fr k
noncomputable def fsC {d : Nat} (v : Value) (fr : FT d) (k : Value → Bool) : Bool := k v
noncomputable def QS.get {d : Nat} : QS d → FT d → (Value → Bool) → Bool := QS.rec (motive := fun _ => FT d → (Value → Bool) → Bool) fsT fsC

inductive IB where
  | add | sub | mul | lss | gtr | leq | geq | eql | neq | quo | rem | shl | shr | and | or | xor

inductive FO (d : Nat) where
  | mv (x : QS d)
  | ldc (a : Pt d)
  | lda (s : Nat) (a : Pt d)
  | st (s : Nat) (a : Pt d) (x : QS d)
  | fa (o : Nat) (a : Pt d)
  | nc (a : QS d)
  | bi (f : IB) (x y : QS d) (o : Oper)
  | ln (x : QS d)
  | ia (s : Nat) (x i : QS d)
  | call (f : FuncId) (xs : List (QS d))
  | gen (o : Oper)
  | pk (c x y : QS d)
  | al (z : List Value)
  | bx (x : QS d)
  | bs (x : QS d) (o : Oper)
  | cv (kd : IntKind) (x : QS d) (o : Oper)
  | nt (x : QS d)
  | ex (i : Nat) (x : QS d)
  | fl (g : Bool) (s off : Nat) (x : QS d)
  | sl (s : Nat) (x : QS d) (lo hi : Option (QS d)) (o : Oper)
  | ap (s b : Nat) (x y : QS d) (o : Oper)
  | alb (n : Nat) (z : List Value)
  | bxb (n : Nat) (x : QS d)

inductive FOp (d : Nat) where
  | a (op : FO d) (dst : Pt d) (i : Nat) (lk : LK)
  | b (op : FO d) (i : Nat) (lk : LK)
  | g (p : Pt d) (w : Bool) (op : FO d) (dst : Option (Pt d)) (i : Nat) (lk : LK)
  | bad

abbrev KO := Value → List Nat → List Nat → DS → HT → Nat → Bool
abbrev Sp (d : Nat) := Env → Cl → FT d → DS → HT → Nat → Nat → LK → KO → Bool

noncomputable def nthK : Nat → List Value → (Value → Bool) → Bool :=
  Nat.rec (motive := fun _ => List Value → (Value → Bool) → Bool) (fun l k => List.rec (motive := fun _ => Bool) false (fun v _ _ => k v) l) (fun _ ih l k => List.rec (motive := fun _ => Bool) false (fun _ l _ => ih l k) l)
noncomputable def dropK : Nat → List Value → (List Value → Bool) → Bool :=
  Nat.rec (motive := fun _ => List Value → (List Value → Bool) → Bool) (fun l k => k l) (fun _ ih l k => List.rec (motive := fun _ => Bool) false (fun _ l _ => ih l k) l)
noncomputable def takeK (e : List Value) : Nat → List Value → (List Value → Bool) → Bool :=
  Nat.rec (motive := fun _ => List Value → (List Value → Bool) → Bool) (fun _ k => k e) (fun _ ih l k => List.rec (motive := fun _ => Bool) false (fun v l _ => ih l fun r => k (v :: r)) l)
noncomputable def layK : List Value → List Value → (List Value → Bool) → Bool :=
  List.rec (motive := fun _ => List Value → (List Value → Bool) → Bool) (fun l k => k l) (fun v _ ih l k => List.rec (motive := fun _ => Bool) false (fun _ l _ => ih l fun r => k (v :: r)) l)
noncomputable def spliceK (vs : List Value) : Nat → List Value → (List Value → Bool) → Bool :=
  Nat.rec (motive := fun _ => List Value → (List Value → Bool) → Bool) (layK vs) (fun _ ih l k => List.rec (motive := fun _ => Bool) false (fun v l _ => ih l fun r => k (v :: r)) l)
noncomputable def onesK (vs : List Value) (k : Bool) : Bool :=
  List.rec (motive := fun _ => Bool) k (fun v _ ih => match v with | .agg _ => false | .tuple _ => false | _ => ih) vs

noncomputable def vInt (z : Bool) (y : IntKind → Int → Bool) : Value → Bool :=
  Value.rec (motive_1 := fun _ => Bool) (motive_2 := fun _ => Bool) (motive_3 := fun _ => Bool) (fun _ => z) y (fun _ _ => z) (fun _ _ _ => z) (fun _ => z) (fun _ => z) (fun _ _ _ => z) (fun _ => z) (fun _ => z) (fun _ _ _ _ _ => z) z (fun _ _ _ => z) z (fun _ _ => z) (fun _ _ => z) (fun _ _ => z) z (fun _ _ _ _ => z)
noncomputable def vPtr (z : Bool) (y : Option Addr → Bool) : Value → Bool :=
  Value.rec (motive_1 := fun _ => Bool) (motive_2 := fun _ => Bool) (motive_3 := fun _ => Bool) (fun _ => z) (fun _ _ => z) (fun _ _ => z) (fun _ _ _ => z) (fun _ => z) y (fun _ _ _ => z) (fun _ => z) (fun _ => z) (fun _ _ _ _ _ => z) z (fun _ _ _ => z) z (fun _ _ => z) (fun _ _ => z) (fun _ _ => z) z (fun _ _ _ _ => z)
noncomputable def vSlc (z : Bool) (y : Option Addr → Nat → Nat → Bool) : Value → Bool :=
  Value.rec (motive_1 := fun _ => Bool) (motive_2 := fun _ => Bool) (motive_3 := fun _ => Bool) (fun _ => z) (fun _ _ => z) (fun _ _ => z) (fun _ _ _ => z) (fun _ => z) (fun _ => z) y (fun _ => z) (fun _ => z) (fun _ _ _ _ _ => z) z (fun _ _ _ => z) z (fun _ _ => z) (fun _ _ => z) (fun _ _ => z) z (fun _ _ _ _ => z)
noncomputable def vBool (x y z : Bool) : Value → Bool :=
  Value.rec (motive_1 := fun _ => Bool) (motive_2 := fun _ => Bool) (motive_3 := fun _ => Bool) (fun b => Bool.rec y x b) (fun _ _ => z) (fun _ _ => z) (fun _ _ _ => z) (fun _ => z) (fun _ => z) (fun _ _ _ => z) (fun _ => z) (fun _ => z) (fun _ _ _ _ _ => z) z (fun _ _ _ => z) z (fun _ _ => z) (fun _ _ => z) (fun _ _ => z) z (fun _ _ _ _ => z)
noncomputable def adK (z : Bool) (y : Nat → Nat → Bool) (a : Option Addr) : Bool :=
  Option.rec (motive := fun _ => Bool) z (fun a => Addr.rec (motive := fun _ => Bool) (fun l o s => Option.rec (motive := fun _ => Bool) (y l o) (fun _ => z) s) a) a
noncomputable def ptrK (v : Value) (k : Nat → Nat → Bool) : Bool := vPtr false (adK false k) v
noncomputable def sliceK (z : Bool) (v : Value) (k : Nat → Nat → Nat → Nat → Bool) : Bool := vSlc z (fun a n c => adK z (fun l o => k l o n c) a) v
noncomputable def cellsK (o : Option BObj) (k : List Value → Nat → Bool → Bool) : Bool :=
  Option.rec (motive := fun _ => Bool) false (fun b => BObj.rec (motive := fun _ => Bool) (fun o => AObj.rec (motive := fun _ => Bool) k (fun _ _ => false) (fun _ _ _ _ => false) o) (fun n fr sz => k (rowL n fr) sz false) b) o
noncomputable def ldK (o : Option BObj) (i : Nat) (k : Value → Bool) : Bool :=
  Option.rec (motive := fun _ => Bool) false (fun b => BObj.rec (motive := fun _ => Bool) (fun o => AObj.rec (motive := fun _ => Bool) (fun c _ _ => nthK i c k) (fun _ _ => false) (fun _ _ _ _ => false) o)
    (fun n fr sz => Bool.rec false (pget (ptN 5 i) fr k) (Nat.blt i n)) b) o
noncomputable def psetsK (n : Nat) (vs : List Value) : Nat → QT Value 5 → (QT Value 5 → Bool) → Bool :=
  List.rec (motive := fun _ => Nat → QT Value 5 → (QT Value 5 → Bool) → Bool) (fun o fr k => Bool.rec false (k fr) (Nat.ble o n))
    (fun v _ ih o fr k => Bool.rec false (pset v (ptN 5 o) fr fun fr => ih (Nat.succ o) fr k) (Nat.blt o n)) vs
noncomputable def stK (ob : Option BObj) (o : Nat) (vs : List Value) (k : BObj → Bool) : Bool :=
  Option.rec (motive := fun _ => Bool) false (fun b => BObj.rec (motive := fun _ => Bool)
    (fun x => AObj.rec (motive := fun _ => Bool) (fun c sz ro => Bool.rec (spliceK vs o c fun c => k (.s (.cells c sz false))) false ro) (fun _ _ => false) (fun _ _ _ _ => false) x)
    (fun n fr sz => Bool.rec false (psetsK n vs o fr fun fr => k (.b n fr sz)) (Nat.ble n 1024)) b) ob
noncomputable def valCells (v : Value) (k : List Value → Bool) : Bool :=
  match v with
  | .agg ⟨l⟩ => k l
  | v => k [v]

section
variable {d : Nat}
noncomputable def exMv (x : QS d) : Sp d := fun _ _ fr ds t n _ _ k => x.get fr fun v => k v [] [] ds t n
noncomputable def exLdc (a : Pt d) : Sp d := fun _ _ fr ds t n _ _ k =>
  pget a fr fun v => ptrK v fun l o => hget l t fun ob => ldK ob o fun v => k v [l] [] ds t n
noncomputable def exLda (s : Nat) (a : Pt d) : Sp d := fun _ _ fr ds t n _ _ k =>
  pget a fr fun v => ptrK v fun l o => hget l t fun ob => cellsK ob fun c _ _ => dropK o c fun c => takeK [] s c fun c => k (.agg ⟨c⟩) [l] [] ds t n
noncomputable def exSt (s : Nat) (a : Pt d) (x : QS d) : Sp d := fun _ _ fr ds t n _ _ k =>
  pget a fr fun v => ptrK v fun l o => x.get fr fun v => valCells v fun vs => Bool.rec false (onesK vs (hget l t fun ob => stK ob o vs fun b => hsetB l (some b) t fun t => k undef [l] [l] ds t n)) (Nat.beq vs.length s)
noncomputable def exFa (o : Nat) (a : Pt d) : Sp d := fun _ _ fr ds t n _ _ k =>
  pget a fr fun v => ptrK v fun l o' => k (.pointer (some ⟨l, Nat.add o' o, none⟩)) [] [] ds t n
noncomputable def exNc (x : QS d) : Sp d := fun _ _ fr ds t n _ _ k =>
  x.get fr fun v => match v with
    | .pointer (some _) => k v [] [] ds t n
    | .func (.func f) a b => k v [] [] ds t n
    | _ => false
noncomputable def exLn (x : QS d) : Sp d := fun _ _ fr ds t n _ _ k => x.get fr (vSlc false fun _ m _ => k (.int .i64 (.ofNat m)) [] [] ds t n)
noncomputable def exIa (s : Nat) (x i : QS d) : Sp d := fun _ _ fr ds t n _ _ k =>
  i.get fr (vInt false fun _ i => x.get fr fun v => sliceK false v fun l o m c => Int.rec (motive := fun _ => Bool) (fun i => Bool.rec false (k (.pointer (some ⟨l, Nat.add o (Nat.mul i s), none⟩)) [] [] ds t n) (Nat.blt i m)) (fun _ => false) i)
noncomputable def gBool (b : Bool) (k : Value → Bool) : Bool := Bool.rec (k (.bool false)) (k (.bool true)) b
noncomputable def hiK (kd : IntKind) : Nat := IntKind.rec (motive := fun _ => Nat) 127 32767 2147483647 9223372036854775807 255 65535 4294967295 18446744073709551615 kd
noncomputable def bitsK (kd : IntKind) : Nat := IntKind.rec (motive := fun _ => Nat) 8 16 32 64 8 16 32 64 kd
noncomputable def wrK (kd : IntKind) (r : Nat) (z : Bool) (k : Value → Bool) : Bool :=
  Bool.rec (IntKind.rec (motive := fun _ => Bool) z z z z (k (.int .u8 (.ofNat (Nat.mod r 256)))) (k (.int .u16 (.ofNat (Nat.mod r 65536)))) (k (.int .u32 (.ofNat (Nat.mod r 4294967296)))) (k (.int .u64 (.ofNat (Nat.mod r 18446744073709551616)))) kd)
    (k (.int kd (.ofNat r))) (Nat.ble r (hiK kd))
noncomputable def kdN (kd : IntKind) : Nat := IntKind.rec (motive := fun _ => Nat) 0 1 2 3 4 5 6 7 kd
noncomputable def sameK (kd kd' : IntKind) (z y : Bool) : Bool := Bool.rec z y (Nat.beq (kdN kd) (kdN kd'))
abbrev IBF := IntKind → IntKind → Nat → Nat → Bool → (Value → Bool) → Bool
noncomputable def ibAdd : IBF := fun kd kd' a b z k => sameK kd kd' z (wrK kd (Nat.add a b) z k)
noncomputable def ibSub : IBF := fun kd kd' a b z k => sameK kd kd' z (Bool.rec z (wrK kd (Nat.sub a b) z k) (Nat.ble b a))
noncomputable def ibMul : IBF := fun kd kd' a b z k => sameK kd kd' z (wrK kd (Nat.mul a b) z k)
noncomputable def ibLss : IBF := fun kd kd' a b z k => sameK kd kd' z (gBool (Nat.blt a b) k)
noncomputable def ibGtr : IBF := fun kd kd' a b z k => sameK kd kd' z (gBool (Nat.blt b a) k)
noncomputable def ibLeq : IBF := fun kd kd' a b z k => sameK kd kd' z (gBool (Nat.ble a b) k)
noncomputable def ibGeq : IBF := fun kd kd' a b z k => sameK kd kd' z (gBool (Nat.ble b a) k)
noncomputable def ibEql : IBF := fun kd kd' a b z k => sameK kd kd' z (gBool (Nat.beq a b) k)
noncomputable def ibNeq : IBF := fun kd kd' a b z k => sameK kd kd' z (Bool.rec (k (.bool true)) (k (.bool false)) (Nat.beq a b))
noncomputable def ibQuo : IBF := fun kd kd' a b z k => sameK kd kd' z (Nat.rec (motive := fun _ => Bool) z (fun b _ => wrK kd (Nat.div a (Nat.succ b)) z k) b)
noncomputable def ibRem : IBF := fun kd kd' a b z k => sameK kd kd' z (Nat.rec (motive := fun _ => Bool) z (fun b _ => k (.int kd (.ofNat (Nat.mod a (Nat.succ b))))) b)
noncomputable def ibShl : IBF := fun kd _ a b z k => Bool.rec z (wrK kd (Nat.shiftLeft a b) z k) (Nat.ble b (bitsK kd))
noncomputable def ibShr : IBF := fun kd _ a b z k => Bool.rec z (k (.int kd (.ofNat (Nat.shiftRight a b)))) (Nat.ble b (bitsK kd))
noncomputable def ibBit (f : Nat → Nat → Nat) : IBF := fun kd kd' a b z k => sameK kd kd' z (Bool.rec z (Bool.rec z (Bool.rec z (k (.int kd (.ofNat (f a b)))) (Nat.ble (f a b) (hiK kd))) (Nat.ble b (hiK kd))) (Nat.ble a (hiK kd)))
noncomputable def ibAnd : IBF := ibBit Nat.land
noncomputable def ibOr : IBF := ibBit Nat.lor
noncomputable def ibXor : IBF := ibBit Nat.xor
noncomputable def ibK : IB → IBF := IB.rec (motive := fun _ => IBF) ibAdd ibSub ibMul ibLss ibGtr ibLeq ibGeq ibEql ibNeq ibQuo ibRem ibShl ibShr ibAnd ibOr ibXor

noncomputable def happ (t : HT) (nm : Nat) (e : Eff) (k : HT → Bool) : Bool :=
  match e.wr with
  | some (l, o) => hset l o t fun t => match e.new with | some o => hset nm (some o) t k | none => k t
  | none => match e.new with | some o => hset nm (some o) t k | none => k t
noncomputable def exGen (o : Oper) : Sp d := fun E cl fr ds t n nm lk k =>
  match aop E (fEv lk fr) o with
  | some (.prim p) => match p.run (fHeap t n) nm with
    | some eff => if wrOk p eff then happ t nm eff fun t => k eff.val (tchOf p eff nm) (wrtOf eff nm) ds t n else false
    | none => false
  | some (.call f args) => cl f args.toList t n fun v t n => k v [] [] ds t n
  | some (.defer f cap args) => k undef [] [] (⟨.fn (.func f) cap, args⟩ :: ds) t n
  | none => false
noncomputable def natsK (a b : Value) (z : Bool) (k : IntKind → IntKind → Nat → Nat → Bool) : Bool :=
  vInt z (fun kd a => vInt z (fun kd' b => Int.rec (motive := fun _ => Bool) (fun a => Int.rec (motive := fun _ => Bool) (fun b => k kd kd' a b) (fun _ => z) b) (fun _ => z) a) b) a
noncomputable def exBi (f : IB) (x y : QS d) (o : Oper) : Sp d := fun E cl fr ds t n nm lk k =>
  x.get fr fun a => y.get fr fun b => natsK a b (exGen o E cl fr ds t n nm lk k) fun kd kd' a b => ibK f kd kd' a b (exGen o E cl fr ds t n nm lk k) fun v => k v [] [] ds t n
noncomputable def argsK (xs : List (QS d)) : FT d → (List Value → Bool) → Bool :=
  List.rec (motive := fun _ => FT d → (List Value → Bool) → Bool) (fun _ k => k []) (fun x _ ih fr k => x.get fr fun v => ih fr fun r => k (v :: r)) xs
noncomputable def exCall (f : FuncId) (xs : List (QS d)) : Sp d := fun _ cl fr ds t n _ _ k => argsK xs fr fun vs => cl f vs t n fun v t n => k v [] [] ds t n
noncomputable def exPk (c x y : QS d) : Sp d := fun _ _ fr ds t n _ _ k => c.get fr (vBool (x.get fr fun v => k v [] [] ds t n) (y.get fr fun v => k v [] [] ds t n) false)
noncomputable def exAl (z : List Value) : Sp d := fun _ _ fr ds t n nm _ k => hset nm (some (.cells z 0 false)) t fun t => k (.pointer (some ⟨nm, 0, none⟩)) [nm] [nm] ds t n
noncomputable def exBx (x : QS d) : Sp d := fun _ _ fr ds t n nm _ k => x.get fr fun v => valCells v fun z => hset nm (some (.cells z 0 false)) t fun t => k (.pointer (some ⟨nm, 0, none⟩)) [nm] [nm] ds t n
noncomputable def exAlb (m : Nat) (z : List Value) : Sp d := fun _ _ fr ds t n nm _ k => natK m fun m => hsetB nm (some (bigO m z 0)) t fun t => k (.pointer (some ⟨nm, 0, none⟩)) [nm] [nm] ds t n
noncomputable def exBxb (m : Nat) (x : QS d) : Sp d := fun _ _ fr ds t n nm _ k => x.get fr fun v => valCells v fun z => Bool.rec false (hsetB nm (some (bigO m z 0)) t fun t => k (.pointer (some ⟨nm, 0, none⟩)) [nm] [nm] ds t n) (Nat.beq z.length m)
noncomputable def exBs (x : QS d) (o : Oper) : Sp d := fun E cl fr ds t n nm lk k => x.get fr fun v => match v with
  | .agg _ => exGen o E cl fr ds t n nm lk k
  | .tuple _ => exGen o E cl fr ds t n nm lk k
  | v => hset nm (some (.cells [v] 1 false)) t fun t => k (.slice (some ⟨nm, 0, none⟩) 1 1) [nm] [nm] ds t n
noncomputable def exCv (kd : IntKind) (x : QS d) (o : Oper) : Sp d := fun E cl fr ds t n nm lk k => x.get fr
  (vInt false fun _ a => Int.rec (motive := fun _ => Bool) (fun a => wrK kd a (exGen o E cl fr ds t n nm lk k) fun v => k v [] [] ds t n) (fun _ => exGen o E cl fr ds t n nm lk k) a)
noncomputable def exNt (x : QS d) : Sp d := fun _ _ fr ds t n _ _ k => x.get fr (vBool (k (.bool false) [] [] ds t n) (k (.bool true) [] [] ds t n) false)
noncomputable def exEx (i : Nat) (x : QS d) : Sp d := fun _ _ fr ds t n _ _ k => x.get fr fun v => match v with
  | .tuple ⟨vs⟩ => nthK i vs fun v => k v [] [] ds t n
  | _ => false
noncomputable def exFl (g : Bool) (s off : Nat) (x : QS d) : Sp d := fun _ _ fr ds t n _ _ k => x.get fr fun v => match v with
  | .agg ⟨vs⟩ => Bool.rec (nthK off vs fun v => k v [] [] ds t n) (dropK off vs fun c => takeK [] s c fun c => k (.agg ⟨c⟩) [] [] ds t n) g
  | _ => false
noncomputable def bndK (x : Option (QS d)) (e : Nat) (fr : FT d) (k : Nat → Bool) : Bool :=
  match x with
  | none => k e
  | some x => x.get fr (vInt false fun _ i => Int.rec (motive := fun _ => Bool) k (fun _ => false) i)
noncomputable def exSl (s : Nat) (x : QS d) (lo hi : Option (QS d)) (o : Oper) : Sp d := fun E cl fr ds t n nm lk k => x.get fr fun v =>
  sliceK (exGen o E cl fr ds t n nm lk k) v fun l o m c => bndK hi m fr fun h => bndK lo 0 fr fun a => Bool.rec false (Bool.rec false
      (Nat.rec (motive := fun _ => Bool) (k (.slice (some ⟨l, o, none⟩) h c) [] [] ds t n)
        (fun a _ => hget l t fun ob => cellsK ob fun _ sz _ => Bool.rec false (k (.slice (some ⟨l, Nat.add o (Nat.mul (Nat.succ a) s), none⟩) (Nat.sub h (Nat.succ a)) (Nat.sub c (Nat.succ a))) [l] [] ds t n) (Nat.beq sz s)) a)
      (Nat.ble a h)) (Nat.ble h c)
noncomputable def exAp (s b : Nat) (x y : QS d) (o : Oper) : Sp d := fun E cl fr ds t n nm lk k => x.get fr fun xv => y.get fr fun yv =>
  sliceK (exGen o E cl fr ds t n nm lk k) yv fun l' o' m _ => Nat.rec (motive := fun _ => Bool) (exGen o E cl fr ds t n nm lk k) (fun m _ => 
    vSlc (exGen o E cl fr ds t n nm lk k) (fun ad q c => hget l' t fun ob => cellsK ob fun c' _ _ => dropK o' c' fun c' => takeK [] (Nat.mul (Nat.succ m) s) c' fun src => onesK src (Option.rec (motive := fun _ => Bool)
      (Bool.rec (exGen o E cl fr ds t n nm lk k) (Bool.rec false
        (hset nm (some (.cells src s false)) t fun t => k (.slice (some ⟨nm, 0, none⟩) (Nat.succ m) (Nat.succ m)) [l', nm] [nm] ds t n) (Nat.ble (Nat.mul (Nat.succ m) b) 140737488355328)) (Nat.beq (Nat.add q c) 0))
      (fun ad => adK (exGen o E cl fr ds t n nm lk k) (fun l o₁ => hget l t fun ob => cellsK ob fun cl₁ sz ro => Bool.rec
        (natK (Nat.add q (Nat.succ m)) fun qm => Bool.rec false (Bool.rec
          (Bool.rec false (dropK o₁ cl₁ fun d => takeK src (Nat.mul q s) d fun r => Bool.rec false
            (hset l none t fun t => hset nm (some (.cells r s false)) t fun t => k (.slice (some ⟨nm, 0, none⟩) qm qm) [l, l', nm] [l, nm] ds t n) (Nat.ble (Nat.mul qm b) 70368744177664)) (Nat.beq sz s))
          (spliceK src (Nat.add o₁ (Nat.mul q s)) cl₁ fun r => hset l (some (.cells r sz false)) t fun t => k (.slice (some ⟨l, o₁, none⟩) qm c) [l, l'] [l] ds t n)
          (Nat.ble qm c)) (Nat.ble q c))
        (exGen o E cl fr ds t n nm lk k) ro) (some ad)) ad)) xv) m

noncomputable def exOp : FO d → Sp d := FO.rec (motive := fun _ => Sp d) exMv exLdc exLda exSt exFa exNc exBi exLn exIa exCall exGen exPk exAl exBx exBs exCv exNt exEx exFl exSl exAp exAlb exBxb

noncomputable def putK (p : Option (Pt d)) (v : Value) (fr : FT d) (k : FT d → Bool) : Bool := Option.rec (motive := fun _ => Bool) (k fr) (fun p => pset v p fr k) p

abbrev SpO (d : Nat) := Env → Cl → Nat → FT d → DS → HT → Nat → KS d → Bool
noncomputable def exA (op : FO d) (p : Pt d) (i : Nat) (lk : LK) : SpO d := fun E cl base fr ds t n k => exOp op E cl fr ds t n (Nat.add base i) lk fun v _ _ ds t n => pset v p fr fun fr => k fr ds t n
noncomputable def exB (op : FO d) (i : Nat) (lk : LK) : SpO d := fun E cl base fr ds t n k => exOp op E cl fr ds t n (Nat.add base i) lk fun v _ _ ds t n => k fr ds t n
noncomputable def wantK (w : Bool) (y z : Bool) : Value → Bool := vBool (Bool.rec z y w) (Bool.rec y z w) z
noncomputable def exG (p : Pt d) (w : Bool) (op : FO d) (q : Option (Pt d)) (i : Nat) (lk : LK) : SpO d := fun E cl base fr ds t n k => pget p fr (wantK w
  (exOp op E cl fr ds t n (Nat.add base i) lk fun v _ _ ds t n => putK q v fr fun fr => k fr ds t n) (putK q undef fr fun fr => k fr ds t n))
noncomputable def exBad : SpO d := fun _ _ _ _ _ _ _ _ => false
noncomputable def exFOp : FOp d → SpO d := FOp.rec (motive := fun _ => SpO d) exA exB exG exBad

noncomputable def exOps (E : Env) (cl : Cl) (base : Nat) (xs : List (FOp d)) : FT d → DS → HT → Nat → KS d → Bool :=
  List.rec (motive := fun _ => FT d → DS → HT → Nat → KS d → Bool) (fun fr ds t n k => k fr ds t n)
    (fun x _ ih fr ds t n k => exFOp x E cl base fr ds t n fun fr ds t n => ih fr ds t n k) xs

noncomputable def keptF (dep : Dep) (D : List Rec) (i : Nat) (t t' : HT) : Bool := D.all fun d => d.alloc || d.tch.isEmpty || dep i d.i || d.tch.all fun l => eqO ((fHeap t' 0).get l) ((fHeap t 0).get l)
noncomputable def clD (cl : Cl) (dep : Dep) (D : List Rec) (i : Nat) : Cl := fun f vs t n k => Bool.rec false (cl f vs t n fun v t' n' => Bool.rec false (k v t' n') (keptF dep D i t t')) (callFreeB dep D i)
abbrev KD (d : Nat) := List Rec → FT d → DS → HT → Nat → Bool
noncomputable def recK (dep : Dep) (D : List Rec) (i : Nat) (k2 : Bool) (tch wrt : List Nat) (k : List Rec → Bool) : Bool :=
  List.rec (motive := fun _ => Bool) (k D) (fun _ _ _ => Bool.rec (Bool.rec false (k (⟨i, tch, wrt, false⟩ :: D)) (clashFreeB dep D i tch wrt)) (k (⟨i, tch, wrt, true⟩ :: D)) k2) tch
noncomputable def nilK (ds : DS) (k : Bool) : Bool := List.rec (motive := fun _ => Bool) k (fun _ _ _ => false) ds
noncomputable def exFOpD (x : FOp d) (k2 : Bool) (E : Env) (cl : Cl) (dep : Dep) (base : Nat) (D : List Rec) (fr : FT d) (t : HT) (n : Nat) (k : List Rec → FT d → HT → Nat → Bool) : Bool :=
  FOp.rec (motive := fun _ => Bool)
    (fun op p i lk => exOp op E (clD cl dep D i) fr [] t n (Nat.add base i) lk fun v tch wrt ds t n => nilK ds (recK dep D i k2 tch wrt fun D => pset v p fr fun fr => k D fr t n))
    (fun op i lk => exOp op E (clD cl dep D i) fr [] t n (Nat.add base i) lk fun v tch wrt ds t n => nilK ds (recK dep D i k2 tch wrt fun D => k D fr t n))
    (fun p w op q i lk => pget p fr (wantK w (exOp op E (clD cl dep D i) fr [] t n (Nat.add base i) lk fun v tch wrt ds t n => nilK ds (recK dep D i k2 tch wrt fun D => putK q v fr fun fr => k D fr t n))
      (putK q undef fr fun fr => k D fr t n))) false x
noncomputable def exOpsD (E : Env) (cl : Cl) (dep : Dep) (base : Nat) (xs : List (FOp d × Bool)) : List Rec → FT d → HT → Nat → (FT d → HT → Nat → Bool) → Bool :=
  List.rec (motive := fun _ => List Rec → FT d → HT → Nat → (FT d → HT → Nat → Bool) → Bool) (fun _ fr t n k => k fr t n)
    (fun x _ ih D fr t n k => exFOpD x.1 x.2 E cl dep base D fr t n fun D fr t n => ih D fr t n k) xs

noncomputable def cP (d N : Nat) : Operand → Option (Pt d)
  | .tmp t => if t < N then some (ptN d t) else none
  | _ => none
noncomputable def cS (d N : Nat) : Operand → Option (QS d)
  | .tmp t => if t < N then some (.t (ptN d t)) else none
  | .const v => if plainV v then some (.c v) else none
  | .func f => some (.c (.func (.func f) #[] #[]))
  | .global _ => none
noncomputable def cSs (d N : Nat) : List Operand → Option (List (QS d))
  | [] => some []
  | x :: r => (cS d N x).bind fun y => (cSs d N r).map (y :: ·)
noncomputable def cSo (d N : Nat) : Option Operand → Option (Option (QS d))
  | none => some none
  | some x => (cS d N x).map some

def cB : BinOp → Option IB
  | .add => some .add | .sub => some .sub | .mul => some .mul | .lss => some .lss | .gtr => some .gtr | .leq => some .leq | .geq => some .geq | .eql => some .eql | .neq => some .neq
  | .quo => some .quo | .rem => some .rem | .shl => some .shl | .shr => some .shr | .and => some .and | .or => some .or | .xor => some .xor
  | _ => none

noncomputable def cOp (E : Env) (d N : Nat) (o : Oper) : FO d :=
  match o.op with
  | .move x | .assign x => match cS d N x with | some x => .mv x | none => .gen o
  | .load t a => match aggO E.P t, cP d N a with
    | some true, some a => match szO E.P t with | some s => .lda s a | none => .gen o
    | some false, some a => .ldc a
    | _, _ => .gen o
  | .store t a x => match cP d N a, cS d N x, szO E.P t with
    | some a, some x, some s => .st s a x
    | _, _, _ => .gen o
  | .nilCheck x => match cS d N x with | some x => .nc x | none => .gen o
  | .fieldAddr s x f => match E.P.underlying s, cP d N x with
    | some (.struct fields), some a => match fields[f]? with
      | some fd => match szO E.P fd.type with | some 0 => .gen o | some _ => .fa fd.offset a | none => .gen o
      | none => .gen o
    | _, _ => .gen o
  | .binOp op t x y _ => match cB op, cS d N x, cS d N y with
    | some f, some x, some y => .bi f x y o
    | _, _, _ => .gen o
  | .indexAddr t x ix => match E.P.underlying t, cS d N x, cS d N ix with
    | some (.slice e), some x, some i => match szO E.P e with | some s => .ia s x i | none => .gen o
    | _, _, _ => .gen o
  | .pick c a b => match cS d N c, cS d N a, cS d N b with
    | some c, some a, some b => .pk c a b
    | _, _, _ => .gen o
  | .alloc t => match zeroP E.P t with | some z => if 40 < z.cells.toList.length && z.cells.toList.length ≤ 1024 then .alb z.cells.toList.length z.cells.toList else .al z.cells.toList | none => .gen o
  | .box t x => match cS d N x, szO E.P t with
    | some x, some m => if 40 < m && m ≤ 1024 then .bxb m x else .bx x
    | some x, none => .bx x
    | _, _ => .gen o
  | .buildSlice t len parts => match E.P.underlying t, len, parts.toList with
    | some (.slice e), 1, [(0, x)] => match szO E.P e, zeroP E.P e, cS d N x with | some 1, some z, some x => if z.cells.size = 1 && plainL plainV z.cells.toList then .bs x o else .gen o | _, _, _ => .gen o
    | _, _, _ => .gen o
  | .convert a b x => match E.P.underlying a, E.P.underlying b, cS d N x with
    | some (.int _), some (.int kd), some x => .cv kd x o
    | _, _, _ => .gen o
  | .unOp .not _ x => match cS d N x with | some x => .nt x | none => .gen o
  | .extract x i => match cS d N x with | some x => .ex i x | none => .gen o
  | .field s x f => match E.P.underlying s, cS d N x with
    | some (.struct fields), some a => match fields[f]? with
      | some fd => match aggO E.P fd.type, szO E.P fd.type with | some g, some z => .fl g z fd.offset a | _, _ => .gen o
      | none => .gen o
    | _, _ => .gen o
  | .slice t x lo hi mx => match E.P.underlying t, mx, cS d N x, cSo d N lo, cSo d N hi with
    | some (.slice e), none, some x, some lo, some hi => match szO E.P e with | some s => .sl s x lo hi o | none => .gen o
    | _, _, _, _, _ => .gen o
  | .call c => match c.callee with
    | .builtin .append => match c.argTypes.toList, c.args.toList with
      | [t, u], [x, y] => match E.P.underlying t, E.P.underlying u, cS d N x, cS d N y with
        | some (.slice e), some (.slice _), some x, some y => match szO E.P e, bytesO E.P e, zeroP E.P e with
          | some s, some b, some z => if 0 < s && 0 < b && z.cells.size = s then .ap s b x y o else .gen o
          | _, _, _ => .gen o
        | _, _, _, _ => .gen o
      | _, _ => .gen o
    | .builtin .len => match c.argTypes.toList, c.args.toList with
      | [t], [x] => match E.P.underlying t, cS d N x with | some (.slice _), some x => .ln x | _, _ => .gen o
      | _, _ => .gen o
    | .value (.func g) => match E.X g, E.B g, cSs d N c.args.toList with
      | none, true, some xs => .call g xs
      | _, _, _ => .gen o
    | _ => .gen o
  | _ => .gen o

def seesB (ops : Array Oper) (o : Oper) : Bool := o.op.operands.toList.all fun x => match x with | .tmp t => (o.looksAt ops).contains t | _ => true

noncomputable def cOper (E : Env) (d N : Nat) (ops : Array Oper) (lk : LK) (i : Nat) (op : FO d) (o : Oper) : FOp d :=
  match o.guard with
  | none => match o.dst with
    | none => .b op i lk
    | some p => if p < N then .a op (ptN d p) i lk else .bad
  | some (j, w) => match (ops[j]?).bind (·.dst) with
    | some q => if q < N then match o.dst with
      | none => .g (ptN d q) w op none i lk
      | some p => if p < N then .g (ptN d q) w op (some (ptN d p)) i lk else .bad
      else .bad
    | none => .bad

noncomputable def cOps (E : Env) (d N : Nat) (ops : Array Oper) : Nat → List Oper → List (FOp d)
  | _, [] => []
  | i, o :: r => cOper E d N ops (N, none) i (cOp E d N o) o :: cOps E d N ops (i + 1) r
noncomputable def cOpsD (E : Env) (d N : Nat) (ops : Array Oper) : List Nat → List (FOp d × Bool)
  | [] => []
  | i :: r => match ops[i]? with
    | some o => (cOper E d N ops (N, some (o.looksAt ops)) i (if seesB ops o then cOp E d N o else .gen o) o, kindOf o == 2) :: cOpsD E d N ops r
    | none => [(.bad, false)]

inductive QC (d : Nat) where
  | nop
  | exit (n : Nat)
  | ret
  | seq (x y : QC d)
  | cond (c : QS d) (x y : QC d)
  | block (n : Nat) (x : QC d)
  | loop (x : QC d)
  | reg (n : Nat) (ops : List (FOp d))
  | regD (n : Nat) (dep : List (List Nat)) (ops : List (FOp d × Bool))
  | bad

noncomputable def cC (E : Env) (T : Tab) (f : FuncId) (d N : Nat) : Code → QC d
  | .skip => .nop
  | .label _ => .nop
  | .exit n => .exit n
  | .ret => .ret
  | .seq x y => .seq (cC E T f d N x) (cC E T f d N y)
  | .cond c x y => match cS d N c with | some c => .cond c (cC E T f d N x) (cC E T f d N y) | none => .bad
  | .block n x => .block n (cC E T f d N x)
  | .loop x => .loop (cC E T f d N x)
  | .region id ops draw => if draw then .regD ops.size (T f id).2 (cOpsD E d N ops (T f id).1) else .reg ops.size (cOps E d N ops 0 ops.toList)
  | _ => .bad

inductive FX where
  | nm
  | ex (n : Nat)
  | rt

abbrev KX (d : Nat) := FX → FT d → DS → HT → Nat → Bool
abbrev Sc (d : Nat) := Env → Cl → FT d → DS → HT → Nat → KX d → Bool

noncomputable def scNop : Sc d := fun _ _ fr ds t n k => k .nm fr ds t n
noncomputable def scExit (i : Nat) : Sc d := fun _ _ fr ds t n k => k (.ex i) fr ds t n
noncomputable def scRet : Sc d := fun _ _ fr ds t n k => k .rt fr ds t n
noncomputable def scSeq (_ _ : QC d) (ix iy : Sc d) : Sc d := fun E cl fr ds t n k => ix E cl fr ds t n fun x fr ds t n => FX.rec (motive := fun _ => Bool) (iy E cl fr ds t n k) (fun i => k (.ex i) fr ds t n) (k .rt fr ds t n) x
noncomputable def scCond (c : QS d) (_ _ : QC d) (ix iy : Sc d) : Sc d := fun E cl fr ds t n k => c.get fr (vBool (ix E cl fr ds t n k) (iy E cl fr ds t n k) false)
noncomputable def scBlock (i : Nat) (_ : QC d) (ix : Sc d) : Sc d := fun E cl fr ds t n k => ix E cl fr ds t n fun x fr ds t n => FX.rec (motive := fun _ => Bool) (k .nm fr ds t n) (fun j => Bool.rec (k (.ex j) fr ds t n) (k .nm fr ds t n) (Nat.beq j i)) (k .rt fr ds t n) x
noncomputable def loopN (ix : Sc d) (E : Env) (cl : Cl) (k : KX d) (m : Nat) : FT d → DS → HT → Nat → Bool := Nat.rec (motive := fun _ => FT d → DS → HT → Nat → Bool) (fun _ _ _ _ => false)
  (fun _ ih fr ds t n => ix E cl fr ds t n fun x fr ds t n => FX.rec (motive := fun _ => Bool) (ih fr ds t n) (fun i => k (.ex i) fr ds t n) (k .rt fr ds t n) x) m
noncomputable def scLoop (_ : QC d) (ix : Sc d) : Sc d := fun E cl fr ds t n k => loopN ix E cl k 100000 fr ds t n
noncomputable def scReg (sz : Nat) (ops : List (FOp d)) : Sc d := fun E cl fr ds t n k => natK (Nat.add n sz) fun n' => exOps E cl n ops fr ds t n' fun fr ds t n => k .nm fr ds t n
noncomputable def scRegD (sz : Nat) (dep : List (List Nat)) (ops : List (FOp d × Bool)) : Sc d := fun E cl fr ds t n k => natK (Nat.add n sz) fun n' => exOpsD E cl (depOf dep) n ops [] fr t n' fun fr t n => k .nm fr ds t n
noncomputable def scBad : Sc d := fun _ _ _ _ _ _ _ => false
noncomputable def exC : QC d → Sc d := QC.rec (motive := fun _ => Sc d) scNop scExit scRet scSeq scCond scBlock scLoop scReg scRegD scBad

noncomputable def frEntry (args : List Value) (n : Nat) (fr : FT d) (k : FT d → Bool) : Bool :=
  List.rec (motive := fun _ => Nat → FT d → (FT d → Bool) → Bool) (fun _ fr k => k fr) (fun v _ ih n fr k => pset v (ptN d n) fr fun fr => ih (Nat.succ n) fr k) args n fr k

inductive QR (d : Nat) where
  | t (p : Pt d)
  | c (p : Pt d)
  | a (s : Nat) (p : Pt d)
noncomputable def frT (p : Pt d) (fr : FT d) (t : HT) (k : Value → Bool) : Bool := pget p fr k
noncomputable def frC (p : Pt d) (fr : FT d) (t : HT) (k : Value → Bool) : Bool := pget p fr fun v => ptrK v fun l o => hget l t fun ob => ldK ob o k
noncomputable def frA (s : Nat) (p : Pt d) (fr : FT d) (t : HT) (k : Value → Bool) : Bool := pget p fr fun v => ptrK v fun l o => hget l t fun ob => cellsK ob fun c _ _ => dropK o c fun c => takeK [] s c fun c => k (.agg ⟨c⟩)
noncomputable def QR.get : QR d → FT d → HT → (Value → Bool) → Bool := QR.rec (motive := fun _ => FT d → HT → (Value → Bool) → Bool) frT frC frA
noncomputable def resK (fr : FT d) (t : HT) (rs : List (QR d)) (k : List Value → Bool) : Bool :=
  List.rec (motive := fun _ => (List Value → Bool) → Bool) (fun k => k []) (fun r _ ih k => r.get fr t fun v => ih fun vs => k (v :: vs)) rs k
noncomputable def oneK (vs : List Value) (k : Value → Bool) : Bool :=
  match vs with
  | [v] => k v
  | vs => k (.tuple ⟨vs⟩)
noncomputable def cR (E : Env) (d N : Nat) : ResultVar → Option (QR d)
  | .tmp x => if x < N then some (.t (ptN d x)) else none
  | .cell x ty => if x < N then match aggO E.P ty, szO E.P ty with
    | some true, some s => some (.a s (ptN d x))
    | some false, _ => some (.c (ptN d x))
    | _, _ => none
    else none
noncomputable def cRs (E : Env) (d N : Nat) : List ResultVar → Option (List (QR d))
  | [] => some []
  | r :: rs => (cR E d N r).bind fun x => (cRs E d N rs).map (x :: ·)
end

structure FF where
  d : Nat
  N : Nat
  code : QC d
  res : List (QR d)

def depthN (n : Nat) : Nat := if n ≤ 16 then 2 else if n ≤ 64 then 3 else 4

noncomputable def cF (E : Env) (T : Tab) (f : FuncId) : Option FF :=
  match E.P.funcs[f]? with
  | some fn => match fn.body with
    | some c => if fn.ntmps ≤ 256 then (cRs E (depthN fn.ntmps) fn.ntmps fn.results.toList).map fun rs => ⟨depthN fn.ntmps, fn.ntmps, cC E T f (depthN fn.ntmps) fn.ntmps c, rs⟩ else none
    | none => none
  | none => none

abbrev CK := FuncId → List Value → HT → Nat → (Value → HT → Nat → Bool) → Bool → Bool
abbrev KF := (d : Nat) → List (QR d) → FT d → DS → HT → Nat → Bool

noncomputable def runK (E : Env) (T : Tab) (cl : Cl) (f : FuncId) (args : List Value) (t : HT) (n : Nat) (k : KF) : Bool :=
  Option.rec (motive := fun _ => Bool) false (fun ff => FF.rec (motive := fun _ => Bool) (fun d N code res => Bool.rec false (frEntry args 0 (qrep undef d) fun fr => exC code E cl fr [] t n fun x fr ds t n => FX.rec (motive := fun _ => Bool) (k d res fr ds t n) (fun _ => false) (k d res fr ds t n) x) (Nat.ble args.length N)) ff) (cF E T f)

noncomputable def dfK (E : Env) (T : Tab) (cl : Cl) (ds : DS) : HT → Nat → (HT → Nat → Bool) → Bool :=
  List.rec (motive := fun _ => HT → Nat → (HT → Nat → Bool) → Bool) (fun t n k => k t n) (fun d _ ih t n k => match d.target with
    | .fn (.func f) cap => if E.B f then runK E T cl f (d.args ++ cap).toList t n fun _ rs fr ds t n => nilK ds (resK fr t rs fun _ => ih t n k) else false
    | _ => false) ds

noncomputable def exF (E : Env) (T : Tab) (I : CK) : Nat → Cl :=
  Nat.rec (motive := fun _ => Cl) (fun _ _ _ _ _ => false)
    (fun _ cl f args t n k => I f args t n k (runK E T cl f args t n fun d rs fr ds t n => dfK E T cl ds t n fun t n => resK fr t rs fun vs => oneK vs fun v => k v t n))

noncomputable def putsK (L : Ent) (t : HT) (k : HT → Bool) : Bool :=
  List.rec (motive := fun _ => HT → (HT → Bool) → Bool) (fun t k => k t) (fun x _ ih t k => hset x.1 (some x.2) t fun t => ih t k) L t k
noncomputable def h0 : HT := qrep none 11
noncomputable def noI : CK := fun _ _ _ _ _ z => z

noncomputable def Memo.fast (E : Env) (T : Tab) (I : CK) (m : Memo) : Bool :=
  putsK m.pre h0 fun t => exF E T I 100 m.f m.args.toList t m.n0 fun v t n => Bool.rec false (eqV 20 v m.val && m.post.all fun x => eqO ((fHeap t n).get x.1) (some x.2)) (Nat.beq n m.n1)

end Go.Proofs.YtfchjhfccnodpaaGreat
end

section
namespace Go.Proofs.YtfchjhfccnodpaaGreat
set_option linter.unusedSimpArgs false
set_option linter.unusedVariables false

noncomputable def psetf (v : Value) {n : Nat} : Pt n → QT Value n → QT Value n :=
  Pt.rec (motive := fun n _ => QT Value n → QT Value n)
    (fun t => v)
    (fun _ ih t => Q4.rec (motive := fun _ => Q4 _) (fun a b c d => ⟨ih a, b, c, d⟩) t)
    (fun _ ih t => Q4.rec (motive := fun _ => Q4 _) (fun a b c d => ⟨a, ih b, c, d⟩) t)
    (fun _ ih t => Q4.rec (motive := fun _ => Q4 _) (fun a b c d => ⟨a, b, ih c, d⟩) t)
    (fun _ ih t => Q4.rec (motive := fun _ => Q4 _) (fun a b c d => ⟨a, b, c, ih d⟩) t)

theorem pget_eq {n : Nat} (p : Pt n) (t : QT Value n) (k : Value → Bool) : pget p t k = k (pfun p t) := by
  induction p with
  | z => rfl
  | a p ih => cases (t : Q4 _); exact ih _
  | b p ih => cases (t : Q4 _); exact ih _
  | c p ih => cases (t : Q4 _); exact ih _
  | d p ih => cases (t : Q4 _); exact ih _

theorem pset_eq (v : Value) {n : Nat} (p : Pt n) (t : QT Value n) (k : QT Value n → Bool) : pset v p t k = k (psetf v p t) := by
  induction p with
  | z => rfl
  | a p ih => cases (t : Q4 _); exact ih _ _
  | b p ih => cases (t : Q4 _); exact ih _ _
  | c p ih => cases (t : Q4 _); exact ih _ _
  | d p ih => cases (t : Q4 _); exact ih _ _

theorem pfun_same (v : Value) {n : Nat} (p : Pt n) (t : QT Value n) : pfun p (psetf v p t) = v := by
  induction p with
  | z => rfl
  | a p ih => cases (t : Q4 _); exact ih _
  | b p ih => cases (t : Q4 _); exact ih _
  | c p ih => cases (t : Q4 _); exact ih _
  | d p ih => cases (t : Q4 _); exact ih _

theorem pfun_ne (v : Value) {n : Nat} (p q : Pt n) (t : QT Value n) (h : q ≠ p) : pfun q (psetf v p t) = pfun q t := by
  induction p with
  | z => cases q; exact absurd rfl h
  | a p ih => cases (t : Q4 _); cases q <;> first | rfl | exact ih _ _ (fun e => h (by rw [e]))
  | b p ih => cases (t : Q4 _); cases q <;> first | rfl | exact ih _ _ (fun e => h (by rw [e]))
  | c p ih => cases (t : Q4 _); cases q <;> first | rfl | exact ih _ _ (fun e => h (by rw [e]))
  | d p ih => cases (t : Q4 _); cases q <;> first | rfl | exact ih _ _ (fun e => h (by rw [e]))

theorem pfun_qrep (x : Value) {n : Nat} (p : Pt n) : pfun p (qrep x n) = x := by
  induction p with
  | z => rfl
  | a p ih => exact ih
  | b p ih => exact ih
  | c p ih => exact ih
  | d p ih => exact ih

theorem sel4_eq (n : Nat) {α : Type} (a b c d : α) : sel4 n a b c d = if n = 0 then a else if n = 1 then b else if n = 2 then c else d := by
  match n with
  | 0 => rfl
  | 1 => rfl
  | 2 => rfl
  | n + 3 => rw [if_neg (by omega), if_neg (by omega), if_neg (by omega)]; rfl

theorem land3 (l : Nat) : Nat.land l 3 = l % 4 := Nat.and_two_pow_sub_one_eq_mod l 2
theorem shr2 (l : Nat) : Nat.shiftRight l 2 = l / 4 := Nat.shiftRight_eq_div_pow l 2

theorem ptN_succ (n l : Nat) : ptN (n + 1) l = if l % 4 = 0 then .a (ptN n (l / 4)) else if l % 4 = 1 then .b (ptN n (l / 4)) else if l % 4 = 2 then .c (ptN n (l / 4)) else .d (ptN n (l / 4)) := by
  show sel4 (Nat.land l 3) (Pt.a (ptN n (Nat.shiftRight l 2))) _ _ _ = _
  rw [sel4_eq, land3, shr2]
  rfl

theorem ptN_inj : ∀ {n i j : Nat}, i < 4 ^ n → j < 4 ^ n → ptN n i = ptN n j → i = j
  | 0, i, j, hi, hj, _ => by simp at hi hj; omega
  | n + 1, i, j, hi, hj, h => by
    have hi' : i / 4 < 4 ^ n := by rw [Nat.pow_succ] at hi; omega
    have hj' : j / 4 < 4 ^ n := by rw [Nat.pow_succ] at hj; omega
    have ih : ptN n (i / 4) = ptN n (j / 4) → i / 4 = j / 4 := ptN_inj hi' hj'
    rw [ptN_succ, ptN_succ] at h
    repeat' split at h
    all_goals first
      | (cases h; done)
      | (injection h with _ h; have := ih h; omega)
      | (injection h with h; have := ih h; omega)

noncomputable def hsetf (o : Option BObj) : (n : Nat) → Nat → QT (Option BObj) n → QT (Option BObj) n :=
  Nat.rec (motive := fun n => Nat → QT (Option BObj) n → QT (Option BObj) n) (fun _ t => o)
    (fun _ ih l t => Q4.rec (motive := fun _ => Q4 _) (fun a b c d => sel4 (Nat.land l 3) ⟨ih (Nat.shiftRight l 2) a, b, c, d⟩ ⟨a, ih (Nat.shiftRight l 2) b, c, d⟩ ⟨a, b, ih (Nat.shiftRight l 2) c, d⟩ ⟨a, b, c, ih (Nat.shiftRight l 2) d⟩) t)

theorem sel4_app {α β : Type} (f : α → β) (n : Nat) (a b c d : α) : f (sel4 n a b c d) = sel4 n (f a) (f b) (f c) (f d) := by
  simp only [sel4_eq]; repeat' split
  all_goals rfl

noncomputable def qmk {α : Type} {n : Nat} (a b c d : QT α n) : QT α (n + 1) := (Q4.mk a b c d : Q4 (QT α n))
theorem q4_ex {α : Type} {n : Nat} (t : QT α (n + 1)) : ∃ a b c d : QT α n, t = qmk a b c d := by
  cases h : (t : Q4 _) with
  | mk a b c d => exact ⟨a, b, c, d, rfl⟩

theorem hgetN_eq : ∀ (n l : Nat) (t : QT (Option BObj) n) (k : Option BObj → Bool), hgetN n l t k = k (hfun n l t)
  | 0, l, t, k => rfl
  | n + 1, l, t, k => by
    obtain ⟨a, b, c, d, rfl⟩ := q4_ex t
    show sel4 _ (hgetN n _ a k) (hgetN n _ b k) (hgetN n _ c k) (hgetN n _ d k) = k (sel4 _ (hfun n _ a) (hfun n _ b) (hfun n _ c) (hfun n _ d))
    rw [hgetN_eq n, hgetN_eq n, hgetN_eq n, hgetN_eq n, sel4_app k]

theorem hsetN_eq (o : Option BObj) : ∀ (n l : Nat) (t : QT (Option BObj) n) (k : QT (Option BObj) n → Bool), hsetN o n l t k = k (hsetf o n l t)
  | 0, l, t, k => rfl
  | n + 1, l, t, k => by
    obtain ⟨a, b, c, d, rfl⟩ := q4_ex t
    show sel4 _ (hsetN o n _ a fun a => k (qmk a b c d)) (hsetN o n _ b fun b => k (qmk a b c d)) (hsetN o n _ c fun c => k (qmk a b c d)) (hsetN o n _ d fun d => k (qmk a b c d)) =
      k (sel4 _ (qmk (hsetf o n _ a) b c d) (qmk a (hsetf o n _ b) c d) (qmk a b (hsetf o n _ c) d) (qmk a b c (hsetf o n _ d)))
    rw [hsetN_eq o n, hsetN_eq o n, hsetN_eq o n, hsetN_eq o n]
    exact (sel4_app (α := QT (Option BObj) (n + 1)) k _ _ _ _ _).symm

theorem hfun_hsetf (o : Option BObj) : ∀ (n i j : Nat) (t : QT (Option BObj) n), i < 4 ^ n → j < 4 ^ n → hfun n j (hsetf o n i t) = if j = i then o else hfun n j t
  | 0, i, j, t, hi, hj => by simp at hi hj; subst hi hj; rfl
  | n + 1, i, j, t, hi, hj => by
    have hi' : i / 4 < 4 ^ n := by rw [Nat.pow_succ] at hi; omega
    have hj' : j / 4 < 4 ^ n := by rw [Nat.pow_succ] at hj; omega
    obtain ⟨a, b, c, d, rfl⟩ := q4_ex t
    have key : ∀ (a b c d : QT (Option BObj) n), hfun (n + 1) j (qmk a b c d) = if j % 4 = 0 then hfun n (j / 4) a else if j % 4 = 1 then hfun n (j / 4) b else if j % 4 = 2 then hfun n (j / 4) c else hfun n (j / 4) d := by
      intro a b c d
      show sel4 (Nat.land j 3) (hfun n (Nat.shiftRight j 2) a) (hfun n (Nat.shiftRight j 2) b) (hfun n (Nat.shiftRight j 2) c) (hfun n (Nat.shiftRight j 2) d) = _
      rw [sel4_eq, land3, shr2]
    have key2 : hsetf o (n + 1) i (qmk a b c d) = if i % 4 = 0 then qmk (hsetf o n (i / 4) a) b c d else if i % 4 = 1 then qmk a (hsetf o n (i / 4) b) c d else if i % 4 = 2 then qmk a b (hsetf o n (i / 4) c) d else qmk a b c (hsetf o n (i / 4) d) := by
      show sel4 (Nat.land i 3) (qmk (hsetf o n (Nat.shiftRight i 2) a) b c d) (qmk a (hsetf o n (Nat.shiftRight i 2) b) c d) (qmk a b (hsetf o n (Nat.shiftRight i 2) c) d) (qmk a b c (hsetf o n (Nat.shiftRight i 2) d)) = _
      rw [sel4_eq, land3, shr2]
    have ih : ∀ x, hfun n (j / 4) (hsetf o n (i / 4) x) = if j / 4 = i / 4 then o else hfun n (j / 4) x := fun x => hfun_hsetf o n _ _ x hi' hj'
    have hi4 : i % 4 = 0 ∨ i % 4 = 1 ∨ i % 4 = 2 ∨ i % 4 = 3 := by omega
    by_cases e : j = i
    · subst e
      rcases hi4 with h | h | h | h <;> simp [key2, key, h, ih]
    · have hj4 : j % 4 = 0 ∨ j % 4 = 1 ∨ j % 4 = 2 ∨ j % 4 = 3 := by omega
      have hne : j % 4 = i % 4 → j / 4 ≠ i / 4 := by omega
      rcases hi4 with h | h | h | h <;> rcases hj4 with h' | h' | h' | h' <;> simp [h, h'] at hne <;> simp [key2, key, h, h', ih, e, hne]

theorem toAO_map (o : Option BObj) : toAO o = o.map BObj.toA := by cases o <;> rfl
theorem toAO_toBO (o : Option AObj) : toAO (toBO o) = o := by cases o <;> rfl

theorem hget_true {l : Nat} {t : HT} {k : Option BObj → Bool} (n : Nat) (h : hget l t k = true) : ∃ ob, toAO ob = (fHeap t n).get l ∧ k ob = true := by
  unfold hget at h
  cases hb : Nat.ble l 4194303 with
  | false => rw [hb] at h; cases h
  | true =>
    rw [hb] at h
    have h : hgetN 11 l t k = true := h
    rw [hgetN_eq] at h
    refine ⟨_, ?_, h⟩
    simp only [fHeap]
    rw [hb]

theorem hsetB_true {l : Nat} {o : Option BObj} {t : HT} {k : HT → Bool} (n : Nat) (h : hsetB l o t k = true) : ∃ t', k t' = true ∧ fHeap t' n = (fHeap t n).upd l (toAO o) := by
  unfold hsetB at h
  cases hb : Nat.ble l 4194303 with
  | false => rw [hb] at h; cases h
  | true =>
    rw [hb] at h
    have h : hsetN o 11 l t k = true := h
    rw [hsetN_eq] at h
    refine ⟨_, h, Heap.ext' (fun x => ?_) rfl⟩
    have hl := Nat.le_of_ble_eq_true hb
    simp only [fHeap, Heap.upd_get]
    cases hx : Nat.ble x 4194303 with
    | false =>
      have : x ≠ l := by rintro rfl; rw [hb] at hx; cases hx
      rw [if_neg this]
    | true =>
      have hx := Nat.le_of_ble_eq_true hx
      have := hfun_hsetf o 11 l x t (by omega) (by omega)
      simp only [this]
      by_cases e : x = l
      · rw [if_pos e, if_pos e]
      · rw [if_neg e, if_neg e]

theorem hset_true {l : Nat} {o : Option AObj} {t : HT} {k : HT → Bool} (n : Nat) (h : hset l o t k = true) : ∃ t', k t' = true ∧ fHeap t' n = (fHeap t n).upd l o := by
  obtain ⟨t', h1, h2⟩ := hsetB_true n (show hsetB l (toBO o) t k = true from h)
  rw [toAO_toBO] at h2
  exact ⟨t', h1, h2⟩

theorem buildQ_get : ∀ (n i : Nat) (f : Nat → Value), i < 4 ^ n → pfun (ptN n i) (buildQ n f) = f i
  | 0, i, f, h => by simp at h; subst h; rfl
  | n + 1, i, f, h => by
    have h' : i / 4 < 4 ^ n := by rw [Nat.pow_succ] at h; omega
    have e : buildQ (n + 1) f = qmk (buildQ n fun i => f (Nat.mul 4 i)) (buildQ n fun i => f (Nat.add (Nat.mul 4 i) 1)) (buildQ n fun i => f (Nat.add (Nat.mul 4 i) 2)) (buildQ n fun i => f (Nat.add (Nat.mul 4 i) 3)) := rfl
    have hi4 : i % 4 = 0 ∨ i % 4 = 1 ∨ i % 4 = 2 ∨ i % 4 = 3 := by omega
    have q0 : ∀ c, Nat.mul 4 c = 4 * c := fun _ => rfl
    have q1 : ∀ c d, Nat.add c d = c + d := fun _ _ => rfl
    rw [e, ptN_succ]
    rcases hi4 with hi | hi | hi | hi <;> simp only [hi, if_true, if_false, Nat.one_ne_zero, Nat.reduceEqDiff, reduceIte]
    · exact (buildQ_get n (i / 4) _ h').trans (by rw [q0]; congr 1; omega)
    · exact (buildQ_get n (i / 4) _ h').trans (by rw [q0, q1]; congr 1; omega)
    · exact (buildQ_get n (i / 4) _ h').trans (by rw [q0, q1]; congr 1; omega)
    · exact (buildQ_get n (i / 4) _ h').trans (by rw [q0, q1]; congr 1; omega)

theorem getL_eq : ∀ (l : List Value) (i : Nat), i < l.length → l[i]? = some (getL i l)
  | [], i, h => by simp at h
  | v :: l, 0, _ => rfl
  | v :: l, i + 1, h => by
    have := getL_eq l i (by simpa using h)
    rw [List.getElem?_cons_succ, this]; rfl

theorem rowL_get (n : Nat) (fr : QT Value 5) (i : Nat) : (rowL n fr)[i]? = if i < n then some (pfun (ptN 5 i) fr) else none := by
  unfold rowL
  rw [List.getElem?_map]
  by_cases h : i < n
  · rw [if_pos h, List.getElem?_range h]; rfl
  · rw [if_neg h, List.getElem?_eq_none (by simpa using h)]; rfl
theorem rowL_length (n : Nat) (fr : QT Value 5) : (rowL n fr).length = n := by simp [rowL]

theorem bigO_toA {n : Nat} {z : List Value} {sz : Nat} (h : z.length = n) (hn : n ≤ 1024) : (bigO n z sz).toA = .cells z sz false := by
  show AObj.cells (rowL n _) sz false = _
  congr 1
  apply List.ext_getElem?
  intro i
  rw [rowL_get]
  by_cases hi : i < n
  · rw [if_pos hi, buildQ_get 5 i _ (by omega), getL_eq z i (by omega)]
  · rw [if_neg hi, List.getElem?_eq_none (by omega)]

theorem natK_eq (n : Nat) (k : Nat → Bool) : natK n k = k n := by cases n <;> rfl

end Go.Proofs.YtfchjhfccnodpaaGreat
end

section
namespace Go.Proofs.YtfchjhfccnodpaaGreat
set_option linter.unusedSimpArgs false
set_option linter.unusedVariables false

noncomputable def QS.val {d : Nat} (x : QS d) (fr : FT d) : Value := QS.rec (motive := fun _ => Value) (fun p => pfun p fr) (fun v => v) x
theorem fs_get {d : Nat} (x : QS d) (fr : FT d) (k : Value → Bool) : x.get fr k = k (x.val fr) := by
  cases x with
  | t p => exact pget_eq p fr k
  | c v => rfl

theorem brec_true {a b c : Bool} (h : (Bool.rec a b c : Bool) = true) : (c = true ∧ b = true) ∨ (c = false ∧ a = true) := by
  cases c with
  | true => exact .inl ⟨rfl, h⟩
  | false => exact .inr ⟨rfl, h⟩

theorem nthK_true : ∀ {n : Nat} {l : List Value} {k : Value → Bool}, nthK n l k = true → ∃ v, l[n]? = some v ∧ k v = true
  | 0, [], k, h => by cases h
  | 0, v :: l, k, h => ⟨v, rfl, h⟩
  | n + 1, [], k, h => by cases h
  | n + 1, v :: l, k, h => by
    obtain ⟨u, h1, h2⟩ := nthK_true (n := n) (l := l) (k := k) h
    exact ⟨u, by simpa using h1, h2⟩
theorem dropK_true : ∀ {n : Nat} {l : List Value} {k : List Value → Bool}, dropK n l k = true → n ≤ l.length ∧ k (l.drop n) = true
  | 0, l, k, h => ⟨Nat.zero_le _, h⟩
  | n + 1, [], k, h => by cases h
  | n + 1, v :: l, k, h => by
    obtain ⟨h1, h2⟩ := dropK_true (n := n) (l := l) (k := k) h
    exact ⟨Nat.succ_le_succ h1, by simpa using h2⟩
theorem takeK_true {e : List Value} : ∀ {n : Nat} {l : List Value} {k : List Value → Bool}, takeK e n l k = true → n ≤ l.length ∧ k (l.take n ++ e) = true
  | 0, l, k, h => ⟨Nat.zero_le _, h⟩
  | n + 1, [], k, h => by cases h
  | n + 1, v :: l, k, h => by
    obtain ⟨h1, h2⟩ := takeK_true (n := n) (l := l) (k := fun r => k (v :: r)) h
    exact ⟨Nat.succ_le_succ h1, by simpa using h2⟩
theorem layK_true : ∀ {vs l : List Value} {k : List Value → Bool}, layK vs l k = true → vs.length ≤ l.length ∧ k (vs ++ l.drop vs.length) = true
  | [], l, k, h => ⟨Nat.zero_le _, h⟩
  | v :: vs, [], k, h => by cases h
  | v :: vs, u :: l, k, h => by
    obtain ⟨h1, h2⟩ := layK_true (vs := vs) (l := l) (k := fun r => k (v :: r)) h
    exact ⟨Nat.succ_le_succ h1, by simpa using h2⟩
theorem spliceK_true {vs : List Value} : ∀ {o : Nat} {l : List Value} {k : List Value → Bool}, spliceK vs o l k = true → o + vs.length ≤ l.length ∧ k (splice l o vs) = true
  | 0, l, k, h => by
    obtain ⟨h1, h2⟩ := layK_true (vs := vs) (l := l) (k := k) h
    exact ⟨by omega, by simpa [splice] using h2⟩
  | o + 1, [], k, h => by cases h
  | o + 1, u :: l, k, h => by
    obtain ⟨h1, h2⟩ := spliceK_true (o := o) (l := l) (k := fun r => k (u :: r)) h
    refine ⟨by simp; omega, ?_⟩
    have : splice (u :: l) (o + 1) vs = u :: splice l o vs := by
      simp only [splice, List.take_succ_cons, List.cons_append, List.cons.injEq, true_and]
      rw [show o + 1 + vs.length = (o + vs.length) + 1 by omega, List.drop_succ_cons]
    rw [this]; exact h2
theorem onesK_true : ∀ {vs : List Value} {k : Bool}, onesK vs k = true → plainL oneCell vs = true ∧ k = true
  | [], k, h => ⟨rfl, h⟩
  | v :: vs, k, h => by
    have key : oneCell v = true ∧ onesK vs k = true := by cases v <;> first | cases h; done | exact ⟨rfl, h⟩
    obtain ⟨a, b⟩ := onesK_true key.2
    exact ⟨by simp [plainL, key.1, a], b⟩

theorem vInt_true {z : Bool} {y : IntKind → Int → Bool} {v : Value} (h : vInt z y v = true) : (∃ kd i, v = .int kd i ∧ y kd i = true) ∨ z = true := by
  cases v <;> first | exact .inr h | exact .inl ⟨_, _, rfl, h⟩
theorem vPtr_true {z : Bool} {y : Option Addr → Bool} {v : Value} (h : vPtr z y v = true) : (∃ a, v = .pointer a ∧ y a = true) ∨ z = true := by
  cases v <;> first | exact .inr h | exact .inl ⟨_, rfl, h⟩
theorem vSlc_true {z : Bool} {y : Option Addr → Nat → Nat → Bool} {v : Value} (h : vSlc z y v = true) : (∃ a n c, v = .slice a n c ∧ y a n c = true) ∨ z = true := by
  cases v <;> first | exact .inr h | exact .inl ⟨_, _, _, rfl, h⟩
theorem vBool_true {x y z : Bool} {v : Value} (h : vBool x y z v = true) : (v = .bool true ∧ x = true) ∨ (v = .bool false ∧ y = true) ∨ ((∀ b, v ≠ .bool b) ∧ z = true) := by
  cases v with
  | bool b => cases b with
    | true => exact .inl ⟨rfl, h⟩
    | false => exact .inr (.inl ⟨rfl, h⟩)
  | _ => exact .inr (.inr ⟨fun b e => (by cases e), h⟩)
theorem adK_true {z : Bool} {y : Nat → Nat → Bool} {a : Option Addr} (h : adK z y a = true) : (∃ l o, a = some ⟨l, o, none⟩ ∧ y l o = true) ∨ z = true := by
  cases a with
  | none => exact .inr h
  | some a =>
    obtain ⟨l, o, s⟩ := a
    cases s with
    | none => exact .inl ⟨l, o, rfl, h⟩
    | some s => exact .inr h
theorem ptrK_true {v : Value} {k : Nat → Nat → Bool} (h : ptrK v k = true) : ∃ l o, v = .pointer (some ⟨l, o, none⟩) ∧ k l o = true := by
  rcases vPtr_true h with ⟨a, rfl, h'⟩ | h
  · rcases adK_true h' with ⟨l, o, rfl, h⟩ | h
    · exact ⟨l, o, rfl, h⟩
    · cases h
  · cases h
theorem sliceK_true {z : Bool} {v : Value} {k : Nat → Nat → Nat → Nat → Bool} (h : sliceK z v k = true) : (∃ l o n c, v = .slice (some ⟨l, o, none⟩) n c ∧ k l o n c = true) ∨ z = true := by
  rcases vSlc_true h with ⟨a, n, c, rfl, h'⟩ | h
  · rcases adK_true h' with ⟨l, o, rfl, h⟩ | h
    · exact .inl ⟨l, o, n, c, rfl, h⟩
    · exact .inr h
  · exact .inr h
theorem cellsK_true {o : Option BObj} {k : List Value → Nat → Bool → Bool} (h : cellsK o k = true) : ∃ c sz ro, toAO o = some (.cells c sz ro) ∧ k c sz ro = true := by
  cases o with
  | none => cases h
  | some b => cases b with
    | s o => cases o with
      | cells c sz ro => exact ⟨c, sz, ro, rfl, h⟩
      | map _ _ => cases h
      | mapIter _ _ _ _ => cases h
    | b n fr sz => exact ⟨rowL n fr, sz, false, rfl, h⟩
theorem hcells_true {l : Nat} {t : HT} {k : List Value → Nat → Bool → Bool} (n : Nat) (h : hget l t (fun ob => cellsK ob k) = true) : ∃ c sz ro, (fHeap t n).get l = some (.cells c sz ro) ∧ k c sz ro = true := by
  obtain ⟨ob, h1, h2⟩ := hget_true n h
  obtain ⟨c, sz, ro, h3, h4⟩ := cellsK_true h2
  exact ⟨c, sz, ro, h1.symm.trans h3, h4⟩
theorem hld_true {l i : Nat} {t : HT} {k : Value → Bool} (n : Nat) (h : hget l t (fun ob => ldK ob i k) = true) : ∃ c sz ro v, (fHeap t n).get l = some (.cells c sz ro) ∧ c[i]? = some v ∧ k v = true := by
  obtain ⟨ob, h1, h⟩ := hget_true n h
  cases ob with
  | none => cases h
  | some b => cases b with
    | s o => cases o with
      | cells c sz ro =>
        obtain ⟨v, h2, h3⟩ := nthK_true (show nthK i c k = true from h)
        exact ⟨c, sz, ro, v, h1.symm, h2, h3⟩
      | map _ _ => cases h
      | mapIter _ _ _ _ => cases h
    | b m fr sz =>
      rcases brec_true (show Bool.rec false (pget (ptN 5 i) fr k) (Nat.blt i m) = true from h) with ⟨h2, h⟩ | ⟨_, h⟩
      · rw [pget_eq] at h
        have hi : i < m := by simpa [Nat.blt_eq] using h2
        exact ⟨rowL m fr, sz, false, _, h1.symm, by rw [rowL_get, if_pos hi], h⟩
      · cases h
theorem psetsK_true {n : Nat} (hn : n ≤ 1024) : ∀ {vs : List Value} {o : Nat} {fr : QT Value 5} {k : QT Value 5 → Bool}, psetsK n vs o fr k = true →
    o + vs.length ≤ n ∧ ∃ fr', k fr' = true ∧ ∀ i, i < n → pfun (ptN 5 i) fr' = if i < o then pfun (ptN 5 i) fr else if i < o + vs.length then vs.getD (i - o) undef else pfun (ptN 5 i) fr
  | [], o, fr, k, h => by
    rcases brec_true (show Bool.rec false (k fr) (Nat.ble o n) = true from h) with ⟨h1, h⟩ | ⟨_, h⟩
    · refine ⟨by have := Nat.le_of_ble_eq_true h1; simpa using this, fr, h, fun i hi => ?_⟩
      by_cases c : i < o
      · rw [if_pos c]
      · rw [if_neg c, if_neg (by simpa using c)]
    · cases h
  | v :: r, o, fr, k, h => by
    rcases brec_true (show Bool.rec false (pset v (ptN 5 o) fr fun fr => psetsK n r (Nat.succ o) fr k) (Nat.blt o n) = true from h) with ⟨h1, h⟩ | ⟨_, h⟩
    case inr => cases h
    have ho : o < n := by simpa [Nat.blt_eq] using h1
    rw [pset_eq] at h
    obtain ⟨h2, fr', h3, h4⟩ := psetsK_true hn h
    simp only [Nat.succ_eq_add_one] at h2
    refine ⟨by simp only [List.length_cons]; omega, fr', h3, fun i hi => ?_⟩
    have hne : i ≠ o → pfun (ptN 5 i) (psetf v (ptN 5 o) fr) = pfun (ptN 5 i) fr := fun e => pfun_ne _ _ _ _ fun q => e (ptN_inj (by omega) (by omega) q)
    rw [h4 i hi]
    simp only [List.length_cons, Nat.succ_eq_add_one]
    by_cases c : i < o
    · rw [if_pos (by omega), if_pos c, hne (by omega)]
    · rw [if_neg c]
      by_cases c1 : i = o
      · subst c1
        rw [if_pos (by omega), pfun_same, if_pos (by omega)]
        simp
      · rw [if_neg (by omega)]
        by_cases c2 : i < o + 1 + r.length
        · rw [if_pos c2, if_pos (by omega)]
          obtain ⟨q, rfl⟩ : ∃ q, i = o + (q + 1) := ⟨i - o - 1, by omega⟩
          rw [show o + (q + 1) - (o + 1) = q by omega, show o + (q + 1) - o = q + 1 by omega]
          rfl
        · rw [if_neg c2, if_neg (by omega), hne c1]
theorem hst_true {l o : Nat} {t : HT} {vs : List Value} {k : BObj → Bool} (n : Nat) (h : hget l t (fun ob => stK ob o vs k) = true) :
    ∃ c sz b, (fHeap t n).get l = some (.cells c sz false) ∧ o + vs.length ≤ c.length ∧ b.toA = .cells (splice c o vs) sz false ∧ k b = true := by
  obtain ⟨ob, h1, h⟩ := hget_true n h
  cases ob with
  | none => cases h
  | some b => cases b with
    | s x => cases x with
      | cells c sz ro =>
        cases ro with
        | true => cases h
        | false =>
          obtain ⟨h2, h⟩ := spliceK_true (show spliceK vs o c (fun c => k (.s (.cells c sz false))) = true from h)
          exact ⟨c, sz, _, h1.symm, h2, rfl, h⟩
      | map _ _ => cases h
      | mapIter _ _ _ _ => cases h
    | b m fr sz =>
      rcases brec_true (show Bool.rec false (psetsK m vs o fr fun fr => k (.b m fr sz)) (Nat.ble m 1024) = true from h) with ⟨hm, h⟩ | ⟨_, h⟩
      case inr => cases h
      obtain ⟨h2, fr', h3, h4⟩ := psetsK_true (Nat.le_of_ble_eq_true hm) h
      refine ⟨rowL m fr, sz, _, h1.symm, by rw [rowL_length]; exact h2, ?_, h3⟩
      show AObj.cells (rowL m fr') sz false = _
      congr 1
      apply List.ext_getElem?
      intro i
      rw [splice_get (by rw [rowL_length]; exact h2), rowL_get, rowL_get]
      by_cases hi : i < m
      · rw [if_pos hi, if_pos hi, h4 i hi]
        by_cases c : o ≤ i ∧ i < o + vs.length
        · rw [if_pos c, if_neg (by omega), if_pos c.2, List.getD_eq_getElem?_getD, List.getElem?_eq_getElem (by omega)]; rfl
        · rw [if_neg c]
          by_cases c1 : i < o
          · rw [if_pos c1]
          · rw [if_neg c1, if_neg (by omega)]
      · rw [if_neg hi, if_neg hi, if_neg (by omega)]
theorem valCells_true {v : Value} {k : List Value → Bool} (h : valCells v k = true) : k v.cells.toList = true := by
  cases v <;> exact h


abbrev CR := FuncId → Array Value → Heap → Value → Heap → Prop

def ClIs (C : CR) (cl : Cl) : Prop := ∀ f vs t n k, cl f vs t n k = true → ∃ v t' n', k v t' n' = true ∧ C f ⟨vs⟩ (fHeap t n) v (fHeap t' n')

inductive Done (E : Env) (C : CR) (ev : Ev) (o : Oper) (σ : Heap) (nm : Nat) (ds : DS) : Value → List Nat → List Nat → DS → Heap → Prop where
  | prim {p : Prim} {eff : Eff} : aop E ev o = some (.prim p) → p.run σ nm = some eff → wrOk p eff = true → Done E C ev o σ nm ds eff.val (tchOf p eff nm) (wrtOf eff nm) ds (σ.app nm eff)
  | call {f : FuncId} {args : Array Value} {v : Value} {σ' : Heap} : aop E ev o = some (.call f args) → C f args σ v σ' → Done E C ev o σ nm ds v [] [] ds σ'
  | defer {f : FuncId} {cap args : Array Value} : aop E ev o = some (.defer f cap args) → Done E C ev o σ nm ds undef [] [] (⟨.fn (.func f) cap, args⟩ :: ds) σ

def Okd (E : Env) (C : CR) (ev : Ev) (o : Oper) (t : HT) (n nm : Nat) (ds : DS) (k : KO) : Prop :=
  ∃ v tch wrt ds' t' n', k v tch wrt ds' t' n' = true ∧ Done E C ev o (fHeap t n) nm ds v tch wrt ds' (fHeap t' n')

section
variable {E : Env} {C : CR} {ev : Ev} {o : Oper} {t : HT} {n nm : Nat} {ds : DS} {k : KO}

theorem okd_prim {p : Prim} {eff : Eff} (hop : aop E ev o = some (.prim p)) (hrun : p.run (fHeap t n) nm = some eff) (hw : wrOk p eff = true) {t' : HT} (hh : fHeap t' n = (fHeap t n).app nm eff)
    (hk : k eff.val (tchOf p eff nm) (wrtOf eff nm) ds t' n = true) : Okd E C ev o t n nm ds k :=
  ⟨_, _, _, _, t', n, hk, by rw [hh]; exact .prim hop hrun hw⟩

theorem okd_val {v : Value} (hop : aop E ev o = some (.prim (.ofVal v))) (hk : k v [] [] ds t n = true) : Okd E C ev o t n nm ds k :=
  okd_prim (eff := ⟨v, none, none⟩) hop rfl rfl rfl hk

theorem okd_read {l : Nat} {act : Nat → List AObj → Option Eff} {v : Value} {x : AObj} (hop : aop E ev o = some (.prim ⟨[l], act⟩)) (hg : (fHeap t n).get l = some x) (ha : act nm [x] = some ⟨v, none, none⟩)
    (hk : k v [l] [] ds t n = true) : Okd E C ev o t n nm ds k :=
  okd_prim (p := ⟨[l], act⟩) (eff := ⟨v, none, none⟩) hop (by simp [Prim.run, getAll, hg, ha]) rfl rfl hk

theorem okd_write {l : Nat} {act : Nat → List AObj → Option Eff} {v : Value} {x y : AObj} (hop : aop E ev o = some (.prim ⟨[l], act⟩)) (hg : (fHeap t n).get l = some x) (ha : act nm [x] = some ⟨v, some (l, some y), none⟩)
    {t' : HT} (hh : fHeap t' n = (fHeap t n).upd l (some y)) (hk : k v [l] [l] ds t' n = true) : Okd E C ev o t n nm ds k :=
  okd_prim (p := ⟨[l], act⟩) (eff := ⟨v, some (l, some y), none⟩) hop (by simp [Prim.run, getAll, hg, ha]) (by simp [wrOk]) hh hk

theorem okd_new {act : Nat → List AObj → Option Eff} {v : Value} {y : AObj} (hop : aop E ev o = some (.prim ⟨[], act⟩)) (ha : act nm [] = some ⟨v, none, some y⟩)
    {t' : HT} (hh : fHeap t' n = (fHeap t n).upd nm (some y)) (hk : k v [nm] [nm] ds t' n = true) : Okd E C ev o t n nm ds k :=
  okd_prim (p := ⟨[], act⟩) (eff := ⟨v, none, some y⟩) hop (by simp [Prim.run, getAll, ha]) rfl hh hk

end

end Go.Proofs.YtfchjhfccnodpaaGreat
end

section
namespace Go.Proofs.YtfchjhfccnodpaaGreat
set_option linter.unusedSimpArgs false
set_option linter.unusedVariables false

section
variable {E : Env} {C : CR} {cl : Cl} {ev : Ev} {o : Oper} {t : HT} {n nm : Nat} {ds : DS} {k : KO} {d : Nat} {fr : FT d} {lk : LK}

theorem exMv_ok {x : QS d} {xo : Operand} (ho : o.op = .move xo ∨ o.op = .assign xo) (hx : ev xo = some (x.val fr)) (h : exMv x E cl fr ds t n nm lk k = true) : Okd E C ev o t n nm ds k := by
  simp only [exMv, fs_get] at h
  refine okd_val ?_ h
  rcases ho with ho | ho <;> simp only [aop, ho, hx, Option.map_some]

theorem partO_cell {P : Program} {ty : TypeId} {c : List Value} {i : Nat} (ha : aggO P ty = some false) : partO P ty c i = c[i]? := by
  simp only [partO, ha, Option.bind_some]
theorem partO_agg {P : Program} {ty : TypeId} {c : List Value} {i s : Nat} (ha : aggO P ty = some true) (hs : szO P ty = some s) (hl : i + s ≤ c.length) : partO P ty c i = some (.agg ((c.drop i).take s).toArray) := by
  simp only [partO, ha, hs, Option.bind_some, if_pos hl]

theorem exLdc_ok {p : Pt d} {ty : TypeId} {xo : Operand} (ho : o.op = .load ty xo) (ht : aggO E.P ty = some false) (hx : ev xo = some (pfun p fr)) (h : exLdc p E cl fr ds t n nm lk k = true) : Okd E C ev o t n nm ds k := by
  simp only [exLdc, pget_eq] at h
  obtain ⟨l, i, hv, h⟩ := ptrK_true h
  obtain ⟨c, sz, ro, v, hg, hn, h⟩ := hld_true n h
  refine okd_read (l := l) (act := ?act) ?h1 hg ?h2 h
  case h1 =>
    simp only [aop, ho, aLoad, hx, hv, Option.bind_some, Option.map_some]; rfl
  case h2 =>
    simp only [partO_cell ht, hn, Option.map_some]

theorem exLda_ok {p : Pt d} {ty : TypeId} {xo : Operand} {s : Nat} (ho : o.op = .load ty xo) (ht : aggO E.P ty = some true) (hs : szO E.P ty = some s) (hx : ev xo = some (pfun p fr)) (h : exLda s p E cl fr ds t n nm lk k = true) :
    Okd E C ev o t n nm ds k := by
  simp only [exLda, pget_eq] at h
  obtain ⟨l, i, hv, h⟩ := ptrK_true h
  obtain ⟨c, sz, ro, hg, h⟩ := hcells_true n h
  obtain ⟨h1, h⟩ := dropK_true h
  obtain ⟨h2, h⟩ := takeK_true h
  refine okd_read (l := l) (act := ?act) ?h1 hg ?h2 h
  case h1 =>
    simp only [aop, ho, aLoad, hx, hv, Option.bind_some, Option.map_some]; rfl
  case h2 =>
    rw [List.length_drop] at h2
    simp only [partO_agg ht hs (show i + s ≤ c.length by omega), Option.map_some, List.append_nil]

theorem exSt_ok {p : Pt d} {x : QS d} {ty : TypeId} {ao xo : Operand} {s : Nat} (ho : o.op = .store ty ao xo) (hs : szO E.P ty = some s) (ha : ev ao = some (pfun p fr)) (hx : ev xo = some (x.val fr))
    (h : exSt s p x E cl fr ds t n nm lk k = true) : Okd E C ev o t n nm ds k := by
  simp only [exSt, pget_eq, fs_get] at h
  obtain ⟨l, i, hv, h⟩ := ptrK_true h
  have h := valCells_true h
  rcases brec_true h with ⟨hb, h⟩ | ⟨_, h⟩
  case inr => cases h
  have hb := Nat.eq_of_beq_eq_true hb
  obtain ⟨h1, h⟩ := onesK_true h
  obtain ⟨c, sz, b, hg, h2, hb2, h⟩ := hst_true n h
  obtain ⟨t', h, hh⟩ := hsetB_true n h
  have hh : fHeap t' n = (fHeap t n).upd l (some (.cells (splice c i (x.val fr).cells.toList) sz false)) := by rw [hh, ← hb2]; rfl
  refine okd_write (l := l) (act := ?act) ?h1 hg ?h2 hh h
  case h1 =>
    simp only [aop, ho, aStore, ha, hx, hv, hs, Option.bind_some]
    rw [if_pos (by simp only [Bool.and_eq_true, decide_eq_true_eq]; exact ⟨by rw [← hb]; simp, h1⟩)]
    rfl
  case h2 =>
    rw [hb] at h2
    simp only [if_pos h2]

theorem exFa_ok {p : Pt d} {ty : TypeId} {xo : Operand} {f : Nat} {fields : Array Field} {fd : Field} {z : Nat} (ho : o.op = .fieldAddr ty xo f) (hu : E.P.underlying ty = some (.struct fields)) (hf : fields[f]? = some fd)
    (hz : szO E.P fd.type = some z) (hz0 : z ≠ 0) (hx : ev xo = some (pfun p fr)) (h : exFa fd.offset p E cl fr ds t n nm lk k = true) : Okd E C ev o t n nm ds k := by
  simp only [exFa, pget_eq] at h
  obtain ⟨l, i, hv, h⟩ := ptrK_true h
  refine okd_val ?_ h
  simp only [aop, ho, aFieldAddr, hu, hf, hx, hv, hz, Option.bind_some, if_neg hz0, Option.map_some]
  rfl

theorem exNc_ok {x : QS d} {xo : Operand} (ho : o.op = .nilCheck xo) (hx : ev xo = some (x.val fr)) (h : exNc x E cl fr ds t n nm lk k = true) : Okd E C ev o t n nm ds k := by
  simp only [exNc, fs_get] at h
  split at h
  · rename_i a hv
    refine okd_val ?_ h
    simp only [aop, ho, aNil, hx, hv, Option.bind_some, Option.map_some]
  · rename_i f a b hv
    refine okd_val ?_ h
    simp only [aop, ho, aNil, hx, hv, Option.bind_some, Option.map_some]
  · cases h

theorem exPk_ok {c x y : QS d} {co xo yo : Operand} (ho : o.op = .pick co xo yo) (hc : ev co = some (c.val fr)) (hx : ev xo = some (x.val fr)) (hy : ev yo = some (y.val fr)) (h : exPk c x y E cl fr ds t n nm lk k = true) :
    Okd E C ev o t n nm ds k := by
  simp only [exPk, fs_get] at h
  rcases vBool_true h with ⟨hv, h⟩ | ⟨hv, h⟩ | ⟨_, h⟩
  · refine okd_val ?_ h
    simp [aop, ho, hc, hv, hx]
  · refine okd_val ?_ h
    simp [aop, ho, hc, hv, hy]
  · cases h

theorem exAl_ok {ty : TypeId} {z : Value} (ho : o.op = .alloc ty) (hz : zeroP E.P ty = some z) (h : exAl z.cells.toList E cl fr ds t n nm lk k = true) : Okd E C ev o t n nm ds k := by
  obtain ⟨t', h, hh⟩ := hset_true n h
  refine okd_new (act := ?act) ?h1 ?h2 hh h
  case h1 => simp only [aop, ho, hz, Option.map_some, Prim.newCells]; rfl
  case h2 => rfl

theorem exAlb_ok {ty : TypeId} {z : Value} {m : Nat} (ho : o.op = .alloc ty) (hz : zeroP E.P ty = some z) (hm : z.cells.toList.length = m) (hm2 : m ≤ 1024) (h : exAlb m z.cells.toList E cl fr ds t n nm lk k = true) : Okd E C ev o t n nm ds k := by
  simp only [exAlb, natK_eq] at h
  obtain ⟨t', h, hh⟩ := hsetB_true n h
  have hh : fHeap t' n = (fHeap t n).upd nm (some (.cells z.cells.toList 0 false)) := by rw [hh, ← bigO_toA hm hm2]; rfl
  refine okd_new (act := ?act) ?h1 ?h2 hh h
  case h1 => simp only [aop, ho, hz, Option.map_some, Prim.newCells]; rfl
  case h2 => rfl

theorem exBxb_ok {x : QS d} {ty : TypeId} {xo : Operand} {m : Nat} (hm2 : m ≤ 1024) (ho : o.op = .box ty xo) (hx : ev xo = some (x.val fr)) (h : exBxb m x E cl fr ds t n nm lk k = true) : Okd E C ev o t n nm ds k := by
  simp only [exBxb, fs_get] at h
  have h := valCells_true h
  rcases brec_true h with ⟨hm, h⟩ | ⟨_, h⟩
  case inr => cases h
  have hm := Nat.eq_of_beq_eq_true hm
  obtain ⟨t', h, hh⟩ := hsetB_true n h
  have hh : fHeap t' n = (fHeap t n).upd nm (some (.cells (x.val fr).cells.toList 0 false)) := by rw [hh, ← bigO_toA hm hm2]; rfl
  refine okd_new (act := ?act) ?h1 ?h2 hh h
  case h1 => simp only [aop, ho, hx, Option.map_some, Prim.newCells]; rfl
  case h2 => rfl

theorem exBx_ok {x : QS d} {ty : TypeId} {xo : Operand} (ho : o.op = .box ty xo) (hx : ev xo = some (x.val fr)) (h : exBx x E cl fr ds t n nm lk k = true) : Okd E C ev o t n nm ds k := by
  simp only [exBx, fs_get] at h
  have h := valCells_true h
  obtain ⟨t', h, hh⟩ := hset_true n h
  refine okd_new (act := ?act) ?h1 ?h2 hh h
  case h1 => simp only [aop, ho, hx, Option.map_some, Prim.newCells]; rfl
  case h2 => rfl

theorem exEx_ok {x : QS d} {xo : Operand} {i : Nat} (ho : o.op = .extract xo i) (hx : ev xo = some (x.val fr)) (h : exEx i x E cl fr ds t n nm lk k = true) : Okd E C ev o t n nm ds k := by
  simp only [exEx, fs_get] at h
  split at h
  case h_2 => cases h
  rename_i vs hv
  obtain ⟨v, hn, h⟩ := nthK_true h
  refine okd_val ?_ h
  simp [aop, ho, aExtract, hx, hv, hn]

theorem exLn_ok {x : QS d} {c : Call} {ty e : TypeId} {xo : Operand} (ho : o.op = .call c) (hc : c.callee = .builtin .len) (ha : c.argTypes.toList = [ty]) (hb : c.args.toList = [xo]) (hu : E.P.underlying ty = some (.slice e))
    (hx : ev xo = some (x.val fr)) (h : exLn x E cl fr ds t n nm lk k = true) : Okd E C ev o t n nm ds k := by
  simp only [exLn, fs_get] at h
  rcases vSlc_true h with ⟨a, m, c', hv, h⟩ | h
  case inr => cases h
  refine okd_val ?_ h
  simp [aop, ho, aCall, hc, hb, evList, hx, hv, aBuiltin, ha, aLen, hu]

theorem exIa_ok {x i : QS d} {ty e : TypeId} {xo io : Operand} {s : Nat} (ho : o.op = .indexAddr ty xo io) (hu : E.P.underlying ty = some (.slice e)) (hs : szO E.P e = some s) (hx : ev xo = some (x.val fr)) (hi : ev io = some (i.val fr))
    (h : exIa s x i E cl fr ds t n nm lk k = true) : Okd E C ev o t n nm ds k := by
  simp only [exIa, fs_get] at h
  rcases vInt_true h with ⟨kd, i', hv, h⟩ | h
  case inr => cases h
  rcases sliceK_true h with ⟨l, o', m, c, hw, h⟩ | h
  case inr => cases h
  cases i' with
  | negSucc _ => cases h
  | ofNat j =>
    rcases brec_true h with ⟨hb, h⟩ | ⟨_, h⟩
    case inr => cases h
    have hb : j < m := by simpa [Nat.blt, Nat.succ_le_iff] using hb
    refine okd_val ?_ h
    simp only [aop, ho, aIndexAddr, hi, hv, hu, hs, hx, hw, Option.bind_some]
    rw [if_pos ⟨Int.natCast_nonneg _, Int.ofNat_lt.2 hb⟩]
    rfl
end

end Go.Proofs.YtfchjhfccnodpaaGreat
end

section
namespace Go.Proofs.YtfchjhfccnodpaaGreat
set_option linter.unusedSimpArgs false
set_option linter.unusedVariables false

theorem sameK_true {kd kd' : IntKind} {z y : Bool} (h : sameK kd kd' z y = true) : (kd = kd' ∧ y = true) ∨ z = true := by
  rcases brec_true h with ⟨hb, h⟩ | ⟨_, h⟩
  · refine .inl ⟨?_, h⟩
    cases kd <;> cases kd' <;> first | rfl | (exact absurd hb (by decide))
  · exact .inr h

theorem wrap_small {kd : IntKind} {r : Nat} (h : r ≤ hiK kd) : kd.wrap (r : Int) = r := by
  cases kd <;> simp only [hiK] at h <;> simp only [IntKind.wrap, IntKind.bits, IntKind.signed] <;> (try simp) <;> omega

theorem wrK_true {kd : IntKind} {r : Nat} {z : Bool} {k : Value → Bool} (h : wrK kd r z k = true) : z = true ∨ ∃ m : Nat, kd.wrap (r : Int) = m ∧ k (.int kd (.ofNat m)) = true := by
  rcases brec_true h with ⟨hb, h⟩ | ⟨_, h⟩
  · exact .inr ⟨r, wrap_small (Nat.le_of_ble_eq_true hb), h⟩
  · cases kd with
    | i8 => exact .inl h
    | i16 => exact .inl h
    | i32 => exact .inl h
    | i64 => exact .inl h
    | u8 => exact .inr ⟨_, by simp [IntKind.wrap, IntKind.bits, IntKind.signed]; rfl, h⟩
    | u16 => exact .inr ⟨_, by simp [IntKind.wrap, IntKind.bits, IntKind.signed]; rfl, h⟩
    | u32 => exact .inr ⟨_, by simp [IntKind.wrap, IntKind.bits, IntKind.signed]; rfl, h⟩
    | u64 => exact .inr ⟨_, by simp [IntKind.wrap, IntKind.bits, IntKind.signed]; rfl, h⟩

def IbOk (op : BinOp) (g : IBF) : Prop := ∀ (P : Program) (t : TypeId) (kd kd' : IntKind) (a b : Nat) (z : Bool) (k : Value → Bool), g kd kd' a b z k = true →
  z = true ∨ ∃ v, plainV v = true ∧ k v = true ∧ pureRun P (binOp op t (.int kd (.ofNat a)) (.int kd' (.ofNat b))) = some v

theorem gBool_true {b : Bool} {k : Value → Bool} (h : gBool b k = true) : k (.bool b) = true := by cases b <;> exact h

theorem ibAdd_ok : IbOk .add ibAdd := by
  intro P t kd kd' a b z k h₀
  rcases sameK_true h₀ with ⟨e0, h⟩ | h
  case inr => exact .inl h
  subst e0
  rcases wrK_true h with h | ⟨m, hm, h⟩
  · exact .inl h
  · refine .inr ⟨_, rfl, h, ?_⟩
    have hm : kd.wrap (Int.ofNat a + Int.ofNat b) = Int.ofNat m := hm
    simp only [binOp, Op.intArith, ne_eq, not_true_eq_false, if_false]
    rw [hm]; rfl

theorem ibMul_ok : IbOk .mul ibMul := by
  intro P t kd kd' a b z k h₀
  rcases sameK_true h₀ with ⟨e0, h⟩ | h
  case inr => exact .inl h
  subst e0
  rcases wrK_true h with h | ⟨m, hm, h⟩
  · exact .inl h
  · refine .inr ⟨_, rfl, h, ?_⟩
    have hm : kd.wrap (Int.ofNat a * Int.ofNat b) = Int.ofNat m := hm
    simp only [binOp, Op.intArith, ne_eq, not_true_eq_false, if_false]
    rw [hm]; rfl

theorem ibSub_ok : IbOk .sub ibSub := by
  intro P t kd kd' a b z k h₀
  rcases sameK_true h₀ with ⟨e0, h⟩ | h
  case inr => exact .inl h
  subst e0
  rcases brec_true h with ⟨hb, h⟩ | ⟨_, h⟩
  case inr => exact .inl h
  have hb := Nat.le_of_ble_eq_true hb
  rcases wrK_true h with h | ⟨m, hm, h⟩
  · exact .inl h
  · refine .inr ⟨_, rfl, h, ?_⟩
    have e : Int.ofNat a - Int.ofNat b = ((Nat.sub a b : Nat) : Int) := by
      show (a : Int) - (b : Int) = ((a - b : Nat) : Int); omega
    have hm : kd.wrap (Int.ofNat a - Int.ofNat b) = Int.ofNat m := by rw [e]; exact hm
    simp only [binOp, Op.intArith, ne_eq, not_true_eq_false, if_false]
    rw [hm]; rfl

theorem ibCmp_ok {op : BinOp} {g : IBF} (f : Nat → Nat → Bool) (hg : ∀ kd kd' a b z k, g kd kd' a b z k = sameK kd kd' z (gBool (f a b) k))
    (hop : ∀ (P : Program) (t : TypeId) (kd : IntKind) (a b : Nat), pureRun P (binOp op t (.int kd (.ofNat a)) (.int kd (.ofNat b))) = some (.bool (f a b))) : IbOk op g := by
  intro P t kd kd' a b z k h₀
  rw [hg] at h₀
  rcases sameK_true h₀ with ⟨e0, h⟩ | h
  case inr => exact .inl h
  subst e0
  exact .inr ⟨_, rfl, gBool_true h, hop P t kd a b⟩

theorem ibLss_ok : IbOk .lss ibLss := ibCmp_ok Nat.blt (fun _ _ _ _ _ _ => rfl) fun P t kd a b => by
  simp only [binOp, Op.intCmp, ne_eq, not_true_eq_false, if_false]
  show some (Value.bool _) = _
  congr 2
  rw [Bool.eq_iff_iff, decide_eq_true_iff, Nat.blt_eq]
  exact Int.ofNat_lt
theorem ibGtr_ok : IbOk .gtr ibGtr := ibCmp_ok (fun a b => Nat.blt b a) (fun _ _ _ _ _ _ => rfl) fun P t kd a b => by
  simp only [binOp, Op.intCmp, ne_eq, not_true_eq_false, if_false]
  show some (Value.bool _) = _
  congr 2
  rw [Bool.eq_iff_iff, decide_eq_true_iff, Nat.blt_eq]
  exact Int.ofNat_lt
theorem ibLeq_ok : IbOk .leq ibLeq := ibCmp_ok Nat.ble (fun _ _ _ _ _ _ => rfl) fun P t kd a b => by
  simp only [binOp, Op.intCmp, ne_eq, not_true_eq_false, if_false]
  show some (Value.bool _) = _
  congr 2
  rw [Bool.eq_iff_iff, decide_eq_true_iff, Nat.ble_eq]
  exact Int.ofNat_le
theorem ibGeq_ok : IbOk .geq ibGeq := ibCmp_ok (fun a b => Nat.ble b a) (fun _ _ _ _ _ _ => rfl) fun P t kd a b => by
  simp only [binOp, Op.intCmp, ne_eq, not_true_eq_false, if_false]
  show some (Value.bool _) = _
  congr 2
  rw [Bool.eq_iff_iff, decide_eq_true_iff, Nat.ble_eq]
  exact Int.ofNat_le
theorem ibEql_ok : IbOk .eql ibEql := ibCmp_ok Nat.beq (fun _ _ _ _ _ _ => rfl) fun P t kd a b => by
  simp only [binOp, Op.intCmp, ne_eq, not_true_eq_false, if_false]
  show some (Value.bool _) = _
  congr 2
  rw [Bool.eq_iff_iff, beq_iff_eq, Nat.beq_eq]
  exact Int.ofNat_inj
theorem ibNeq_ok : IbOk .neq ibNeq := ibCmp_ok (fun a b => !Nat.beq a b) (fun kd kd' a b z k => by simp only [ibNeq, gBool]; cases Nat.beq a b <;> rfl) fun P t kd a b => by
  simp only [binOp, Op.intCmp, ne_eq, not_true_eq_false, if_false]
  show some (Value.bool _) = _
  congr 2
  rw [Bool.eq_iff_iff, bne_iff_ne, Bool.not_eq_true', ← Bool.not_eq_true, Nat.beq_eq, ne_eq]
  exact not_congr Int.ofNat_inj

theorem ibQuo_ok : IbOk .quo ibQuo := by
  intro P t kd kd' a b z k h₀
  rcases sameK_true h₀ with ⟨e0, h⟩ | h
  case inr => exact .inl h
  subst e0
  cases b with
  | zero => exact .inl h
  | succ b =>
    rcases wrK_true h with h | ⟨m, hm, h⟩
    · exact .inl h
    · refine .inr ⟨_, rfl, h, ?_⟩
      have hm : kd.wrap ((Int.ofNat a).tdiv (Int.ofNat (b + 1))) = Int.ofNat m := hm
      have h0 : ¬ (Int.ofNat (b + 1) = 0) := by rw [Int.ofNat_eq_natCast]; omega
      simp only [binOp, Op.intDiv, ne_eq, not_true_eq_false, if_false, if_neg h0, hm]; rfl

theorem ibRem_ok : IbOk .rem ibRem := by
  intro P t kd kd' a b z k h₀
  rcases sameK_true h₀ with ⟨e0, h⟩ | h
  case inr => exact .inl h
  subst e0
  cases b with
  | zero => exact .inl h
  | succ b =>
    refine .inr ⟨_, rfl, h, ?_⟩
    have h0 : ¬ (Int.ofNat (b + 1) = 0) := by rw [Int.ofNat_eq_natCast]; omega
    simp only [binOp, Op.intDiv, ne_eq, not_true_eq_false, if_false, if_neg h0]; rfl

theorem bitsK_eq (kd : IntKind) : bitsK kd = kd.bits := by cases kd <;> rfl

theorem ibShl_ok : IbOk .shl ibShl := by
  intro P t kd kd' a b z k h
  rcases brec_true h with ⟨hb, h⟩ | ⟨_, h⟩
  case inr => exact .inl h
  have hb := Nat.le_of_ble_eq_true hb
  rw [bitsK_eq] at hb
  rcases wrK_true h with h | ⟨m, hm, h⟩
  · exact .inl h
  · refine .inr ⟨_, rfl, h, ?_⟩
    have e : Int.ofNat a * 2 ^ b = ((Nat.shiftLeft a b : Nat) : Int) := by
      rw [show Nat.shiftLeft a b = a * 2 ^ b from Nat.shiftLeft_eq a b]; simp
    have h0 : ¬ (Int.ofNat b < 0) := by rw [Int.ofNat_eq_natCast]; omega
    simp only [binOp, Op.shift, if_neg h0, Int.toNat_natCast, Int.ofNat_eq_natCast, Nat.min_eq_left hb]
    rw [show (a : Int) * 2 ^ b = ((Nat.shiftLeft a b : Nat) : Int) from e, hm]; rfl

theorem ibShr_ok : IbOk .shr ibShr := by
  intro P t kd kd' a b z k h
  rcases brec_true h with ⟨hb, h⟩ | ⟨_, h⟩
  case inr => exact .inl h
  have hb := Nat.le_of_ble_eq_true hb
  rw [bitsK_eq] at hb
  refine .inr ⟨_, rfl, h, ?_⟩
  have e : (a : Int).fdiv (2 ^ b) = ((Nat.shiftRight a b : Nat) : Int) := by
    rw [show Nat.shiftRight a b = a / 2 ^ b from Nat.shiftRight_eq_div_pow a b]
    rw [Int.fdiv_eq_ediv_of_nonneg _ (Int.pow_nonneg (by decide))]
    simp
  have h0 : ¬ (Int.ofNat b < 0) := by rw [Int.ofNat_eq_natCast]; omega
  simp only [binOp, Op.shift, if_neg h0, Int.toNat_natCast, Int.ofNat_eq_natCast, Nat.min_eq_left hb]
  rw [e]; rfl

end Go.Proofs.YtfchjhfccnodpaaGreat
end

section
namespace Go.Proofs.YtfchjhfccnodpaaGreat
set_option linter.unusedSimpArgs false
set_option linter.unusedVariables false

theorem bits_small {kd : IntKind} {a : Nat} (h : a ≤ hiK kd) : a < 2 ^ kd.bits := by
  cases kd <;> simp only [hiK] at h <;> simp only [IntKind.bits] <;> omega

theorem bv_small {kd : IntKind} {a : Nat} (h : a ≤ hiK kd) : (BitVec.ofInt kd.bits (Int.ofNat a)).toNat = a := by
  have := bits_small h
  rw [BitVec.toNat_ofInt]
  simp only [Int.ofNat_eq_natCast]
  rw [← Int.natCast_emod, Int.toNat_natCast, Nat.mod_eq_of_lt this]

theorem ibBit_ok {op : BinOp} (f : Nat → Nat → Nat) (hop : ∀ (P : Program) (t : TypeId) (kd : IntKind) (a b : Nat), a ≤ hiK kd → b ≤ hiK kd → f a b ≤ hiK kd →
    pureRun P (binOp op t (.int kd (.ofNat a)) (.int kd (.ofNat b))) = some (.int kd (.ofNat (f a b)))) : IbOk op (ibBit f) := by
  intro P t kd kd' a b z k h₀
  rcases sameK_true h₀ with ⟨e0, h⟩ | h
  case inr => exact .inl h
  subst e0
  rcases brec_true h with ⟨h1, h⟩ | ⟨_, h⟩
  case inr => exact .inl h
  rcases brec_true h with ⟨h2, h⟩ | ⟨_, h⟩
  case inr => exact .inl h
  rcases brec_true h with ⟨h3, h⟩ | ⟨_, h⟩
  case inr => exact .inl h
  exact .inr ⟨_, rfl, h, hop P t kd a b (Nat.le_of_ble_eq_true h1) (Nat.le_of_ble_eq_true h2) (Nat.le_of_ble_eq_true h3)⟩

theorem ibAnd_ok : IbOk .and ibAnd := ibBit_ok _ fun P t kd a b h1 h2 h3 => by
  have e : kd.wrap (((BitVec.ofInt kd.bits (Int.ofNat a)) &&& (BitVec.ofInt kd.bits (Int.ofNat b))).toNat : Int) = ((Nat.land a b : Nat) : Int) := by
    rw [BitVec.toNat_and, bv_small h1, bv_small h2]; exact wrap_small h3
  simp only [binOp, Op.intBits, ne_eq, not_true_eq_false, if_false]
  rw [e]; rfl
theorem ibOr_ok : IbOk .or ibOr := ibBit_ok _ fun P t kd a b h1 h2 h3 => by
  have e : kd.wrap (((BitVec.ofInt kd.bits (Int.ofNat a)) ||| (BitVec.ofInt kd.bits (Int.ofNat b))).toNat : Int) = ((Nat.lor a b : Nat) : Int) := by
    rw [BitVec.toNat_or, bv_small h1, bv_small h2]; exact wrap_small h3
  simp only [binOp, Op.intBits, ne_eq, not_true_eq_false, if_false]
  rw [e]; rfl
theorem ibXor_ok : IbOk .xor ibXor := ibBit_ok _ fun P t kd a b h1 h2 h3 => by
  have e : kd.wrap (((BitVec.ofInt kd.bits (Int.ofNat a)) ^^^ (BitVec.ofInt kd.bits (Int.ofNat b))).toNat : Int) = ((Nat.xor a b : Nat) : Int) := by
    rw [BitVec.toNat_xor, bv_small h1, bv_small h2]; exact wrap_small h3
  simp only [binOp, Op.intBits, ne_eq, not_true_eq_false, if_false]
  rw [e]; rfl

theorem ibK_ok {op : BinOp} {f : IB} (h : cB op = some f) : IbOk op (ibK f) := by
  cases op <;> simp only [cB, Option.some.injEq, reduceCtorEq] at h <;> subst h
  all_goals first
    | exact ibAdd_ok | exact ibSub_ok | exact ibMul_ok | exact ibQuo_ok | exact ibRem_ok | exact ibAnd_ok | exact ibOr_ok | exact ibXor_ok | exact ibShl_ok | exact ibShr_ok
    | exact ibEql_ok | exact ibNeq_ok | exact ibLss_ok | exact ibLeq_ok | exact ibGtr_ok | exact ibGeq_ok

theorem guard_int {P : Program} {op : BinOp} {ty : TypeId} {xo yo : Operand} {kd kd' : IntKind} {a b : Int} {v : Value} (h : pureRun P (binOp op ty (.int kd a) (.int kd' b)) = some v) :
    pureRun P (do eqGuard op ty xo yo (.int kd a) (.int kd' b); binOp op ty (.int kd a) (.int kd' b)) = some v := by
  have e : eqGuard op ty xo yo (.int kd a) (.int kd' b) = pure () := by cases op <;> rfl
  rw [e]; exact h

theorem natsK_true {a b : Value} {z : Bool} {k : IntKind → IntKind → Nat → Nat → Bool} (h : natsK a b z k = true) : z = true ∨ ∃ kd kd' i j, a = .int kd (.ofNat i) ∧ b = .int kd' (.ofNat j) ∧ k kd kd' i j = true := by
  rcases vInt_true h with ⟨kd, i, e1, h'⟩ | h
  case inr => exact .inl h
  rcases vInt_true h' with ⟨kd', j, e2, h'⟩ | h
  case inr => exact .inl h
  cases i with
  | negSucc _ => exact .inl h'
  | ofNat i => cases j with
    | negSucc _ => exact .inl h'
    | ofNat j => exact .inr ⟨kd, kd', i, j, e1, e2, h'⟩

section
variable {E : Env} {C : CR} {cl : Cl} {ev : Ev} {o : Oper} {t : HT} {n nm : Nat} {ds : DS} {k : KO} {d : Nat} {fr : FT d} {lk : LK}

theorem happ_true {e : Eff} {k : HT → Bool} (n : Nat) (h : happ t nm e k = true) : ∃ t', k t' = true ∧ fHeap t' n = (fHeap t n).app nm e := by
  unfold happ at h
  split at h
  · rename_i l x hw
    obtain ⟨t₁, h, h1⟩ := hset_true n h
    split at h
    · rename_i y hn
      obtain ⟨t₂, h, h2⟩ := hset_true n h
      exact ⟨t₂, h, by rw [h2, h1]; simp only [Heap.app, Heap.wr, Heap.nw, hw, hn]⟩
    · rename_i hn
      exact ⟨t₁, h, by rw [h1]; simp only [Heap.app, Heap.wr, Heap.nw, hw, hn]⟩
  · rename_i hw
    split at h
    · rename_i y hn
      obtain ⟨t₂, h, h2⟩ := hset_true n h
      exact ⟨t₂, h, by rw [h2]; simp only [Heap.app, Heap.wr, Heap.nw, hw, hn]⟩
    · rename_i hn
      exact ⟨t, h, by simp only [Heap.app, Heap.wr, Heap.nw, hw, hn]⟩

theorem exGen_ok (hcl : ClIs C cl) (hev : ev = fEv lk fr) (h : exGen o E cl fr ds t n nm lk k = true) : Okd E C ev o t n nm ds k := by
  subst hev
  unfold exGen at h
  split at h
  · rename_i p hp
    split at h
    case h_2 => cases h
    rename_i eff he
    split at h
    case isFalse => cases h
    rename_i hw
    obtain ⟨t', h, hh⟩ := happ_true n h
    exact okd_prim hp he hw hh h
  · rename_i f args hp
    obtain ⟨v, t', n', h, hc⟩ := hcl _ _ _ _ _ h
    exact ⟨v, [], [], ds, t', n', h, .call hp hc⟩
  · rename_i f cap args hp
    exact ⟨undef, [], [], _, t, n, h, .defer hp⟩
  · cases h

theorem exBi_ok (hcl : ClIs C cl) (hev : ev = fEv lk fr) {f : IB} {x y : QS d} {op : BinOp} {ty : TypeId} {xo yo : Operand} {w : _} (ho : o.op = .binOp op ty xo yo w) (hf : cB op = some f) (hx : ev xo = some (x.val fr)) (hy : ev yo = some (y.val fr))
    (h : exBi f x y o E cl fr ds t n nm lk k = true) : Okd E C ev o t n nm ds k := by
  simp only [exBi, fs_get] at h
  rcases natsK_true h with h | ⟨kd, kd', i, j, h1, h2, h⟩
  · exact exGen_ok hcl hev h
  rcases ibK_ok hf E.P ty kd kd' i j _ _ h with h | ⟨v, hv, h, hr⟩
  · exact exGen_ok hcl hev h
  refine okd_val ?_ h
  simp only [aop, ho, aBin, hx, hy, h1, h2, Option.bind_some]
  rw [if_pos (by rfl)]
  simp only [pureVal, guard_int hr, Option.bind_some, if_pos hv, Option.map_some]

theorem exNt_ok {x : QS d} {ty : TypeId} {xo : Operand} (ho : o.op = .unOp .not ty xo) (hx : ev xo = some (x.val fr)) (h : exNt x E cl fr ds t n nm lk k = true) : Okd E C ev o t n nm ds k := by
  simp only [exNt, fs_get] at h
  rcases vBool_true h with ⟨hv, h⟩ | ⟨hv, h⟩ | ⟨_, h⟩
  · refine okd_val ?_ h
    simp only [aop, ho, plainEv, hx, hv, Option.bind_some]; rfl
  · refine okd_val ?_ h
    simp only [aop, ho, plainEv, hx, hv, Option.bind_some]; rfl
  · cases h

theorem argsK_true {fr : FT d} : ∀ {xs : List (QS d)} {k : List Value → Bool}, argsK xs fr k = true → k (xs.map fun x => x.val fr) = true
  | [], k, h => h
  | x :: xs, k, h => by
    have h' : x.get fr (fun v => argsK xs fr fun r => k (v :: r)) = true := h
    rw [fs_get] at h'
    exact argsK_true (xs := xs) (k := fun r => k (x.val fr :: r)) h'

theorem exCall_ok (hcl : ClIs C cl) {g : FuncId} {xs : List (QS d)} {c : Call} (ho : o.op = .call c) (hc : c.callee = .value (.func g)) (hX : E.X g = none) (hB : E.B g = true) (hg : ev (.func g) = some (.func (.func g) #[] #[]))
    (hxs : evList ev c.args.toList = some (xs.map fun x => x.val fr)) (h : exCall g xs E cl fr ds t n nm lk k = true) : Okd E C ev o t n nm ds k := by
  have h := argsK_true h
  obtain ⟨v, t', n', h, hcc⟩ := hcl _ _ _ _ _ h
  refine ⟨v, [], [], ds, t', n', h, .call (f := g) (args := ⟨xs.map fun x => x.val fr⟩) ?_ hcc⟩
  simp only [aop, ho, aCall, hxs, hc, hg, hX, hB, Option.bind_some, if_true]
  congr 2
  simp

theorem exFl_ok {g : Bool} {s : Nat} {x : QS d} {ty : TypeId} {xo : Operand} {f : Nat} {fields : Array Field} {fd : Field} (ho : o.op = .field ty xo f) (hu : E.P.underlying ty = some (.struct fields)) (hf : fields[f]? = some fd)
    (ha : aggO E.P fd.type = some g) (hs : szO E.P fd.type = some s) (hx : ev xo = some (x.val fr)) (h : exFl g s fd.offset x E cl fr ds t n nm lk k = true) : Okd E C ev o t n nm ds k := by
  simp only [exFl, fs_get] at h
  split at h
  case h_2 => cases h
  rename_i vs hv
  rcases brec_true h with ⟨hg, h⟩ | ⟨hg, h⟩
  · subst hg
    obtain ⟨h1, h⟩ := dropK_true h
    obtain ⟨h2, h⟩ := takeK_true h
    rw [List.length_drop] at h2
    refine okd_val ?_ h
    simp only [aop, ho, aField, hu, hf, hx, hv, Option.bind_some, partO_agg ha hs (show fd.offset + s ≤ vs.length by omega), Option.map_some, List.append_nil]
  · subst hg
    obtain ⟨v, hn, h⟩ := nthK_true h
    refine okd_val ?_ h
    simp only [aop, ho, aField, hu, hf, hx, hv, Option.bind_some, partO_cell ha, hn, Option.map_some]
end

end Go.Proofs.YtfchjhfccnodpaaGreat
end

section
namespace Go.Proofs.YtfchjhfccnodpaaGreat
set_option linter.unusedSimpArgs false
set_option linter.unusedVariables false

section
variable {E : Env} {C : CR} {cl : Cl} {ev : Ev} {o : Oper} {t : HT} {n nm : Nat} {ds : DS} {k : KO} {d : Nat} {fr : FT d} {lk : LK}

theorem pureRun_undl {α : Type} {P : Program} {ty : TypeId} {td : TypeDesc} (h : P.underlying ty = some td) (f : TypeDesc → Sem α) : pureRun P (do f (← underlying ty)) = pureRun P (f td) := by
  simp only [underlying]
  show pureRun P (Sem.program _) = _
  simp [pureRun, h, Sem.bind]
  rfl

theorem exCv_ok (hcl : ClIs C cl) (hev : ev = fEv lk fr) {x : QS d} {a b : TypeId} {ks kd : IntKind} {xo : Operand} (ho : o.op = .convert a b xo) (ha : E.P.underlying a = some (.int ks)) (hb : E.P.underlying b = some (.int kd))
    (hx : ev xo = some (x.val fr)) (h : exCv kd x o E cl fr ds t n nm lk k = true) : Okd E C ev o t n nm ds k := by
  simp only [exCv, fs_get] at h
  rcases vInt_true h with ⟨k', i, hv, h⟩ | h
  case inr => cases h
  cases i with
  | negSucc _ => exact exGen_ok hcl hev h
  | ofNat i =>
    rcases wrK_true h with h | ⟨m, hm, h⟩
    · exact exGen_ok hcl hev h
    refine okd_val ?_ h
    have e : pureRun E.P (convert a b (.int k' (.ofNat i))) = some (.int kd (.ofNat m)) := by
      unfold convert
      rw [pureRun_undl ha, pureRun_undl hb]
      simp only [Conv.intToInt]
      show some (Value.int kd (kd.wrap (i : Int))) = _
      rw [hm]; rfl
    simp only [aop, ho, aConvert, hx, hv, ha, hb, Option.bind_some]
    rw [if_pos (by rfl)]
    simp only [pureVal, e, Option.bind_some, Option.map_some]
    rfl

theorem fill1 {v : Value} {c : Array Value} (hc : c.size = 1) (hv : v.cells = #[v]) : Instr.fill (fun i => some (i * 1, 1)) c [(0, v)] = some #[v] := by
  obtain ⟨l⟩ := c
  match l, hc with
  | [u], _ => simp [Instr.fill, hv]

theorem cells_one {v : Value} (h1 : ∀ c, v ≠ .agg c) : v.cells = #[v] := by
  cases v <;> first | rfl | exact absurd rfl (h1 _)

theorem exBs_ok (hcl : ClIs C cl) (hev : ev = fEv lk fr) {x : QS d} {ty e : TypeId} {parts : Array (Nat × Operand)} {xo : Operand} {z : Value} (ho : o.op = .buildSlice ty 1 parts) (hp : parts.toList = [(0, xo)]) (hu : E.P.underlying ty = some (.slice e))
    (hs : szO E.P e = some 1) (hz : zeroP E.P e = some z) (hzc : z.cells.size = 1) (hzp : plainL plainV z.cells.toList = true) (hx : ev xo = some (x.val fr)) (h : exBs x o E cl fr ds t n nm lk k = true) : Okd E C ev o t n nm ds k := by
  simp only [exBs, fs_get] at h
  split at h
  · exact exGen_ok hcl hev h
  · exact exGen_ok hcl hev h
  · rename_i h1 h2
    obtain ⟨t', h, hh⟩ := hset_true n h
    refine okd_new (act := ?act) ?h1 ?h2 hh h
    case h1 =>
      simp only [aop, ho, aBuildSlice, hu, hs, hz, hp, evParts, hx, Option.bind_some, Option.map_some]
      rw [if_pos (by simp [hzc, hzp]), fill1 (by simp) (cells_one h1)]
      rfl
    case h2 => rfl

theorem bndK_true {x : Option (QS d)} {xo : Option Operand} {e : Nat} {k : Nat → Bool} (hr : (xo = none ∧ x = none) ∨ ∃ a b, xo = some a ∧ x = some b ∧ ev a = some (b.val fr)) (h : bndK x e fr k = true) :
    ∃ m, k m = true ∧ ∀ y, m ≤ y → boundO ev xo e y = some m := by
  rcases hr with ⟨rfl, rfl⟩ | ⟨a, b, rfl, rfl, hv⟩
  · exact ⟨e, h, fun y hy => by simp only [boundO, if_pos hy]⟩
  · simp only [bndK, fs_get] at h
    rcases vInt_true h with ⟨kd, i, hi, h⟩ | h
    case inr => cases h
    cases i with
    | negSucc _ => cases h
    | ofNat i =>
      refine ⟨i, h, fun y hy => ?_⟩
      simp only [boundO, hv, hi, Option.bind_some]
      rw [if_pos ⟨Int.natCast_nonneg _, Int.ofNat_le.2 hy⟩]
      rfl

theorem exSl_ok (hcl : ClIs C cl) (hev : ev = fEv lk fr) {s : Nat} {x : QS d} {lo hi : Option (QS d)} {ty e : TypeId} {xo : Operand} {lo' hi' : Option Operand} (ho : o.op = .slice ty xo lo' hi' none) (hu : E.P.underlying ty = some (.slice e))
    (hs : szO E.P e = some s) (hx : ev xo = some (x.val fr)) (hlo : (lo' = none ∧ lo = none) ∨ ∃ a b, lo' = some a ∧ lo = some b ∧ ev a = some (b.val fr)) (hhi : (hi' = none ∧ hi = none) ∨ ∃ a b, hi' = some a ∧ hi = some b ∧ ev a = some (b.val fr))
    (h : exSl s x lo hi o E cl fr ds t n nm lk k = true) : Okd E C ev o t n nm ds k := by
  simp only [exSl, fs_get] at h
  rcases sliceK_true h with ⟨l, q, m, c, hv, h⟩ | h
  case inr => exact exGen_ok hcl hev h
  obtain ⟨hh, h, h1⟩ := bndK_true hhi h
  obtain ⟨a, h, h2⟩ := bndK_true hlo h
  rcases brec_true h with ⟨b1, h⟩ | ⟨_, h⟩
  case inr => cases h
  rcases brec_true h with ⟨b2, h⟩ | ⟨_, h⟩
  case inr => cases h
  have h1 := h1 c (Nat.le_of_ble_eq_true b1)
  have h2 := h2 hh (Nat.le_of_ble_eq_true b2)
  cases a with
  | zero =>
    refine okd_val ?_ h
    simp only [aop, ho, aSlice, hu, hs, hx, hv, h1, h2, Option.bind_some, if_true, Option.map_some]
  | succ a =>
    obtain ⟨cc, sz, ro, hg, h⟩ := hcells_true n h
    rcases brec_true h with ⟨b3, h⟩ | ⟨_, h⟩
    case inr => cases h
    have b3 := Nat.eq_of_beq_eq_true b3
    refine okd_read (l := l) (act := ?act) ?h1 hg ?h2 h
    case h1 =>
      simp only [aop, ho, aSlice, hu, hs, hx, hv, h1, h2, Option.bind_some, Nat.succ_ne_zero, if_false, Option.map_some]
      rfl
    case h2 =>
      simp only [if_pos b3]
      rfl

end

end Go.Proofs.YtfchjhfccnodpaaGreat
end

section
namespace Go.Proofs.YtfchjhfccnodpaaGreat
set_option linter.unusedSimpArgs false
set_option linter.unusedVariables false

section
variable {E : Env} {C : CR} {cl : Cl} {ev : Ev} {o : Oper} {t : HT} {n nm : Nat} {ds : DS} {k : KO} {d : Nat} {fr : FT d} {lk : LK}

theorem exAp_ok (hcl : ClIs C cl) (hev : ev = fEv lk fr) {s b : Nat} {x y : QS d} {c : Call} {ty uy e e' : TypeId} {xo yo : Operand} {z : Value} (ho : o.op = .call c) (hc : c.callee = .builtin .append) (ha : c.argTypes.toList = [ty, uy])
    (hb : c.args.toList = [xo, yo]) (hu : E.P.underlying ty = some (.slice e)) (hu' : E.P.underlying uy = some (.slice e')) (hs : szO E.P e = some s) (hby : bytesO E.P e = some b) (hz : zeroP E.P e = some z)
    (hs0 : 0 < s) (hb0 : 0 < b) (hzc : z.cells.size = s) (hx : ev xo = some (x.val fr)) (hy : ev yo = some (y.val fr)) (h : exAp s b x y o E cl fr ds t n nm lk k = true) : Okd E C ev o t n nm ds k := by
  simp only [exAp, fs_get] at h
  rcases sliceK_true h with ⟨l', o', m, c', hv, h⟩ | h
  case inr => exact exGen_ok hcl hev h
  cases m with
  | zero => exact exGen_ok hcl hev h
  | succ m =>
  rcases vSlc_true h with ⟨ad, q, cc, hw, h⟩ | h
  case inr => exact exGen_ok hcl hev h
  obtain ⟨cs, sz', ro', hg', h⟩ := hcells_true n h
  obtain ⟨h1, h⟩ := dropK_true h
  obtain ⟨h2, h⟩ := takeK_true h
  rw [List.append_nil] at h
  obtain ⟨h3, h⟩ := onesK_true h
  rw [List.length_drop] at h2
  have h2 : (m + 1) * s ≤ cs.length - o' := h2
  have h4 : o' + (m + 1) * s ≤ cs.length := by omega
  have hlen : ((cs.drop o').take ((m + 1) * s)).length = (m + 1) * s := by rw [List.length_take, List.length_drop]; omega
  have hop : ∀ p, aAppend E.P ty uy (x.val fr) (y.val fr) = some p → aop E ev o = some (.prim p) := by
    intro p hp
    simp only [aop, ho, aCall, hc, hb, evList, hx, hy, Option.bind_some, Option.map_some, aBuiltin, ha, hp]
  have hst : (!(decide (0 < s) && decide (0 < b) && decide (z.cells.size = s) && isSeqT (some (.slice e')))) = false := by simp [hs0, hb0, hzc, isSeqT]
  generalize hsrc : (cs.drop o').take ((m + 1) * s) = src at *
  cases ad with
  | none =>
    rcases brec_true h with ⟨b1, h⟩ | ⟨_, h⟩
    case inr => exact exGen_ok hcl hev h
    have b1 := Nat.eq_of_beq_eq_true b1
    obtain ⟨rfl, rfl⟩ : q = 0 ∧ cc = 0 := by have : q + cc = 0 := b1; omega
    rcases brec_true h with ⟨b2, h⟩ | ⟨_, h⟩
    case inr => cases h
    have b2 : (m + 1) * b ≤ 140737488355328 := Nat.le_of_ble_eq_true b2
    obtain ⟨t', h, hh⟩ := hset_true n h
    refine okd_prim (eff := ⟨.slice (some ⟨nm, 0, none⟩) (m + 1) (m + 1), none, some (.cells src s false)⟩) (p := ⟨[l'], ?act⟩) (hop _ ?h1) ?h2 rfl hh h
    case h1 =>
      simp only [aAppend, hu, hu', hs, hby, hz, Option.bind_some, hst, hv, hw, srcOf, Nat.succ_ne_zero, if_false]
      rw [if_neg (by decide), if_pos (by simpa using b2)]
    case h2 =>
      simp only [Prim.run, getAll, hg', Option.bind_some, Option.map_some, if_pos h4, hsrc]
  | some ad =>
    rcases adK_true h with ⟨l, o₁, e0, h⟩ | h
    case inr => exact exGen_ok hcl hev h
    obtain ⟨cl₁, sz, ro, hg, h⟩ := hcells_true n h
    rcases brec_true h with ⟨_, h⟩ | ⟨hro, h⟩
    · exact exGen_ok hcl hev h
    subst hro
    rw [natK_eq] at h
    rcases brec_true h with ⟨b1, h⟩ | ⟨_, h⟩
    case inr => cases h
    have b1 : q ≤ cc := Nat.le_of_ble_eq_true b1
    rcases brec_true h with ⟨b2, h⟩ | ⟨b2, h⟩
    · have b2 : q + (m + 1) ≤ cc := Nat.le_of_ble_eq_true b2
      obtain ⟨h5, h⟩ := spliceK_true h
      obtain ⟨t', h, hh⟩ := hset_true n h
      have h6 : o₁ + (q + (m + 1)) * s ≤ cl₁.length := by
        have h5 : o₁ + q * s + src.length ≤ cl₁.length := h5
        rw [hlen] at h5
        rw [Nat.add_mul]; omega
      refine okd_prim (eff := ⟨.slice (some ⟨l, o₁, none⟩) (q + (m + 1)) cc, some (l, some (.cells (splice cl₁ (o₁ + q * s) src) sz false)), none⟩) (p := ⟨[l, l'], ?act2⟩) (hop _ ?h3) ?h4 (by simp [wrOk]) hh h
      case h3 =>
        simp only [aAppend, hu, hu', hs, hby, hz, Option.bind_some, hst, hv, hw, e0, srcOf, Nat.succ_ne_zero, if_false]
        rw [if_neg (by decide), if_pos b1, if_pos b2]
      case h4 =>
        simp only [Prim.run, getAll, hg, hg', Option.bind_some, Option.map_some, if_pos h4, hsrc, h3, Bool.true_and]
        rw [if_pos (by simpa using h6)]
    · have b2 : ¬ (q + (m + 1) ≤ cc) := by
        intro hle
        rw [show Nat.ble (Nat.add q (Nat.succ m)) cc = true from Nat.ble_eq_true_of_le hle] at b2
        cases b2
      rcases brec_true h with ⟨b3, h⟩ | ⟨_, h⟩
      case inr => cases h
      have b3 := Nat.eq_of_beq_eq_true b3
      obtain ⟨h5, h⟩ := dropK_true h
      obtain ⟨h6, h⟩ := takeK_true h
      rcases brec_true h with ⟨b4, h⟩ | ⟨_, h⟩
      case inr => cases h
      have b4 : (q + (m + 1)) * b ≤ 70368744177664 := Nat.le_of_ble_eq_true b4
      obtain ⟨t₁, h, hh1⟩ := hset_true n h
      obtain ⟨t', h, hh⟩ := hset_true n h
      rw [List.length_drop] at h6
      have h6 : q * s ≤ cl₁.length - o₁ := h6
      refine okd_prim (eff := ⟨.slice (some ⟨nm, 0, none⟩) (q + (m + 1)) (q + (m + 1)), some (l, none), some (.cells ((cl₁.drop o₁).take (q * s) ++ src) s false)⟩) (p := ⟨[l, l'], ?act3⟩) (hop _ ?h5) ?h6 (by simp [wrOk]) (by rw [hh, hh1]; rfl) h
      case h5 =>
        simp only [aAppend, hu, hu', hs, hby, hz, Option.bind_some, hst, hv, hw, e0, srcOf, Nat.succ_ne_zero, if_false]
        rw [if_neg (by decide), if_pos b1, if_neg b2]
      case h6 =>
        simp only [Prim.run, getAll, hg, hg', Option.bind_some, Option.map_some, if_pos h4, hsrc, h3, Bool.and_true]
        rw [if_pos (by simp only [Bool.and_eq_true, decide_eq_true_eq]; exact ⟨b3, by omega⟩), if_neg (by decide), if_pos b4]

end

end Go.Proofs.YtfchjhfccnodpaaGreat
end

section
namespace Go.Proofs.YtfchjhfccnodpaaGreat
set_option linter.unusedSimpArgs false
set_option linter.unusedVariables false

def lkOk (lk : LK) (t : Nat) : Prop := ∀ l, lk.2 = some l → l.contains t = true

section
variable {E : Env} {C : CR} {cl : Cl} {ev : Ev} {o : Oper} {t : HT} {n nm : Nat} {ds : DS} {k : KO} {d N : Nat} {fr : FT d} {lk : LK}

theorem fEv_tmp (hN : lk.1 = N) {i : Nat} (hi : i < N) (hl : lkOk lk i) : fEv lk fr (.tmp i) = some (pfun (ptN d i) fr) := by
  obtain ⟨M, l⟩ := lk
  subst hN
  have e : fTmp M fr i = pfun (ptN d i) fr := by
    have hi : i < M := hi
    simp only [fTmp, if_pos hi]
  cases l with
  | none => show some (fTmp M fr i) = _; rw [e]
  | some l => show (if l.contains i = true then some (fTmp M fr i) else none) = _; rw [if_pos (hl l rfl), e]

theorem cS_ev (hN : lk.1 = N) {xo : Operand} {x : QS d} (hl : ∀ i, xo = .tmp i → lkOk lk i) (h : cS d N xo = some x) : fEv lk fr xo = some (x.val fr) := by
  cases xo with
  | tmp i =>
    simp only [cS] at h
    split at h
    · rename_i hi; cases h; exact fEv_tmp hN hi (hl i rfl)
    · cases h
  | const v =>
    simp only [cS] at h
    split at h
    · rename_i hp; cases h; simp only [fEv, if_pos hp]; rfl
    · cases h
  | func f => cases h; rfl
  | global g => cases h

theorem cP_ev (hN : lk.1 = N) {xo : Operand} {p : Pt d} (hl : ∀ i, xo = .tmp i → lkOk lk i) (h : cP d N xo = some p) : fEv lk fr xo = some (pfun p fr) := by
  cases xo with
  | tmp i =>
    simp only [cP] at h
    split at h
    · rename_i hi; cases h; exact fEv_tmp hN hi (hl i rfl)
    · cases h
  | const v => cases h
  | func f => cases h
  | global g => cases h

theorem cSs_ev (hN : lk.1 = N) : ∀ {xs : List Operand} {ys : List (QS d)}, (∀ i, Operand.tmp i ∈ xs → lkOk lk i) → cSs d N xs = some ys → evList (fEv lk fr) xs = some (ys.map fun y => y.val fr)
  | [], ys, _, h => by cases h; rfl
  | x :: xs, ys, hl, h => by
    simp only [cSs, Option.bind_eq_some_iff, Option.map_eq_some_iff] at h
    obtain ⟨y, h1, zs, h2, rfl⟩ := h
    simp only [evList, cS_ev hN (fun i e => hl i (e ▸ List.mem_cons_self ..)) h1, cSs_ev hN (fun i hi => hl i (List.mem_cons_of_mem _ hi)) h2, Option.bind_some, Option.map_some, List.map_cons]

theorem cSo_ev (hN : lk.1 = N) {xo : Option Operand} {x : Option (QS d)} (hl : ∀ i, xo = some (.tmp i) → lkOk lk i) (h : cSo d N xo = some x) : (xo = none ∧ x = none) ∨ ∃ a b, xo = some a ∧ x = some b ∧ fEv lk fr a = some (b.val fr) := by
  cases xo with
  | none => cases h; exact .inl ⟨rfl, rfl⟩
  | some a =>
    simp only [cSo, Option.map_eq_some_iff] at h
    obtain ⟨b, h1, rfl⟩ := h
    exact .inr ⟨a, b, rfl, rfl, cS_ev hN (fun i e => hl i (by rw [e])) h1⟩

end

end Go.Proofs.YtfchjhfccnodpaaGreat
end

section
namespace Go.Proofs.YtfchjhfccnodpaaGreat
set_option linter.unusedSimpArgs false
set_option linter.unusedVariables false

section
variable {E : Env} {C : CR} {cl : Cl} {o : Oper} {t : HT} {n nm : Nat} {ds : DS} {k : KO} {d N : Nat} {fr : FT d} {lk : LK}

theorem exOp_ok (hcl : ClIs C cl) (hN : lk.1 = N) (hl : ∀ i, Operand.tmp i ∈ o.op.operands.toList → lkOk lk i) (h : exOp (cOp E d N o) E cl fr ds t n nm lk k = true) : Okd E C (fEv lk fr) o t n nm ds k := by
  have gen : exGen o E cl fr ds t n nm lk k = true → Okd E C (fEv lk fr) o t n nm ds k := exGen_ok hcl rfl
  unfold cOp at h
  split at h
  · -- move
    rename_i x ho
    split at h
    · rename_i y hy
      exact exMv_ok (cl := cl) (lk := lk) (.inl ho) (cS_ev hN (fun i e => hl i (by rw [ho]; simp [Op.operands, e])) hy) h
    · exact gen h
  · rename_i x ho
    split at h
    · rename_i y hy
      exact exMv_ok (cl := cl) (lk := lk) (.inr ho) (cS_ev hN (fun i e => hl i (by rw [ho]; simp [Op.operands, e])) hy) h
    · exact gen h
  · -- load
    rename_i ty x ho
    split at h
    · rename_i p h1 h2
      split at h
      · rename_i s hs
        exact exLda_ok (cl := cl) (lk := lk) ho h1 hs (cP_ev hN (fun i e => hl i (by rw [ho]; simp [Op.operands, e])) h2) h
      · exact gen h
    · rename_i p h1 h2
      exact exLdc_ok (cl := cl) (lk := lk) ho h1 (cP_ev hN (fun i e => hl i (by rw [ho]; simp [Op.operands, e])) h2) h
    · exact gen h
  · -- store
    rename_i ty a x ho
    split at h
    · rename_i p y s h1 h2 h3
      exact exSt_ok (cl := cl) (lk := lk) ho h3 (cP_ev hN (fun i e => hl i (by rw [ho]; simp [Op.operands, e])) h1) (cS_ev hN (fun i e => hl i (by rw [ho]; simp [Op.operands, e])) h2) h
    · exact gen h
  · -- nilCheck
    rename_i x ho
    split at h
    · rename_i y hy
      exact exNc_ok (cl := cl) (lk := lk) ho (cS_ev hN (fun i e => hl i (by rw [ho]; simp [Op.operands, e])) hy) h
    · exact gen h
  · -- fieldAddr
    rename_i s x f ho
    split at h
    · rename_i fields p h1 h2
      split at h
      · rename_i fd hf
        split at h
        · exact gen h
        · rename_i z hz0 hz
          exact exFa_ok (cl := cl) (lk := lk) ho h1 hf hz (fun e => hz0 e) (cP_ev hN (fun i e => hl i (by rw [ho]; simp [Op.operands, e])) h2) h
        · exact gen h
      · exact gen h
    · exact gen h
  · -- binOp
    rename_i op ty x y w ho
    split at h
    · rename_i f a b h1 h2 h3
      exact exBi_ok (cl := cl) (lk := lk) hcl rfl ho h1 (cS_ev hN (fun i e => hl i (by rw [ho]; simp [Op.operands, e])) h2) (cS_ev hN (fun i e => hl i (by rw [ho]; simp [Op.operands, e])) h3) h
    · exact gen h
  · -- indexAddr
    rename_i ty x ix ho
    split at h
    · rename_i e y i h1 h2 h3
      split at h
      · rename_i s hs
        exact exIa_ok (cl := cl) (lk := lk) ho h1 hs (cS_ev hN (fun i e => hl i (by rw [ho]; simp [Op.operands, e])) h2) (cS_ev hN (fun i e => hl i (by rw [ho]; simp [Op.operands, e])) h3) h
      · exact gen h
    · exact gen h
  · -- pick
    rename_i c x y ho
    split at h
    · rename_i a b e h1 h2 h3
      exact exPk_ok (cl := cl) (lk := lk) ho (cS_ev hN (fun i e => hl i (by rw [ho]; simp [Op.operands, e])) h1) (cS_ev hN (fun i e => hl i (by rw [ho]; simp [Op.operands, e])) h2) (cS_ev hN (fun i e => hl i (by rw [ho]; simp [Op.operands, e])) h3) h
    · exact gen h
  · -- alloc
    rename_i ty ho
    split at h
    · rename_i z hz
      split at h
      · rename_i hc
        simp only [Bool.and_eq_true, decide_eq_true_eq] at hc
        exact exAlb_ok (fr := fr) (cl := cl) (lk := lk) ho hz rfl hc.2 h
      · exact exAl_ok (fr := fr) (cl := cl) (lk := lk) ho hz h
    · exact gen h
  · -- box
    rename_i ty x ho
    split at h
    · rename_i y m hy hm
      have hev := cS_ev (d := d) (fr := fr) (lk := lk) hN (fun i e => hl i (by rw [ho]; simp [Op.operands, e])) hy
      split at h
      · rename_i hc
        simp only [Bool.and_eq_true, decide_eq_true_eq] at hc
        exact exBxb_ok (cl := cl) (lk := lk) hc.2 ho hev h
      · exact exBx_ok (cl := cl) (lk := lk) ho hev h
    · rename_i y hy _
      exact exBx_ok (cl := cl) (lk := lk) ho (cS_ev hN (fun i e => hl i (by rw [ho]; simp [Op.operands, e])) hy) h
    · exact gen h
  · -- buildSlice
    rename_i ty len parts ho
    split at h
    · rename_i e x h1 h3
      split at h
      · rename_i z y h4 h5 h6
        split at h
        · rename_i hc
          simp only [Bool.and_eq_true, decide_eq_true_eq] at hc
          exact exBs_ok (cl := cl) (lk := lk) hcl rfl ho h3 h1 h4 h5 hc.1 hc.2 (cS_ev hN (fun i e => hl i (by rw [ho]; simp [Op.operands, h3, e])) h6) h
        · exact gen h
      · exact gen h
    · exact gen h
  · -- convert
    rename_i a b x ho
    split at h
    · rename_i ks kd y h1 h2 h3
      exact exCv_ok (cl := cl) (lk := lk) hcl rfl ho h1 h2 (cS_ev hN (fun i e => hl i (by rw [ho]; simp [Op.operands, e])) h3) h
    · exact gen h
  · -- not
    rename_i ty x ho
    split at h
    · rename_i y hy
      exact exNt_ok (cl := cl) (lk := lk) ho (cS_ev hN (fun i e => hl i (by rw [ho]; simp [Op.operands, e])) hy) h
    · exact gen h
  · -- extract
    rename_i x i ho
    split at h
    · rename_i y hy
      exact exEx_ok (cl := cl) (lk := lk) ho (cS_ev hN (fun i e => hl i (by rw [ho]; simp [Op.operands, e])) hy) h
    · exact gen h
  · -- field
    rename_i s x f ho
    split at h
    · rename_i fields p h1 h2
      split at h
      · rename_i fd hf
        split at h
        · rename_i g z h3 h4
          exact exFl_ok (cl := cl) (lk := lk) ho h1 hf h3 h4 (cS_ev hN (fun i e => hl i (by rw [ho]; simp [Op.operands, e])) h2) h
        · exact gen h
      · exact gen h
    · exact gen h
  · -- slice
    rename_i ty x lo hi mx ho
    split at h
    · rename_i e y lo' hi' h1 h2 h3 h4
      split at h
      · rename_i s hs
        exact exSl_ok (cl := cl) (lk := lk) hcl rfl ho h1 hs (cS_ev hN (fun i e => hl i (by rw [ho]; simp [Op.operands, e])) h2) (cSo_ev hN (fun i e => hl i (by rw [ho]; simp [Op.operands, e])) h3) (cSo_ev hN (fun i e => hl i (by rw [ho]; simp [Op.operands, e])) h4) h
      · exact gen h
    · exact gen h
  · -- call
    rename_i c ho
    split at h
    · -- append
      rename_i hc
      split at h
      · rename_i ty u x y h1 h2
        split at h
        · rename_i e e' x' y' h3 h4 h5 h6
          split at h
          · rename_i s b z h7 h8 h9
            split at h
            · rename_i hh
              simp only [Bool.and_eq_true, decide_eq_true_eq] at hh
              exact exAp_ok (cl := cl) (lk := lk) hcl rfl ho hc h1 h2 h3 h4 h7 h8 h9 hh.1.1 hh.1.2 hh.2 (cS_ev hN (fun i e => hl i (by rw [ho]; simp [Op.operands, Call.operands, h2, e])) h5) (cS_ev hN (fun i e => hl i (by rw [ho]; simp [Op.operands, Call.operands, h2, e])) h6) h
            · exact gen h
          · exact gen h
        · exact gen h
      · exact gen h
    · -- len
      rename_i hc
      split at h
      · rename_i ty x h1 h2
        split at h
        · rename_i e y h3 h4
          exact exLn_ok (cl := cl) (lk := lk) ho hc h1 h2 h3 (cS_ev hN (fun i e => hl i (by rw [ho]; simp [Op.operands, Call.operands, h2, e])) h4) h
        · exact gen h
      · exact gen h
    · -- a function
      rename_i g hc
      split at h
      · rename_i xs h1 h2 h3
        exact exCall_ok (cl := cl) (lk := lk) hcl ho hc h1 h2 rfl (cSs_ev hN (fun i hi => hl i (by rw [ho]; simp only [Op.operands, Call.operands]; simp [Array.mem_toList_iff.1 hi])) h3) h
      · exact gen h
    · exact gen h
  · exact gen h
end

end Go.Proofs.YtfchjhfccnodpaaGreat
end

section
namespace Go.Proofs.YtfchjhfccnodpaaGreat
set_option linter.unusedSimpArgs false
set_option linter.unusedVariables false

structure Rep {d : Nat} (N : Nat) (fr : FT d) (ds : DS) (a : Act) : Prop where
  size : a.tmps.size = N
  defers : a.defers = ds
  get : ∀ i, i < N → a.tmps.getD i undef = pfun (ptN d i) fr

section
variable {E : Env} {cl : Cl} {o : Oper} {t : HT} {n nm : Nat} {ds : DS} {k : KO} {d N : Nat} {fr : FT d} {a : Act}

theorem Rep.ev (h : Rep N fr ds a) : aeval a = fEv (N, none) fr := by
  funext x
  cases x with
  | tmp i =>
    show some _ = some (fTmp N fr i)
    by_cases hi : i < N
    · rw [h.get i hi]; simp only [fTmp, if_pos hi]
    · have : a.tmps.getD i undef = undef := by
        rw [Array.getD_eq_getD_getElem?, Array.getElem?_eq_none (by rw [h.size]; exact Nat.le_of_not_lt hi)]; rfl
      rw [this]; simp only [fTmp, if_neg hi]
  | const v => rfl
  | func f => rfl
  | global g => rfl

theorem Rep.put (hd : N ≤ 4 ^ d) (h : Rep N fr ds a) (v : Value) {p : Nat} (hp : p < N) : Rep N (psetf v (ptN d p) fr) ds (a.put (some p) v) := by
  refine ⟨by rw [← h.size]; simp [Act.put], h.defers, fun i hi => ?_⟩
  have e : (a.put (some p) v).tmps.getD i undef = if i = p then v else a.tmps.getD i undef := by
    simp only [Act.put, Array.getD_eq_getD_getElem?]
    have hs := h.size
    by_cases c : i = p
    · subst c; simp [hs, hi]
    · rw [if_neg c]; simp [Ne.symm c]
  rw [e]
  by_cases c : i = p
  · subst c; rw [if_pos rfl, pfun_same]
  · rw [if_neg c, h.get i hi, pfun_ne]
    intro hq
    exact c (ptN_inj (by omega) (by omega) hq)

theorem Rep.putNone (h : Rep N fr ds a) (v : Value) : Rep N fr ds (a.put none v) := h

def asBo : Value → Option Bool
  | .bool b => some b
  | _ => Option.none

theorem Rep.yielded (h : Rep N fr ds a) {ops : Array Oper} {j q : Nat} (hj : (ops[j]?).bind (·.dst) = some q) (hq : q < N) : yielded ops a.tmps j = asBo (pfun (ptN d q) fr) := by
  unfold Go.yielded
  rw [hj, Option.bind_some]
  have hg := h.get q hq
  have hs : q < a.tmps.size := by rw [h.size]; exact hq
  rw [Array.getD_eq_getD_getElem?, Array.getElem?_eq_getElem hs, Option.getD_some] at hg
  rw [Array.getElem?_eq_getElem hs, hg]
  unfold asBo
  cases pfun (ptN d q) fr <;> rfl
end

end Go.Proofs.YtfchjhfccnodpaaGreat
end

section
namespace Go.Proofs.YtfchjhfccnodpaaGreat
set_option linter.unusedSimpArgs false
set_option linter.unusedVariables false

def CA (E : Env) : CR := fun f args σ v σ' => ACall E.P f args σ fun u τ => u = v ∧ τ = σ'

section
variable {E : Env} {cl : Cl} {d N : Nat}

theorem wantK_true {w : Bool} {y z : Bool} {v : Value} (h : wantK w y z v = true) : ((asBo v == some w) = true ∧ y = true) ∨ ((asBo v == some w) = false ∧ z = true) := by
  rcases vBool_true h with ⟨rfl, h⟩ | ⟨rfl, h⟩ | ⟨hv, h⟩
  · cases w with
    | true => exact .inl ⟨rfl, h⟩
    | false => exact .inr ⟨rfl, h⟩
  · cases w with
    | true => exact .inr ⟨rfl, h⟩
    | false => exact .inl ⟨rfl, h⟩
  · refine .inr ⟨?_, h⟩
    cases v <;> first | rfl | exact absurd rfl (hv _)

def stepL (E : Env) (ops : Array Oper) (nm : Nat) (o : Oper) (a : Act) (σ : Heap) (K : Act → Heap → Prop) : Prop :=
  if Region.wanted o (yielded ops a.tmps) then
    match aop E (aeval a) o with
    | some (.prim p) => match p.run σ nm with
      | some eff => wrOk p eff = true ∧ K (a.put o.dst eff.val) (σ.app nm eff)
      | none => False
    | some (.call f args) => ACall E.P f args σ fun v σ' => K (a.put o.dst v) σ'
    | some (.defer f cap args) => K (Act.put { a with defers := ⟨.fn (.func f) cap, args⟩ :: a.defers } o.dst undef) σ
    | none => False
  else K (a.put o.dst undef) σ

theorem stepL_run {ops : Array Oper} {base i : Nat} {L : List Nat} {o : Oper} {a : Act} {σ : Heap} {K : Act → Heap → Prop} (ho : ops[i]? = some o) (h : stepL E ops (base + i) o a σ fun b τ => runL E ops base L b τ K) :
    runL E ops base (i :: L) a σ K := by
  simp only [runL, ho]
  unfold stepL at h
  split
  · rename_i hw
    rw [if_pos hw] at h
    split <;> rename_i hp <;> rw [hp] at h
    · exact h
    · exact h
    · exact h
    · exact h.elim
  · rename_i hw
    rw [if_neg hw] at h
    exact h

theorem done_step {ops : Array Oper} {o : Oper} {a : Act} {σ σ' : Heap} {nm : Nat} {ds ds' : DS} {v : Value} {tch wrt : List Nat} {K : Act → Heap → Prop} (hw : Region.wanted o (yielded ops a.tmps) = true) (hd : a.defers = ds)
    (h : Done E (CA E) (aeval a) o σ nm ds v tch wrt ds' σ') (hK : K (Act.put { a with defers := ds' } o.dst v) σ') : stepL E ops nm o a σ K := by
  unfold stepL
  rw [if_pos hw]
  cases h with
  | prim h1 h2 h3 => rw [h1]; simp only [h2]; subst hd; exact ⟨h3, hK⟩
  | call h1 h2 =>
    rw [h1]
    subst hd
    exact ACall.mono h2 fun u τ ⟨e1, e2⟩ => by subst e1 e2; exact hK
  | defer h1 => rw [h1]; subst hd; exact hK

end

end Go.Proofs.YtfchjhfccnodpaaGreat
end

section
namespace Go.Proofs.YtfchjhfccnodpaaGreat
set_option linter.unusedSimpArgs false
set_option linter.unusedVariables false

section
variable {E : Env} {cl : Cl} {d N : Nat}

theorem Rep.defer {fr : FT d} {ds : DS} {a : Act} (h : Rep N fr ds a) (ds' : DS) : Rep N fr ds' { a with defers := ds' } := ⟨h.size, rfl, h.get⟩

theorem exFOp_ok (hd : N ≤ 4 ^ d) (hcl : ClIs (CA E) cl) {ops : Array Oper} {base i : Nat} {o : Oper} {fr : FT d} {ds : DS} {t : HT} {n : Nat} {k : KS d}
    (h : exFOp (cOper E d N ops (N, none) i (cOp E d N o) o) E cl base fr ds t n k = true) :
    ∃ fr' ds' t' n', k fr' ds' t' n' = true ∧ ∀ a, Rep N fr ds a → stepL E ops (base + i) o a (fHeap t n) fun b τ => Rep N fr' ds' b ∧ τ = fHeap t' n' := by
  have lkA : ∀ i, Operand.tmp i ∈ o.op.operands.toList → lkOk (N, none) i := fun _ _ l hl => by cases hl
  have go : ∀ {k : KO}, exOp (cOp E d N o) E cl fr ds t n (base + i) (N, none) k = true →
      ∃ v tch wrt ds' t' n', k v tch wrt ds' t' n' = true ∧ ∀ {a : Act} {K : Act → Heap → Prop}, Rep N fr ds a → Region.wanted o (yielded ops a.tmps) = true → K (Act.put { a with defers := ds' } o.dst v) (fHeap t' n') → stepL E ops (base + i) o a (fHeap t n) K := by
    intro k h
    obtain ⟨v, tch, wrt, ds', t', n', h1, h2⟩ := exOp_ok hcl rfl lkA h
    refine ⟨v, tch, wrt, ds', t', n', h1, fun hr hw hK => ?_⟩
    rw [← hr.ev] at h2
    exact done_step hw hr.defers h2 hK
  unfold cOper at h
  split at h
  · rename_i hg
    have hw : ∀ a : Act, Region.wanted o (yielded ops a.tmps) = true := fun a => by simp only [Region.wanted, hg]
    split at h
    · rename_i hdst
      obtain ⟨v, tch, wrt, ds', t', n', h1, h2⟩ := go (k := fun v _ _ ds t n => k fr ds t n) h
      exact ⟨fr, ds', t', n', h1, fun a hr => h2 hr (hw a) (by rw [hdst]; exact ⟨hr.defer ds', rfl⟩)⟩
    · rename_i p hdst
      split at h
      · rename_i hp
        obtain ⟨v, tch, wrt, ds', t', n', h1, h2⟩ := go (k := fun v _ _ ds t n => pset v (ptN d p) fr fun fr => k fr ds t n) h
        rw [pset_eq] at h1
        exact ⟨_, ds', t', n', h1, fun a hr => h2 hr (hw a) (by rw [hdst]; exact ⟨(hr.defer ds').put hd v hp, rfl⟩)⟩
      · cases h
  · rename_i j w hg
    split at h
    case h_2 => cases h
    rename_i q hq
    split at h
    case isFalse => cases h
    rename_i hqN
    have fin : ∀ {dst : Option (Pt d)}, (∀ v ds', ∃ fr', (∀ ds t n, putK dst v fr (fun fr => k fr ds t n) = k fr' ds t n) ∧ ∀ a, Rep N fr ds a → Rep N fr' ds' (Act.put { a with defers := ds' } o.dst v)) →
        exFOp (.g (ptN d q) w (cOp E d N o) dst i (N, none)) E cl base fr ds t n k = true →
        ∃ fr' ds' t' n', k fr' ds' t' n' = true ∧ ∀ a, Rep N fr ds a → stepL E ops (base + i) o a (fHeap t n) fun b τ => Rep N fr' ds' b ∧ τ = fHeap t' n' := by
      intro dst hdst h
      have h : pget (ptN d q) fr (wantK w (exOp (cOp E d N o) E cl fr ds t n (base + i) (N, none) fun v _ _ ds t n => putK dst v fr fun fr => k fr ds t n) (putK dst undef fr fun fr => k fr ds t n)) = true := h
      rw [pget_eq] at h
      rcases wantK_true h with ⟨hw, h⟩ | ⟨hw, h⟩
      · obtain ⟨v, tch, wrt, ds', t', n', h1, h2⟩ := go h
        obtain ⟨fr', e1, e2⟩ := hdst v ds'
        rw [e1] at h1
        exact ⟨fr', ds', t', n', h1, fun a hr => h2 hr (by simp only [Region.wanted, hg, hr.yielded hq hqN]; exact hw) ⟨e2 a hr, rfl⟩⟩
      · obtain ⟨fr', e1, e2⟩ := hdst undef ds
        rw [e1] at h
        refine ⟨fr', ds, t, n, h, fun a hr => ?_⟩
        have hw : Region.wanted o (yielded ops a.tmps) = false := by simp only [Region.wanted, hg, hr.yielded hq hqN]; exact hw
        have e2 := e2 a hr
        unfold stepL
        rw [if_neg (by rw [hw]; decide)]
        have : ({ a with defers := ds } : Act) = a := by rw [← hr.defers]
        rw [this] at e2
        exact ⟨e2, rfl⟩
    split at h
    · rename_i hdst
      exact fin (fun v ds' => ⟨fr, fun _ _ _ => rfl, fun a hr => by rw [hdst]; exact hr.defer ds'⟩) h
    · rename_i p hdst
      split at h
      · rename_i hp
        exact fin (dst := some (ptN d p)) (fun v ds' => ⟨psetf v (ptN d p) fr, fun ds t n => pset_eq v (ptN d p) fr (fun fr => k fr ds t n), fun a hr => by rw [hdst]; exact (hr.defer ds').put hd v hp⟩) h
      · cases h

theorem stepL_mono {ops : Array Oper} {nm : Nat} {o : Oper} {a : Act} {σ : Heap} {K K' : Act → Heap → Prop} (h : stepL E ops nm o a σ K) (hk : ∀ a σ, K a σ → K' a σ) : stepL E ops nm o a σ K' := by
  unfold stepL at h ⊢
  split
  · rename_i hw
    rw [if_pos hw] at h
    split at h
    · split at h
      · exact ⟨h.1, hk _ _ h.2⟩
      · exact h.elim
    · exact h.mono fun _ _ hq => hk _ _ hq
    · exact hk _ _ h
    · exact h.elim
  · rename_i hw
    rw [if_neg hw] at h
    exact hk _ _ h

theorem exOps_ok (hd : N ≤ 4 ^ d) (hcl : ClIs (CA E) cl) {ops : Array Oper} {base : Nat} : ∀ (xs : List Oper) (i : Nat) (fr : FT d) (ds : DS) (t : HT) (n : Nat) (k : KS d), (∀ j o, xs[j]? = some o → ops[i + j]? = some o) →
    exOps E cl base (cOps E d N ops i xs) fr ds t n k = true →
    ∃ fr' ds' t' n', k fr' ds' t' n' = true ∧ ∀ a, Rep N fr ds a → runL E ops base (List.range' i xs.length) a (fHeap t n) fun b τ => Rep N fr' ds' b ∧ τ = fHeap t' n'
  | [], i, fr, ds, t, n, k, _, h => ⟨fr, ds, t, n, h, fun a hr => ⟨hr, rfl⟩⟩
  | x :: xs, i, fr, ds, t, n, k, hx, h => by
    have h : exFOp (cOper E d N ops (N, none) i (cOp E d N x) x) E cl base fr ds t n (fun fr ds t n => exOps E cl base (cOps E d N ops (i + 1) xs) fr ds t n k) = true := h
    obtain ⟨fr₁, ds₁, t₁, n₁, h1, h2⟩ := exFOp_ok hd hcl h
    obtain ⟨fr₂, ds₂, t₂, n₂, h3, h4⟩ := exOps_ok hd hcl xs (i + 1) fr₁ ds₁ t₁ n₁ k (fun j o hj => by rw [show i + 1 + j = i + (j + 1) by omega]; exact hx (j + 1) o (by simpa using hj)) h1
    refine ⟨fr₂, ds₂, t₂, n₂, h3, fun a hr => ?_⟩
    exact stepL_run (hx 0 x rfl) (stepL_mono (h2 a hr) fun b τ ⟨e1, e2⟩ => by subst e2; exact h4 b e1)
end

end Go.Proofs.YtfchjhfccnodpaaGreat
end

section
namespace Go.Proofs.YtfchjhfccnodpaaGreat
set_option linter.unusedSimpArgs false
set_option linter.unusedVariables false

theorem runD_more {E : Env} {ops : Array Oper} {base : Nat} {dep : Dep} {K : Act → Heap → Prop} : ∀ (L : List Nat) (D D' : List Rec) (a : Act) (σ : Heap), (∀ d ∈ D', d ∈ D ∨ (d.tch = [] ∧ d.wrt = [])) → runD E ops base dep L D a σ K → runD E ops base dep L D' a σ K
  | [], _, _, _, _, _, h => h
  | i :: L, D, D', a, σ, hm, h => by
    have hcf : ∀ {t w : List Nat}, clashFree dep D i t w → clashFree dep D' i t w := fun hc d hd => by
      rcases hm d hd with h | ⟨h1, h2⟩
      · exact hc d h
      · refine .inr ⟨by rw [h2]; rfl, ?_⟩
        rw [h1]; simp [disj]
    simp only [runD] at h ⊢
    split at h
    · exact h.elim
    · split at h
      · rename_i hw
        rw [if_pos hw]
        split at h
        · split at h
          · obtain ⟨h1, h2, h3⟩ := h
            refine ⟨h1, h2.imp id hcf, runD_more L _ _ _ _ (fun d hd => ?_) h3⟩
            rcases List.mem_cons.1 hd with rfl | hd
            · exact .inl (List.mem_cons_self ..)
            · exact (hm d hd).imp (List.mem_cons_of_mem _) id
          · exact h
        · obtain ⟨h1, h2⟩ := h
          refine ⟨fun d hd => ?_, h2.mono fun v σ' h => ⟨fun d hd => ?_, runD_more L _ _ _ _ hm h.2⟩⟩
          · rcases hm d hd with h | ⟨_, h2⟩
            · exact h1 d h
            · exact .inr (.inr h2)
          · rcases hm d hd with hh | ⟨h1, _⟩
            · exact h.1 d hh
            · exact .inr (.inr (by rw [h1]; intro l hl; cases hl))
        · exact h
      · rename_i hw
        rw [if_neg hw]
        exact runD_more L _ _ _ _ hm h

end Go.Proofs.YtfchjhfccnodpaaGreat
end

section
namespace Go.Proofs.YtfchjhfccnodpaaGreat
set_option linter.unusedSimpArgs false
set_option linter.unusedVariables false

def CD (E : Env) (dep : Dep) (D : List Rec) (i : Nat) : CR := fun f args σ v σ' => callFree dep D i ∧ (ACall E.P f args σ fun u τ => u = v ∧ τ = σ') ∧ kept dep D i σ σ'

theorem keptF_sound {dep : Dep} {D : List Rec} {i : Nat} {t t' : HT} {n n' : Nat} (h : keptF dep D i t t' = true) : kept dep D i (fHeap t n) (fHeap t' n') := by
  intro d hd
  simp only [keptF, List.all_eq_true] at h
  have := h d hd
  simp only [Bool.or_eq_true, List.isEmpty_iff, List.all_eq_true] at this
  rcases this with ((h1 | h1) | h1) | h1
  · exact .inr (.inl h1)
  · exact .inr (.inr (by rw [h1]; intro l hl; cases hl))
  · exact .inl h1
  · exact .inr (.inr fun l hl => eqO_sound (h1 l hl))

theorem clD_is {E : Env} {cl : Cl} {dep : Dep} {D : List Rec} {i : Nat} (hcl : ClIs (CA E) cl) : ClIs (CD E dep D i) (clD cl dep D i) := by
  intro f vs t n k h
  rcases brec_true h with ⟨h1, h⟩ | ⟨_, h⟩
  case inr => cases h
  obtain ⟨v, t', n', h, hc⟩ := hcl _ _ _ _ _ h
  rcases brec_true h with ⟨h2, h⟩ | ⟨_, h⟩
  case inr => cases h
  exact ⟨v, t', n', h, callFreeB_sound h1, hc, keptF_sound h2⟩

theorem nilK_true {ds : DS} {k : Bool} (h : nilK ds k = true) : ds = [] ∧ k = true := by
  cases ds with
  | nil => exact ⟨rfl, h⟩
  | cons _ _ => cases h

theorem recK_true {dep : Dep} {D : List Rec} {i : Nat} {k2 : Bool} {tch wrt : List Nat} {k : List Rec → Bool} (h : recK dep D i k2 tch wrt k = true) :
    (tch = [] ∧ k D = true) ∨ ((k2 = true ∨ clashFree dep D i tch wrt) ∧ k (⟨i, tch, wrt, k2⟩ :: D) = true) := by
  cases tch with
  | nil => exact .inl ⟨rfl, h⟩
  | cons x r =>
    right
    rcases brec_true h with ⟨h1, h⟩ | ⟨h1, h⟩
    · subst h1; exact ⟨.inl rfl, h⟩
    · subst h1
      rcases brec_true h with ⟨h2, h⟩ | ⟨_, h⟩
      · exact ⟨.inr (clashFreeB_sound h2), h⟩
      · cases h

def stepD (E : Env) (ops : Array Oper) (base : Nat) (dep : Dep) (i : Nat) (o : Oper) (D : List Rec) (a : Act) (σ : Heap) (K : List Rec → Act → Heap → Prop) : Prop :=
  if Region.wanted o (yielded ops a.tmps) then
    match aop E (evOf ops a o) o with
    | some (.prim p) => match p.run σ (base + i) with
      | some eff => wrOk p eff = true ∧ (kindOf o = 2 ∨ clashFree dep D i (tchOf p eff (base + i)) (wrtOf eff (base + i))) ∧
          K (⟨i, tchOf p eff (base + i), wrtOf eff (base + i), kindOf o == 2⟩ :: D) (a.put o.dst eff.val) (σ.app (base + i) eff)
      | none => False
    | some (.call f args) => callFree dep D i ∧ ACall E.P f args σ fun v σ' => kept dep D i σ σ' ∧ K D (a.put o.dst v) σ'
    | _ => False
  else K D (a.put o.dst undef) σ

theorem stepD_run {E : Env} {ops : Array Oper} {base i : Nat} {dep : Dep} {L : List Nat} {o : Oper} {D : List Rec} {a : Act} {σ : Heap} {K : Act → Heap → Prop} (ho : ops[i]? = some o)
    (h : stepD E ops base dep i o D a σ fun D b τ => runD E ops base dep L D b τ K) : runD E ops base dep (i :: L) D a σ K := by
  simp only [runD, ho]
  exact h

end Go.Proofs.YtfchjhfccnodpaaGreat
end

section
namespace Go.Proofs.YtfchjhfccnodpaaGreat
set_option linter.unusedSimpArgs false
set_option linter.unusedVariables false

theorem wrt_nil {p : Prim} {eff : Eff} {nm : Nat} (hw : wrOk p eff = true) (ht : tchOf p eff nm = []) : wrtOf eff nm = [] := by
  simp only [tchOf, List.append_eq_nil_iff] at ht
  simp only [wrtOf, ht.2, List.append_nil]
  unfold wrOk at hw
  unfold wrOf
  split at hw
  · rename_i l o he
    rw [ht.1] at hw
    simp at hw
  · rename_i he
    rw [he]

theorem done_stepD {E : Env} {ops : Array Oper} {base i : Nat} {dep : Dep} {o : Oper} {D : List Rec} {a : Act} {σ σ' : Heap} {v : Value} {tch wrt : List Nat} {K : List Rec → Act → Heap → Prop}
    (hw : Region.wanted o (yielded ops a.tmps) = true) (h : Done E (CD E dep D i) (evOf ops a o) o σ (base + i) [] v tch wrt [] σ') {D' : List Rec}
    (hD : (tch = [] ∧ D' = D) ∨ (((kindOf o == 2) = true ∨ clashFree dep D i tch wrt) ∧ D' = ⟨i, tch, wrt, kindOf o == 2⟩ :: D))
    (hK : ∀ D'', (∀ d ∈ D'', d ∈ D' ∨ (d.tch = [] ∧ d.wrt = [])) → K D'' (a.put o.dst v) σ') : stepD E ops base dep i o D a σ K := by
  unfold stepD
  rw [if_pos hw]
  cases h with
  | prim h1 h2 h3 =>
    rw [h1]
    simp only [h2]
    rcases hD with ⟨ht, rfl⟩ | ⟨hc, rfl⟩
    · have hwr := wrt_nil h3 ht
      refine ⟨h3, .inr (fun d hd => .inr ⟨?_, by rw [hwr]; rfl⟩), hK _ fun d hd => ?_⟩
      · rw [ht]; simp [disj]
      · rcases List.mem_cons.1 hd with rfl | hd
        · exact .inr ⟨ht, hwr⟩
        · exact .inl hd
    · exact ⟨h3, hc.imp (fun e => by simpa using e) id, hK _ fun d hd => .inl hd⟩
  | call h1 h2 =>
    rw [h1]
    obtain ⟨c1, c2, c3⟩ := h2
    refine ⟨c1, ACall.mono c2 fun u τ ⟨e1, e2⟩ => ?_⟩
    subst e1 e2
    refine ⟨c3, hK _ fun d hd => ?_⟩
    rcases hD with ⟨_, rfl⟩ | ⟨_, rfl⟩
    · exact .inl hd
    · exact .inl (List.mem_cons_of_mem _ hd)

end Go.Proofs.YtfchjhfccnodpaaGreat
end

section
namespace Go.Proofs.YtfchjhfccnodpaaGreat
set_option linter.unusedSimpArgs false
set_option linter.unusedVariables false

theorem Rep.evD {d N : Nat} {fr : FT d} {ds : DS} {a : Act} (h : Rep N fr ds a) (ops : Array Oper) (o : Oper) : evOf ops a o = fEv (N, some (o.looksAt ops)) fr := by
  funext x
  cases x with
  | tmp i =>
    show (if (o.looksAt ops).contains i then aeval a (.tmp i) else none) = (if (o.looksAt ops).contains i then some (fTmp N fr i) else none)
    split
    · rw [h.ev]; rfl
    · rfl
  | const v => rfl
  | func f => rfl
  | global g => rfl

theorem sees_lk {ops : Array Oper} {o : Oper} {N : Nat} (h : seesB ops o = true) : ∀ i, Operand.tmp i ∈ o.op.operands.toList → lkOk (N, some (o.looksAt ops)) i := by
  intro i hi l hl
  cases hl
  simp only [seesB, List.all_eq_true] at h
  exact h _ hi

theorem exOpD_ok {E : Env} {C : CR} {cl : Cl} {ops : Array Oper} {o : Oper} {t : HT} {n nm : Nat} {ds : DS} {k : KO} {d N : Nat} {fr : FT d} (hcl : ClIs C cl)
    (h : exOp (if seesB ops o then cOp E d N o else .gen o) E cl fr ds t n nm (N, some (o.looksAt ops)) k = true) : Okd E C (fEv (N, some (o.looksAt ops)) fr) o t n nm ds k := by
  split at h
  · rename_i hs
    exact exOp_ok hcl rfl (sees_lk hs) h
  · exact exGen_ok hcl rfl h

end Go.Proofs.YtfchjhfccnodpaaGreat
end

section
namespace Go.Proofs.YtfchjhfccnodpaaGreat
set_option linter.unusedSimpArgs false
set_option linter.unusedVariables false

def Less (D'' D' : List Rec) : Prop := ∀ d ∈ D'', d ∈ D' ∨ (d.tch = [] ∧ d.wrt = [])

theorem exFOpD_ok {E : Env} {cl : Cl} {d N : Nat} (hd : N ≤ 4 ^ d) (hcl : ClIs (CA E) cl) {ops : Array Oper} {base i : Nat} {dep : Dep} {o : Oper} {D : List Rec} {fr : FT d} {t : HT} {n : Nat} {k : List Rec → FT d → HT → Nat → Bool}
    (h : exFOpD (cOper E d N ops (N, some (o.looksAt ops)) i (if seesB ops o then cOp E d N o else .gen o) o) (kindOf o == 2) E cl dep base D fr t n k = true) :
    ∃ D' fr' t' n', k D' fr' t' n' = true ∧ ∀ (ds : DS) (a : Act), Rep N fr ds a → stepD E ops base dep i o D a (fHeap t n) fun D'' b τ => Less D'' D' ∧ Rep N fr' ds b ∧ τ = fHeap t' n' := by
  have go : ∀ {k' : List Rec → Value → HT → Nat → Bool}, exOp (if seesB ops o then cOp E d N o else .gen o) E (clD cl dep D i) fr [] t n (base + i) (N, some (o.looksAt ops))
        (fun v tch wrt ds t n => nilK ds (recK dep D i (kindOf o == 2) tch wrt fun D => k' D v t n)) = true →
      ∃ D' v t' n', k' D' v t' n' = true ∧ ∀ {ds : DS} {a : Act} {K : List Rec → Act → Heap → Prop}, Rep N fr ds a → Region.wanted o (yielded ops a.tmps) = true → (∀ D'', Less D'' D' → K D'' (a.put o.dst v) (fHeap t' n')) → stepD E ops base dep i o D a (fHeap t n) K := by
    intro k' h
    obtain ⟨v, tch, wrt, ds', t', n', h1, h2⟩ := exOpD_ok (clD_is hcl) h
    obtain ⟨e0, h3⟩ := nilK_true h1
    subst e0
    rcases recK_true h3 with ⟨ht, h1⟩ | ⟨hc, h1⟩
    · refine ⟨D, v, t', n', h1, fun hr hw hK => ?_⟩
      rw [← hr.evD] at h2
      exact done_stepD hw h2 (.inl ⟨ht, rfl⟩) hK
    · refine ⟨_, v, t', n', h1, fun hr hw hK => ?_⟩
      rw [← hr.evD] at h2
      exact done_stepD hw h2 (.inr ⟨hc, rfl⟩) hK
  unfold cOper at h
  split at h
  · rename_i hg
    have hw : ∀ a : Act, Region.wanted o (yielded ops a.tmps) = true := fun a => by simp only [Region.wanted, hg]
    split at h
    · rename_i hdst
      obtain ⟨D', v, t', n', h1, h2⟩ := go (k' := fun D v t n => k D fr t n) h
      exact ⟨D', fr, t', n', h1, fun ds a hr => h2 hr (hw a) fun D'' hl => ⟨hl, by rw [hdst]; exact hr, rfl⟩⟩
    · rename_i p hdst
      split at h
      · rename_i hp
        obtain ⟨D', v, t', n', h1, h2⟩ := go (k' := fun D v t n => pset v (ptN d p) fr fun fr => k D fr t n) h
        rw [pset_eq] at h1
        exact ⟨D', _, t', n', h1, fun ds a hr => h2 hr (hw a) fun D'' hl => ⟨hl, by rw [hdst]; exact hr.put hd v hp, rfl⟩⟩
      · cases h
  · rename_i j w hg
    split at h
    case h_2 => cases h
    rename_i q hq
    split at h
    case isFalse => cases h
    rename_i hqN
    have fin : ∀ {dst : Option (Pt d)}, (∀ v, ∃ fr', (∀ D t n, putK dst v fr (fun fr => k D fr t n) = k D fr' t n) ∧ ∀ (ds : DS) (a : Act), Rep N fr ds a → Rep N fr' ds (Act.put a o.dst v)) →
        exFOpD (.g (ptN d q) w (if seesB ops o then cOp E d N o else .gen o) dst i (N, some (o.looksAt ops))) (kindOf o == 2) E cl dep base D fr t n k = true →
        ∃ D' fr' t' n', k D' fr' t' n' = true ∧ ∀ (ds : DS) (a : Act), Rep N fr ds a → stepD E ops base dep i o D a (fHeap t n) fun D'' b τ => Less D'' D' ∧ Rep N fr' ds b ∧ τ = fHeap t' n' := by
      intro dst hdst h
      have h : pget (ptN d q) fr (wantK w (exOp (if seesB ops o then cOp E d N o else .gen o) E (clD cl dep D i) fr [] t n (base + i) (N, some (o.looksAt ops))
        (fun v tch wrt ds t n => nilK ds (recK dep D i (kindOf o == 2) tch wrt fun D => putK dst v fr fun fr => k D fr t n))) (putK dst undef fr fun fr => k D fr t n)) = true := h
      rw [pget_eq] at h
      rcases wantK_true h with ⟨hw, h⟩ | ⟨hw, h⟩
      · obtain ⟨D', v, t', n', h1, h2⟩ := go (k' := fun D v t n => putK dst v fr fun fr => k D fr t n) h
        obtain ⟨fr', e1, e2⟩ := hdst v
        rw [e1] at h1
        exact ⟨D', fr', t', n', h1, fun ds a hr => h2 hr (by simp only [Region.wanted, hg, hr.yielded hq hqN]; exact hw) fun D'' hl => ⟨hl, e2 ds a hr, rfl⟩⟩
      · obtain ⟨fr', e1, e2⟩ := hdst undef
        rw [e1] at h
        refine ⟨D, fr', t, n, h, fun ds a hr => ?_⟩
        have hw : Region.wanted o (yielded ops a.tmps) = false := by simp only [Region.wanted, hg, hr.yielded hq hqN]; exact hw
        unfold stepD
        rw [if_neg (by rw [hw]; decide)]
        exact ⟨fun d hd => .inl hd, e2 ds a hr, rfl⟩
    split at h
    · rename_i hdst
      exact fin (fun v => ⟨fr, fun _ _ _ => rfl, fun ds a hr => by rw [hdst]; exact hr⟩) h
    · rename_i p hdst
      split at h
      · rename_i hp
        exact fin (dst := some (ptN d p)) (fun v => ⟨psetf v (ptN d p) fr, fun D t n => pset_eq v (ptN d p) fr (fun fr => k D fr t n), fun ds a hr => by rw [hdst]; exact hr.put hd v hp⟩) h
      · cases h

end Go.Proofs.YtfchjhfccnodpaaGreat
end

section
namespace Go.Proofs.YtfchjhfccnodpaaGreat
set_option linter.unusedSimpArgs false
set_option linter.unusedVariables false

theorem stepD_mono {E : Env} {ops : Array Oper} {base i : Nat} {dep : Dep} {o : Oper} {D : List Rec} {a : Act} {σ : Heap} {K K' : List Rec → Act → Heap → Prop} (h : stepD E ops base dep i o D a σ K) (hk : ∀ D a σ, K D a σ → K' D a σ) :
    stepD E ops base dep i o D a σ K' := by
  unfold stepD at h ⊢
  split
  · rename_i hw
    rw [if_pos hw] at h
    split at h
    · split at h
      · exact ⟨h.1, h.2.1, hk _ _ _ h.2.2⟩
      · exact h.elim
    · exact ⟨h.1, h.2.mono fun _ _ hq => ⟨hq.1, hk _ _ _ hq.2⟩⟩
    · exact h.elim
  · rename_i hw
    rw [if_neg hw] at h
    exact hk _ _ _ h

theorem exOpsD_ok {E : Env} {cl : Cl} {d N : Nat} (hd : N ≤ 4 ^ d) (hcl : ClIs (CA E) cl) {ops : Array Oper} {base : Nat} {dep : Dep} : ∀ (L : List Nat) (D : List Rec) (fr : FT d) (t : HT) (n : Nat) (k : FT d → HT → Nat → Bool),
    exOpsD E cl dep base (cOpsD E d N ops L) D fr t n k = true →
    ∃ fr' t' n', k fr' t' n' = true ∧ ∀ (ds : DS) (a : Act), Rep N fr ds a → runD E ops base dep L D a (fHeap t n) fun b τ => Rep N fr' ds b ∧ τ = fHeap t' n'
  | [], D, fr, t, n, k, h => ⟨fr, t, n, h, fun ds a hr => ⟨hr, rfl⟩⟩
  | i :: L, D, fr, t, n, k, h => by
    unfold cOpsD at h
    split at h
    · rename_i o ho
      have h : exFOpD (cOper E d N ops (N, some (o.looksAt ops)) i (if seesB ops o then cOp E d N o else .gen o) o) (kindOf o == 2) E cl dep base D fr t n (fun D fr t n => exOpsD E cl dep base (cOpsD E d N ops L) D fr t n k) = true := h
      obtain ⟨D₁, fr₁, t₁, n₁, h1, h2⟩ := exFOpD_ok hd hcl h
      obtain ⟨fr₂, t₂, n₂, h3, h4⟩ := exOpsD_ok hd hcl L D₁ fr₁ t₁ n₁ k h1
      refine ⟨fr₂, t₂, n₂, h3, fun ds a hr => stepD_run ho (stepD_mono (h2 ds a hr) fun D'' b τ ⟨e1, e2, e3⟩ => ?_)⟩
      subst e3
      exact runD_more L D₁ D'' b _ e1 (h4 ds b e2)
    · exact absurd h (by intro h; cases h)

end Go.Proofs.YtfchjhfccnodpaaGreat
end

section
namespace Go.Proofs.YtfchjhfccnodpaaGreat
set_option linter.unusedSimpArgs false
set_option linter.unusedVariables false

def FX.ex' : FX → Exit
  | .nm => .normal
  | .ex i => .exit i
  | .rt => .ret

def Comes (E : Env) (d N : Nat) (c : Code) (fr : FT d) (ds : DS) (t : HT) (n : Nat) (x : FX) (fr' : FT d) (ds' : DS) (t' : HT) (n' : Nat) : Prop :=
  ∀ a, Rep N fr ds a → AWP E.P c (fun e b τ => e = x.ex' ∧ Rep N fr' ds' b ∧ τ = fHeap t' n') a (fHeap t n)

theorem fx_rec {x : FX} {A : Bool} {B : Nat → Bool} {C : Bool} (h : (FX.rec (motive := fun _ => Bool) A B C x : Bool) = true) :
    (x = .nm ∧ A = true) ∨ (∃ i, x = .ex i ∧ B i = true) ∨ (x = .rt ∧ C = true) := by
  cases x with
  | nm => exact .inl ⟨rfl, h⟩
  | ex i => exact .inr (.inl ⟨i, rfl, h⟩)
  | rt => exact .inr (.inr ⟨rfl, h⟩)

def LoopTo (E : Env) (d N : Nat) (c : Code) (x : FX) (fr' : FT d) (ds' : DS) (t' : HT) (n' : Nat) : Nat → FT d → DS → HT → Nat → Prop
  | 0, _, _, _, _ => False
  | m + 1, fr, ds, t, n => (∃ fr₁ ds₁ t₁ n₁, Comes E d N c fr ds t n .nm fr₁ ds₁ t₁ n₁ ∧ LoopTo E d N c x fr' ds' t' n' m fr₁ ds₁ t₁ n₁) ∨ (x ≠ .nm ∧ Comes E d N c fr ds t n x fr' ds' t' n')

theorem loopTo_ok {E : Env} {d N : Nat} {c : Code} {x : FX} {fr' : FT d} {ds' : DS} {t' : HT} {n' : Nat} (m : Nat) {fr : FT d} {ds : DS} {t : HT} {n : Nat} (h : LoopTo E d N c x fr' ds' t' n' m fr ds t n) :
    Comes E d N (.loop c) fr ds t n x fr' ds' t' n' := by
  intro a hr
  refine awp_loop (β := Nat) (fun b a σ => ∃ fr ds t n, Rep N fr ds a ∧ σ = fHeap t n ∧ LoopTo E d N c x fr' ds' t' n' b fr ds t n) id m ⟨fr, ds, t, n, hr, rfl, h⟩ ?_
  rintro b a σ ⟨fr, ds, t, n, hr, rfl, h⟩
  cases b with
  | zero => exact h.elim
  | succ b =>
    rcases h with ⟨fr₁, ds₁, t₁, n₁, h1, h2⟩ | ⟨hx, h1⟩
    · refine (h1 a hr).mono ?_
      rintro e' b' τ ⟨rfl, hb, rfl⟩
      exact ⟨b, ⟨fr₁, ds₁, t₁, n₁, hb, rfl, h2⟩, by simp⟩
    · refine (h1 a hr).mono ?_
      rintro e' b' τ ⟨rfl, hb, rfl⟩
      cases x with
      | nm => exact absurd rfl hx
      | ex i => exact ⟨rfl, hb, rfl⟩
      | rt => exact ⟨rfl, hb, rfl⟩

theorem exC_ok {E : Env} {T : Tab} {cl : Cl} {d N : Nat} {f : FuncId} (hE : EnvOk E) (hm : E.P.follows .mixedOrders = true) (hd : N ≤ 4 ^ d) (hcl : ClIs (CA E) cl) :
    ∀ (c : Code), codeOkB T f c = true → ∀ (fr : FT d) (ds : DS) (t : HT) (n : Nat) (k : KX d), exC (cC E T f d N c) E cl fr ds t n k = true →
      ∃ x fr' ds' t' n', k x fr' ds' t' n' = true ∧ Comes E d N c fr ds t n x fr' ds' t' n'
  | .skip, _, fr, ds, t, n, k, h => ⟨.nm, fr, ds, t, n, h, fun a hr => awp_skip ⟨rfl, hr, rfl⟩⟩
  | .label _, _, fr, ds, t, n, k, h => ⟨.nm, fr, ds, t, n, h, fun a hr => awp_label ⟨rfl, hr, rfl⟩⟩
  | .exit i, _, fr, ds, t, n, k, h => ⟨.ex i, fr, ds, t, n, h, fun a hr => awp_exit ⟨rfl, hr, rfl⟩⟩
  | .ret, _, fr, ds, t, n, k, h => ⟨.rt, fr, ds, t, n, h, fun a hr => awp_ret ⟨rfl, hr, rfl⟩⟩
  | .seq x y, hc, fr, ds, t, n, k, h => by
    simp only [codeOkB, Bool.and_eq_true] at hc
    have h : exC (cC E T f d N x) E cl fr ds t n (fun e fr ds t n => FX.rec (motive := fun _ => Bool) (exC (cC E T f d N y) E cl fr ds t n k) (fun i => k (.ex i) fr ds t n) (k .rt fr ds t n) e) = true := h
    obtain ⟨e, fr₁, ds₁, t₁, n₁, h1, h2⟩ := exC_ok hE hm hd hcl x hc.1 fr ds t n _ h
    rcases fx_rec h1 with ⟨rfl, h1⟩ | ⟨i, rfl, h1⟩ | ⟨rfl, h1⟩
    · obtain ⟨e₂, fr₂, ds₂, t₂, n₂, h3, h4⟩ := exC_ok hE hm hd hcl y hc.2 fr₁ ds₁ t₁ n₁ k h1
      refine ⟨e₂, fr₂, ds₂, t₂, n₂, h3, fun a hr => awp_seq ((h2 a hr).mono ?_)⟩
      rintro e' b τ ⟨rfl, hb, rfl⟩
      exact h4 b hb
    · refine ⟨.ex i, fr₁, ds₁, t₁, n₁, h1, fun a hr => awp_seq ((h2 a hr).mono ?_)⟩
      rintro e' b τ ⟨rfl, hb, rfl⟩
      exact ⟨rfl, hb, rfl⟩
    · refine ⟨.rt, fr₁, ds₁, t₁, n₁, h1, fun a hr => awp_seq ((h2 a hr).mono ?_)⟩
      rintro e' b τ ⟨rfl, hb, rfl⟩
      exact ⟨rfl, hb, rfl⟩
  | .cond cd x y, hc, fr, ds, t, n, k, h => by
    simp only [codeOkB, Bool.and_eq_true] at hc
    unfold cC at h
    split at h
    case h_2 => cases h
    rename_i cs hcs
    have h : cs.get fr (vBool (exC (cC E T f d N x) E cl fr ds t n k) (exC (cC E T f d N y) E cl fr ds t n k) false) = true := h
    rw [fs_get] at h
    have hev : ∀ a, Rep N fr ds a → aeval a cd = some (cs.val fr) := fun a hr => by
      rw [hr.ev]
      exact cS_ev (lk := (N, none)) rfl (fun _ _ l hl => by cases hl) hcs
    rcases vBool_true h with ⟨hv, h⟩ | ⟨hv, h⟩ | ⟨_, h⟩
    · obtain ⟨e₂, fr₂, ds₂, t₂, n₂, h3, h4⟩ := exC_ok hE hm hd hcl x hc.1 fr ds t n k h
      exact ⟨e₂, fr₂, ds₂, t₂, n₂, h3, fun a hr => awp_cond (t := true) (by rw [hev a hr, hv]) (h4 a hr)⟩
    · obtain ⟨e₂, fr₂, ds₂, t₂, n₂, h3, h4⟩ := exC_ok hE hm hd hcl y hc.2 fr ds t n k h
      exact ⟨e₂, fr₂, ds₂, t₂, n₂, h3, fun a hr => awp_cond (t := false) (by rw [hev a hr, hv]) (h4 a hr)⟩
    · cases h
  | .block id x, hc, fr, ds, t, n, k, h => by
    simp only [codeOkB] at hc
    have h : exC (cC E T f d N x) E cl fr ds t n (fun e fr ds t n => FX.rec (motive := fun _ => Bool) (k .nm fr ds t n) (fun j => Bool.rec (k (.ex j) fr ds t n) (k .nm fr ds t n) (Nat.beq j id)) (k .rt fr ds t n) e) = true := h
    obtain ⟨e, fr₁, ds₁, t₁, n₁, h1, h2⟩ := exC_ok hE hm hd hcl x hc fr ds t n _ h
    rcases fx_rec h1 with ⟨rfl, h1⟩ | ⟨i, rfl, h1⟩ | ⟨rfl, h1⟩
    · refine ⟨.nm, fr₁, ds₁, t₁, n₁, h1, fun a hr => awp_block ((h2 a hr).mono ?_)⟩
      rintro e' b τ ⟨rfl, hb, rfl⟩
      exact ⟨rfl, hb, rfl⟩
    · rcases brec_true h1 with ⟨hi, h1⟩ | ⟨hi, h1⟩
      · have hi : i = id := Nat.eq_of_beq_eq_true hi
        refine ⟨.nm, fr₁, ds₁, t₁, n₁, h1, fun a hr => awp_block ((h2 a hr).mono ?_)⟩
        rintro e' b τ ⟨rfl, hb, rfl⟩
        simp only [FX.ex', aBlock, if_pos hi]
        exact ⟨trivial, hb, trivial⟩
      · have hi : i ≠ id := Nat.ne_of_beq_eq_false hi
        refine ⟨.ex i, fr₁, ds₁, t₁, n₁, h1, fun a hr => awp_block ((h2 a hr).mono ?_)⟩
        rintro e' b τ ⟨rfl, hb, rfl⟩
        simp only [FX.ex', aBlock, if_neg hi]
        exact ⟨trivial, hb, trivial⟩
    · refine ⟨.rt, fr₁, ds₁, t₁, n₁, h1, fun a hr => awp_block ((h2 a hr).mono ?_)⟩
      rintro e' b τ ⟨rfl, hb, rfl⟩
      exact ⟨rfl, hb, rfl⟩
  | .loop x, hc, fr, ds, t, n, k, h => by
    have hcx : codeOkB T f x = true := hc
    have h : loopN (exC (cC E T f d N x)) E cl k 100000 fr ds t n = true := h
    generalize 100000 = fuel at h
    have key : ∀ (m : Nat) (fr : FT d) (ds : DS) (t : HT) (n : Nat), loopN (exC (cC E T f d N x)) E cl k m fr ds t n = true → ∃ e fr' ds' t' n', k e fr' ds' t' n' = true ∧ LoopTo E d N x e fr' ds' t' n' m fr ds t n := by
      intro m
      induction m with
      | zero => intro fr ds t n h; cases h
      | succ m ih =>
        intro fr ds t n h
        have h : exC (cC E T f d N x) E cl fr ds t n (fun e fr ds t n => FX.rec (motive := fun _ => Bool) (loopN (exC (cC E T f d N x)) E cl k m fr ds t n) (fun i => k (.ex i) fr ds t n) (k .rt fr ds t n) e) = true := h
        obtain ⟨e, fr₁, ds₁, t₁, n₁, h1, h2⟩ := exC_ok hE hm hd hcl x hcx fr ds t n _ h
        rcases fx_rec h1 with ⟨rfl, h1⟩ | ⟨i, rfl, h1⟩ | ⟨rfl, h1⟩
        · obtain ⟨e₂, fr₂, ds₂, t₂, n₂, h3, h4⟩ := ih fr₁ ds₁ t₁ n₁ h1
          exact ⟨e₂, fr₂, ds₂, t₂, n₂, h3, .inl ⟨fr₁, ds₁, t₁, n₁, h2, h4⟩⟩
        · exact ⟨.ex i, fr₁, ds₁, t₁, n₁, h1, .inr ⟨(fun h => nomatch h), h2⟩⟩
        · exact ⟨.rt, fr₁, ds₁, t₁, n₁, h1, .inr ⟨(fun h => nomatch h), h2⟩⟩
    obtain ⟨e, fr', ds', t', n', h1, h2⟩ := key _ _ _ _ _ h
    exact ⟨e, fr', ds', t', n', h1, loopTo_ok _ h2⟩
  | .region id ops draw, hc, fr, ds, t, n, k, h => by
    cases draw with
    | true =>
      simp only [codeOkB, Bool.not_true, Bool.false_or] at hc
      have h : natK (Nat.add n ops.size) (fun n' => exOpsD E cl (depOf (T f id).2) n (cOpsD E d N ops (T f id).1) [] fr t n' fun fr t n => k .nm fr ds t n) = true := h
      rw [natK_eq] at h
      obtain ⟨fr', t', n', h1, h2⟩ := exOpsD_ok hd hcl _ _ _ _ _ _ h
      exact ⟨.nm, fr', ds, t', n', h1, fun a hr => awp_draw hE hm (drawOkB_sound hc) (runD_post (h2 ds a hr) fun b τ hb => ⟨rfl, hb⟩)⟩
    | false =>
      have h : natK (Nat.add n ops.size) (fun n' => exOps E cl n (cOps E d N ops 0 ops.toList) fr ds t n' fun fr ds t n => k .nm fr ds t n) = true := h
      rw [natK_eq] at h
      obtain ⟨fr', ds', t', n', h1, h2⟩ := exOps_ok hd hcl ops.toList 0 fr ds t _ _ (fun j o hj => by simpa using hj) h
      refine ⟨.nm, fr', ds', t', n', h1, fun a hr => awp_region hE ?_⟩
      have h3 := h2 a hr
      rw [show List.range' 0 ops.toList.length = List.range ops.size by rw [List.range_eq_range']; rfl] at h3
      exact runL_post h3 fun b τ hb => ⟨rfl, hb⟩
  | .goto l, _, fr, ds, t, n, k, h => by cases h
  | .scope x, _, fr, ds, t, n, k, h => by cases h
  | .rangeFunc .., _, fr, ds, t, n, k, h => by cases h
  | .refuse w, _, fr, ds, t, n, k, h => by cases h

end Go.Proofs.YtfchjhfccnodpaaGreat
end

section
namespace Go.Proofs.YtfchjhfccnodpaaGreat
set_option linter.unusedSimpArgs false
set_option linter.unusedVariables false

section
variable {E : Env} {T : Tab} {cl : Cl} {d N : Nat}

theorem frEntry_ok (hd : N ≤ 4 ^ d) : ∀ (args : List Value) (i : Nat) (fr : FT d) (k : FT d → Bool), i + args.length ≤ N → frEntry args i fr k = true →
    ∃ fr', k fr' = true ∧ ∀ j, j < N → pfun (ptN d j) fr' = if j < i then pfun (ptN d j) fr else if j < i + args.length then args.getD (j - i) undef else pfun (ptN d j) fr
  | [], i, fr, k, _, h => ⟨fr, h, fun j hj => by
      by_cases c : j < i
      · rw [if_pos c]
      · rw [if_neg c, if_neg (by simpa using c)]⟩
  | v :: r, i, fr, k, hl, h => by
    have h : pset v (ptN d i) fr (fun fr => frEntry r (i + 1) fr k) = true := h
    rw [pset_eq] at h
    simp only [List.length_cons] at hl
    obtain ⟨fr', h1, h2⟩ := frEntry_ok hd r (i + 1) _ k (by omega) h
    refine ⟨fr', h1, fun j hj => ?_⟩
    rw [h2 j hj]
    have hne : ∀ j, j < N → j ≠ i → pfun (ptN d j) (psetf v (ptN d i) fr) = pfun (ptN d j) fr := fun j hj hji => pfun_ne _ _ _ _ fun e => hji (ptN_inj (by omega) (by omega) e)
    simp only [List.length_cons]
    by_cases c : j < i
    · rw [if_pos (by omega), if_pos c, hne j hj (by omega)]
    · rw [if_neg c]
      by_cases c1 : j = i
      · subst c1
        rw [if_pos (by omega), pfun_same, if_pos (by omega)]
        simp
      · rw [if_neg (by omega)]
        by_cases c2 : j < i + 1 + r.length
        · rw [if_pos c2, if_pos (by omega)]
          obtain ⟨q, rfl⟩ : ∃ q, j = i + (q + 1) := ⟨j - i - 1, by omega⟩
          rw [show i + (q + 1) - (i + 1) = q by omega, show i + (q + 1) - i = q + 1 by omega]
          rfl
        · rw [if_neg c2, if_neg (by omega), hne j hj c1]

theorem entry_rep (hd : N ≤ 4 ^ d) {fn : Func} (hN : fn.ntmps = N) {args : List Value} (hl : args.length ≤ N) {k : FT d → Bool} (h : frEntry args 0 (qrep undef d) k = true) :
    ∃ fr, k fr = true ∧ Rep N fr [] (aEntry fn ⟨args⟩) := by
  obtain ⟨fr, h1, h2⟩ := frEntry_ok hd args 0 _ k (by omega) h
  refine ⟨fr, h1, by simp [aEntry, hN]; omega, rfl, fun i hi => ?_⟩
  rw [h2 i hi, if_neg (by omega), pfun_qrep]
  simp only [aEntry, Array.getD_eq_getD_getElem?, Array.getElem?_append, Nat.zero_add, Nat.sub_zero]
  have hs : (Array.mk args).size = args.length := rfl
  rw [hs]
  by_cases c : i < args.length
  · rw [if_pos c, if_pos c]
    simp [List.getD_eq_getElem?_getD]
  · rw [if_neg c, if_neg c]
    cases hq : (Array.replicate (fn.ntmps - args.length) undef)[i - args.length]? with
    | none => rfl
    | some v =>
      have := Array.mem_of_getElem? hq
      simp at this
      simp [this.2]

theorem res1_get {fr : FT d} {ds : DS} {a : Act} (hr : Rep N fr ds a) {t : HT} {n : Nat} {r : ResultVar} {x : QR d} (hx : cR E d N r = some x) {k : Value → Bool} (h : x.get fr t k = true) :
    ∃ v, aRes1 E.P a (fHeap t n) r = some v ∧ k v = true := by
  cases r with
  | tmp i =>
    simp only [cR] at hx
    split at hx
    case isFalse => cases hx
    rename_i hi
    cases hx
    have h : pget (ptN d i) fr k = true := h
    rw [pget_eq] at h
    exact ⟨_, by simp only [aRes1, hr.get i hi], h⟩
  | cell i ty =>
    simp only [cR] at hx
    split at hx
    case isFalse => cases hx
    rename_i hi
    split at hx
    · rename_i s hg hs
      cases hx
      have h : pget (ptN d i) fr (fun v => ptrK v fun l o => hget l t fun ob => cellsK ob fun c _ _ => dropK o c fun c => takeK [] s c fun c => k (.agg ⟨c⟩)) = true := h
      rw [pget_eq] at h
      obtain ⟨l, o, hp, h⟩ := ptrK_true h
      obtain ⟨c, sz, ro, hc, h⟩ := hcells_true n h
      obtain ⟨h1, h⟩ := dropK_true h
      obtain ⟨h2, h⟩ := takeK_true h
      rw [List.append_nil] at h
      refine ⟨_, ?_, h⟩
      simp only [aRes1, hr.get i hi, hp, hc]
      exact partO_agg hg hs (by rw [List.length_drop] at h2; omega)
    · rename_i hg
      cases hx
      have h : pget (ptN d i) fr (fun v => ptrK v fun l o => hget l t fun ob => ldK ob o k) = true := h
      rw [pget_eq] at h
      obtain ⟨l, o, hp, h⟩ := ptrK_true h
      obtain ⟨c, sz, ro, v, hc, h1, h⟩ := hld_true n h
      refine ⟨v, ?_, h⟩
      simp only [aRes1, hr.get i hi, hp, hc]
      rw [partO_cell hg]; exact h1
    · cases hx

theorem resK_true {fr : FT d} {ds : DS} {a : Act} (hr : Rep N fr ds a) {t : HT} {n : Nat} : ∀ {rs : List ResultVar} {xs : List (QR d)} (_ : cRs E d N rs = some xs) {k : List Value → Bool} (_ : resK fr t xs k = true),
    ∃ vs, aResL E.P a (fHeap t n) rs = some vs ∧ k vs = true
  | [], xs, hx, k, h => by cases hx; exact ⟨[], rfl, h⟩
  | r :: rs, xs, hx, k, h => by
    simp only [cRs, Option.bind_eq_some_iff] at hx
    obtain ⟨y, h1, h2⟩ := hx
    obtain ⟨ys, h3, rfl⟩ := Option.map_eq_some_iff.1 h2
    have h : y.get fr t (fun v => resK fr t ys fun vs => k (v :: vs)) = true := h
    obtain ⟨v, k1, h⟩ := res1_get (n := n) hr h1 h
    obtain ⟨vs, k2, h⟩ := resK_true (n := n) hr h3 h
    exact ⟨v :: vs, by simp only [aResL, k1, Option.bind_some, k2, Option.map_some], h⟩

theorem oneK_true {vs : List Value} {k : Value → Bool} (h : oneK vs k = true) : k (aOne vs) = true := by
  unfold oneK at h
  unfold aOne
  split at h
  · exact h
  · rename_i hne
    split
    · rename_i v; exact absurd rfl (hne v)
    · exact h

end

def Ran (E : Env) (f : FuncId) (args : List Value) (σ : Heap) (d : Nat) (rs : List (QR d)) (fr : FT d) (ds : DS) (t : HT) (n : Nat) : Prop :=
  ∃ fn c, E.P.funcs[f]? = some fn ∧ fn.body = some c ∧ cRs E d fn.ntmps fn.results.toList = some rs ∧
    AWP E.P c (fun e b τ => (e = .normal ∨ e = .ret) ∧ Rep fn.ntmps fr ds b ∧ τ = fHeap t n) (aEntry fn ⟨args⟩) σ

theorem depth_ok {n : Nat} (h : n ≤ 256) : n ≤ 4 ^ depthN n := by
  unfold depthN
  split
  · simpa using ‹n ≤ 16›
  · split
    · simpa using ‹n ≤ 64›
    · simpa using h

theorem runK_true {E : Env} {T : Tab} {cl : Cl} (hE : EnvOk E) (hA : AllOk E T) (hm : E.P.follows .mixedOrders = true) (hcl : ClIs (CA E) cl) {f : FuncId} {args : List Value} {t : HT} {n : Nat} {k : KF} (h : runK E T cl f args t n k = true) :
    ∃ d rs fr ds t' n', k d rs fr ds t' n' = true ∧ Ran E f args (fHeap t n) d rs fr ds t' n' := by
  unfold runK at h
  cases hF : cF E T f with
  | none => rw [hF] at h; cases h
  | some ff =>
    rw [hF] at h
    unfold cF at hF
    split at hF
    case h_2 => cases hF
    rename_i fn hf
    split at hF
    case h_2 => cases hF
    rename_i c hb
    split at hF
    case isFalse => cases hF
    rename_i hn
    obtain ⟨rs, hrs, rfl⟩ := Option.map_eq_some_iff.1 hF
    have hd := depth_ok hn
    rcases brec_true h with ⟨hl, h⟩ | ⟨_, h⟩
    case inr => cases h
    obtain ⟨fr, h, hrep⟩ := entry_rep hd rfl (Nat.le_of_ble_eq_true hl) h
    obtain ⟨x, fr', ds', t', n', h, hC⟩ := exC_ok hE hm hd hcl c (hA f fn c hf hb) _ _ _ _ _ h
    have fin : ∀ y : Exit, (y = .normal ∨ y = .ret) → x.ex' = y → Ran E f args (fHeap t n) _ rs fr' ds' t' n' := fun y hy hx => ⟨fn, c, hf, hb, hrs, (hC _ hrep).mono fun e b τ ⟨e1, e2, e3⟩ => ⟨by rw [e1, hx]; exact hy, e2, e3⟩⟩
    rcases fx_rec h with ⟨rfl, h⟩ | ⟨i, rfl, h⟩ | ⟨rfl, h⟩
    · exact ⟨_, rs, fr', ds', t', n', h, fin .normal (.inl rfl) rfl⟩
    · cases h
    · exact ⟨_, rs, fr', ds', t', n', h, fin .ret (.inr rfl) rfl⟩

theorem dfK_true {E : Env} {T : Tab} {cl : Cl} (hE : EnvOk E) (hA : AllOk E T) (hm : E.P.follows .mixedOrders = true) (hcl : ClIs (CA E) cl) : ∀ {ds : DS} {t : HT} {n : Nat} {k : HT → Nat → Bool}, dfK E T cl ds t n k = true →
    (∀ d ∈ ds, ∀ g cap, d.target = .fn (.func g) cap → E.B g = true) ∧ ∃ t' n', k t' n' = true ∧
      ∀ (fn : Func) (a : Act) (R : Value → Heap → Prop), (∃ v, aRes E.P fn a (fHeap t' n') = some v ∧ R v (fHeap t' n')) → aLeaves E.P fn a R ds (fHeap t n)
  | [], t, n, k, h => ⟨fun d hd => (by cases hd), t, n, h, fun fn a R hR => hR⟩
  | d :: ds, t, n, k, h => by
    have h : (match d.target with
      | .fn (.func f) cap => if E.B f then runK E T cl f (d.args ++ cap).toList t n fun _ rs fr ds' t n => nilK ds' (resK fr t rs fun _ => dfK E T cl ds t n k) else false
      | _ => false) = true := h
    split at h
    case h_2 => cases h
    rename_i f cap htgt
    split at h
    case isFalse => cases h
    rename_i hB
    obtain ⟨d₁, rs, fr, ds', t', n', h, fn', c, hf, hb, hrs, hw⟩ := runK_true hE hA hm hcl h
    obtain ⟨e0, h⟩ := nilK_true h
    subst e0
    have hex : ∀ a, Rep fn'.ntmps fr [] a → ∃ vs, aResL E.P a (fHeap t' n') fn'.results.toList = some vs ∧ dfK E T cl ds t' n' k = true := fun a hr => resK_true hr hrs h
    have hnext : dfK E T cl ds t' n' k = true := by
      have key : ∀ (xs : List (QR d₁)) (p : Bool), resK fr t' xs (fun _ => p) = true → p = true := by
        intro xs
        induction xs with
        | nil => intro p h; exact h
        | cons y ys ih =>
          intro p h
          have h : y.get fr t' (fun v => resK fr t' ys fun vs => p) = true := h
          cases y with
          | t q => have h : pget q fr (fun v => resK fr t' ys fun vs => p) = true := h
                   rw [pget_eq] at h; exact ih p h
          | c q => have h : pget q fr (fun v => ptrK v fun l o => hget l t' fun ob => ldK ob o fun v => resK fr t' ys fun vs => p) = true := h
                   rw [pget_eq] at h
                   obtain ⟨l, o, hp, h⟩ := ptrK_true h
                   obtain ⟨c, sz, ro, v, hc, h1, h⟩ := hld_true 0 h
                   exact ih p h
          | a s q => have h : pget q fr (fun v => ptrK v fun l o => hget l t' fun ob => cellsK ob fun c _ _ => dropK o c fun c => takeK [] s c fun c => resK fr t' ys fun vs => p) = true := h
                     rw [pget_eq] at h
                     obtain ⟨l, o, hp, h⟩ := ptrK_true h
                     obtain ⟨c, sz, ro, hc, h⟩ := hcells_true 0 h
                     obtain ⟨h1, h⟩ := dropK_true h
                     obtain ⟨h2, h⟩ := takeK_true h
                     exact ih p h
      exact key _ _ h
    obtain ⟨k1, t₂, n₂, k2, k3⟩ := dfK_true hE hA hm hcl hnext
    refine ⟨fun x hx g cap' hg => ?_, t₂, n₂, k2, fun fn a R hR => ⟨f, cap, htgt, adef hf hb (AWP.mono (Q := fun e b τ => (e = .normal ∨ e = .ret) ∧ Rep fn'.ntmps fr [] b ∧ τ = fHeap t' n') hw ?_)⟩⟩
    · rcases List.mem_cons.1 hx with rfl | hx
      · rw [htgt] at hg
        cases hg
        exact hB
      · exact k1 x hx g cap' hg
    · rintro e b τ ⟨he, hr, rfl⟩
      obtain ⟨vs, hv, _⟩ := hex b hr
      have hres : ∃ v, aRes E.P fn' b (fHeap t' n') = some v ∧ aLeaves E.P fn a R ds (fHeap t' n') := ⟨_, by unfold aRes; rw [hv]; rfl, k3 fn a R hR⟩
      rcases he with rfl | rfl
      · exact ⟨hr.defers, hres⟩
      · exact ⟨hr.defers, hres⟩

theorem rep_ex {d N : Nat} (fr : FT d) (ds : DS) : ∃ b, Rep N fr ds b :=
  ⟨⟨(Array.range N).map fun i => pfun (ptN d i) fr, ds⟩, by simp, rfl, fun i hi => by simp [Array.getD_eq_getD_getElem?, hi]⟩

def CkOk (E : Env) (I : CK) : Prop := ∀ f vs t n k z, I f vs t n k z = true → (∃ v t' n', k v t' n' = true ∧ CA E f ⟨vs⟩ (fHeap t n) v (fHeap t' n')) ∨ z = true

theorem noI_ok (E : Env) : CkOk E noI := fun f vs t n k z h => .inr h

theorem exF_ok {E : Env} {T : Tab} {I : CK} (hE : EnvOk E) (hA : AllOk E T) (hm : E.P.follows .mixedOrders = true) (hI : CkOk E I) : ∀ m, ClIs (CA E) (exF E T I m) := by
  intro m
  induction m with
  | zero => intro f vs t n k h; cases h
  | succ m ih =>
    intro f vs t n k h
    have h : I f vs t n k (runK E T (exF E T I m) f vs t n fun d rs fr ds t n => dfK E T (exF E T I m) ds t n fun t n => resK fr t rs fun vs => oneK vs fun v => k v t n) = true := h
    rcases hI f vs t n k _ h with h | h
    · exact h
    obtain ⟨d, rs, fr, ds, t', n', h, fn, c, hf, hb, hrs, hw⟩ := runK_true hE hA hm ih h
    obtain ⟨hB, t₂, n₂, h, hl⟩ := dfK_true hE hA hm ih h
    -- the result: read from the frame and the heap
    obtain ⟨v, hk, hv⟩ : ∃ v, k v t₂ n₂ = true ∧ ∀ b, Rep fn.ntmps fr ds b → aRes E.P fn b (fHeap t₂ n₂) = some v := by
      by_cases hex : ∃ b, Rep fn.ntmps fr ds b
      · obtain ⟨b, hr⟩ := hex
        obtain ⟨us, k1, k2⟩ := resK_true (n := n₂) hr hrs h
        refine ⟨_, oneK_true k2, fun b' hr' => ?_⟩
        obtain ⟨us', k1', k2'⟩ := resK_true (n := n₂) hr' hrs h
        have e : us' = us := by
          have hb : b' = b := by
            obtain ⟨t1, d1⟩ := b
            obtain ⟨t2, d2⟩ := b'
            have e1 := hr.defers
            have e2 := hr'.defers
            have s1 := hr.size
            have s2 := hr'.size
            simp only at e1 e2 s1 s2
            subst e1
            subst e2
            congr 1
            refine Array.ext (by omega) fun i h1 h2 => ?_
            have g1 := hr.get i (by omega)
            have g2 := hr'.get i (by omega)
            simp only [Array.getD_eq_getD_getElem?] at g1 g2
            rw [Array.getElem?_eq_getElem (by omega)] at g1 g2
            simp only [Option.getD_some] at g1 g2
            rw [g1, g2]
          subst hb
          rw [k1] at k1'
          exact (Option.some.inj k1').symm
        subst e
        unfold aRes
        rw [k1']
        rfl
      · exact absurd (rep_ex fr ds) hex
    refine ⟨v, t₂, n₂, hk, acallD hE hf hb (hw.mono ?_)⟩
    rintro e b τ ⟨he, hr, rfl⟩
    have hres : aLeaves E.P fn b (fun u τ => u = v ∧ τ = fHeap t₂ n₂) ds (fHeap t' n') := hl fn b _ ⟨v, hv b hr, rfl, rfl⟩
    have hB' : ∀ d ∈ b.defers, ∀ g cap, d.target = .fn (.func g) cap → E.B g = true := by rw [hr.defers]; exact hB
    rcases he with rfl | rfl
    · exact ⟨hB', by rw [hr.defers]; exact hres⟩
    · exact ⟨hB', by rw [hr.defers]; exact hres⟩

end Go.Proofs.YtfchjhfccnodpaaGreat
end

section
namespace Go.Proofs.YtfchjhfccnodpaaGreat
set_option linter.unusedSimpArgs false
set_option linter.unusedVariables false

theorem putsK_true : ∀ {L : Ent} {t : HT} {k : HT → Bool}, putsK L t k = true →
    ∃ t', k t' = true ∧ ∀ n l, (fHeap t' n).get l = match lk L l with | some o => some o | none => (fHeap t n).get l
  | [], t, k, h => ⟨t, h, fun n l => rfl⟩
  | (x, o) :: r, t, k, h => by
    have h : hset x (some o) t (fun t => putsK r t k) = true := h
    have e0 : ∀ m, ∃ t', putsK r t' k = true ∧ fHeap t' m = (fHeap t m).upd x (some o) := fun m => hset_true m h
    obtain ⟨t₁, h1, h2⟩ := e0 0
    obtain ⟨t', h3, h4⟩ := putsK_true h1
    refine ⟨t', h3, fun n l => ?_⟩
    have e1 : (fHeap t₁ n).get l = if l = x then some o else (fHeap t n).get l := by
      have : (fHeap t₁ n).get = (fHeap t₁ 0).get := rfl
      rw [this, h2, Heap.upd_get]; rfl
    rw [h4 n l, e1]
    simp only [lk]
    cases lk r l with
    | some o' => rfl
    | none => by_cases e : l = x <;> simp [e]

noncomputable def clearsK (L : Ent) (t : HT) (k : HT → Bool) : Bool :=
  List.rec (motive := fun _ => HT → (HT → Bool) → Bool) (fun t k => k t) (fun x _ ih t k => hset x.1 none t fun t => ih t k) L t k

theorem clearsK_true : ∀ {L : Ent} {t : HT} {k : HT → Bool}, clearsK L t k = true →
    ∃ t', k t' = true ∧ ∀ n l, (fHeap t' n).get l = if l ∈ L.map (·.1) then none else (fHeap t n).get l
  | [], t, k, h => ⟨t, h, fun n l => by simp⟩
  | (x, o) :: r, t, k, h => by
    have h : hset x none t (fun t => clearsK r t k) = true := h
    obtain ⟨t₁, h1, h2⟩ := hset_true 0 h
    obtain ⟨t', h3, h4⟩ := clearsK_true h1
    refine ⟨t', h3, fun n l => ?_⟩
    have e1 : (fHeap t₁ n).get l = if l = x then none else (fHeap t n).get l := by
      have : (fHeap t₁ n).get = (fHeap t₁ 0).get := rfl
      rw [this, h2, Heap.upd_get]; rfl
    rw [h4 n l, e1]
    by_cases e : l = x
    · subst e; simp
    · simp only [List.map_cons, List.mem_cons, e, false_or, if_false]

theorem fHeap_get (t : HT) (n m : Nat) : (fHeap t n).get = (fHeap t m).get := rfl

theorem Memo.apply {E : Env} {m : Memo} (hm : m.Ok E) {σ τ : Heap} (hn : σ.nxt = m.n0) (hp : ∀ l o, lk m.pre l = some o → σ.get l = some o) (hτn : τ.nxt = m.n1)
    (hτ : ∀ l, τ.get l = match lk m.post l with | some o => some o | none => if l ∈ m.pre.map (·.1) then none else σ.get l) : ACall E.P m.f m.args σ fun u τ' => u = m.val ∧ τ' = τ := by
  let g : Heap := ⟨fun l => if l ∈ m.pre.map (·.1) then none else σ.get l, 0⟩
  have hg : ∀ l, g.get l = if l ∈ m.pre.map (·.1) then none else σ.get l := fun _ => rfl
  have hover : σ = Heap.over ⟨lk m.pre, m.n0⟩ g := by
    apply Heap.ext'
    · intro l
      simp only [Heap.over, hg]
      by_cases hl : l ∈ m.pre.map (·.1)
      · rw [if_pos hl]
        simp only
        cases hk : lk m.pre l with
        | none => exact absurd hl (lk_none hk)
        | some o => exact hp _ _ hk
      · rw [if_neg hl]
        cases hs : σ.get l with
        | some o => rfl
        | none =>
          simp only
          cases hk : lk m.pre l with
          | none => rfl
          | some o => exact absurd (List.mem_map_of_mem (f := (·.1)) (lk_mem hk)) hl
    · exact hn
  rw [hover]
  refine acall_forget (frame_over (g := g) ?_ hm) ?_
  · intro l o hl
    rw [hg] at hl
    split at hl
    · cases hl
    · rename_i hnm
      simp only
      cases hk : lk m.pre l with
      | none => rfl
      | some o => exact absurd (List.mem_map_of_mem (f := (·.1)) (lk_mem hk)) hnm
  · rintro u τ₁ ⟨σ', ⟨rfl, hn1, hpost⟩, hdis, rfl⟩
    refine ⟨τ, ?_, by rw [hτn]; exact hn1.symm, rfl, rfl⟩
    intro l o hl
    rw [hτ] at hl
    cases hk : lk m.post l with
    | some o' =>
      rw [hk] at hl
      cases hl
      have h3 := hpost l o hk
      have h4 : g.get l = none := by
        cases hgl : g.get l with
        | none => rfl
        | some x => rw [hdis l x hgl] at h3; cases h3
      rw [Heap.over_none h4]; exact h3
    | none =>
      rw [hk] at hl
      simp only at hl
      exact Heap.over_some (by rw [hg]; exact hl)

noncomputable def eqFs (pre : Ent) (t : HT) : Bool := pre.all fun x => eqO ((fHeap t 0).get x.1) (some x.2)

noncomputable def memoK (m : Memo) : CK := fun f vs t n k z =>
  Bool.rec z (Bool.rec z (Bool.rec z (clearsK m.pre t fun t => putsK m.post t fun t => k m.val t m.n1) (eqVL (eqV 20) vs m.args.toList && eqFs m.pre t)) (Nat.beq n m.n0)) (Nat.beq f m.f)

theorem memoK_ok {E : Env} {m : Memo} (hm : m.Ok E) : CkOk E (memoK m) := by
  intro f vs t n k z h
  unfold memoK at h
  rcases brec_true h with ⟨hf, h⟩ | ⟨_, h⟩
  case inr => exact .inr h
  rcases brec_true h with ⟨hn, h⟩ | ⟨_, h⟩
  case inr => exact .inr h
  rcases brec_true h with ⟨hc, h⟩ | ⟨_, h⟩
  case inr => exact .inr h
  left
  have hf : f = m.f := Nat.eq_of_beq_eq_true hf
  have hn : n = m.n0 := Nat.eq_of_beq_eq_true hn
  simp only [Bool.and_eq_true, eqFs, List.all_eq_true] at hc
  obtain ⟨ha, hp⟩ := hc
  have hargs : (⟨vs⟩ : Array Value) = m.args := Array.ext' (eqVL_sound (eqV_sound 20) _ _ ha)
  obtain ⟨t₁, h, h1⟩ := clearsK_true h
  obtain ⟨t₂, h, h2⟩ := putsK_true h
  refine ⟨m.val, t₂, m.n1, h, ?_⟩
  unfold CA
  rw [hf, hargs]
  refine Memo.apply hm (σ := fHeap t n) (τ := fHeap t₂ m.n1) hn (fun l o hl => ?_) rfl fun l => ?_
  · have := eqO_sound (hp (l, o) (lk_mem hl))
    rw [fHeap_get t n 0]
    exact this
  · rw [h2 m.n1 l, h1 m.n1 l, fHeap_get t n m.n1]

noncomputable def memosK : List Memo → CK := List.rec (motive := fun _ => CK) noI (fun m _ ih f vs t n k z => memoK m f vs t n k (ih f vs t n k z))

theorem memosK_ok {E : Env} : ∀ {M : List Memo}, (∀ m ∈ M, m.Ok E) → CkOk E (memosK M)
  | [], _ => noI_ok E
  | m :: r, hM => by
    intro f vs t n k z h
    have h : memoK m f vs t n k (memosK r f vs t n k z) = true := h
    rcases memoK_ok (hM m (List.mem_cons_self ..)) _ _ _ _ _ _ h with h | h
    · exact .inl h
    · exact memosK_ok (fun m hm => hM m (List.mem_cons_of_mem _ hm)) _ _ _ _ _ _ h

noncomputable def orK (I J : CK) : CK := fun f vs t n k z => I f vs t n k (J f vs t n k z)

theorem orK_ok {E : Env} {I J : CK} (hI : CkOk E I) (hJ : CkOk E J) : CkOk E (orK I J) := by
  intro f vs t n k z h
  rcases hI _ _ _ _ _ _ h with h | h
  · exact .inl h
  · exact hJ _ _ _ _ _ _ h

theorem h0_get (n l : Nat) : (fHeap h0 n).get l = none := by
  have key : ∀ m l, hfun m l (qrep none m) = none := by
    intro m
    induction m with
    | zero => intro l; rfl
    | succ m ih =>
      intro l
      show sel4 (Nat.land l 3) (hfun m (Nat.shiftRight l 2) (qrep none m)) (hfun m (Nat.shiftRight l 2) (qrep none m)) (hfun m (Nat.shiftRight l 2) (qrep none m)) (hfun m (Nat.shiftRight l 2) (qrep none m)) = none
      rw [ih, sel4_eq]
      simp
  show toAO (Bool.rec none (hfun 11 l h0) (Nat.ble l 4194303) : Option BObj) = none
  have := key 11 l
  unfold h0
  rw [this]
  cases Nat.ble l 4194303 <;> rfl

theorem Memo.fast_sound {E : Env} {T : Tab} {I : CK} (hE : EnvOk E) (hA : AllOk E T) (hm : E.P.follows .mixedOrders = true) (hI : CkOk E I) {m : Memo} (h : m.fast E T I = true) : m.Ok E := by
  unfold Memo.fast at h
  obtain ⟨t, h, ht⟩ := putsK_true h
  obtain ⟨v, t', n', h, hc⟩ := exF_ok hE hA hm hI _ _ _ _ _ _ h
  rcases brec_true h with ⟨hn, h⟩ | ⟨_, h⟩
  case inr => cases h
  have hn : n' = m.n1 := Nat.eq_of_beq_eq_true hn
  simp only [Bool.and_eq_true, List.all_eq_true] at h
  obtain ⟨h1, h3⟩ := h
  have hv := eqV_sound 20 _ _ h1
  have hh : fHeap t m.n0 = ⟨lk m.pre, m.n0⟩ := by
    apply Heap.ext'
    · intro l
      rw [ht m.n0 l, h0_get]
      show _ = lk m.pre l
      cases lk m.pre l <;> rfl
    · rfl
  unfold CA at hc
  rw [hh] at hc
  refine hc.mono ?_
  rintro u τ ⟨rfl, rfl⟩
  refine ⟨hv, hn, fun l o ho => ?_⟩
  have := eqO_sound (h3 (l, o) (lk_mem ho))
  exact this

end Go.Proofs.YtfchjhfccnodpaaGreat
end

section
namespace Go.Proofs.YtfchjhfccnodpaaGreat
set_option linter.unusedSimpArgs false
set_option linter.unusedVariables false

def renA (r : Nat → Nat) : Option Addr → Option Addr
  | some ⟨l, o, s⟩ => some ⟨r l, o, s⟩
  | none => none

def renV : Nat → (Nat → Nat) → Value → Value
  | _, r, .pointer a => .pointer (renA r a)
  | _, r, .slice a n c => .slice (renA r a) n c
  | _, r, .map (some m) => .map (some (r m))
  | n + 1, r, .agg ⟨l⟩ => .agg ⟨l.map (renV n r)⟩
  | n + 1, r, .tuple ⟨l⟩ => .tuple ⟨l.map (renV n r)⟩
  | n + 1, r, .func f ⟨a⟩ ⟨b⟩ => .func f ⟨a.map (renV n r)⟩ ⟨b.map (renV n r)⟩
  | _, _, v => v

def okA (D : Nat → Bool) : Option Addr → Bool
  | none => true
  | some ⟨l, _, none⟩ => D l
  | some ⟨_, _, some _⟩ => false

def okV : Nat → (Nat → Bool) → Value → Bool
  | _, _, .bool _ | _, _, .int .. | _, _, .float .. | _, _, .string _ | _, _, .map none | _, _, .nilFunc | _, _, .nilIface => true
  | _, D, .pointer a => okA D a
  | _, D, .slice (some ⟨l, o, some s⟩) n c => n == 0 && c == 0
  | _, D, .slice a _ _ => okA D a
  | _, D, .map (some m) => D m
  | n + 1, D, .agg ⟨l⟩ => l.all (okV n D)
  | n + 1, D, .tuple ⟨l⟩ => l.all (okV n D)
  | n + 1, D, .func (.func _) ⟨a⟩ ⟨b⟩ => a.all (okV n D) && b.all (okV n D)
  | _, _, _ => false

theorem renV_pointer (n : Nat) (r : Nat → Nat) (a : Option Addr) : renV n r (.pointer a) = .pointer (renA r a) := by cases n <;> rfl
theorem renV_slice (n : Nat) (r : Nat → Nat) (a : Option Addr) (m c : Nat) : renV n r (.slice a m c) = .slice (renA r a) m c := by cases n <;> rfl
theorem renV_map (n : Nat) (r : Nat → Nat) (m : Nat) : renV n r (.map (some m)) = .map (some (r m)) := by cases n <;> rfl
theorem renV_map0 (n : Nat) (r : Nat → Nat) : renV n r (.map none) = .map none := by cases n <;> rfl

section
variable {ρ₀ ρ : LMap} {r : Nat → Nat} {D : Nat → Bool}

theorem okV_mem {n : Nat} {l : List Value} (h : l.all (okV n D) = true) {i : Nat} {v : Value} (hi : l[i]? = some v) : okV n D v = true :=
  List.all_eq_true.1 h v (List.mem_of_getElem? hi)

theorem ren_push (h : ∀ l p, D l = true → ρ₀ l = some p → ρ (r l) = some p) : ∀ (n : Nat) {v v' : Value}, okV n D v = true → VRel ρ₀ v v' → VRel ρ (renV n r v) v' := by
  have leaf : ∀ (n : Nat) {v v' : Value}, okV n D v = true → VRel ρ₀ v v' → (∀ a, v ≠ .agg a) → (∀ a, v ≠ .tuple a) → (∀ f a b, v ≠ .func f a b) → VRel ρ (renV n r v) v' := by
    intro n v v' hk hv h1 h2 h3
    cases hv with
    | bool b => cases n <;> exact .bool b
    | int k m => cases n <;> exact .int k m
    | float k b => cases n <;> exact .float k b
    | string s => cases n <;> exact .string s
    | ptrNil => rw [renV_pointer]; exact .ptrNil
    | ptr hl =>
      rw [renV_pointer]
      refine .ptr (h _ _ ?_ hl)
      cases n <;> simpa [okV, okA] using hk
    | sliceNil m c => rw [renV_slice]; exact .sliceNil m c
    | slice hl hc =>
      rw [renV_slice]
      refine .slice (h _ _ ?_ hl) hc
      cases n <;> simpa [okV, okA] using hk
    | slice0 hl =>
      rw [renV_slice]
      refine .slice0 (h _ _ ?_ hl)
      cases n <;> simpa [okV, okA] using hk
    | sliceE => rw [renV_slice]; exact .sliceE
    | mapNil => rw [renV_map0]; exact .mapNil
    | map hl =>
      rw [renV_map]
      refine .map (h _ _ ?_ hl)
      cases n <;> simpa [okV] using hk
    | func => exact absurd rfl (h3 _ _ _)
    | nilFunc => cases n <;> exact .nilFunc
    | nilIface => cases n <;> exact .nilIface
    | agg => exact absurd rfl (h1 _)
    | tuple => exact absurd rfl (h2 _)
  intro n
  induction n with
  | zero =>
    intro v v' hk hv
    refine leaf 0 hk hv ?_ ?_ ?_
    · rintro a rfl; simp [okV] at hk
    · rintro a rfl; simp [okV] at hk
    · rintro f a b rfl; simp [okV] at hk
  | succ n ih =>
    have rows : ∀ {l : List Value} {a' : Array Value}, l.all (okV n D) = true → (Array.mk l).size = a'.size → (∀ (i : Nat) (v v' : Value), (Array.mk l)[i]? = some v → a'[i]? = some v' → VRel ρ₀ v v') →
        (Array.mk (l.map (renV n r))).size = a'.size ∧ ∀ (i : Nat) (v v' : Value), (Array.mk (l.map (renV n r)))[i]? = some v → a'[i]? = some v' → VRel ρ v v' := by
      intro l a' hk hs hr
      refine ⟨by simpa using hs, fun i v v' h1 h2 => ?_⟩
      simp only [List.getElem?_toArray, List.getElem?_map, Option.map_eq_some_iff] at h1
      obtain ⟨u, hu, rfl⟩ := h1
      exact ih (okV_mem hk hu) (hr i u v' (by simpa using hu) h2)
    intro v v' hk hv
    cases hv with
    | agg hs hr =>
      rename_i a a'
      obtain ⟨l⟩ := a
      have hk : l.all (okV n D) = true := hk
      obtain ⟨k1, k2⟩ := rows hk hs hr
      exact .agg k1 k2
    | tuple hs hr =>
      rename_i a a'
      obtain ⟨l⟩ := a
      have hk : l.all (okV n D) = true := hk
      obtain ⟨k1, k2⟩ := rows hk hs hr
      exact .tuple k1 k2
    | func hs ht hr hq =>
      rename_i f a b a' b'
      obtain ⟨l⟩ := a
      obtain ⟨m⟩ := b
      have hk : (l.all (okV n D) && m.all (okV n D)) = true := hk
      simp only [Bool.and_eq_true] at hk
      obtain ⟨k1, k2⟩ := rows hk.1 hs hr
      obtain ⟨k3, k4⟩ := rows hk.2 ht hq
      exact .func k1 k3 k2 k4
    | bool b => exact leaf (n + 1) hk (.bool b) (by intros; simp) (by intros; simp) (by intros; simp)
    | int k m => exact leaf (n + 1) hk (.int k m) (by intros; simp) (by intros; simp) (by intros; simp)
    | float k b => exact leaf (n + 1) hk (.float k b) (by intros; simp) (by intros; simp) (by intros; simp)
    | string s => exact leaf (n + 1) hk (.string s) (by intros; simp) (by intros; simp) (by intros; simp)
    | ptrNil => exact leaf (n + 1) hk .ptrNil (by intros; simp) (by intros; simp) (by intros; simp)
    | ptr hl => exact leaf (n + 1) hk (.ptr hl) (by intros; simp) (by intros; simp) (by intros; simp)
    | sliceNil m c => exact leaf (n + 1) hk (.sliceNil m c) (by intros; simp) (by intros; simp) (by intros; simp)
    | slice hl hc => exact leaf (n + 1) hk (.slice hl hc) (by intros; simp) (by intros; simp) (by intros; simp)
    | slice0 hl => exact leaf (n + 1) hk (.slice0 hl) (by intros; simp) (by intros; simp) (by intros; simp)
    | sliceE => exact leaf (n + 1) hk .sliceE (by intros; simp) (by intros; simp) (by intros; simp)
    | mapNil => exact leaf (n + 1) hk .mapNil (by intros; simp) (by intros; simp) (by intros; simp)
    | map hl => exact leaf (n + 1) hk (.map hl) (by intros; simp) (by intros; simp) (by intros; simp)
    | nilFunc => exact leaf (n + 1) hk .nilFunc (by intros; simp) (by intros; simp) (by intros; simp)
    | nilIface => exact leaf (n + 1) hk .nilIface (by intros; simp) (by intros; simp) (by intros; simp)

theorem ren_pull (h : ∀ l p, D l = true → ρ (r l) = some p → ρ₀ l = some p) : ∀ (n : Nat) {v v' : Value}, okV n D v = true → VRel ρ (renV n r v) v' → VRel ρ₀ v v' := by
  have leaf : ∀ (n : Nat) {v v' : Value}, okV n D v = true → VRel ρ (renV n r v) v' → (∀ a, v ≠ .agg a) → (∀ a, v ≠ .tuple a) → (∀ f a b, v ≠ .func f a b) → VRel ρ₀ v v' := by
    intro n v v' hk hv h1 h2 h3
    cases v with
    | bool b => cases n <;> (cases hv; exact .bool b)
    | int k m => cases n <;> (cases hv; exact .int k m)
    | float k b => cases n <;> (cases hv; exact .float k b)
    | complex k a b => cases n <;> simp [okV] at hk
    | string s => cases n <;> (cases hv; exact .string s)
    | pointer a =>
      rw [renV_pointer] at hv
      cases a with
      | none => cases hv; exact .ptrNil
      | some a =>
        obtain ⟨l, o, s⟩ := a
        cases s with
        | some s => cases n <;> simp [okV, okA] at hk
        | none =>
          have hD : D l = true := by cases n <;> simpa [okV, okA] using hk
          cases hv with
          | ptr hl => exact .ptr (h _ _ hD hl)
    | slice a m c =>
      rw [renV_slice] at hv
      cases a with
      | none => cases hv; exact .sliceNil m c
      | some a =>
        obtain ⟨l, o, s⟩ := a
        cases s with
        | some s => cases hv; exact .sliceE
        | none =>
          have hD : D l = true := by cases n <;> simpa [okV, okA] using hk
          cases hv with
          | slice hl hc => exact .slice (h _ _ hD hl) hc
          | slice0 hl => exact .slice0 (h _ _ hD hl)
    | map m =>
      cases m with
      | none => rw [renV_map0] at hv; cases hv; exact .mapNil
      | some m =>
        rw [renV_map] at hv
        have hD : D m = true := by cases n <;> simpa [okV] using hk
        cases hv with
        | map hl => exact .map (h _ _ hD hl)
    | chan a => cases n <;> simp [okV] at hk
    | func f a b => exact absurd rfl (h3 _ _ _)
    | nilFunc => cases n <;> (cases hv; exact .nilFunc)
    | iface t v => cases n <;> simp [okV] at hk
    | nilIface => cases n <;> (cases hv; exact .nilIface)
    | agg a => exact absurd rfl (h1 _)
    | tuple a => exact absurd rfl (h2 _)
  intro n
  induction n with
  | zero =>
    intro v v' hk hv
    refine leaf 0 hk hv ?_ ?_ ?_
    · rintro a rfl; simp [okV] at hk
    · rintro a rfl; simp [okV] at hk
    · rintro f a b rfl; simp [okV] at hk
  | succ n ih =>
    have rows : ∀ {l : List Value} {a' : Array Value}, l.all (okV n D) = true → (Array.mk (l.map (renV n r))).size = a'.size →
        (∀ (i : Nat) (v v' : Value), (Array.mk (l.map (renV n r)))[i]? = some v → a'[i]? = some v' → VRel ρ v v') →
        (Array.mk l).size = a'.size ∧ ∀ (i : Nat) (v v' : Value), (Array.mk l)[i]? = some v → a'[i]? = some v' → VRel ρ₀ v v' := by
      intro l a' hk hs hr
      refine ⟨by simpa using hs, fun i v v' h1 h2 => ?_⟩
      have h1 : l[i]? = some v := by simpa using h1
      exact ih (okV_mem hk h1) (hr i _ v' (by simp [h1]) h2)
    intro v v' hk hv
    by_cases c1 : ∃ a, v = .agg a
    · obtain ⟨⟨l⟩, rfl⟩ := c1
      have hk : l.all (okV n D) = true := hk
      have hv : VRel ρ (.agg ⟨l.map (renV n r)⟩) v' := hv
      cases hv with
      | agg hs hr =>
        obtain ⟨k1, k2⟩ := rows hk hs hr
        exact .agg k1 k2
    by_cases c2 : ∃ a, v = .tuple a
    · obtain ⟨⟨l⟩, rfl⟩ := c2
      have hk : l.all (okV n D) = true := hk
      have hv : VRel ρ (.tuple ⟨l.map (renV n r)⟩) v' := hv
      cases hv with
      | tuple hs hr =>
        obtain ⟨k1, k2⟩ := rows hk hs hr
        exact .tuple k1 k2
    by_cases c3 : ∃ f a b, v = .func f a b
    · obtain ⟨f, ⟨l⟩, ⟨m⟩, rfl⟩ := c3
      cases f with
      | func f =>
        have hk : (l.all (okV n D) && m.all (okV n D)) = true := hk
        simp only [Bool.and_eq_true] at hk
        have hv : VRel ρ (.func (.func f) ⟨l.map (renV n r)⟩ ⟨m.map (renV n r)⟩) v' := hv
        cases hv with
        | func hs ht hr hq =>
          obtain ⟨k1, k2⟩ := rows hk.1 hs hr
          obtain ⟨k3, k4⟩ := rows hk.2 ht hq
          exact .func k1 k3 k2 k4
      | _ => simp [okV] at hk
    exact leaf (n + 1) hk hv (fun a e => c1 ⟨a, e⟩) (fun a e => c2 ⟨a, e⟩) (fun f a b e => c3 ⟨f, a, b, e⟩)
end

def renO (r : Nat → Nat) : AObj → AObj
  | .cells c sz ro => .cells (c.map (renV 20 r)) sz ro
  | .map es k => .map (es.map fun e => { e with val := renV 20 r e.val }) k
  | .mapIter m a b c => .mapIter m a b c

def okO (D : Nat → Bool) : AObj → Bool
  | .cells c _ _ => c.all (okV 20 D)
  | .map es _ => es.all fun e => okV 20 D e.val
  | .mapIter .. => false

theorem renO_owned (r : Nat → Nat) (o : AObj) : (renO r o).owned = o.owned := by cases o <;> rfl

section
variable {ρ₀ ρ : LMap} {r : Nat → Nat} {D : Nat → Bool} {p : Pl} {w : World}

theorem real_push (h : ∀ l p, D l = true → ρ₀ l = some p → ρ (r l) = some p) {o : AObj} (hk : okO D o = true) (hr : Real ρ₀ p w o) : Real ρ p w (renO r o) := by
  cases o with
  | cells c sz ro =>
    obtain ⟨h1, h0, C, T, fz, h2, h3, h4⟩ := hr
    refine ⟨by simpa using h1, h0, C, T, fz, h2, fun i v hi => ?_, h4⟩
    simp only [List.getElem?_map, Option.map_eq_some_iff] at hi
    obtain ⟨u, hu, rfl⟩ := hi
    obtain ⟨v', k1, k2⟩ := h3 i u hu
    exact ⟨v', k1, ren_push h 20 (okV_mem hk hu) k2⟩
  | map es k =>
    obtain ⟨es', h1, h2⟩ := hr
    refine ⟨es', h1, by simpa using h2.1, fun i e e' hi hi' => ?_⟩
    simp only [List.getElem?_map, Option.map_eq_some_iff] at hi
    obtain ⟨u, hu, rfl⟩ := hi
    obtain ⟨k1, k2, k3, k4⟩ := h2.2 i u e' hu hi'
    exact ⟨k1, k2, ren_push h 20 (List.all_eq_true.1 hk u (List.mem_of_getElem? hu)) k3, k4⟩
  | mapIter => cases hk

theorem real_pull (h : ∀ l p, D l = true → ρ (r l) = some p → ρ₀ l = some p) {o : AObj} (hk : okO D o = true) (hr : Real ρ p w (renO r o)) : Real ρ₀ p w o := by
  cases o with
  | cells c sz ro =>
    obtain ⟨h1, h0, C, T, fz, h2, h3, h4⟩ := hr
    refine ⟨by simpa using h1, h0, C, T, fz, h2, fun i v hi => ?_, h4⟩
    obtain ⟨v', k1, k2⟩ := h3 i (renV 20 r v) (by simp [hi])
    exact ⟨v', k1, ren_pull h 20 (okV_mem hk hi) k2⟩
  | map es k =>
    obtain ⟨es', h1, h2⟩ := hr
    refine ⟨es', h1, by simpa using h2.1, fun i e e' hi hi' => ?_⟩
    obtain ⟨k1, k2, k3, k4⟩ := h2.2 i { e with val := renV 20 r e.val } e' (by simp [hi]) hi'
    exact ⟨k1, k2, ren_pull h 20 (List.all_eq_true.1 hk e (List.mem_of_getElem? hi)) k3, k4⟩
  | mapIter => cases hk
end

end Go.Proofs.YtfchjhfccnodpaaGreat
end

section
namespace Go.Proofs.YtfchjhfccnodpaaGreat
set_option linter.unusedSimpArgs false
set_option linter.unusedVariables false

def Memo.ren (m : Memo) (r : Nat → Nat) (n n' : Nat) : Memo :=
  ⟨m.f, ⟨m.args.toList.map (renV 20 r)⟩, m.pre.map (fun x => (r x.1, renO r x.2)), n, renV 20 r m.val, m.post.map (fun x => (r x.1, renO r x.2)), n'⟩

def newD (m : Memo) (D : Nat → Bool) (l : Nat) : Bool := D l || (Nat.ble m.n0 l && Nat.blt l m.n1)

theorem lk_map {r : Nat → Nat} {D : Nat → Bool} (hinj : ∀ a b, D a = true → D b = true → r a = r b → a = b) : ∀ {L : Ent}, (∀ x ∈ L, D x.1 = true) → ∀ {l : Nat}, D l = true →
    lk (L.map fun x => (r x.1, renO r x.2)) (r l) = (lk L l).map (renO r)
  | [], _, l, _ => rfl
  | (x, o) :: L, hD, l, hl => by
    have ih := lk_map hinj (L := L) (fun y hy => hD y (List.mem_cons_of_mem _ hy)) hl
    simp only [List.map_cons, lk, ih]
    cases lk L l with
    | some o' => rfl
    | none =>
      simp only [Option.map_none]
      by_cases e : l = x
      · subst e; simp
      · have : r l ≠ r x := fun h => e (hinj _ _ hl (hD (x, o) (List.mem_cons_self ..)) h)
        rw [if_neg this, if_neg e]; rfl

theorem lk_map_inv {r : Nat → Nat} {L : Ent} {x : Nat} {o' : AObj} (h : lk (L.map fun x => (r x.1, renO r x.2)) x = some o') : ∃ c o, (c, o) ∈ L ∧ x = r c := by
  have := lk_mem h
  simp only [List.mem_map, Prod.mk.injEq] at this
  obtain ⟨⟨c, o⟩, hm, h1, _⟩ := this
  exact ⟨c, o, hm, h1.symm⟩

structure RenOk (m : Memo) (D : Nat → Bool) (r : Nat → Nat) (n : Nat) : Prop where
  le : m.n0 ≤ m.n1
  old : ∀ l, D l = true → l < m.n0 ∧ r l < n
  new : ∀ l, m.n0 ≤ l → l < m.n1 → r l = l - m.n0 + n
  inj : ∀ a b, D a = true → D b = true → r a = r b → a = b
  args : ∀ v ∈ m.args.toList, okV 20 D v = true
  pre : ∀ x ∈ m.pre, D x.1 = true ∧ okO D x.2 = true
  val : okV 20 (newD m D) m.val = true
  post : ∀ x ∈ m.post, newD m D x.1 = true ∧ okO (newD m D) x.2 = true

theorem newD_or {m : Memo} {D : Nat → Bool} {l : Nat} (h : newD m D l = true) : D l = true ∨ (m.n0 ≤ l ∧ l < m.n1) := by
  simp only [newD, Bool.or_eq_true, Bool.and_eq_true] at h
  rcases h with h | ⟨h1, h2⟩
  · exact .inl h
  · exact .inr ⟨Nat.le_of_ble_eq_true h1, by simpa [Nat.blt_eq] using h2⟩

theorem Memo.ren_ok {E : Env} {m : Memo} {D : Nat → Bool} {r : Nat → Nat} {n : Nat} (hm : m.Ok E) (hr : RenOk m D r n) : (m.ren r n (n + (m.n1 - m.n0))).Ok E := by
  have hinj : ∀ a b, newD m D a = true → newD m D b = true → r a = r b → a = b := by
    intro a b ha hb e
    rcases newD_or ha with ha | ha <;> rcases newD_or hb with hb | hb
    · exact hr.inj a b ha hb e
    · have := (hr.old a ha).2; have := hr.new b hb.1 hb.2; omega
    · have := (hr.old b hb).2; have := hr.new a ha.1 ha.2; omega
    · have := hr.new a ha.1 ha.2; have := hr.new b hb.1 hb.2; omega
  have hsub : ∀ l, D l = true → newD m D l = true := fun l h => by simp [newD, h]
  have hpreD : ∀ {l o}, lk m.pre l = some o → D l = true ∧ okO D o = true := fun h => hr.pre _ (lk_mem h)
  have hpreM : ∀ {l}, D l = true → lk (m.ren r n (n + (m.n1 - m.n0))).pre (r l) = (lk m.pre l).map (renO r) := fun hl => lk_map (D := D) hr.inj (fun x hx => (hr.pre x hx).1) hl
  have hpostM : ∀ {l}, newD m D l = true → lk (m.ren r n (n + (m.n1 - m.n0))).post (r l) = (lk m.post l).map (renO r) := fun hl => lk_map (D := newD m D) hinj (fun x hx => (hr.post x hx).1) hl
  intro ρ w args'' hrel hargs
  let ρ₀ : LMap := fun c => if D c = true then ρ (r c) else none
  have hρ₀ : ∀ c, D c = true → ρ₀ c = ρ (r c) := fun c h => by simp only [ρ₀, if_pos h]
  have hpull : ∀ l p, D l = true → ρ (r l) = some p → ρ₀ l = some p := fun l p hl h => by rw [hρ₀ l hl]; exact h
  have hlt : ∀ x p, ρ x = some p → x < n ∧ p.blk < w.heap.size := hrel.bnd
  have hrel0 : Rel ρ₀ ⟨lk m.pre, m.n0⟩ w := by
    refine ⟨fun l o hl => ?_, fun l l' o o' p p' hne h1 h2 ho hp hp' => ?_, fun l p hp => ?_⟩
    · obtain ⟨hD, hok⟩ := hpreD hl
      have h1 : lk (m.ren r n (n + (m.n1 - m.n0))).pre (r l) = some (renO r o) := by rw [hpreM hD]; simp only at hl; rw [hl]; rfl
      obtain ⟨p, hp, hre⟩ := hrel.dom _ _ h1
      exact ⟨p, hpull l p hD hp, real_pull hpull hok hre⟩
    · have hD := (hpreD h1).1
      have hD' := (hpreD h2).1
      have k1 : lk (m.ren r n (n + (m.n1 - m.n0))).pre (r l) = some (renO r o) := by rw [hpreM hD]; simp only at h1; rw [h1]; rfl
      have k2 : lk (m.ren r n (n + (m.n1 - m.n0))).pre (r l') = some (renO r o') := by rw [hpreM hD']; simp only at h2; rw [h2]; rfl
      rw [hρ₀ l hD] at hp
      rw [hρ₀ l' hD'] at hp'
      exact hrel.excl _ _ _ _ _ _ (fun e => hne (hr.inj _ _ hD hD' e)) k1 k2 (by rw [renO_owned]; exact ho) hp hp'
    · by_cases hD : D l = true
      · rw [hρ₀ l hD] at hp
        exact ⟨(hr.old l hD).1, (hlt _ _ hp).2⟩
      · simp only [ρ₀, if_neg hD] at hp; cases hp
  have hargs0 : VsRel ρ₀ m.args args'' := by
    obtain ⟨h1, h2⟩ := hargs
    have e : (m.ren r n (n + (m.n1 - m.n0))).args = ⟨m.args.toList.map (renV 20 r)⟩ := rfl
    rw [e] at h1 h2
    refine ⟨by simpa using h1, fun i v v' hi hi' => ?_⟩
    have hi2 : m.args.toList[i]? = some v := by simpa using hi
    exact ren_pull hpull 20 (hr.args v (List.mem_of_getElem? hi2)) (h2 i _ v' (by simp [hi]) hi')
  refine (hm ρ₀ w args'' hrel0 hargs0).mono ?_
  rintro e w' ⟨v, v', ρ₀', τ₀, he, hR, hF, hN, hv, rfl, hn1, hpost⟩
  let ρ' : LMap := fun x => if x < n then ρ x else if x < n + (m.n1 - m.n0) then ρ₀' (x - n + m.n0) else none
  have hold : ∀ x, x < n → ρ' x = ρ x := fun x h => by simp only [ρ', if_pos h]
  have hpush : ∀ c p, newD m D c = true → ρ₀' c = some p → ρ' (r c) = some p := by
    intro c p hc hp
    rcases newD_or hc with hD | ⟨h1, h2⟩
    · obtain ⟨h1, h2⟩ := hr.old c hD
      rw [hN.old c h1, hρ₀ c hD] at hp
      rw [hold _ h2]; exact hp
    · rw [hr.new c h1 h2]
      have e1 : ¬ (c - m.n0 + n < n) := by omega
      have e2 : c - m.n0 + n < n + (m.n1 - m.n0) := by omega
      have e3 : c - m.n0 + n - n + m.n0 = c := by omega
      simp only [ρ', if_neg e1, if_pos e2, e3]; exact hp
  have hcan : ∀ {x o'}, lk (m.ren r n (n + (m.n1 - m.n0))).post x = some o' → ∃ c o, newD m D c = true ∧ okO (newD m D) o = true ∧ x = r c ∧ o' = renO r o ∧ lk m.post c = some o ∧ τ₀.get c = some o := by
    intro x o' hx
    obtain ⟨c, o₁, hm1, rfl⟩ := lk_map_inv hx
    have hc := (hr.post _ hm1).1
    rw [hpostM hc] at hx
    obtain ⟨o, ho, rfl⟩ := Option.map_eq_some_iff.1 hx
    exact ⟨c, o, hc, (hr.post _ (lk_mem ho)).2, rfl, rfl, ho, hpost c o ho⟩
  have hocc0 : ∀ q b, Occ ρ₀ ⟨lk m.pre, m.n0⟩ q b → Occ ρ ⟨lk (m.ren r n (n + (m.n1 - m.n0))).pre, n⟩ q b := by
    rintro q b ⟨c, o, p, h1, h2, h3, h4⟩
    have hD := (hpreD h1).1
    rw [hρ₀ c hD] at h3
    exact ⟨r c, renO r o, p, by simp only; rw [hpreM hD]; simp only at h1; rw [h1]; rfl, by rw [renO_owned]; exact h2, h3, h4⟩
  refine ⟨renV 20 r m.val, v', ρ', ⟨lk (m.ren r n (n + (m.n1 - m.n0))).post, n + (m.n1 - m.n0)⟩, he, ⟨?_, ?_, ?_⟩, ⟨?_, hF.os, hF.tape, hF.output, hF.size, by simp only [Memo.ren]; omega, ?_, ?_⟩, ⟨fun l hl => hold l hl, ?_⟩, ?_, rfl, rfl, fun l o h => h⟩
  · intro x o' hx
    obtain ⟨c, o, hc, hok, rfl, rfl, _, hτ⟩ := hcan hx
    obtain ⟨p, hp, hre⟩ := hR.dom c o hτ
    exact ⟨p, hpush c p hc hp, real_push hpush hok hre⟩
  · intro x x' o o' p p' hne h1 h2 ho hp hp'
    obtain ⟨c, u, hc, _, rfl, rfl, _, hτ⟩ := hcan h1
    obtain ⟨c', u', hc', _, rfl, rfl, _, hτ'⟩ := hcan h2
    obtain ⟨q, hq, _⟩ := hR.dom c u hτ
    obtain ⟨q', hq', _⟩ := hR.dom c' u' hτ'
    have e1 := hpush c q hc hq
    have e2 := hpush c' q' hc' hq'
    have q1 : q = p := Option.some.inj (e1.symm.trans hp)
    have q2 : q' = p' := Option.some.inj (e2.symm.trans hp')
    subst q1 q2
    exact hR.excl c c' u u' q q' (fun e => hne (by rw [e])) hτ hτ' (by rw [renO_owned] at ho; exact ho) hq hq'
  · intro x p hp
    simp only [ρ'] at hp
    split at hp
    · rename_i hx
      exact ⟨by simp only; omega, Nat.lt_of_lt_of_le (hlt _ _ hp).2 hF.size⟩
    · split at hp
      · rename_i hx
        exact ⟨hx, (hR.bnd _ _ hp).2⟩
      · cases hp
  · intro x p hp
    rw [hold x (hlt _ _ hp).1]; exact hp
  · intro b hb hno
    exact hF.blk b hb fun ho => hno (hocc0 _ _ ho)
  · rintro q b hb ⟨x, o', p, h1, h2, h3, h4⟩
    obtain ⟨c, o, hc, _, rfl, rfl, _, hτ⟩ := hcan h1
    obtain ⟨p₁, hp₁, _⟩ := hR.dom c o hτ
    have e1 := hpush c p₁ hc hp₁
    rw [e1] at h3; cases h3
    exact hocc0 _ _ (hF.own q b hb ⟨c, o, p, hτ, by rw [renO_owned] at h2; exact h2, hp₁, h4⟩)
  · intro x hx hg
    have hx : x < n := hx
    cases hp : lk (m.ren r n (n + (m.n1 - m.n0))).post x with
    | none => exact hp
    | some o' =>
      exfalso
      obtain ⟨c, o, hc, _, rfl, rfl, _, hτ⟩ := hcan hp
      rcases newD_or hc with hD | ⟨h1, h2⟩
      · have h3 : lk m.pre c = none := by
          have h4 := hpreM hD
          have hg : lk (m.ren r n (n + (m.n1 - m.n0))).pre (r c) = none := hg
          rw [hg] at h4
          cases hc : lk m.pre c with
          | none => rfl
          | some o => rw [hc] at h4; cases h4
        have := hN.gone c (hr.old c hD).1 h3
        rw [this] at hτ; cases hτ
      · have := hr.new c h1 h2
        omega
  · exact ren_push hpush 20 hr.val hv

end Go.Proofs.YtfchjhfccnodpaaGreat
end

section
namespace Go.Proofs.YtfchjhfccnodpaaGreat
set_option linter.unusedSimpArgs false
set_option linter.unusedVariables false

def lkN : List Nat → List Nat → Nat → Option Nat
  | a :: xs, b :: bs, l => if Nat.beq l a then some b else lkN xs bs l
  | _, _, _ => none

def turn (m : Memo) (dom R : List Nat) (n : Nat) (l : Nat) : Nat := match lkN dom R l with
  | some x => x
  | none => l - m.n0 + n

def memNq (l : Nat) : List Nat → Bool
  | [] => false
  | a :: r => Nat.beq l a || memNq l r
def nodN : List Nat → Bool
  | [] => true
  | a :: r => !memNq a r && nodN r
def sameLen : List Nat → List Nat → Bool
  | [], [] => true
  | _ :: a, _ :: b => sameLen a b
  | _, _ => false

theorem memNq_iff {l : Nat} : ∀ {L : List Nat}, memNq l L = true ↔ l ∈ L
  | [] => by simp [memNq]
  | a :: r => by
    simp only [memNq, Bool.or_eq_true, List.mem_cons, memNq_iff (L := r)]
    constructor
    · rintro (h | h)
      · exact .inl (Nat.eq_of_beq_eq_true h)
      · exact .inr h
    · rintro (rfl | h)
      · exact .inl (Nat.beq_refl _)
      · exact .inr h

theorem lkN_mem : ∀ {dom R : List Nat} {l : Nat}, sameLen dom R = true → l ∈ dom → ∃ x, lkN dom R l = some x ∧ x ∈ R
  | [], _, _, _, h => by cases h
  | a :: xs, [], _, h, _ => by cases h
  | a :: xs, b :: bs, l, hs, h => by
    simp only [lkN]
    by_cases e : l = a
    · subst e; exact ⟨b, by simp, List.mem_cons_self ..⟩
    · rw [if_neg (by intro h; exact e (Nat.eq_of_beq_eq_true h))]
      obtain ⟨x, h1, h2⟩ := lkN_mem (dom := xs) (R := bs) hs ((List.mem_cons.1 h).resolve_left e)
      exact ⟨x, h1, List.mem_cons_of_mem _ h2⟩

theorem lkN_none : ∀ {dom R : List Nat} {l : Nat}, ¬ l ∈ dom → lkN dom R l = none
  | [], R, l, _ => by cases R <;> rfl
  | a :: xs, [], l, _ => rfl
  | a :: xs, b :: bs, l, h => by
    simp only [lkN]
    rw [if_neg (by intro e; exact h (by rw [Nat.eq_of_beq_eq_true e]; exact List.mem_cons_self ..))]
    exact lkN_none fun hm => h (List.mem_cons_of_mem _ hm)

theorem nodN_sound : ∀ {L : List Nat}, nodN L = true → L.Nodup
  | [], _ => List.nodup_nil
  | a :: r, h => by
    simp only [nodN, Bool.and_eq_true, Bool.not_eq_true'] at h
    refine List.nodup_cons.2 ⟨fun hm => ?_, nodN_sound h.2⟩
    rw [memNq_iff.2 hm] at h
    cases h.1

theorem lkN_inj : ∀ {dom R : List Nat} {a b x : Nat}, R.Nodup → lkN dom R a = some x → lkN dom R b = some x → a = b
  | [], _, _, _, _, _, h, _ => by simp [lkN] at h
  | _ :: _, [], _, _, _, _, h, _ => by simp [lkN] at h
  | d :: ds, r :: rs, a, b, x, hn, h1, h2 => by
    have hn' := List.nodup_cons.1 hn
    have hmem : ∀ {ds rs : List Nat} {a x : Nat}, lkN ds rs a = some x → x ∈ rs := by
      intro ds
      induction ds with
      | nil => intro rs a x h; simp [lkN] at h
      | cons d ds ih =>
        intro rs a x h
        cases rs with
        | nil => simp [lkN] at h
        | cons r rs =>
          simp only [lkN] at h
          split at h
          · cases h; exact List.mem_cons_self ..
          · exact List.mem_cons_of_mem _ (ih h)
    simp only [lkN] at h1 h2
    split at h1
    · rename_i e1
      cases h1
      split at h2
      · rename_i e2
        rw [Nat.eq_of_beq_eq_true e1, Nat.eq_of_beq_eq_true e2]
      · exact absurd (hmem h2) hn'.1
    · split at h2
      · cases h2
        exact absurd (hmem h1) hn'.1
      · exact lkN_inj hn'.2 h1 h2

def statB (m : Memo) (dom : List Nat) : Bool :=
  Nat.ble m.n0 m.n1 && dom.all (fun l => Nat.blt l m.n0) && m.args.toList.all (okV 20 fun l => memNq l dom) && m.pre.all (fun x => memNq x.1 dom && okO (fun l => memNq l dom) x.2) &&
    okV 20 (newD m fun l => memNq l dom) m.val && m.post.all fun x => newD m (fun l => memNq l dom) x.1 && okO (newD m fun l => memNq l dom) x.2

theorem stat_ren {m : Memo} {dom R : List Nat} {n : Nat} (h : statB m dom = true) (h1 : sameLen dom R = true) (h2 : nodN R = true) (h3 : R.all (fun l => Nat.blt l n) = true) :
    RenOk m (fun l => memNq l dom) (turn m dom R n) n := by
  simp only [statB, Bool.and_eq_true, List.all_eq_true] at h
  obtain ⟨⟨⟨⟨⟨a1, a2⟩, a3⟩, a4⟩, a5⟩, a6⟩ := h
  have hlt : ∀ {a b : Nat}, Nat.blt a b = true → a < b := fun h => by simpa [Nat.blt_eq] using h
  simp only [List.all_eq_true] at h3
  refine ⟨Nat.le_of_ble_eq_true a1, fun l hl => ?_, fun l hl hl' => ?_, fun a b ha hb e => ?_, a3, a4, a5, a6⟩
  · have hm := memNq_iff.1 hl
    obtain ⟨x, k1, k2⟩ := lkN_mem h1 hm
    refine ⟨hlt (a2 l hm), ?_⟩
    simp only [turn, k1]
    exact hlt (h3 x k2)
  · have : lkN dom R l = none := lkN_none fun hm => by have := hlt (a2 l hm); omega
    simp only [turn, this]
  · obtain ⟨x, k1, _⟩ := lkN_mem h1 (memNq_iff.1 ha)
    obtain ⟨y, k2, _⟩ := lkN_mem h1 (memNq_iff.1 hb)
    simp only [turn, k1, k2] at e
    subst e
    exact lkN_inj (nodN_sound h2) k1 k2

def pairN (R : List (Nat × Nat)) (a b : Nat) : List (Nat × Nat) := if R.any fun x => Nat.beq x.1 a then R else (a, b) :: R
def pairA (R : List (Nat × Nat)) : Option Addr → Option Addr → List (Nat × Nat)
  | some ⟨a, _, _⟩, some ⟨b, _, _⟩ => pairN R a b
  | _, _ => R
def pairL (f : List (Nat × Nat) → Value → Value → List (Nat × Nat)) : List (Nat × Nat) → List Value → List Value → List (Nat × Nat)
  | R, a :: xs, b :: bs => pairL f (f R a b) xs bs
  | R, _, _ => R
def pairV : Nat → List (Nat × Nat) → Value → Value → List (Nat × Nat)
  | _, R, .pointer a, .pointer b => pairA R a b
  | _, R, .slice a _ _, .slice b _ _ => pairA R a b
  | _, R, .map (some a), .map (some b) => pairN R a b
  | n + 1, R, .agg ⟨a⟩, .agg ⟨b⟩ => pairL (pairV n) R a b
  | n + 1, R, .func _ ⟨a⟩ ⟨a'⟩, .func _ ⟨b⟩ ⟨b'⟩ => pairL (pairV n) (pairL (pairV n) R a b) a' b'
  | _, R, _, _ => R
def pairO (R : List (Nat × Nat)) : AObj → Option AObj → List (Nat × Nat)
  | .cells c _ _, some (.cells c' _ _) => pairL (pairV 20) R c c'
  | .map es _, some (.map es' _) => pairL (pairV 20) R (es.map (·.val)) (es'.map (·.val))
  | _, _ => R
noncomputable def pairE (t : HT) : List (Nat × Nat) → Ent → List (Nat × Nat)
  | R, [] => R
  | R, (l, o) :: r => pairE t (match R.find? fun x => Nat.beq x.1 l with | some x => pairO R o ((fHeap t 0).get x.2) | none => R) r
noncomputable def namesOf (m : Memo) (dom : List Nat) (vs : List Value) (t : HT) : List Nat :=
  dom.map fun l => match (pairE t (pairL (pairV 20) [] m.args.toList vs) m.pre).find? fun x => Nat.beq x.1 l with | some x => x.2 | none => 0

noncomputable def forceN (l : List Nat) (k : List Nat → Bool) : Bool := List.rec (motive := fun _ => (List Nat → Bool) → Bool) (fun k => k []) (fun a _ ih k => natK a fun a => ih fun r => k (a :: r)) l k
theorem forceN_eq : ∀ (l : List Nat) (k : List Nat → Bool), forceN l k = k l
  | [], k => rfl
  | a :: r, k => by
    show natK a (fun a => forceN r fun r => k (a :: r)) = k (a :: r)
    rw [natK_eq, forceN_eq r]

noncomputable def fitB (m : Memo) (r : Nat → Nat) (vs : List Value) (t : HT) : Bool :=
  eqVL (eqV 20) vs (m.args.toList.map (renV 20 r)) && (m.pre.map fun x => (r x.1, renO r x.2)).all fun x => eqO ((fHeap t 0).get x.1) (some x.2)

noncomputable def relocK (m : Memo) (dom : List Nat) : CK := fun f vs t n k z =>
  Bool.rec z (forceN (namesOf m dom vs t) fun R => Bool.rec z
    (clearsK (m.pre.map fun x => (turn m dom R n x.1, renO (turn m dom R n) x.2)) t fun t => putsK (m.post.map fun x => (turn m dom R n x.1, renO (turn m dom R n) x.2)) t fun t =>
      natK (Nat.add n (Nat.sub m.n1 m.n0)) fun n' => k (renV 20 (turn m dom R n) m.val) t n')
    (sameLen dom R && nodN R && R.all (fun l => Nat.blt l n) && fitB m (turn m dom R n) vs t)) (Nat.beq f m.f)

theorem relocK_ok {E : Env} {m : Memo} {dom : List Nat} (hm : m.Ok E) (hs : statB m dom = true) : CkOk E (relocK m dom) := by
  intro f vs t n k z h
  unfold relocK at h
  rcases brec_true h with ⟨hf, h⟩ | ⟨_, h⟩
  case inr => exact .inr h
  rw [forceN_eq] at h
  generalize namesOf m dom vs t = R at h
  rcases brec_true h with ⟨hc, h⟩ | ⟨_, h⟩
  case inr => exact .inr h
  left
  have hf : f = m.f := Nat.eq_of_beq_eq_true hf
  simp only [Bool.and_eq_true, fitB] at hc
  obtain ⟨⟨⟨c1, c2⟩, c3⟩, c4, c5⟩ := hc
  have hren := stat_ren hs c1 c2 c3
  have hok := Memo.ren_ok hm hren
  generalize hr : turn m dom R n = r at h c4 c5 hok
  obtain ⟨t₁, h, h1⟩ := clearsK_true h
  obtain ⟨t₂, h, h2⟩ := putsK_true h
  rw [natK_eq] at h
  have hargs : (⟨vs⟩ : Array Value) = (m.ren r n (n + (m.n1 - m.n0))).args := Array.ext' (eqVL_sound (eqV_sound 20) _ _ c4)
  refine ⟨_, t₂, _, h, ?_⟩
  unfold CA
  rw [hf, hargs]
  rw [List.all_eq_true] at c5
  refine Memo.apply hok (σ := fHeap t n) (τ := fHeap t₂ (Nat.add n (Nat.sub m.n1 m.n0))) rfl (fun l o hl => ?_) rfl fun l => ?_
  · have := eqO_sound (c5 (l, o) (lk_mem hl))
    rw [fHeap_get t n 0]
    exact this
  · rw [h2 (Nat.add n (Nat.sub m.n1 m.n0)) l, h1 (Nat.add n (Nat.sub m.n1 m.n0)) l, fHeap_get t n (Nat.add n (Nat.sub m.n1 m.n0))]
    rfl

noncomputable def relocsK (L : List (Memo × List Nat)) : CK := List.rec (motive := fun _ => CK) noI (fun m _ ih f vs t n k z => relocK m.1 m.2 f vs t n k (ih f vs t n k z)) L

theorem relocsK_ok {E : Env} : ∀ {L : List (Memo × List Nat)}, (∀ m ∈ L, m.1.Ok E ∧ statB m.1 m.2 = true) → CkOk E (relocsK L)
  | [], _ => noI_ok E
  | m :: r, hM => by
    intro f vs t n k z h
    have h : relocK m.1 m.2 f vs t n k (relocsK r f vs t n k z) = true := h
    have hm := hM m (List.mem_cons_self ..)
    rcases relocK_ok hm.1 hm.2 _ _ _ _ _ _ h with h | h
    · exact .inl h
    · exact relocsK_ok (fun m hm => hM m (List.mem_cons_of_mem _ hm)) _ _ _ _ _ _ h

end Go.Proofs.YtfchjhfccnodpaaGreat
end
