/-
  CallTurn answers true whatever comes in. No condition but that begun does.
-/
import Derived.Test.YtehmailaabjdjaaGreatCallAny
import Derived.Test.YtehmailaabjdjaaGreatReadC
open Go.Proofs
namespace Go.Proofs.YtehmailaabjdjaaGreat
set_option linter.unusedSimpArgs false
set_option linter.unusedVariables false
set_option maxRecDepth 100000

theorem CalsRd.len {g : Gm} {v : Value} {xs : List Cal} (h : CalsRd g v xs) : ∃ a c, v = .slice a xs.length c := by
  obtain ⟨cs, h1, _⟩ := h
  obtain ⟨a, c, h, _⟩ := h1.len
  exact ⟨a, c, h⟩
theorem CalsRd.kp0 {g g' : Gm} {n : Nat} {v : Value} {xs : List Cal} (h : CalsRd g v xs) (hk : K0 g n g') (hw : WF g n) : CalsRd g' v xs := by
  obtain ⟨cs, h1, h2⟩ := h
  refine ⟨cs, h1.kp0 hk hw, h2.mono fun c x _ hx => ?_⟩
  obtain ⟨gv, wv, e, hA⟩ := hx
  exact ⟨gv, wv, e, hA.kp0 hk hw⟩
theorem CalsRd.at {g : Gm} {v : Value} {xs : List Cal} {i : Nat} (h : CalsRd g v xs) (hi : i < xs.length) : ∃ l o c cl ro gv wv, v = .slice (some ⟨l, o, none⟩) xs.length c ∧ g l = some (.cells cl 7 ro) ∧ o + i * 7 + 7 ≤ cl.length ∧ (cl.drop (o + i * 7)).take 7 = calC xs[i] gv wv ∧ CalAt g xs[i] gv wv := by
  obtain ⟨cs, h1, h2⟩ := h
  obtain ⟨l, o, c, cl, ro, rfl, hc, h3, h4, h5⟩ := h1.pos (by omega)
  have h6 := h2.get hi
  rw [← take_part h5 (show i * 7 + 7 ≤ xs.length * 7 by omega)] at h6
  obtain ⟨gv, wv, h7, h8⟩ := h6
  exact ⟨l, o, c, cl, ro, gv, wv, rfl, h3, by omega, h7, h8⟩

theorem WrsOwn.kpb {F : Nat → AObj → Prop} {b n : Nat} {g g' : Gm} {v : Value} {ws : List Wr} (h : WrsOwn b g v ws) (hk : Kp F g n g') (hw : WF g n) (hF : ∀ x o, b ≤ x → ¬ F x o) : WrsOwn b g' v ws := by
  obtain ⟨⟨cs, h1, h2⟩, h3⟩ := h
  exact ⟨⟨cs, h1.kp hk hw fun l o hl _ => hF l o (h3 l hl), h2.mono fun c x _ hx => hx.mono fun _ _ k => k.kpb hk hw fun x _ _ hx => hF x _ hx⟩, h3⟩

/-- A row may change. -/
def FVn (v : Value) (x : Nat) (o : AObj) : Prop := vname v = some x

theorem callTurn_c (hB : BegunOk) {g : Gm} {n : Nat} {v : Value} {xs : List Cal} (h : CalsRd g v xs) : C 12 #[v] g n fun u g' n' => u = .bool true := by
  obtain ⟨a, c, rfl⟩ := h.len
  refine c_in1 Tryz.func12 rfl Tryz.ntmps12 rfl fun hw => ?_
  repeat (first | refine w_seq ?_ | refine w_blk ?_ | refine z_seq ?_ | refine z_blk ?_ | refine w_skip ?_)
  refine w_reg 1 rfl rfl (j' := 1) ?_
  refine n_op .no (q := 0) rfl (s_as rfl ?_)
  refine n_nil ?_
  repeat (first | refine w_seq ?_ | refine w_blk ?_ | refine z_seq ?_ | refine z_blk ?_ | refine w_skip ?_)
  refine w_reg 2 rfl rfl (j' := 3) ?_
  refine n_call .no rfl rfl rfl ?_
  refine C.use (hB _ _) fun v g1 n1 hw1 hn1 hq => ?_
  obtain ⟨rfl, rfl⟩ := hq
  refine n_op .no (q := 2) rfl (s_as rfl ?_)
  refine n_nil ?_
  repeat (first | refine w_seq ?_ | refine w_blk ?_ | refine z_seq ?_ | refine z_blk ?_ | refine w_skip ?_)
  refine w_reg 2 rfl rfl (j' := 2) ?_
  refine n_op .no (q := 0) rfl (s_mv rfl ?_)
  refine n_op .no (q := 1) rfl (s_not rfl ?_)
  refine n_nil ?_
  repeat (first | refine w_seq ?_ | refine w_blk ?_ | refine z_seq ?_ | refine z_blk ?_ | refine w_skip ?_)
  refine w_no rfl (rfl) ?_
  repeat (first | refine w_seq ?_ | refine w_blk ?_ | refine z_seq ?_ | refine z_blk ?_ | refine w_skip ?_)
  refine w_reg 1 rfl rfl (j' := 3) ?_
  refine n_op .no (q := 2) rfl (s_as rfl ?_)
  refine n_nil ?_
  have h1 : CalsRd g1 (.slice a xs.length c) xs := h
  repeat (first | refine w_seq ?_ | refine w_blk ?_ | refine z_seq ?_ | refine z_blk ?_ | refine w_skip ?_)
  refine w_loop (β := Nat) (fun i => [(0, .slice a xs.length c), (4, .int .i64 (i : Int))])
    (fun i g' n' => i ≤ 8 ∧ n1 ≤ n' ∧ K0 g1 n1 g') (fun i => 8 - i) 0 ⟨rfl, rfl, trivial⟩ ⟨by omega, by omega, (by repeat (first | exact Kp.refl _ _ _ | refine Kp.new ?_ (by omega) _))⟩ ?_
  rintro i f gL nL hwL ⟨hi8, hnL, kL⟩
  by_cases c1 : i < xs.length
  rotate_left
  · repeat (first | refine w_seq ?_ | refine w_blk ?_ | refine z_seq ?_ | refine z_blk ?_ | refine w_skip ?_)
    refine w_reg 8 rfl rfl (j' := 8) ?_
    refine n_op .no (q := 0) rfl (s_mv rfl ?_)
    refine n_op .no (q := 1) rfl (s_mv rfl ?_)
    refine n_op .no (q := 2) rfl (s_len rfl rfl un_62 rfl ?_)
    refine n_op .no (q := 3) rfl (s_bin rfl rfl rfl ?_)
    refine n_op .no (q := 4) rfl (s_mv rfl ?_)
    refine n_sk rfl rfl (decide_eq_false (by omega)) ?_
    refine n_sk rfl rfl (decide_eq_false (by omega)) ?_
    refine n_op .no (q := 7) rfl (s_pf rfl (decide_eq_false (by omega)) rfl ?_)
    refine n_nil ?_
    repeat (first | refine w_seq ?_ | refine w_blk ?_ | refine z_seq ?_ | refine z_blk ?_ | refine w_skip ?_)
    refine w_no rfl (rfl) ?_
    refine w_exit rfl ?_
    repeat (first | refine w_seq ?_ | refine w_blk ?_ | refine z_seq ?_ | refine z_blk ?_ | refine w_skip ?_)
    refine w_reg 1 rfl rfl (j' := 9) ?_
    refine n_op .no (q := 8) rfl (s_as rfl ?_)
    refine n_nil ?_
    repeat (first | refine w_ret ?_ | refine w_seq ?_ | refine w_blk ?_ | refine z_seq ?_ | refine z_blk ?_ | refine w_skip ?_)
    refine z_r1 rfl rfl ?_
    rfl
  by_cases c2 : i < 8
  rotate_left
  · repeat (first | refine w_seq ?_ | refine w_blk ?_ | refine z_seq ?_ | refine z_blk ?_ | refine w_skip ?_)
    refine w_reg 8 rfl rfl (j' := 8) ?_
    refine n_op .no (q := 0) rfl (s_mv rfl ?_)
    refine n_op .no (q := 1) rfl (s_mv rfl ?_)
    refine n_op .no (q := 2) rfl (s_len rfl rfl un_62 rfl ?_)
    refine n_op .no (q := 3) rfl (s_bin rfl rfl rfl ?_)
    refine n_op .no (q := 4) rfl (s_mv rfl ?_)
    refine n_op (.yes rfl rfl (decide_eq_true (by omega))) (q := 5) rfl (s_mv rfl ?_)
    refine n_op (.yes rfl rfl (decide_eq_true (by omega))) (q := 6) rfl (s_bin rfl rfl rfl ?_)
    refine n_op .no (q := 7) rfl (s_pt rfl (decide_eq_true (by omega)) rfl ?_)
    refine n_nil ?_
    repeat (first | refine w_seq ?_ | refine w_blk ?_ | refine z_seq ?_ | refine z_blk ?_ | refine w_skip ?_)
    refine w_no rfl (decide_eq_false (by omega)) ?_
    refine w_exit rfl ?_
    repeat (first | refine w_seq ?_ | refine w_blk ?_ | refine z_seq ?_ | refine z_blk ?_ | refine w_skip ?_)
    refine w_reg 1 rfl rfl (j' := 9) ?_
    refine n_op .no (q := 8) rfl (s_as rfl ?_)
    refine n_nil ?_
    repeat (first | refine w_ret ?_ | refine w_seq ?_ | refine w_blk ?_ | refine z_seq ?_ | refine z_blk ?_ | refine w_skip ?_)
    refine z_r1 rfl rfl ?_
    rfl
  repeat (first | refine w_seq ?_ | refine w_blk ?_ | refine z_seq ?_ | refine z_blk ?_ | refine w_skip ?_)
  refine w_reg 8 rfl rfl (j' := 8) ?_
  refine n_op .no (q := 0) rfl (s_mv rfl ?_)
  refine n_op .no (q := 1) rfl (s_mv rfl ?_)
  refine n_op .no (q := 2) rfl (s_len rfl rfl un_62 rfl ?_)
  refine n_op .no (q := 3) rfl (s_bin rfl rfl rfl ?_)
  refine n_op .no (q := 4) rfl (s_mv rfl ?_)
  refine n_op (.yes rfl rfl (decide_eq_true (by omega))) (q := 5) rfl (s_mv rfl ?_)
  refine n_op (.yes rfl rfl (decide_eq_true (by omega))) (q := 6) rfl (s_bin rfl rfl rfl ?_)
  refine n_op .no (q := 7) rfl (s_pt rfl (decide_eq_true (by omega)) rfl ?_)
  refine n_nil ?_
  repeat (first | refine w_seq ?_ | refine w_blk ?_ | refine z_seq ?_ | refine z_blk ?_ | refine w_skip ?_)
  refine w_yes rfl (decide_eq_true (by omega)) ?_
  refine w_skip ?_
  refine z_seq ?_
  refine w_seq ?_
  refine z_meet (β := Unit) (fun _ => [(0, .slice a xs.length c), (4, .int .i64 (i : Int))]) (fun _ g' n' => n1 ≤ n' ∧ K0 g1 n1 g') ?_ ?_
  · obtain ⟨lx, ox, cx, clx, rox, gv, wv, q1, q2, q3, q4, q5⟩ := (h1.kp0 kL hw1).at c1
    cases q1
    obtain ⟨a1, d1, rfl⟩ := q5.gs.len
    obtain ⟨a2, d2, rfl⟩ := q5.ws.len
    have hlx := hwL _ _ q2
    generalize xs[i] = x at *
    repeat (first | refine w_seq ?_ | refine w_blk ?_ | refine z_seq ?_ | refine z_blk ?_ | refine w_skip ?_)
    refine w_reg 6 rfl rfl (j' := 14) ?_
    refine n_op .no (q := 8) rfl (s_mv rfl ?_)
    refine n_op .no (q := 9) rfl (s_mv rfl ?_)
    refine n_op .no (q := 10) rfl (s_ia rfl rfl el_62 (by first | assumption | omega) ?_)
    refine n_op .no (q := 11) rfl (s_lda rfl (by repeat (first | exact gs_same _ _ _ | exact q2 | exact q4 | refine (gs_ne (by omega) _).trans ?_)) ag_55 sz_55 (by first | exact Nat.le_of_ble_eq_true rfl | assumption | omega) (by first | exact q2 | exact q4 | exact rfl) ?_)
    refine n_op .no (q := 12) rfl (s_al zl_55 ?_)
    refine n_op .no (q := 13) rfl (s_stw rfl rfl sz_55 rfl (by repeat (first | exact gs_same _ _ _ | exact q2 | exact q4 | refine (gs_ne (by omega) _).trans ?_)) (by exact rfl) rfl ?_)
    refine n_nil ?_
    repeat (first | refine w_seq ?_ | refine w_blk ?_ | refine z_seq ?_ | refine z_blk ?_ | refine w_skip ?_)
    refine w_reg 5 rfl rfl (j' := 19) ?_
    first | refine n_op .no (q := 14) rfl (s_fa0 rfl fo_55_5 ?_) | refine n_op .no (q := 14) rfl (s_fa rfl fo_55_5 ?_)
    refine n_op .no (q := 15) rfl (s_ldf rfl (by repeat (first | exact gs_same _ _ _ | refine (gs_ne (by omega) _).trans ?_)) ag_42 sz_42 (by exact rfl) ?_)
    refine n_call .no rfl rfl rfl ?_
    refine C.use (cut_c (q5.gs.kp0 (n := nL) (by repeat (first | exact Kp.refl _ _ _ | refine Kp.new ?_ (by omega) _)) hwL) (q5.ws.kp0 (n := nL) (by repeat (first | exact Kp.refl _ _ _ | refine Kp.new ?_ (by omega) _)) hwL)) fun v g2 n2 hw2 hn2 hq => ?_
    obtain ⟨gv', wv', rfl, hG, hW, k2⟩ := hq
    obtain ⟨ag, cg, rfl⟩ := hG.len
    obtain ⟨aw, cw, rfl⟩ := hW.len
    first | refine n_op .no (q := 17) rfl (s_fa0 rfl fo_55_5 ?_) | refine n_op .no (q := 17) rfl (s_fa rfl fo_55_5 ?_)
    refine n_op .no (q := 18) rfl (s_sta rfl rfl sz_42 rfl (by repeat (first | exact gs_same _ _ _ | refine Kp.lt k2 (by omega) ?_ | refine (gs_ne (by omega) _).trans ?_)) (by first | exact Nat.le_of_ble_eq_true rfl | assumption | omega) rfl ?_)
    refine n_nil ?_
    repeat (first | refine w_seq ?_ | refine w_blk ?_ | refine z_seq ?_ | refine z_blk ?_ | refine w_skip ?_)
    refine w_gen fun g5 n5 hg5 hn5 hwg5 => ?_
    have hc2 : g2 (nL + 12) = some (.cells (calC x (.slice a1 x.gs.length d1) (.slice a2 x.ws.length d2)) 0 false) := k2.lt (by omega) (gs_same _ _ _)
    have c5 : g5 (nL + 12) = some (.cells (calC x.cutC (.slice ag x.cutC.gs.length cg) (.slice aw x.cutC.ws.length cw)) 0 false) := by rw [hg5]; exact gs_same _ _ _
    have kz : Kp (FRd (nL + 12)) g2 n2 g5 := by rw [hg5]; exact Kp.set (Kp.refl _ _ _) (FRd.of hc2) _
    have k15 : K0 g1 n1 g5 := (kL.trans0 (Kp.trans0 (n' := nL) (by repeat (first | exact Kp.refl _ _ _ | refine Kp.new ?_ (by omega) _)) (k2.dn (by omega)) (by omega)) hnL).trans0 (n' := n1) (kz.low0 (q := n1) (fun x o hf => by have := hf.1; omega) (by omega)) (Nat.le_refl _)
    have hC : CalAt g5 x.cutC (.slice ag x.cutC.gs.length cg) (.slice aw x.cutC.ws.length cw) := ⟨hG.fr kz hw2, hW.fr kz hw2⟩
    have hl1 : x.cutC.gs.length ≤ 25 := by show (x.gs.take 25).length ≤ 25; rw [List.length_take]; omega
    have hl2 : x.cutC.ws.length ≤ 70 := by show (x.ws.take 70).length ≤ 70; rw [List.length_take]; omega
    generalize x.cutC = y at *
    clear hg5 kz hG hW k2 hc2
    have hpl := Cal.put_len y
    repeat (first | refine w_seq ?_ | refine w_blk ?_ | refine z_seq ?_ | refine z_blk ?_ | refine w_skip ?_)
    refine w_drw (T6 12 9) [(0, []), (2, [0]), (1, [2]), (3, []), (4, []), (5, [])] 6 (by kernel_rfl) rfl rfl (j' := 6) ?_
    refine d_tc rfl rfl rfl .no (q := 0) rfl (s_ldf rfl (by repeat (first | exact gs_same _ _ _ | exact c5 | refine (gs_ne (by omega) _).trans ?_)) ag_55 sz_55 (by exact rfl) ⟨clash_nil, ?_⟩)
    refine d_tc rfl rfl rfl .no (q := 2) rfl (s_ldf rfl (by repeat (first | exact gs_same _ _ _ | exact c5 | refine (gs_ne (by omega) _).trans ?_)) ag_55 sz_55 (by exact rfl) ⟨clash_rd rfl, ?_⟩)
    refine d_call rfl .no rfl rfl rfl (call_rd rfl) ?_
    refine C.use (put_c (hC.kp0 (n := n5) (by repeat (first | exact Kp.refl _ _ _ | refine Kp.new ?_ (by omega) _)) hwg5) ⟨by omega, by omega⟩) fun v g3 n3 hw3 hn3 hq => ?_
    obtain ⟨⟨ap, cp, rfl⟩, hP, k3⟩ := hq
    refine ⟨?_, ?_⟩
    · repeat' (first | exact trivial | exact (k3.lt (by omega) c5).trans c5.symm | apply And.intro)
    have c3 := k3.lt (by omega) c5
    refine d_call rfl .no rfl rfl rfl call_nil ?_
    refine C.use (put_c (hC.kp0 (k3.dn (by omega)) hwg5) ⟨by omega, by omega⟩) fun v g4 n4 hw4 hn4 hq => ?_
    obtain ⟨⟨ap', cp', rfl⟩, hP', k4⟩ := hq
    refine ⟨kept_nil, ?_⟩
    have c4 := k4.lt (by omega) c3
    have hP4 := hP.kp0 (k4.dn (by omega)) hw3
    refine d_op rfl rfl .no (q := 4) rfl (s_as rfl ⟨⟨rfl, rfl⟩, ?_⟩)
    refine d_op rfl rfl .no (q := 5) rfl (s_as rfl ⟨⟨rfl, rfl⟩, ?_⟩)
    refine d_nil ?_
    repeat (first | refine w_seq ?_ | refine w_blk ?_ | refine z_seq ?_ | refine z_blk ?_ | refine w_skip ?_)
    refine w_reg 4 rfl rfl (j' := 4) ?_
    refine n_op .no (q := 0) rfl (s_mv rfl ?_)
    refine n_op .no (q := 1) rfl (s_mv rfl ?_)
    refine n_call .no rfl rfl rfl ?_
    refine C.use (bytes_c hP4.at hP'.at) fun v g6 n6 hw6 hn6 hq => ?_
    obtain ⟨rfl, k6⟩ := hq
    rw [decide_eq_true rfl]
    have c6 := k6.lt (by omega) c4
    have hP6 := hP4.kp0 (k6.dn (by omega)) hw4
    have k56 : K0 g5 n5 g6 := (k3.dn (by omega)).trans0 (k4.trans0 k6 (by omega)) (by omega)
    refine n_op .no (q := 3) rfl (s_not rfl ?_)
    refine n_nil ?_
    repeat (first | refine w_seq ?_ | refine w_blk ?_ | refine z_seq ?_ | refine z_blk ?_ | refine w_skip ?_)
    refine w_no rfl (rfl) ?_
    repeat (first | refine w_seq ?_ | refine w_blk ?_ | refine z_seq ?_ | refine z_blk ?_ | refine w_skip ?_)
    refine w_reg 8 rfl rfl (j' := 8) ?_
    refine n_op .no (q := 0) rfl (s_mv rfl ?_)
    refine n_call .no rfl rfl rfl ?_
    refine C.useG (get_c hP6.at (by omega)) fun v g7 n7 hw7 hn7 hx7 hq => ?_
    obtain ⟨d, gv2, wv2, ok, rfl, hcG, hcW, hyes, hno, ⟨hl3, hl4⟩, k7⟩ := hq
    obtain ⟨ag2, cg2, rfl⟩ := hcG.rd.len
    obtain ⟨aw2, cw2, rfl⟩ := hcW.rd.len
    have c7 := k7.lt (by omega) c6
    have hP7 := hP6.kp0 (k7.dn (m := n6) (by omega)) hw6
    have k57 : K0 g5 n5 g7 := k56.trans0 k7 (by omega)
    have hlt : ∀ l, vname (.slice ap y.put.length cp) = some l → l < n6 := fun l hl => by
      obtain ⟨cl, hcl⟩ := hP6.isB hl
      exact hw6 _ _ hcl
    have fr : g7 (n6 + 5) = none := hx7 _ (by omega) (hw6.none (by omega))
    refine n_op .no (q := 2) rfl (s_mv rfl ?_)
    refine n_op .no (q := 3) rfl (s_ext rfl rfl ?_)
    refine n_op .no (q := 4) rfl (s_ext rfl rfl ?_)
    refine n_op .no (q := 5) rfl (s_al zl_55 ?_)
    refine n_op .no (q := 6) rfl (s_stw rfl rfl sz_55 rfl (by repeat (first | exact gs_same _ _ _ | refine (gs_ne (by omega) _).trans ?_)) (by exact rfl) rfl ?_)
    refine n_op .no (q := 7) rfl (s_as rfl ?_)
    refine n_nil ?_
    repeat (first | refine w_seq ?_ | refine w_blk ?_ | refine z_seq ?_ | refine z_blk ?_ | refine w_skip ?_)
    refine w_gen fun g8 n8 hg8 hn8 hwg8 => ?_
    have k78 : K0 g7 n7 g8 := by rw [hg8]; exact Kp.add (Kp.add (Kp.refl _ _ _) fr _) fr _
    have d8 : g8 (n6 + 5) = some (.cells (calC d (.slice ag2 d.gs.length cg2) (.slice aw2 d.ws.length cw2)) 0 false) := by rw [hg8]; exact gs_same _ _ _
    clear hg8
    have c8 := k78.at0 hw7 c7
    have hG8 := hcG.kp0 k78 hw7
    have hW8 := hcW.kp0 k78 hw7
    have hP8 := hP7.kp0 k78 hw7
    have k58 : K0 g5 n5 g8 := k57.trans0 k78 (by omega)
    repeat (first | refine w_seq ?_ | refine w_blk ?_ | refine z_seq ?_ | refine z_blk ?_ | refine w_skip ?_)
    refine w_reg 2 rfl rfl (j' := 2) ?_
    refine n_op .no (q := 0) rfl (s_mv rfl ?_)
    refine n_op .no (q := 1) rfl (s_not rfl ?_)
    refine n_nil ?_
    cases ok
    · repeat (first | refine w_seq ?_ | refine w_blk ?_ | refine z_seq ?_ | refine z_blk ?_ | refine w_skip ?_)
      refine w_yes rfl (rfl) ?_
      refine w_exit rfl ?_
      exact z_met () ⟨rfl, rfl, trivial⟩ ⟨by omega, k15.trans0 (n' := n5) k58 (by omega)⟩
    obtain ⟨he, hne⟩ := hyes rfl
    have hdy : d = y := Cal.put_inj (Cal.may_of_put (by rw [he]; exact hne)) (Cal.may_of_put hne) he
    repeat (first | refine w_seq ?_ | refine w_blk ?_ | refine z_seq ?_ | refine z_blk ?_ | refine w_skip ?_)
    refine w_no rfl (rfl) ?_
    repeat (first | refine w_seq ?_ | refine w_blk ?_ | refine z_seq ?_ | refine z_blk ?_ | refine w_skip ?_)
    refine w_reg 3 rfl rfl (j' := 5) ?_
    refine n_op .no (q := 2) rfl (s_mv rfl ?_)
    refine n_op .no (q := 3) rfl (s_len rfl rfl un_26 rfl ?_)
    refine n_op .no (q := 4) rfl (s_mv rfl ?_)
    refine n_nil ?_
    refine z_seq ?_
    refine z_meet (β := Unit) (fun _ => [(0, .slice (some ⟨lx, ox, none⟩) xs.length c), (4, .int .i64 (i : Int)), (5, .pointer (some ⟨nL + 12, 0, none⟩)), (8, .pointer (some ⟨n6 + 5, 0, none⟩))]) (fun _ g' n' => n8 ≤ n' ∧ Kp (FVn (.slice ap y.put.length cp)) g8 n8 g') ?_ ?_
    · repeat (first | refine w_seq ?_ | refine w_blk ?_ | refine z_seq ?_ | refine z_blk ?_ | refine w_skip ?_)
      refine w_loop (β := Nat) (fun j => [(0, .slice (some ⟨lx, ox, none⟩) xs.length c), (4, .int .i64 (i : Int)), (5, .pointer (some ⟨nL + 12, 0, none⟩)), (6, .slice ap y.put.length cp), (8, .pointer (some ⟨n6 + 5, 0, none⟩)), (48, .int .i64 y.put.length), (49, .int .i64 (j : Int))])
        (fun j g' n' => j ≤ y.put.length ∧ n8 ≤ n' ∧ Kp (FVn (.slice ap y.put.length cp)) g8 n8 g' ∧ ∃ bs, bs.length = y.put.length ∧ BytesNew (n5 + 6) g' (.slice ap y.put.length cp) bs) (fun j => y.put.length - j) 0 ⟨rfl, rfl, rfl, rfl, rfl, rfl, rfl, trivial⟩ ⟨by omega, by omega, (by repeat (first | exact Kp.refl _ _ _ | refine Kp.new ?_ (by omega) _)), _, rfl, hP8⟩ ?_
      rintro j f gJ nJ hwJ ⟨hj, hnJ, kJ, bs, hbl, hB⟩
      repeat (first | refine w_seq ?_ | refine w_blk ?_ | refine z_seq ?_ | refine z_blk ?_ | refine w_skip ?_)
      refine w_reg 1 rfl rfl (j' := 1) ?_
      refine n_op .no (q := 0) rfl (s_bin rfl rfl rfl ?_)
      refine n_nil ?_
      repeat (first | refine w_seq ?_ | refine w_blk ?_ | refine z_seq ?_ | refine z_blk ?_ | refine w_skip ?_)
      refine w_if rfl (fun hcj => ?_) (fun hcj => ?_)
      · have hcj : j < y.put.length := by simpa using hcj
        obtain ⟨lp, op, cq, clp, e9, hbl2, hgl, hcell, hlen, hput⟩ := hB.put (show j < bs.length by omega)
        have hput0 := hput 0
        have hfv : ∀ o, gJ lp = some o → vname (.slice ap y.put.length cp) = some lp := fun _ _ => by rw [e9]; rfl
        simp only [Value.slice.injEq] at e9
        obtain ⟨rfl, e10, rfl⟩ := e9
        repeat (first | refine w_seq ?_ | refine w_blk ?_ | refine z_seq ?_ | refine z_blk ?_ | refine w_skip ?_)
        refine w_reg 2 rfl rfl (j' := 3) ?_
        refine n_op .no (q := 1) rfl (s_mv rfl ?_)
        refine n_op .no (q := 2) rfl (s_as rfl ?_)
        refine n_nil ?_
        repeat (first | refine w_seq ?_ | refine w_blk ?_ | refine z_seq ?_ | refine z_blk ?_ | refine w_skip ?_)
        refine w_reg 4 rfl rfl (j' := 7) ?_
        refine n_op .no (q := 3) rfl (s_mv rfl ?_)
        refine n_op .no (q := 4) rfl (s_mv rfl ?_)
        refine n_op .no (q := 5) rfl (s_ia rfl rfl el_26 (by first | assumption | omega) ?_)
        refine n_op .no (q := 6) rfl (s_stg rfl rfl sz_5 (by repeat (first | exact gs_same _ _ _ | exact hgl | refine (gs_ne (by omega) _).trans ?_)) rfl rfl (by first | assumption | omega) ?_)
        refine n_nil ?_
        repeat (first | refine w_seq ?_ | refine w_blk ?_ | refine z_seq ?_ | refine z_blk ?_ | refine w_skip ?_)
        repeat (first | refine w_seq ?_ | refine w_blk ?_ | refine z_seq ?_ | refine z_blk ?_ | refine w_skip ?_)
        refine w_reg 2 rfl rfl (j' := 9) ?_
        first | refine n_op .no (q := 7) rfl (s_bin rfl rfl (bi_inc (by omega)) ?_) | refine n_op .no (q := 7) rfl (s_bin rfl rfl (bi_add rfl (by omega) (by omega)) ?_)
        refine n_op .no (q := 8) rfl (s_mv rfl ?_)
        refine n_nil ?_
        refine z_round (j + 1) ⟨rfl, rfl, rfl, rfl, rfl, rfl, rfl, trivial⟩ ⟨hcj, by omega, Kp.set kJ (fun o ho => rfl) _, _, by rw [List.length_set]; exact hbl, hput0⟩ (by omega)
      · refine w_exit rfl ?_
        exact z_met () ⟨rfl, rfl, rfl, rfl, trivial⟩ ⟨by omega, kJ⟩
    rintro _ f g9 n9 hw9 ⟨hn9, k9⟩
    have c9 := k9.at hwg8 c8 (hP8.ne c8)
    have d9 := k9.at hwg8 d8 (hP8.ne d8)
    have k59 : K0 g5 n5 g9 := fun x o hx ho _ => k9 x o (by omega) (k58 x o hx ho id) (fun hf => by have := hP8.2 x hf; omega)
    have hC9 := hC.kp0 k59 hwg5
    have hG9 := hG8.kp k9 hwg8 (fun l o hl ho hf => by have := hG8.from_ l hl; have := hlt l hf; omega)
    have hW9 := hW8.kpb k9 hwg8 (fun x o hx hf => by have := hlt x hf; omega)
    repeat (first | refine w_seq ?_ | refine w_blk ?_ | refine z_seq ?_ | refine z_blk ?_ | refine w_skip ?_)
    refine w_reg 10 rfl rfl (j' := 10) ?_
    refine n_op .no (q := 0) rfl (s_ldf rfl (by repeat (first | exact gs_same _ _ _ | exact d9 | exact c9 | refine (gs_ne (by omega) _).trans ?_)) ag_55 sz_55 (by exact rfl) ?_)
    refine n_op .no (q := 1) rfl (s_ldf rfl (by repeat (first | exact gs_same _ _ _ | exact d9 | exact c9 | refine (gs_ne (by omega) _).trans ?_)) ag_55 sz_55 (by exact rfl) ?_)
    refine n_call .no rfl rfl rfl ?_
    refine C.use (same_c ⟨hG9.rd, hW9.rd⟩ hC9 ⟨by rw [hdy]; omega, by rw [hdy]; omega⟩) fun v g10 n10 hw10 hn10 hq => ?_
    obtain ⟨⟨q, rfl, hq⟩, k10⟩ := hq
    obtain rfl := hq.2 hdy
    have c10 := k10.lt (by omega) c9
    have d10 := k10.lt (by omega) d9
    refine n_op .no (q := 3) rfl (s_not rfl ?_)
    refine n_op .no (q := 4) rfl (s_mv rfl ?_)
    refine n_op (.yes rfl rfl (rfl)) (q := 5) rfl (s_ldf rfl (by repeat (first | exact gs_same _ _ _ | exact d10 | exact c10 | refine (gs_ne (by omega) _).trans ?_)) ag_55 sz_55 (by exact rfl) ?_)
    refine n_op (.yes rfl rfl (rfl)) (q := 6) rfl (s_ldf rfl (by repeat (first | exact gs_same _ _ _ | exact d10 | exact c10 | refine (gs_ne (by omega) _).trans ?_)) ag_55 sz_55 (by exact rfl) ?_)
    refine n_call (.yes rfl rfl (rfl)) rfl rfl rfl ?_
    refine C.use (callEq_c (CalAt.kp0 ⟨hG9.rd, hW9.rd⟩ (k10.dn (by omega)) hw9) (hC9.kp0 (k10.dn (by omega)) hw9) ⟨by rw [hdy]; omega, by rw [hdy]; omega⟩) fun v g11 n11 hw11 hn11 hq => ?_
    obtain ⟨⟨q2, rfl, hq2⟩, k11⟩ := hq
    obtain rfl := hq2.2 hdy
    refine n_op (.yes rfl rfl (rfl)) (q := 8) rfl (s_not rfl ?_)
    refine n_op .no (q := 9) rfl (s_pf rfl (rfl) rfl ?_)
    refine n_nil ?_
    repeat (first | refine w_seq ?_ | refine w_blk ?_ | refine z_seq ?_ | refine z_blk ?_ | refine w_skip ?_)
    refine w_no rfl (rfl) ?_
    repeat (first | refine w_seq ?_ | refine w_blk ?_ | refine z_seq ?_ | refine z_blk ?_ | refine w_skip ?_)
    exact z_met () ⟨rfl, rfl, trivial⟩ ⟨by omega, k15.trans0 (n' := n5) (k59.trans0 (k10.trans0 k11 (by omega)) (by omega)) (by omega)⟩
  · skip
    rintro _ f g6 n6 hw6 ⟨hn6, k6⟩
    repeat (first | refine w_seq ?_ | refine w_blk ?_ | refine z_seq ?_ | refine z_blk ?_ | refine w_skip ?_)
    refine w_reg 3 rfl rfl (j' := 3) ?_
    refine n_op .no (q := 0) rfl (s_mv rfl ?_)
    first | refine n_op .no (q := 1) rfl (s_bin rfl rfl (bi_inc (by omega)) ?_) | refine n_op .no (q := 1) rfl (s_bin rfl rfl (bi_add rfl (by omega) (by omega)) ?_)
    refine n_op .no (q := 2) rfl (s_as rfl ?_)
    refine n_nil ?_
    exact z_round (i + 1) ⟨rfl, rfl, trivial⟩ ⟨by omega, by omega, k6⟩ (by omega)

end Go.Proofs.YtehmailaabjdjaaGreat
