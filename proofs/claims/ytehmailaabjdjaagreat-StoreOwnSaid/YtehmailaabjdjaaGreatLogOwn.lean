/-
  LogOwn answers true. No condition but that begun does.
-/
import Derived.Test.YtehmailaabjdjaaGreatLwA
open Go.Proofs
namespace Go.Proofs.YtehmailaabjdjaaGreat
set_option linter.unusedSimpArgs false
set_option linter.unusedVariables false
set_option maxRecDepth 100000

/-- Where the first of a row of events lies that is one's own. -/
theorem EvsOwn.at0 {b : Nat} {g : Gm} {v : Value} {es : List Evt} (h : EvsOwn b g v es) (hi : 0 < es.length) : ∃ l o c cl a p, v = .slice (some ⟨l, o, none⟩) es.length c ∧ b ≤ l ∧ g l = some (.cells cl 4 false) ∧ EvAt g (BytesNew b g) es[0] l o cl a p := by
  obtain ⟨⟨cs, h1, h2⟩, h3⟩ := h
  obtain ⟨l, o, c, cl, rfl, hc, h4, h5, h6, h7, h8⟩ := h1.at hi
  have h9 := h2.get hi
  rw [← h7] at h9
  rw [Nat.zero_mul, Nat.add_zero] at h9
  obtain ⟨a, p, h10⟩ := evAt_of (g := g) (l := l) (by omega) h9
  exact ⟨l, o, c, cl, a, p, rfl, h3 l rfl, h4, h10⟩

theorem BytesNew.lt {b : Nat} {g : Gm} {n : Nat} {v : Value} {bs : List UInt8} (h : BytesNew b g v bs) (hw : WF g n) {x : Nat} (hx : vname v = some x) : x < n := by
  obtain ⟨⟨_, ⟨rfl, _⟩ | ⟨l', o, c, cl, rfl, _, h4, _⟩⟩, _⟩ := h
  · cases hx
  · simp only [vname, Option.some.injEq] at hx
    subst hx
    exact hw _ _ h4

def ownE (r : List UInt8) : Evt := ⟨1, [107], 1 :: r, false⟩
def ownL : Log := ⟨[], 5, 0, 0⟩
theorem own_from (r : List UInt8) : (ownL.add [ownE r]).from_ 0 = ([ownE r], 0) := by
  have e : ownL.add [ownE r] = ⟨[ownE r], 5, 0, 1⟩ := rfl
  rw [e]
  simp [Log.from_, ownE]

theorem logOwn_c (hB : BegunOk) {g : Gm} {n : Nat} {v : Value} {bs : List UInt8} (h : BytesAt g v bs) : C 7 #[v] g n fun u g' n' => u = .bool true := by
  obtain ⟨a, c, rfl⟩ := h.len
  refine c_in1 Tryz.func7 rfl Tryz.ntmps7 rfl fun hw => ?_
  repeat (first | refine w_seq ?_ | refine w_blk ?_ | refine z_seq ?_ | refine z_blk ?_ | refine w_skip ?_)
  refine w_reg 1 rfl rfl (j' := 1) ?_
  refine n_op .no (q := 0) rfl (s_as rfl ?_)
  refine n_nil ?_
  repeat (first | refine w_seq ?_ | refine w_blk ?_ | refine z_seq ?_ | refine z_blk ?_ | refine w_skip ?_)
  refine w_reg 2 rfl rfl (j' := 3) ?_
  refine n_call .no rfl rfl rfl ?_
  refine C.use (hB _ _) fun v g1 n1 hw1 hn1 hq => ?_
  obtain ⟨rfl, rfl⟩ := hq
  refine n_op .no (q := 2) rfl (s_as rfl ?_)
  refine n_nil ?_
  repeat (first | refine w_seq ?_ | refine w_blk ?_ | refine z_seq ?_ | refine z_blk ?_ | refine w_skip ?_)
  refine w_reg 2 rfl rfl (j' := 2) ?_
  refine n_op .no (q := 0) rfl (s_mv rfl ?_)
  refine n_op .no (q := 1) rfl (s_not rfl ?_)
  refine n_nil ?_
  repeat (first | refine w_seq ?_ | refine w_blk ?_ | refine z_seq ?_ | refine z_blk ?_ | refine w_skip ?_)
  refine w_no rfl (rfl) ?_
  have h1 : BytesAt g1 (.slice a bs.length c) bs := h
  repeat (first | refine w_seq ?_ | refine w_blk ?_ | refine z_seq ?_ | refine z_blk ?_ | refine w_skip ?_)
  refine w_reg 8 rfl rfl (j' := 10) ?_
  refine n_op .no (q := 2) rfl (s_bs el_26 ez_26 rfl rfl rfl ?_)
  refine n_op .no (q := 3) rfl (s_mv rfl ?_)
  refine n_op .no (q := 4) rfl (s_mv rfl ?_)
  refine n_op .no (q := 5) rfl (s_len rfl rfl un_26 rfl ?_)
  refine n_op .no (q := 6) rfl (s_min rfl rfl (c := ((min bs.length 20 : Nat) : Int)) (by omega) ?_)
  refine n_op .no (q := 7) rfl (s_hiB rfl (BytesAt.kp0 (n := n1) h1 (by repeat (first | exact Kp.refl _ _ _ | refine Kp.new ?_ (by omega) _)) hw1) rfl (Nat.min_le_left _ _) fun w hw2 => ?_)
  have hlen : (bs.take (min bs.length 20)).length ≤ 20 := by rw [List.length_take]; omega
  refine n_op .no (q := 8) rfl (s_appB rfl rfl (bytes_row (b := n1) (bs := [1]) (gs_same _ _ _) rfl (by omega)) hw2 (by simp only [List.length_cons, List.length_nil]; omega) (by omega) fun a2 c2 g2 tc wr hv2 hg2 => ?_)
  refine n_op .no (q := 9) rfl (s_as rfl ?_)
  refine n_nil ?_
  generalize hr : bs.take (min bs.length 20) = r at *
  have hv2 : BytesNew n1 g2 (.slice a2 (r.length + 1) c2) (1 :: r) := hv2
  repeat (first | refine w_seq ?_ | refine w_blk ?_ | refine z_seq ?_ | refine z_blk ?_ | refine w_skip ?_)
  refine w_wf fun hw2 => ?_
  repeat (first | refine w_seq ?_ | refine w_blk ?_ | refine z_seq ?_ | refine z_blk ?_ | refine w_skip ?_)
  refine w_reg 2 rfl rfl (j' := 12) ?_
  refine n_call .no rfl rfl rfl ?_
  refine C.use (log_new g2 _ 5) fun v g3 n3 hw3 hn3 hq => ?_
  obtain ⟨l, rfl, hl, hA, k3⟩ := hq
  refine n_op .no (q := 11) rfl (s_as rfl ?_)
  refine n_nil ?_
  have hv3 := hv2.kp0 (k3.dn (by omega)) hw2
  repeat (first | refine w_seq ?_ | refine w_blk ?_ | refine z_seq ?_ | refine z_blk ?_ | refine w_skip ?_)
  refine w_reg 3 rfl rfl (j' := 3) ?_
  refine n_op .no (q := 0) rfl (s_mv rfl ?_)
  refine n_op .no (q := 1) rfl (s_appN rfl rfl (BytesNew.at (hv3.kp0 (n := n3) (by repeat (first | exact Kp.refl _ _ _ | refine Kp.new ?_ (by omega) _)) hw3)) (by simp only [List.length_cons]; omega) (Nat.le_add_right n3 _) fun a4 c4 g4 tc4 wr4 hv4 hg4 => ?_)
  refine n_op .no (q := 2) rfl (s_as rfl ?_)
  refine n_nil ?_
  repeat (first | refine w_seq ?_ | refine w_blk ?_ | refine z_seq ?_ | refine z_blk ?_ | refine w_skip ?_)
  refine w_wf fun hw4 => ?_
  have k4 : K0 g3 n3 g4 := hg4.kp (by repeat (first | exact Kp.refl _ _ _ | refine Kp.new ?_ (by omega) _)) (by omega) fun l hl => by cases hl
  have hv4' := hv3.kp0 k4 hw3
  have hc4 := k4.at0 hw3 hA.cell
  have hl4 := hw3 _ _ hA.cell
  repeat (first | refine w_seq ?_ | refine w_blk ?_ | refine z_seq ?_ | refine z_blk ?_ | refine w_skip ?_)
  refine w_reg 6 rfl rfl (j' := 9) ?_
  refine n_op .no (q := 3) rfl (s_mv rfl ?_)
  refine n_op .no (q := 4) rfl (s_mv rfl ?_)
  refine n_op .no (q := 5) rfl (s_bld pl_82 zl_82 rfl rfl rfl ?_)
  refine n_op .no (q := 6) rfl (s_bs el_65 ez_65 rfl rfl rfl ?_)
  refine n_call .no rfl rfl rfl ?_
  have hsm : (ownE r).small := by show (1 :: r).length ≤ _; simp only [List.length_cons]; omega
  have hbt : BytesAt g4 (.slice a4 (ownE r).val.length c4) (ownE r).val := hv4.at
  refine C.use (log_add_yes (b := _) (L := ownL) (es := [ownE r]) ⟨(by repeat (first | exact gs_same _ _ _ | exact hc4 | refine (gs_ne (by omega) _).trans ?_)), EvsOwn.nil _ _⟩ (Nat.le_refl _) (evs_one (gs_same _ _ _) rfl (BytesAt.kp0 (n := n3 + 3) hbt (by repeat (first | exact Kp.refl _ _ _ | refine Kp.new ?_ (by omega) _)) hw4) hsm) (fun x _ h => by cases h) (show 0 + 1 < 2 ^ 40 by decide) (by decide) ⟨⟨ownE r, [], rfl, show (0 : Int) < 1 by decide⟩, fun i hi => absurd hi (by simp)⟩) fun v g5 n5 hw5 hn5 hq => ?_
  obtain ⟨rfl, sl, hA5, hM5, k5⟩ := hq
  refine n_op .no (q := 8) rfl (s_not rfl ?_)
  refine n_nil ?_
  repeat (first | refine w_seq ?_ | refine w_blk ?_ | refine z_seq ?_ | refine z_blk ?_ | refine w_skip ?_)
  refine w_no rfl (rfl) ?_
  have k5' : Kp (FL l (.slice none 0 0)) g4 (n3 + 3) g5 := Kp.trans (n' := n3 + 3) (by repeat (first | exact Kp.refl _ _ _ | refine Kp.new ?_ (by omega) _)) (k5.dn (by omega)) (by omega) fun _ _ _ h _ => h
  have hv5 := hv4.kp k5' hw4 (FL.nob _ _)
  have hx5 := hv4'.kp k5' hw4 (FL.nob _ _)
  obtain ⟨lv, ov, cv, clv, q1, q2, q3, q4, q5, q6, q7⟩ := hv5.pos
  have hlv : lv < n3 + 3 := hv4.lt hw4 (by rw [q1]; rfl)
  cases q1
  have hpos : 0 < (1 :: r).length := by simp
  have hcv : ov + 1 ≤ clv.length := by omega
  repeat (first | refine w_seq ?_ | refine w_blk ?_ | refine z_seq ?_ | refine z_blk ?_ | refine w_skip ?_)
  refine w_reg 6 rfl rfl (j' := 6) ?_
  refine n_op .no (q := 0) rfl (s_mv rfl ?_)
  refine n_op .no (q := 1) rfl (s_ia0 rfl rfl el_26 (by first | assumption | omega) ?_)
  refine n_op .no (q := 2) rfl (s_ld rfl (by repeat (first | exact gs_same _ _ _ | exact q4 | exact q6 | refine (gs_ne (by omega) _).trans ?_)) ag_5 (by first | exact rfl | exact q4 | exact q6) ?_)
  refine n_op .no (q := 3) rfl (s_bin rfl rfl (r := .int .u8 ((2 : UInt8).toNat : Int)) rfl ?_)
  refine n_op .no (q := 4) rfl (s_ia0 rfl rfl el_26 (by first | assumption | omega) ?_)
  refine n_op .no (q := 5) rfl (s_stg rfl rfl sz_5 (by repeat (first | exact gs_same _ _ _ | exact q4 | exact q6 | refine (gs_ne (by omega) _).trans ?_)) rfl rfl (by first | assumption | omega) ?_)
  refine n_nil ?_
  repeat (first | refine w_seq ?_ | refine w_blk ?_ | refine z_seq ?_ | refine z_blk ?_ | refine w_skip ?_)
  refine w_wf fun hw6 => ?_
  have hsl : vname sl ≠ some lv := by
    rcases hM5 with e | e
    · rw [e]; intro e; cases e
    · intro e'; have := e _ e'; omega
  have hll : l ≠ lv := by rintro rfl; rw [hA5.cell] at q4; cases q4
  have k6 : Kp (fun x _ => x = lv) g5 n5 (gset g5 lv (.cells (splice clv ov [.int .u8 ((2 : UInt8).toNat : Int)]) 1 false)) := (Kp.refl _ _ _).set (fun _ _ => rfl) _
  have hA6 := hA5.kp k6 hw5 (fun x cl ro hx e => by omega) (fun _ e => hll e) (fun x o hx _ e => hsl (by rw [hx, e]))
  have hx6 : BytesNew n1 _ _ _ := ⟨hx5.1.kp k6 hw5 (fun x o hx _ e => by have := hv3.lt hw3 hx; omega), hx5.2⟩
  repeat (first | refine w_seq ?_ | refine w_blk ?_ | refine z_seq ?_ | refine z_blk ?_ | refine w_skip ?_)
  refine w_reg 7 rfl rfl (j' := 13) ?_
  refine n_op .no (q := 6) rfl (s_mv rfl ?_)
  refine n_call .no rfl rfl rfl ?_
  refine C.use (log_from (rev := 0) hA6 (show 1 < 2 ^ 40 by decide)) fun v g7 n7 hw7 hn7 hq => ?_
  obtain ⟨v7, rfl, hE7, k7⟩ := hq
  rw [own_from] at hE7 ⊢
  refine n_op .no (q := 8) rfl (s_mv rfl ?_)
  refine n_op .no (q := 9) rfl (s_ext rfl rfl ?_)
  refine n_op .no (q := 10) rfl (s_ext rfl rfl ?_)
  refine n_op .no (q := 11) rfl (s_as rfl ?_)
  refine n_op .no (q := 12) rfl (s_as rfl ?_)
  refine n_nil ?_
  obtain ⟨la, oa, ca, cla, aa, pa, e1, e2, e3, e4⟩ := hE7.at0 (show 0 < 1 by decide)
  cases e1
  have y2 := e4.c2
  have hv7 : BytesNew _ g7 (.slice aa (r.length + 1) pa) (1 :: r) := e4.val
  have hx7 := hx6.kp0 (k7.dn (by omega)) hw6
  have hone : 0 < [ownE r].length := Nat.succ_pos _
  repeat (first | refine w_seq ?_ | refine w_blk ?_ | refine z_seq ?_ | refine z_blk ?_ | refine w_skip ?_)
  refine w_reg 12 rfl rfl (j' := 12) ?_
  refine n_op .no (q := 0) rfl (s_mv rfl ?_)
  refine n_op .no (q := 1) rfl (s_len rfl rfl un_65 rfl ?_)
  refine n_op .no (q := 2) rfl (s_bin rfl rfl rfl ?_)
  refine n_op .no (q := 3) rfl (s_mv rfl ?_)
  refine n_op (.yes rfl rfl (rfl)) (q := 4) rfl (s_mv rfl ?_)
  refine n_op (.yes rfl rfl (rfl)) (q := 5) rfl (s_ia0 rfl rfl el_65 (by first | assumption | omega) ?_)
  first | refine n_op (.yes rfl rfl (rfl)) (q := 6) rfl (s_fa0 rfl fo_82_2 ?_) | refine n_op (.yes rfl rfl (rfl)) (q := 6) rfl (s_fa rfl fo_82_2 ?_)
  refine n_op (.yes rfl rfl (rfl)) (q := 7) rfl (s_ld rfl (by repeat (first | exact gs_same _ _ _ | exact e3 | exact y2 | refine (gs_ne (by omega) _).trans ?_)) ag_26 (by first | exact rfl | exact e3 | exact y2) ?_)
  refine n_op (.yes rfl rfl (rfl)) (q := 8) rfl (s_mv rfl ?_)
  refine n_call (.yes rfl rfl (rfl)) rfl rfl rfl ?_
  refine C.use (bytes_c hv7.at hx7.at) fun v g8 n8 hw8 hn8 hq => ?_
  obtain ⟨rfl, k8⟩ := hq
  refine n_op (.yes rfl rfl (rfl)) (q := 10) rfl (s_not rfl ?_)
  refine n_op .no (q := 11) rfl (s_pf rfl (rfl) rfl ?_)
  refine n_nil ?_
  repeat (first | refine w_seq ?_ | refine w_blk ?_ | refine z_seq ?_ | refine z_blk ?_ | refine w_skip ?_)
  refine w_no rfl (by simp) ?_
  have e3' : g8 la = some (.cells cla 4 false) := k8.lt (by have := hw7 _ _ e3; omega) e3
  have hv8 := hv7.kp0 (k8.dn (by omega)) hw7
  obtain ⟨lb, ob, cb, clb, q1, r2, r3, r4, r5, r6, r7⟩ := hv8.pos
  cases q1
  have hcb : ob + 1 ≤ clb.length := by omega
  have hlab : la ≠ lb := by rintro rfl; rw [e3'] at r4; cases r4
  have hpr : 0 < r.length + 1 := by omega
  repeat (first | refine w_seq ?_ | refine w_blk ?_ | refine z_seq ?_ | refine z_blk ?_ | refine w_skip ?_)
  refine w_reg 9 rfl rfl (j' := 9) ?_
  refine n_op .no (q := 0) rfl (s_mv rfl ?_)
  refine n_op .no (q := 1) rfl (s_ia0 rfl rfl el_65 (by first | assumption | omega) ?_)
  first | refine n_op .no (q := 2) rfl (s_fa0 rfl fo_82_2 ?_) | refine n_op .no (q := 2) rfl (s_fa rfl fo_82_2 ?_)
  refine n_op .no (q := 3) rfl (s_ld rfl (by repeat (first | exact gs_same _ _ _ | exact e3' | exact y2 | exact r4 | exact r6 | refine (gs_ne (by omega) _).trans ?_)) ag_26 (by first | exact rfl | exact e3' | exact y2 | exact r4 | exact r6) ?_)
  refine n_op .no (q := 4) rfl (s_ia0 rfl rfl el_26 (by first | assumption | omega) ?_)
  refine n_op .no (q := 5) rfl (s_ld rfl (by repeat (first | exact gs_same _ _ _ | exact e3' | exact y2 | exact r4 | exact r6 | refine (gs_ne (by omega) _).trans ?_)) ag_5 (by first | exact rfl | exact e3' | exact y2 | exact r4 | exact r6) ?_)
  refine n_op .no (q := 6) rfl (s_bin rfl rfl (r := .int .u8 ((2 : UInt8).toNat : Int)) rfl ?_)
  refine n_op .no (q := 7) rfl (s_ia0 rfl rfl el_26 (by first | assumption | omega) ?_)
  refine n_op .no (q := 8) rfl (s_stg rfl rfl sz_5 (by repeat (first | exact gs_same _ _ _ | exact e3' | exact y2 | exact r4 | exact r6 | refine (gs_ne (by omega) _).trans ?_)) rfl rfl (by first | assumption | omega) ?_)
  refine n_nil ?_
  have hla := e4.len
  have hlc : oa + 1 + 1 ≤ cla.length := by omega
  repeat (first | refine w_seq ?_ | refine w_blk ?_ | refine z_seq ?_ | refine z_blk ?_ | refine w_skip ?_)
  refine w_reg 4 rfl rfl (j' := 13) ?_
  refine n_op .no (q := 9) rfl (s_mv rfl ?_)
  refine n_op .no (q := 10) rfl (s_ia0 rfl rfl el_65 (by first | assumption | omega) ?_)
  first | refine n_op .no (q := 11) rfl (s_fa0 rfl fo_82_1 ?_) | refine n_op .no (q := 11) rfl (s_fa rfl fo_82_1 ?_)
  refine n_op .no (q := 12) rfl (s_stg rfl rfl sz_9 (by repeat (first | exact gs_same _ _ _ | exact e3' | refine (gs_ne (by omega) _).trans ?_)) rfl rfl (by first | assumption | omega) ?_)
  refine n_nil ?_
  repeat (first | refine w_seq ?_ | refine w_blk ?_ | refine z_seq ?_ | refine z_blk ?_ | refine w_skip ?_)
  refine w_wf fun hw9 => ?_
  have k9 : K0 (gset g5 lv (.cells (splice clv ov [.int .u8 ((2 : UInt8).toNat : Int)]) 1 false)) (n5 + 6) (gset (gset g8 lb (.cells (splice clb ob [.int .u8 ((2 : UInt8).toNat : Int)]) 1 false)) la (.cells (splice cla (oa + 1) [.string (str [111, 116, 104, 101, 114])]) 4 false)) :=
    Kp.new (Kp.new (Kp.trans0 (k7.dn (by omega)) (k8.dn (by omega)) (n' := n7) (by omega)) (by omega) _) (by omega) _
  repeat (first | refine w_seq ?_ | refine w_blk ?_ | refine z_seq ?_ | refine z_blk ?_ | refine w_skip ?_)
  refine w_reg 7 rfl rfl (j' := 20) ?_
  refine n_op .no (q := 13) rfl (s_mv rfl ?_)
  refine n_call .no rfl rfl rfl ?_
  refine C.use (log_from (rev := 0) (hA6.kp0 k9 hw6) (show 1 < 2 ^ 40 by decide)) fun v g10 n10 hw10 hn10 hq => ?_
  obtain ⟨v10, rfl, hE10, k10⟩ := hq
  rw [own_from] at hE10 ⊢
  refine n_op .no (q := 15) rfl (s_mv rfl ?_)
  refine n_op .no (q := 16) rfl (s_ext rfl rfl ?_)
  refine n_op .no (q := 17) rfl (s_ext rfl rfl ?_)
  refine n_op .no (q := 18) rfl (s_as rfl ?_)
  refine n_op .no (q := 19) rfl (s_as rfl ?_)
  refine n_nil ?_
  have hx8 := ((hx7.kp0 (k8.dn (by omega)) hw7).other (x := lb) (fun e => by have := hv3.lt hw3 e; omega) (.cells (splice clb ob [.int .u8 ((2 : UInt8).toNat : Int)]) 1 false)).other (x := la) (fun e => by have := hv3.lt hw3 e; omega) (.cells (splice cla (oa + 1) [.string (str [111, 116, 104, 101, 114])]) 4 false)
  have hx10 := hx8.kp0 (k10.dn (by omega)) hw9
  obtain ⟨lc, oc, cc, clc, ac, pc, q1, f2, f3, f4⟩ := hE10.at0 (Nat.succ_pos _)
  cases q1
  have z1 := f4.c1
  have z2 := f4.c2
  have hv10 : BytesNew _ g10 (.slice ac (r.length + 1) pc) (1 :: r) := f4.val
  repeat (first | refine w_seq ?_ | refine w_blk ?_ | refine z_seq ?_ | refine z_blk ?_ | refine w_skip ?_)
  refine w_reg 19 rfl rfl (j' := 19) ?_
  refine n_op .no (q := 0) rfl (s_mv rfl ?_)
  refine n_op .no (q := 1) rfl (s_len rfl rfl un_65 rfl ?_)
  refine n_op .no (q := 2) rfl (s_bin rfl rfl rfl ?_)
  refine n_op .no (q := 3) rfl (s_mv rfl ?_)
  refine n_op (.yes rfl rfl (rfl)) (q := 4) rfl (s_mv rfl ?_)
  refine n_op (.yes rfl rfl (rfl)) (q := 5) rfl (s_ia0 rfl rfl el_65 (by first | assumption | omega) ?_)
  first | refine n_op (.yes rfl rfl (rfl)) (q := 6) rfl (s_fa0 rfl fo_82_1 ?_) | refine n_op (.yes rfl rfl (rfl)) (q := 6) rfl (s_fa rfl fo_82_1 ?_)
  refine n_op (.yes rfl rfl (rfl)) (q := 7) rfl (s_ld rfl (by repeat (first | exact gs_same _ _ _ | exact f3 | exact z1 | exact z2 | refine (gs_ne (by omega) _).trans ?_)) ag_9 (by first | exact rfl | exact f3 | exact z1 | exact z2) ?_)
  refine n_op (.yes rfl rfl (rfl)) (q := 8) rfl (s_bin rfl rfl rfl ?_)
  refine n_op .no (q := 9) rfl (s_pt rfl (rfl) rfl ?_)
  refine n_op .no (q := 10) rfl (s_mv rfl ?_)
  refine n_op (.yes rfl rfl (str_t (a := [107]) (b := [107]) rfl)) (q := 11) rfl (s_mv rfl ?_)
  refine n_op (.yes rfl rfl (str_t (a := [107]) (b := [107]) rfl)) (q := 12) rfl (s_ia0 rfl rfl el_65 (by first | assumption | omega) ?_)
  first | refine n_op (.yes rfl rfl (str_t (a := [107]) (b := [107]) rfl)) (q := 13) rfl (s_fa0 rfl fo_82_2 ?_) | refine n_op (.yes rfl rfl (str_t (a := [107]) (b := [107]) rfl)) (q := 13) rfl (s_fa rfl fo_82_2 ?_)
  refine n_op (.yes rfl rfl (str_t (a := [107]) (b := [107]) rfl)) (q := 14) rfl (s_ld rfl (by repeat (first | exact gs_same _ _ _ | exact f3 | exact z1 | exact z2 | refine (gs_ne (by omega) _).trans ?_)) ag_26 (by first | exact rfl | exact f3 | exact z1 | exact z2) ?_)
  refine n_op (.yes rfl rfl (str_t (a := [107]) (b := [107]) rfl)) (q := 15) rfl (s_mv rfl ?_)
  refine n_call (.yes rfl rfl (str_t (a := [107]) (b := [107]) rfl)) rfl rfl rfl ?_
  refine C.use (bytes_c hv10.at hx10.at) fun v g11 n11 hw11 hn11 hq => ?_
  obtain ⟨rfl, k11⟩ := hq
  refine n_op .no (q := 17) rfl (s_pt rfl (str_t (a := [107]) (b := [107]) rfl) rfl ?_)
  refine n_op .no (q := 18) rfl (s_as rfl ?_)
  refine n_nil ?_
  repeat (first | refine w_ret ?_ | refine w_seq ?_ | refine w_blk ?_ | refine z_seq ?_ | refine z_blk ?_ | refine w_skip ?_)
  refine z_r1 rfl rfl ?_
  simp

end Go.Proofs.YtehmailaabjdjaaGreat
