/-
  package log: Add of events that follow, by contract. No condition.
-/
import Derived.Test.YtehmailaabjdjaaGreatLg5
open Go.Proofs
namespace Go.Proofs.YtehmailaabjdjaaGreat
set_option linter.unusedSimpArgs false
set_option linter.unusedVariables false
set_option maxRecDepth 100000

/-- Where a log's events may have gone. -/
def Mvd (n : Nat) (sl w : Value) : Prop := vname w = vname sl ∨ ∀ x, vname w = some x → n ≤ x
theorem Mvd.refl (n : Nat) (sl : Value) : Mvd n sl sl := .inl rfl
theorem Mvd.trans {n : Nat} {a b c : Value} (h : Mvd n a b) (k : Mvd n b c) : Mvd n a c := by
  rcases k with k | k
  · rcases h with h | h
    · exact .inl (k.trans h)
    · exact .inr fun x hx => h x (by rw [← k]; exact hx)
  · exact .inr k
theorem Mvd.up {n n' : Nat} {a b : Value} (h : Mvd n' a b) (hn : n ≤ n') : Mvd n a b := h.imp id fun k x hx => Nat.le_trans hn (k x hx)

/-- What a log's step leaves, from where the log was first. -/
theorem FL.step {n l x : Nat} {sl w : Value} {o : AObj} (h : Mvd n sl w) (hx : x < n) (hF : FL l w x o) : FL l sl x o := by
  obtain ⟨h1 | h1, h2⟩ := hF
  · exact ⟨.inl h1, h2⟩
  · rcases h with h | h
    · exact ⟨.inr (by rw [← h]; exact h1), h2⟩
    · exact absurd (h x h1) (by omega)

theorem Log.trim_step {k : Nat} {L : Log} {e : Evt} {r : List Evt} (he : L.evs = e :: r) (hk : L.evs.length ≤ k) (hm : L.most < L.evs.length) : ∃ k', Log.trim k L = Log.trim k' (L.cut e.rev) ∧ (L.cut e.rev).evs.length ≤ k' ∧ (L.cut e.rev).evs.length < L.evs.length := by
  have hlen : (L.cut e.rev).evs.length ≤ r.length := by
    simp only [Log.cut, he, List.filter_cons]
    rw [if_neg (by simp)]
    exact List.length_filter_le _ _
  have hl : L.evs.length = r.length + 1 := by rw [he]; rfl
  cases k with
  | zero => rw [hl] at hk; omega
  | succ k =>
    refine ⟨k, ?_, by omega, by omega⟩
    simp only [Log.trim]
    rw [if_pos hm, he]
theorem Log.trim_done {k : Nat} {L : Log} (hm : ¬ L.most < L.evs.length) : Log.trim k L = L := by
  cases k with
  | zero => rfl
  | succ k => simp only [Log.trim]; rw [if_neg hm]

theorem SlOwn.other {g : Gm} {k m x : Nat} {v : Value} {cs : List Value} (h : SlOwn g k v m cs) (hx : vname v ≠ some x) (o : AObj) : SlOwn (gset g x o) k v m cs := by
  obtain ⟨h1, h2 | ⟨l, q, c, cl, rfl, h3, h4, h5, h6⟩⟩ := h
  · exact ⟨h1, .inl h2⟩
  · exact ⟨h1, .inr ⟨l, q, c, cl, rfl, h3, by rw [gs_ne (fun e => hx (by rw [e]; rfl))]; exact h4, h5, h6⟩⟩
theorem Gr.mvd {g g' : Gm} {nm n : Nat} {v v' : Value} (h : Gr g g' nm v v') (hn : n ≤ nm) : Mvd n v v' := by
  rcases h.name with e | e | e
  · exact .inr fun x hx => by rw [e] at hx; cases hx
  · exact .inl e
  · exact .inr fun x hx => by rw [e] at hx; cases hx; exact hn

section
variable {g : Gm} {n b l : Nat} {sl v : Value} {L : Log} {es : List Evt}

theorem log_add_yes (h : LogAt b g l sl L) (hb0 : b ≤ n) (hv : EvsRd g v es) (hne : ∀ x, vname v = some x → vname sl ≠ some x) (hn : L.evs.length + es.length < 2 ^ 40) (hmost : 0 ≤ L.most) (hm : L.may es) :
    C 43 #[.pointer (some ⟨l, 0, none⟩), v] g n fun u g' n' => u = .bool true ∧ ∃ sl', LogAt b g' l sl' (L.add es) ∧ Mvd n sl sl' ∧ Kp (FL l sl) g n g' := by
  have hl := h.cell
  obtain ⟨⟨ev0, er, hev, hlast⟩, hS⟩ := hm
  have h0 : 0 < es.length := by rw [hev]; simp
  have hr0 : es[0].rev = ev0.rev := by subst hev; rfl
  have hlast : ¬ es[0].rev ≤ L.last := by omega
  clear hev hr0
  obtain ⟨l2, o, c, cl, ro, p, q, rfl, hc, e2, e3⟩ := hv.at0 h0
  have d0 := e3.c0'
  have hl2 : l2 ≠ l := by rintro rfl; rw [hl] at e2; cases e2
  have hne := hne l2 rfl
  refine c_in2 Tryz.func43 rfl Tryz.ntmps43 rfl fun hw => ?_
  have hll := hw _ _ hl
  have hll2 := hw _ _ e2
  repeat (first | refine w_seq ?_ | refine w_blk ?_ | refine z_seq ?_ | refine z_blk ?_ | refine w_skip ?_)
  refine w_reg 1 rfl rfl (j' := 1) ?_
  refine n_op .no (q := 0) rfl (s_as rfl ?_)
  refine n_nil ?_
  repeat (first | refine w_seq ?_ | refine w_blk ?_ | refine z_seq ?_ | refine z_blk ?_ | refine w_skip ?_)
  refine w_drw (T6 43 1) [(0, []), (1, []), (2, []), (3, []), (4, []), (5, []), (6, []), (7, []), (8, []), (9, []), (10, []), (11, []), (12, [11]), (13, [11]), (14, [11]), (15, [11]), (16, []), (17, [])] 18 (by kernel_rfl) rfl rfl (j' := 19) ?_
  refine d_op rfl rfl .no (q := 1) rfl (s_mv rfl ⟨⟨rfl, rfl⟩, ?_⟩)
  refine d_op rfl rfl .no (q := 2) rfl (s_bin rfl rfl (bi_d un_78 rfl) ⟨⟨rfl, rfl⟩, ?_⟩)
  refine d_op rfl rfl .no (q := 3) rfl (s_mv rfl ⟨⟨rfl, rfl⟩, ?_⟩)
  refine d_op rfl rfl (.yes rfl rfl (rfl)) (q := 4) rfl (s_mv rfl ⟨⟨rfl, rfl⟩, ?_⟩)
  refine d_tc rfl rfl rfl (.yes rfl rfl (rfl)) (q := 5) rfl (s_len rfl rfl un_65 rfl ⟨clash_nil, ?_⟩)
  refine d_op rfl rfl (.yes rfl rfl (rfl)) (q := 6) rfl (s_bin rfl rfl rfl ⟨⟨rfl, rfl⟩, ?_⟩)
  refine d_op rfl rfl .no (q := 7) rfl (s_pf rfl (rfl) rfl ⟨⟨rfl, rfl⟩, ?_⟩)
  refine d_op rfl rfl .no (q := 8) rfl (s_mv rfl ⟨⟨rfl, rfl⟩, ?_⟩)
  refine d_op rfl rfl (.yes rfl rfl (beq_eq_false_iff_ne.2 (by omega))) (q := 9) rfl (s_mv rfl ⟨⟨rfl, rfl⟩, ?_⟩)
  refine d_op rfl rfl (.yes rfl rfl (beq_eq_false_iff_ne.2 (by omega))) (q := 10) rfl (s_ia0 rfl rfl el_65 (by first | assumption | omega) ⟨⟨rfl, rfl⟩, ?_⟩)
  first | refine d_op rfl rfl (.yes rfl rfl (beq_eq_false_iff_ne.2 (by omega))) (q := 11) rfl (s_fa0 rfl fo_82_0 ⟨⟨rfl, rfl⟩, ?_⟩) | refine d_op rfl rfl (.yes rfl rfl (beq_eq_false_iff_ne.2 (by omega))) (q := 11) rfl (s_fa rfl fo_82_0 ⟨⟨rfl, rfl⟩, ?_⟩)
  refine d_tc rfl rfl rfl (.yes rfl rfl (beq_eq_false_iff_ne.2 (by omega))) (q := 12) rfl (s_ld rfl (by repeat (first | exact gs_same _ _ _ | exact hl | exact e2 | exact d0 | refine (gs_ne (by omega) _).trans ?_)) ag_2 (by first | exact rfl | exact hl | exact e2 | exact d0) ⟨clash_nil, ?_⟩)
  refine d_op rfl rfl (.yes rfl rfl (beq_eq_false_iff_ne.2 (by omega))) (q := 13) rfl (s_mv rfl ⟨⟨rfl, rfl⟩, ?_⟩)
  refine d_op rfl rfl (.yes rfl rfl (beq_eq_false_iff_ne.2 (by omega))) (q := 14) rfl (s_nil rfl ⟨⟨rfl, rfl⟩, ?_⟩)
  first | refine d_op rfl rfl (.yes rfl rfl (beq_eq_false_iff_ne.2 (by omega))) (q := 15) rfl (s_fa0 rfl fo_166_3 ⟨⟨rfl, rfl⟩, ?_⟩) | refine d_op rfl rfl (.yes rfl rfl (beq_eq_false_iff_ne.2 (by omega))) (q := 15) rfl (s_fa rfl fo_166_3 ⟨⟨rfl, rfl⟩, ?_⟩)
  refine d_tc rfl rfl rfl (.yes rfl rfl (beq_eq_false_iff_ne.2 (by omega))) (q := 16) rfl (s_ld rfl (by repeat (first | exact gs_same _ _ _ | exact hl | exact e2 | exact d0 | refine (gs_ne (by omega) _).trans ?_)) ag_2 (by first | exact rfl | exact hl | exact e2 | exact d0) ⟨clash_rd rfl, ?_⟩)
  refine d_op rfl rfl (.yes rfl rfl (beq_eq_false_iff_ne.2 (by omega))) (q := 17) rfl (s_bin rfl rfl rfl ⟨⟨rfl, rfl⟩, ?_⟩)
  refine d_op rfl rfl .no (q := 18) rfl (s_pf rfl (beq_eq_false_iff_ne.2 (by omega)) rfl ⟨⟨rfl, rfl⟩, ?_⟩)
  refine d_nil ?_
  repeat (first | refine w_seq ?_ | refine w_blk ?_ | refine z_seq ?_ | refine z_blk ?_ | refine w_skip ?_)
  refine w_no rfl (decide_eq_false hlast) ?_
  repeat (first | refine w_seq ?_ | refine w_blk ?_ | refine z_seq ?_ | refine z_blk ?_ | refine w_skip ?_)
  refine w_reg 3 rfl rfl (j' := 22) ?_
  refine n_op .no (q := 19) rfl (s_mv rfl ?_)
  refine n_op .no (q := 20) rfl (s_len rfl rfl un_65 rfl ?_)
  refine n_op .no (q := 21) rfl (s_mv rfl ?_)
  refine n_nil ?_
  repeat (first | refine w_seq ?_ | refine w_blk ?_ | refine z_seq ?_ | refine z_blk ?_ | refine w_skip ?_)
  refine w_loop (β := Nat) (fun i => [(0, .pointer (some ⟨l, 0, none⟩)), (1, .slice (some ⟨l2, o, none⟩) es.length c), (27, .int .i64 es.length), (28, .int .i64 i)])
    (fun i g' n' => i ≤ es.length ∧ n ≤ n' ∧ K0 g n g') (fun i => es.length - i) 0 ⟨rfl, rfl, rfl, rfl, trivial⟩ ⟨by omega, by omega, (by repeat (first | exact Kp.refl _ _ _ | refine Kp.new ?_ (by omega) _))⟩ ?_
  rintro i f g1 n1 hw1 ⟨hi, hn1, k1⟩
  repeat (first | refine w_seq ?_ | refine w_blk ?_ | refine z_seq ?_ | refine z_blk ?_ | refine w_skip ?_)
  refine w_reg 1 rfl rfl (j' := 1) ?_
  refine n_op .no (q := 0) rfl (s_bin rfl rfl rfl ?_)
  refine n_nil ?_
  repeat (first | refine w_seq ?_ | refine w_blk ?_ | refine z_seq ?_ | refine z_blk ?_ | refine w_skip ?_)
  refine w_if rfl (fun hb => ?_) (fun hb => ?_)
  · have hi : i < es.length := by simpa using hb
    repeat (first | refine w_seq ?_ | refine w_blk ?_ | refine z_seq ?_ | refine z_blk ?_ | refine w_skip ?_)
    refine w_reg 2 rfl rfl (j' := 3) ?_
    refine n_op .no (q := 1) rfl (s_mv rfl ?_)
    refine n_op .no (q := 2) rfl (s_as rfl ?_)
    refine n_nil ?_
    obtain ⟨l3, o3, c3, cl3, ro3, p3, q3, x1, _, x2, x3⟩ := (hv.kp0 k1 hw).at hi
    cases x1
    have y0 := x3.c0'
    by_cases hi0 : 0 < i
    · obtain ⟨l3, o3, c3, cl3, ro3, p3, q3, x1, _, x4, x5⟩ := (hv.kp0 k1 hw).at (show i - 1 < es.length by omega)
      cases x1
      have x6 := x2.symm.trans x4
      cases x6
      have z0 := x5.c0'
      repeat (first | refine w_seq ?_ | refine w_blk ?_ | refine z_seq ?_ | refine z_blk ?_ | refine w_skip ?_)
      refine w_drw (T6 43 6) [(0, []), (1, []), (2, []), (3, []), (4, []), (5, []), (6, []), (7, []), (8, [7]), (9, [7]), (10, [7]), (11, [7]), (12, [7]), (13, [7]), (14, []), (15, [])] 16 (by kernel_rfl) rfl rfl (j' := 19) ?_
      refine d_op rfl rfl .no (q := 3) rfl (s_mv rfl ⟨⟨rfl, rfl⟩, ?_⟩)
      refine d_op rfl rfl .no (q := 4) rfl (s_bin rfl rfl rfl ⟨⟨rfl, rfl⟩, ?_⟩)
      refine d_op rfl rfl .no (q := 5) rfl (s_mv rfl ⟨⟨rfl, rfl⟩, ?_⟩)
      refine d_op rfl rfl (.yes rfl rfl (decide_eq_true (by omega))) (q := 6) rfl (s_mv rfl ⟨⟨rfl, rfl⟩, ?_⟩)
      refine d_op rfl rfl (.yes rfl rfl (decide_eq_true (by omega))) (q := 7) rfl (s_mv rfl ⟨⟨rfl, rfl⟩, ?_⟩)
      refine d_op rfl rfl (.yes rfl rfl (decide_eq_true (by omega))) (q := 8) rfl (s_ia rfl rfl el_65 (by first | assumption | omega) ⟨⟨rfl, rfl⟩, ?_⟩)
      first | refine d_op rfl rfl (.yes rfl rfl (decide_eq_true (by omega))) (q := 9) rfl (s_fa0 rfl fo_82_0 ⟨⟨rfl, rfl⟩, ?_⟩) | refine d_op rfl rfl (.yes rfl rfl (decide_eq_true (by omega))) (q := 9) rfl (s_fa rfl fo_82_0 ⟨⟨rfl, rfl⟩, ?_⟩)
      refine d_tc rfl rfl rfl (.yes rfl rfl (decide_eq_true (by omega))) (q := 10) rfl (s_ld rfl (by repeat (first | exact gs_same _ _ _ | exact x2 | exact y0 | exact z0 | refine (gs_ne (by omega) _).trans ?_)) ag_2 (by first | exact rfl | exact x2 | exact y0 | exact z0) ⟨clash_nil, ?_⟩)
      refine d_op rfl rfl (.yes rfl rfl (decide_eq_true (by omega))) (q := 11) rfl (s_mv rfl ⟨⟨rfl, rfl⟩, ?_⟩)
      refine d_op rfl rfl (.yes rfl rfl (decide_eq_true (by omega))) (q := 12) rfl (s_mv rfl ⟨⟨rfl, rfl⟩, ?_⟩)
      first | refine d_op rfl rfl (.yes rfl rfl (decide_eq_true (by omega))) (q := 13) rfl (s_bin rfl rfl (bi_dec (by omega) (by omega)) ⟨⟨rfl, rfl⟩, ?_⟩) | refine d_op rfl rfl (.yes rfl rfl (decide_eq_true (by omega))) (q := 13) rfl (s_bin rfl rfl (bi_sub rfl (by omega) (by omega)) ⟨⟨rfl, rfl⟩, ?_⟩)
      refine d_op rfl rfl (.yes rfl rfl (decide_eq_true (by omega))) (q := 14) rfl (s_ia rfl rfl el_65 (by first | assumption | omega) ⟨⟨rfl, rfl⟩, ?_⟩)
      first | refine d_op rfl rfl (.yes rfl rfl (decide_eq_true (by omega))) (q := 15) rfl (s_fa0 rfl fo_82_0 ⟨⟨rfl, rfl⟩, ?_⟩) | refine d_op rfl rfl (.yes rfl rfl (decide_eq_true (by omega))) (q := 15) rfl (s_fa rfl fo_82_0 ⟨⟨rfl, rfl⟩, ?_⟩)
      refine d_tc rfl rfl rfl (.yes rfl rfl (decide_eq_true (by omega))) (q := 16) rfl (s_ld rfl (by repeat (first | exact gs_same _ _ _ | exact x2 | exact y0 | exact z0 | refine (gs_ne (by omega) _).trans ?_)) ag_2 (by first | exact rfl | exact x2 | exact y0 | exact z0) ⟨clash_rd rfl, ?_⟩)
      refine d_op rfl rfl (.yes rfl rfl (decide_eq_true (by omega))) (q := 17) rfl (s_bin rfl rfl rfl ⟨⟨rfl, rfl⟩, ?_⟩)
      refine d_op rfl rfl .no (q := 18) rfl (s_pt rfl (decide_eq_true (by omega)) rfl ⟨⟨rfl, rfl⟩, ?_⟩)
      refine d_nil ?_
      have hs := hS (i - 1) (by omega)
      simp only [Nat.sub_add_cancel hi0] at hs
      repeat (first | refine w_seq ?_ | refine w_blk ?_ | refine z_seq ?_ | refine z_blk ?_ | refine w_skip ?_)
      refine w_no rfl (decide_eq_false (by omega)) ?_
      repeat (first | refine w_seq ?_ | refine w_blk ?_ | refine z_seq ?_ | refine z_blk ?_ | refine w_skip ?_)
      repeat (first | refine w_seq ?_ | refine w_blk ?_ | refine z_seq ?_ | refine z_blk ?_ | refine w_skip ?_)
      refine w_reg 2 rfl rfl (j' := 21) ?_
      first | refine n_op .no (q := 19) rfl (s_bin rfl rfl (bi_inc (by omega)) ?_) | refine n_op .no (q := 19) rfl (s_bin rfl rfl (bi_add rfl (by omega) (by omega)) ?_)
      refine n_op .no (q := 20) rfl (s_mv rfl ?_)
      refine n_nil ?_
      exact z_round (i + 1) ⟨rfl, rfl, rfl, rfl, trivial⟩ ⟨hi, by omega, k1⟩ (by omega)
    · repeat (first | refine w_seq ?_ | refine w_blk ?_ | refine z_seq ?_ | refine z_blk ?_ | refine w_skip ?_)
      refine w_drw (T6 43 6) [(0, []), (1, []), (2, []), (3, []), (4, []), (5, []), (6, []), (7, []), (8, [7]), (9, [7]), (10, [7]), (11, [7]), (12, [7]), (13, [7]), (14, []), (15, [])] 16 (by kernel_rfl) rfl rfl (j' := 19) ?_
      refine d_op rfl rfl .no (q := 3) rfl (s_mv rfl ⟨⟨rfl, rfl⟩, ?_⟩)
      refine d_op rfl rfl .no (q := 4) rfl (s_bin rfl rfl rfl ⟨⟨rfl, rfl⟩, ?_⟩)
      refine d_op rfl rfl .no (q := 5) rfl (s_mv rfl ⟨⟨rfl, rfl⟩, ?_⟩)
      refine d_sk rfl rfl rfl (decide_eq_false (by omega)) ?_
      refine d_sk rfl rfl rfl (decide_eq_false (by omega)) ?_
      refine d_sk rfl rfl rfl (decide_eq_false (by omega)) ?_
      refine d_sk rfl rfl rfl (decide_eq_false (by omega)) ?_
      refine d_sk rfl rfl rfl (decide_eq_false (by omega)) ?_
      refine d_sk rfl rfl rfl (decide_eq_false (by omega)) ?_
      refine d_sk rfl rfl rfl (decide_eq_false (by omega)) ?_
      refine d_sk rfl rfl rfl (decide_eq_false (by omega)) ?_
      refine d_sk rfl rfl rfl (decide_eq_false (by omega)) ?_
      refine d_sk rfl rfl rfl (decide_eq_false (by omega)) ?_
      refine d_sk rfl rfl rfl (decide_eq_false (by omega)) ?_
      refine d_sk rfl rfl rfl (decide_eq_false (by omega)) ?_
      refine d_op rfl rfl .no (q := 18) rfl (s_pf rfl (decide_eq_false (by omega)) rfl ⟨⟨rfl, rfl⟩, ?_⟩)
      refine d_nil ?_
      repeat (first | refine w_seq ?_ | refine w_blk ?_ | refine z_seq ?_ | refine z_blk ?_ | refine w_skip ?_)
      refine w_no rfl (rfl) ?_
      repeat (first | refine w_seq ?_ | refine w_blk ?_ | refine z_seq ?_ | refine z_blk ?_ | refine w_skip ?_)
      repeat (first | refine w_seq ?_ | refine w_blk ?_ | refine z_seq ?_ | refine z_blk ?_ | refine w_skip ?_)
      refine w_reg 2 rfl rfl (j' := 21) ?_
      first | refine n_op .no (q := 19) rfl (s_bin rfl rfl (bi_inc (by omega)) ?_) | refine n_op .no (q := 19) rfl (s_bin rfl rfl (bi_add rfl (by omega) (by omega)) ?_)
      refine n_op .no (q := 20) rfl (s_mv rfl ?_)
      refine n_nil ?_
      exact z_round (i + 1) ⟨rfl, rfl, rfl, rfl, trivial⟩ ⟨hi, by omega, k1⟩ (by omega)
  refine w_exit rfl ?_
  have hA := h.kp0 k1 hw
  have hv1 := hv.kp0 k1 hw
  repeat (first | refine w_seq ?_ | refine w_blk ?_ | refine z_seq ?_ | refine z_blk ?_ | refine w_skip ?_)
  refine w_reg 3 rfl rfl (j' := 4) ?_
  refine n_op .no (q := 1) rfl (s_mv rfl ?_)
  refine n_op .no (q := 2) rfl (s_len rfl rfl un_65 rfl ?_)
  refine n_op .no (q := 3) rfl (s_mv rfl ?_)
  refine n_nil ?_
  repeat (first | refine w_seq ?_ | refine w_blk ?_ | refine z_seq ?_ | refine z_blk ?_ | refine w_skip ?_)
  refine w_loop (β := Nat × Value) (fun x => [(0, .pointer (some ⟨l, 0, none⟩)), (1, .slice (some ⟨l2, o, none⟩) es.length c), (48, .slice (some ⟨l2, o, none⟩) es.length c), (49, .int .i64 es.length), (50, .int .i64 x.1)])
    (fun x g' n' => x.1 ≤ es.length ∧ n ≤ n' ∧ LogAt b g' l x.2 { L with evs := L.evs ++ es.take x.1 } ∧ Mvd n sl x.2 ∧ Kp (FL l sl) g n g' ∧ EvsRd g' (.slice (some ⟨l2, o, none⟩) es.length c) es) (fun x => es.length - x.1) (0, sl) ⟨rfl, rfl, rfl, rfl, rfl, trivial⟩
    ⟨by simp, by omega, by simpa using hA, Mvd.refl _ _, k1.z, hv1⟩ ?_
  rintro ⟨j, w⟩ f g2 n2 hw2 ⟨hj, hn2, hA2, hM, hK, hv2⟩
  simp only at hj hA2 hM
  have hc2 := hA2.cell
  have hll2 := hw2 _ _ hc2
  have hnw : ∀ x, vname w = some x → x < n2 := fun x hx => hA2.evs.lt hw2 hx
  repeat (first | refine w_seq ?_ | refine w_blk ?_ | refine z_seq ?_ | refine z_blk ?_ | refine w_skip ?_)
  refine w_reg 1 rfl rfl (j' := 1) ?_
  refine n_op .no (q := 0) rfl (s_bin rfl rfl rfl ?_)
  refine n_nil ?_
  repeat (first | refine w_seq ?_ | refine w_blk ?_ | refine z_seq ?_ | refine z_blk ?_ | refine w_skip ?_)
  refine w_if rfl (fun hb2 => ?_) (fun hb2 => ?_)
  · have hi : j < es.length := by simpa using hb2
    obtain ⟨l3, o3, c3, cl3, ro3, p3, q3, x1, _, x2, x3⟩ := hv2.at hi
    cases x1
    have y0 := x3.len
    have y1 := x3.all
    have e0 : es.take (j + 1) = es.take j ++ [es[j]] := List.take_succ_eq_append_getElem hi
    have hlen : ({ L with evs := L.evs ++ es.take j } : Log).evs.length = L.evs.length + j := by simp; omega
    obtain ⟨⟨cs, hs, hR⟩, hfrom⟩ := id hA2.evs
    repeat (first | refine w_seq ?_ | refine w_blk ?_ | refine z_seq ?_ | refine z_blk ?_ | refine w_skip ?_)
    refine w_reg 4 rfl rfl (j' := 5) ?_
    refine n_op .no (q := 1) rfl (s_ia rfl rfl el_65 (by first | assumption | omega) ?_)
    refine n_op .no (q := 2) rfl (s_lda rfl (by repeat (first | exact gs_same _ _ _ | exact x2 | exact y1 | refine (gs_ne (by omega) _).trans ?_)) ag_82 sz_82 (by first | exact Nat.le_of_ble_eq_true rfl | assumption | omega) (by first | exact x2 | exact y1 | exact rfl) ?_)
    refine n_op .no (q := 3) rfl (s_al zl_82 ?_)
    refine n_op .no (q := 4) rfl (s_stw rfl rfl sz_82 rfl (by repeat (first | exact gs_same _ _ _ | exact x2 | exact y1 | refine (gs_ne (by omega) _).trans ?_)) (by exact rfl) rfl ?_)
    refine n_nil ?_
    repeat (first | refine w_seq ?_ | refine w_blk ?_ | refine z_seq ?_ | refine z_blk ?_ | refine w_skip ?_)
    refine w_drw (T6 43 12) [(0, []), (1, []), (2, []), (3, []), (4, []), (5, [4]), (6, [4]), (7, [4]), (8, []), (9, []), (10, []), (11, [])] 12 (by kernel_rfl) rfl rfl (j' := 17) ?_
    refine d_op rfl rfl .no (q := 5) rfl (s_mv rfl ⟨⟨rfl, rfl⟩, ?_⟩)
    refine d_op rfl rfl .no (q := 6) rfl (s_mv rfl ⟨⟨rfl, rfl⟩, ?_⟩)
    refine d_op rfl rfl .no (q := 7) rfl (s_nil rfl ⟨⟨rfl, rfl⟩, ?_⟩)
    first | refine d_op rfl rfl .no (q := 8) rfl (s_fa0 rfl fo_166_0 ⟨⟨rfl, rfl⟩, ?_⟩) | refine d_op rfl rfl .no (q := 8) rfl (s_fa rfl fo_166_0 ⟨⟨rfl, rfl⟩, ?_⟩)
    refine d_tc rfl rfl rfl .no (q := 9) rfl (s_ld rfl (by repeat (first | exact gs_same _ _ _ | exact hc2 | refine (gs_ne (by omega) _).trans ?_)) ag_65 (by first | exact rfl | exact hc2) ⟨clash_nil, ?_⟩)
    refine d_tc rfl rfl rfl .no (q := 10) rfl (s_ldf rfl (by repeat (first | exact gs_same _ _ _ | exact hc2 | refine (gs_ne (by omega) _).trans ?_)) ag_82 sz_82 (by exact rfl) ⟨clash_rd rfl, ?_⟩)
    refine d_call rfl .no rfl rfl rfl (call_rd rfl) ?_
    refine C.use (copied_c (BytesAt.kp0 (n := n2) x3.val (by repeat (first | exact Kp.refl _ _ _ | refine Kp.new ?_ (by omega) _)) hw2) x3.small) fun v g3 n3 hw3 hn3 hq => ?_
    obtain ⟨c5, rfl, h5, k3⟩ := hq
    refine ⟨?_, ?_⟩
    · exact ⟨trivial, ⟨kept1 k3 (by omega) (by repeat (first | exact gs_same _ _ _ | exact hc2 | refine (gs_ne (by omega) _).trans ?_)), trivial⟩, trivial⟩
    have h5' := h5
    obtain ⟨a5, p5, rfl, h6, h7⟩ := h5
    have k4 : K0 g2 n2 g3 := Kp.trans0 (by repeat (first | exact Kp.refl _ _ _ | refine Kp.new ?_ (by omega) _)) k3 (by omega)
    have hc3 : g3 l = some (logC w { L with evs := L.evs ++ es.take j }) := k4.at0 hw2 hc2
    refine d_al rfl rfl rfl .no (q := 12) rfl (s_bs el_65 ez_65 rfl rfl rfl ?_)
    refine d_tc rfl rfl rfl .no (q := 13) rfl (s_app app65 rfl rfl (hs.kp0 (n := n2) (Kp.new k4 (by omega) _) hw2) (src_one (gs_same _ _ _) rfl) rfl (by omega) fun aw cw g4 tc wr hrow hgr => ⟨clash_nil, ?_⟩)
    have hc4 : g4 l = some (logC w { L with evs := L.evs ++ es.take j }) := (hgr.same l (by omega) hA2.ne).trans (by repeat (first | exact gs_same _ _ _ | exact hc3 | refine (gs_ne (by omega) _).trans ?_))
    refine d_op rfl rfl .no (q := 14) rfl (s_nil rfl ⟨⟨rfl, rfl⟩, ?_⟩)
    first | refine d_op rfl rfl .no (q := 15) rfl (s_fa0 rfl fo_166_0 ⟨⟨rfl, rfl⟩, ?_⟩) | refine d_op rfl rfl .no (q := 15) rfl (s_fa rfl fo_166_0 ⟨⟨rfl, rfl⟩, ?_⟩)
    refine d_tc rfl rfl rfl .no (q := 16) rfl (s_st rfl rfl sz_65 (by repeat (first | exact gs_same _ _ _ | exact hc4 | refine (gs_ne (by omega) _).trans ?_)) rfl rfl (by exact rfl) ⟨clash_nil, ?_⟩)
    refine d_nil ?_
    repeat (first | refine w_seq ?_ | refine w_blk ?_ | refine z_seq ?_ | refine z_blk ?_ | refine w_skip ?_)
    repeat (first | refine w_seq ?_ | refine w_blk ?_ | refine z_seq ?_ | refine z_blk ?_ | refine w_skip ?_)
    refine w_reg 2 rfl rfl (j' := 2) ?_
    first | refine n_op .no (q := 0) rfl (s_bin rfl rfl (bi_inc (by omega)) ?_) | refine n_op .no (q := 0) rfl (s_bin rfl rfl (bi_add rfl (by omega) (by omega)) ?_)
    refine n_op .no (q := 1) rfl (s_mv rfl ?_)
    refine n_nil ?_
    have hl' : vname (.slice aw (({ L with evs := L.evs ++ es.take j } : Log).evs.length + 1) cw) ≠ some l := by
      rcases hgr.name with e | e | e
      · rw [e]; intro e; cases e
      · rw [e]; exact hA2.ne
      · rw [e]; intro e; cases e; omega
    have kF : Kp (FL l w) g2 n2 (gset g4 l (logC (.slice aw (({ L with evs := L.evs ++ es.take j } : Log).evs.length + 1) cw) { L with evs := L.evs ++ es.take j })) :=
      Kp.set (hgr.kp (Kp.new k4.z (by omega) _) (by omega) fun x hx => .inr fun o ho => ⟨.inr hx, hA2.evs.nbo hx ho⟩) (fun o ho => by rw [hc2] at ho; cases ho; exact ⟨.inl rfl, fun e => by cases e⟩) _
    refine z_round (j + 1, .slice aw _ cw) ⟨rfl, rfl, rfl, rfl, rfl, trivial⟩ ⟨hi, by omega, ⟨gs_same _ _ _, ?_⟩, hM.trans ((hgr.mvd (n := n2) (by omega)).up (by omega)), hK.trans kF hn2 fun x o hx hF _ => FL.step hM hx hF, hv2.kp kF hw2 (FL.nob l w) ?_⟩ (by simp only; omega)
    · simp only
      rw [e0, ← List.append_assoc]
      refine evs_app hR hw2 kF (FL.nob l w) h5' hw3 (((hgr.low ((Kp.refl _ _ _).low (by omega) _) (by omega) fun x hx => by have := hnw x hx; omega)).low (by omega) _) (by omega) (hrow.other hl' _) fun x hx => ?_
      rcases hgr.name with e | e | e
      · rw [e] at hx; cases hx
      · rw [e] at hx; exact hfrom _ hx
      · rw [e] at hx; cases hx; omega
    · rintro x o hx ho hF
      cases hx
      obtain ⟨e | e, _⟩ := hF
      · exact hl2 e
      · rcases hM with e' | e'
        · exact hne (by rw [← e', e])
        · have := e' _ e; omega
  refine w_exit rfl ?_
  have hj2 : j = es.length := by simp at hb2; omega
  subst hj2
  rw [List.take_length] at hA2
  obtain ⟨l3, o3, c3, cl3, ro3, p3, q3, x1, _, x2, x3⟩ := hv2.at (show es.length - 1 < es.length by omega)
  cases x1
  have y0 := x3.c0'
  repeat (first | refine w_seq ?_ | refine w_blk ?_ | refine z_seq ?_ | refine z_blk ?_ | refine w_skip ?_)
  refine w_reg 11 rfl rfl (j' := 12) ?_
  refine n_op .no (q := 1) rfl (s_mv rfl ?_)
  refine n_op .no (q := 2) rfl (s_mv rfl ?_)
  refine n_op .no (q := 3) rfl (s_mv rfl ?_)
  refine n_op .no (q := 4) rfl (s_len rfl rfl un_65 rfl ?_)
  first | refine n_op .no (q := 5) rfl (s_bin rfl rfl (bi_dec (by omega) (by omega)) ?_) | refine n_op .no (q := 5) rfl (s_bin rfl rfl (bi_sub rfl (by omega) (by omega)) ?_)
  refine n_op .no (q := 6) rfl (s_ia rfl rfl el_65 (by first | assumption | omega) ?_)
  first | refine n_op .no (q := 7) rfl (s_fa0 rfl fo_82_0 ?_) | refine n_op .no (q := 7) rfl (s_fa rfl fo_82_0 ?_)
  refine n_op .no (q := 8) rfl (s_ld rfl (by repeat (first | exact gs_same _ _ _ | exact hc2 | exact x2 | exact y0 | refine (gs_ne (by omega) _).trans ?_)) ag_2 (by first | exact rfl | exact hc2 | exact x2 | exact y0) ?_)
  refine n_op .no (q := 9) rfl (s_nil rfl ?_)
  first | refine n_op .no (q := 10) rfl (s_fa0 rfl fo_166_3 ?_) | refine n_op .no (q := 10) rfl (s_fa rfl fo_166_3 ?_)
  refine n_op .no (q := 11) rfl (s_st rfl rfl sz_2 (by repeat (first | exact gs_same _ _ _ | exact hc2 | exact x2 | exact y0 | refine (gs_ne (by omega) _).trans ?_)) rfl rfl (by exact rfl) ?_)
  refine n_nil ?_
  repeat (first | refine w_seq ?_ | refine w_blk ?_ | refine z_seq ?_ | refine z_blk ?_ | refine w_skip ?_)
  have hA3 : LogAt b (gset g2 l (logC w (L.put es))) l w (L.put es) := by
    refine ⟨gs_same _ _ _, hA2.evs.kp (F := fun x o => x = l ∧ nb o) (n := n2) ((Kp.refl _ _ _).cell hc2 (by decide) _) hw2 (fun x cl ro _ h => h.2 rfl) fun x o hx ho hF => hA2.ne (by rw [hx, hF.1])⟩
  have kG : Kp (FL l sl) g n (gset g2 l (logC w (L.put es))) := hK.set (fun o ho => by rw [hl] at ho; cases ho; exact ⟨.inl rfl, fun e => by cases e⟩) _
  rw [← lastRev_eq h0]
  refine w_loop (β := Value × Log) (fun x => [(0, .pointer (some ⟨l, 0, none⟩))])
    (fun x g' n' => n ≤ n' ∧ LogAt b g' l x.1 x.2 ∧ Mvd n sl x.1 ∧ Kp (FL l sl) g n g' ∧ x.2.most = L.most ∧ x.2.evs.length < 2 ^ 40 ∧ ∃ k, x.2.evs.length ≤ k ∧ Log.trim k x.2 = L.add es) (fun x => x.2.evs.length) (w, L.put es) ⟨rfl, trivial⟩
    ⟨by omega, hA3, hM, kG, rfl, by simp only [Log.put, List.length_append]; omega, _, by simp only [Log.put, List.length_append]; omega, rfl⟩ ?_
  rintro ⟨w4, L4⟩ f g4 n4 hw4 ⟨hn4, hA4, hM4, hK4, hm4, hs4, k4, hk4, ht4⟩
  simp only at hA4 hM4 hm4 hs4 hk4 ht4
  have hc4 := hA4.cell
  have hll4 := hw4 _ _ hc4
  obtain ⟨a4, c4, rfl⟩ := hA4.evs.lenE
  repeat (first | refine w_seq ?_ | refine w_blk ?_ | refine z_seq ?_ | refine z_blk ?_ | refine w_skip ?_)
  refine w_drw (T6 43 15) [(0, []), (1, []), (2, []), (3, []), (4, []), (5, [3, 4]), (6, [3, 4]), (7, [3, 4]), (8, [3, 4]), (9, [])] 10 (by kernel_rfl) rfl rfl (j' := 10) ?_
  refine d_op rfl rfl .no (q := 0) rfl (s_mv rfl ⟨⟨rfl, rfl⟩, ?_⟩)
  refine d_op rfl rfl .no (q := 1) rfl (s_nil rfl ⟨⟨rfl, rfl⟩, ?_⟩)
  first | refine d_op rfl rfl .no (q := 2) rfl (s_fa0 rfl fo_166_0 ⟨⟨rfl, rfl⟩, ?_⟩) | refine d_op rfl rfl .no (q := 2) rfl (s_fa rfl fo_166_0 ⟨⟨rfl, rfl⟩, ?_⟩)
  refine d_tc rfl rfl rfl .no (q := 3) rfl (s_ld rfl (by repeat (first | exact gs_same _ _ _ | exact hc4 | refine (gs_ne (by omega) _).trans ?_)) ag_65 (by first | exact rfl | exact hc4) ⟨clash_nil, ?_⟩)
  refine d_tc rfl rfl rfl .no (q := 4) rfl (s_len rfl rfl un_65 rfl ⟨clash_nil, ?_⟩)
  refine d_op rfl rfl .no (q := 5) rfl (s_mv rfl ⟨⟨rfl, rfl⟩, ?_⟩)
  refine d_op rfl rfl .no (q := 6) rfl (s_nil rfl ⟨⟨rfl, rfl⟩, ?_⟩)
  first | refine d_op rfl rfl .no (q := 7) rfl (s_fa0 rfl fo_166_1 ⟨⟨rfl, rfl⟩, ?_⟩) | refine d_op rfl rfl .no (q := 7) rfl (s_fa rfl fo_166_1 ⟨⟨rfl, rfl⟩, ?_⟩)
  refine d_tc rfl rfl rfl .no (q := 8) rfl (s_ld rfl (by repeat (first | exact gs_same _ _ _ | exact hc4 | refine (gs_ne (by omega) _).trans ?_)) ag_3 (by first | exact rfl | exact hc4) ⟨clash_rd rfl, ?_⟩)
  refine d_op rfl rfl .no (q := 9) rfl (s_bin rfl rfl rfl ⟨⟨rfl, rfl⟩, ?_⟩)
  refine d_nil ?_
  repeat (first | refine w_seq ?_ | refine w_blk ?_ | refine z_seq ?_ | refine z_blk ?_ | refine w_skip ?_)
  refine w_if rfl (fun hb4 => ?_) (fun hb4 => ?_)
  · have hlt : L4.most < L4.evs.length := by simpa using hb4
    have hpos : 0 < L4.evs.length := by omega
    obtain ⟨l5, o5, c5, cl5, ro5, p5, q5, x1, _, x2, x3⟩ := hA4.evs.rd.at0 hpos
    cases x1
    have y0 := x3.c0'
    repeat (first | refine w_seq ?_ | refine w_blk ?_ | refine z_seq ?_ | refine z_blk ?_ | refine w_skip ?_)
    repeat (first | refine w_seq ?_ | refine w_blk ?_ | refine z_seq ?_ | refine z_blk ?_ | refine w_skip ?_)
    refine w_reg 9 rfl rfl (j' := 19) ?_
    refine n_op .no (q := 10) rfl (s_mv rfl ?_)
    refine n_op .no (q := 11) rfl (s_mv rfl ?_)
    refine n_op .no (q := 12) rfl (s_nil rfl ?_)
    first | refine n_op .no (q := 13) rfl (s_fa0 rfl fo_166_0 ?_) | refine n_op .no (q := 13) rfl (s_fa rfl fo_166_0 ?_)
    refine n_op .no (q := 14) rfl (s_ld rfl (by repeat (first | exact gs_same _ _ _ | exact hc4 | exact x2 | exact y0 | refine (gs_ne (by omega) _).trans ?_)) ag_65 (by first | exact rfl | exact hc4 | exact x2 | exact y0) ?_)
    refine n_op .no (q := 15) rfl (s_ia0 rfl rfl el_65 (by first | assumption | omega) ?_)
    first | refine n_op .no (q := 16) rfl (s_fa0 rfl fo_82_0 ?_) | refine n_op .no (q := 16) rfl (s_fa rfl fo_82_0 ?_)
    refine n_op .no (q := 17) rfl (s_ld rfl (by repeat (first | exact gs_same _ _ _ | exact hc4 | exact x2 | exact y0 | refine (gs_ne (by omega) _).trans ?_)) ag_2 (by first | exact rfl | exact hc4 | exact x2 | exact y0) ?_)
    refine n_call .no rfl rfl rfl ?_
    refine C.use (log_cut (LogAt.kp0 hA4 (n := n4) (by repeat (first | exact Kp.refl _ _ _ | refine Kp.new ?_ (by omega) _)) hw4) (by omega)) fun v g6 n6 hw6 hn6 hq => ?_
    obtain ⟨w6, hA6, hv6, k6⟩ := hq
    refine n_nil ?_
    obtain ⟨e, r, he⟩ : ∃ e r, L4.evs = e :: r := by
      cases h : L4.evs with
      | nil => rw [h] at hpos; cases hpos
      | cons e r => exact ⟨e, r, rfl⟩
    have her : L4.evs[0].rev = e.rev := by simp only [he, List.getElem_cons_zero]
    obtain ⟨k', t1, t2, t3⟩ := Log.trim_step he hk4 hlt
    rw [her] at hA6
    repeat (first | refine w_seq ?_ | refine w_blk ?_ | refine z_seq ?_ | refine z_blk ?_ | refine w_skip ?_)
    refine z_round (w6, L4.cut e.rev) ⟨rfl, trivial⟩ ⟨by omega, hA6, hM4.trans (.inl hv6), hK4.trans (n' := n4) (fun x o hx ho hF => k6 x o (by omega) ho hF) hn4 fun x o hx hF _ => FL.step hM4 hx hF, hm4, by simp only; omega, k', t2, by rw [← t1]; exact ht4⟩ t3
  · refine w_exit rfl ?_
    repeat (first | refine w_seq ?_ | refine w_blk ?_ | refine z_seq ?_ | refine z_blk ?_ | refine w_skip ?_)
    refine w_reg 1 rfl rfl (j' := 11) ?_
    refine n_op .no (q := 10) rfl (s_as rfl ?_)
    refine n_nil ?_
    repeat (first | refine w_ret ?_ | refine w_seq ?_ | refine w_blk ?_ | refine z_seq ?_ | refine z_blk ?_ | refine w_skip ?_)
    refine z_r1 rfl rfl ?_
    rw [Log.trim_done (by simpa using hb4)] at ht4
    rw [← ht4]
    exact ⟨rfl, _, hA4, hM4, hK4⟩
end

end Go.Proofs.YtehmailaabjdjaaGreat
