/-
  the references' EqEvents, by contract. No condition.
-/
import Derived.Test.YtehmailaabjdjaaGreatLwA
open Go.Proofs
namespace Go.Proofs.YtehmailaabjdjaaGreat
set_option linter.unusedSimpArgs false
set_option linter.unusedVariables false
set_option maxRecDepth 100000

theorem eqEvents_c {g : Gm} {n : Nat} {v w : Value} {es fs : List Evt} (h1 : EvsRd g v es) (h2 : EvsRd g w fs) (hn : es.length < 2 ^ 40) : C 49 #[v, w] g n fun u g' n' => (∃ r, u = .bool r ∧ (r = true ↔ es = fs)) ∧ K0 g n g' := by
  obtain ⟨a1, c1, rfl⟩ := h1.len
  obtain ⟨a2, c2, rfl⟩ := h2.len
  refine c_in2 Tryz.func49 rfl Tryz.ntmps49 rfl fun hw => ?_
  repeat (first | refine w_seq ?_ | refine w_blk ?_ | refine z_seq ?_ | refine z_blk ?_ | refine w_skip ?_)
  refine w_reg 1 rfl rfl (j' := 1) ?_
  refine n_op .no (q := 0) rfl (s_as rfl ?_)
  refine n_nil ?_
  repeat (first | refine w_seq ?_ | refine w_blk ?_ | refine z_seq ?_ | refine z_blk ?_ | refine w_skip ?_)
  refine w_reg 5 rfl rfl (j' := 6) ?_
  refine n_op .no (q := 1) rfl (s_mv rfl ?_)
  refine n_op .no (q := 2) rfl (s_len rfl rfl un_65 rfl ?_)
  refine n_op .no (q := 3) rfl (s_mv rfl ?_)
  refine n_op .no (q := 4) rfl (s_len rfl rfl un_65 rfl ?_)
  refine n_op .no (q := 5) rfl (s_bin rfl rfl rfl ?_)
  refine n_nil ?_
  by_cases hl : es.length = fs.length
  · repeat (first | refine w_seq ?_ | refine w_blk ?_ | refine z_seq ?_ | refine z_blk ?_ | refine w_skip ?_)
    refine w_no rfl (bne_eq_false_iff_eq.2 (by omega)) ?_
    repeat (first | refine w_seq ?_ | refine w_blk ?_ | refine z_seq ?_ | refine z_blk ?_ | refine w_skip ?_)
    refine w_reg 3 rfl rfl (j' := 9) ?_
    refine n_op .no (q := 6) rfl (s_mv rfl ?_)
    refine n_op .no (q := 7) rfl (s_len rfl rfl un_65 rfl ?_)
    refine n_op .no (q := 8) rfl (s_mv rfl ?_)
    refine n_nil ?_
    repeat (first | refine w_seq ?_ | refine w_blk ?_ | refine z_seq ?_ | refine z_blk ?_ | refine w_skip ?_)
    refine w_loop (β := Nat) (fun i => [(0, .slice a1 es.length c1), (1, .slice a2 fs.length c2), (12, .int .i64 es.length), (13, .int .i64 i)])
      (fun i g' n' => i ≤ es.length ∧ n ≤ n' ∧ K0 g n g' ∧ es.take i = fs.take i) (fun i => es.length - i) 0 ⟨rfl, rfl, rfl, rfl, trivial⟩ ⟨by omega, by omega, (by repeat (first | exact Kp.refl _ _ _ | refine Kp.new ?_ (by omega) _)), rfl⟩ ?_
    rintro i f g1 n1 hw1 ⟨hi, hn1, k1, ht⟩
    repeat (first | refine w_seq ?_ | refine w_blk ?_ | refine z_seq ?_ | refine z_blk ?_ | refine w_skip ?_)
    refine w_reg 1 rfl rfl (j' := 1) ?_
    refine n_op .no (q := 0) rfl (s_bin rfl rfl rfl ?_)
    refine n_nil ?_
    repeat (first | refine w_seq ?_ | refine w_blk ?_ | refine z_seq ?_ | refine z_blk ?_ | refine w_skip ?_)
    refine w_if rfl (fun hb => ?_) (fun hb => ?_)
    · have hi : i < es.length := by simpa using hb
      have hi2 : i < fs.length := by omega
      obtain ⟨l3, o3, c3, cl3, ro3, p3, q3, x1, _, x2, x3⟩ := (h1.kp0 k1 hw).at hi
      cases x1
      obtain ⟨l4, o4, c4, cl4, ro4, p4, q4, y1, _, y2, y3⟩ := (h2.kp0 k1 hw).at hi2
      cases y1
      have x0 := x3.len
      have x5 := x3.all
      have y0 := y3.len
      have y5 := y3.all
      repeat (first | refine w_seq ?_ | refine w_blk ?_ | refine z_seq ?_ | refine z_blk ?_ | refine w_skip ?_)
      refine w_reg 2 rfl rfl (j' := 3) ?_
      refine n_op .no (q := 1) rfl (s_mv rfl ?_)
      refine n_op .no (q := 2) rfl (s_as rfl ?_)
      refine n_nil ?_
      repeat (first | refine w_seq ?_ | refine w_blk ?_ | refine z_seq ?_ | refine z_blk ?_ | refine w_skip ?_)
      refine w_drw (T6 49 6) [(0, []), (1, []), (2, []), (3, []), (4, [3]), (5, [3]), (6, [3]), (7, [3]), (8, []), (9, [])] 10 (by kernel_rfl) rfl rfl (j' := 13) ?_
      refine d_op rfl rfl .no (q := 3) rfl (s_mv rfl ⟨⟨rfl, rfl⟩, ?_⟩)
      refine d_op rfl rfl .no (q := 4) rfl (s_mv rfl ⟨⟨rfl, rfl⟩, ?_⟩)
      refine d_op rfl rfl .no (q := 5) rfl (s_ia rfl rfl el_65 (by first | assumption | omega) ⟨⟨rfl, rfl⟩, ?_⟩)
      refine d_tc rfl rfl rfl .no (q := 6) rfl (s_lda rfl (by repeat (first | exact gs_same _ _ _ | exact x2 | exact y2 | exact x5 | exact y5 | refine (gs_ne (by omega) _).trans ?_)) ag_82 sz_82 (by first | exact Nat.le_of_ble_eq_true rfl | assumption | omega) (by first | exact x2 | exact y2 | exact x5 | exact y5 | exact rfl) ⟨clash_nil, ?_⟩)
      refine d_op rfl rfl .no (q := 7) rfl (s_mv rfl ⟨⟨rfl, rfl⟩, ?_⟩)
      refine d_op rfl rfl .no (q := 8) rfl (s_mv rfl ⟨⟨rfl, rfl⟩, ?_⟩)
      refine d_op rfl rfl .no (q := 9) rfl (s_ia rfl rfl el_65 (by first | assumption | omega) ⟨⟨rfl, rfl⟩, ?_⟩)
      refine d_tc rfl rfl rfl .no (q := 10) rfl (s_lda rfl (by repeat (first | exact gs_same _ _ _ | exact x2 | exact y2 | exact x5 | exact y5 | refine (gs_ne (by omega) _).trans ?_)) ag_82 sz_82 (by first | exact Nat.le_of_ble_eq_true rfl | assumption | omega) (by first | exact x2 | exact y2 | exact x5 | exact y5 | exact rfl) ⟨clash_rd rfl, ?_⟩)
      refine d_call rfl .no rfl rfl rfl call_nil ?_
      refine C.use (eqEvent_c x3.val y3.val) fun v g2 n2 hw2 hn2 hq => ?_
      obtain ⟨⟨r, rfl, hr⟩, k2⟩ := hq
      refine ⟨kept_nil, ?_⟩
      refine d_op rfl rfl .no (q := 12) rfl (s_not rfl ⟨⟨rfl, rfl⟩, ?_⟩)
      refine d_nil ?_
      have k3 := k1.trans0 (k2.dn (m := n1) (by omega)) (by omega)
      by_cases he : es[i] = fs[i]
      · repeat (first | refine w_seq ?_ | refine w_blk ?_ | refine z_seq ?_ | refine z_blk ?_ | refine w_skip ?_)
        refine w_no rfl (by simp [hr.2 he]) ?_
        repeat (first | refine w_seq ?_ | refine w_blk ?_ | refine z_seq ?_ | refine z_blk ?_ | refine w_skip ?_)
        repeat (first | refine w_seq ?_ | refine w_blk ?_ | refine z_seq ?_ | refine z_blk ?_ | refine w_skip ?_)
        refine w_reg 2 rfl rfl (j' := 2) ?_
        first | refine n_op .no (q := 0) rfl (s_bin rfl rfl (bi_inc (by omega)) ?_) | refine n_op .no (q := 0) rfl (s_bin rfl rfl (bi_add rfl (by omega) (by omega)) ?_)
        refine n_op .no (q := 1) rfl (s_mv rfl ?_)
        refine n_nil ?_
        exact z_round (i + 1) ⟨rfl, rfl, rfl, rfl, trivial⟩ ⟨hi, by omega, k3, by rw [List.take_succ_eq_append_getElem hi, List.take_succ_eq_append_getElem hi2, ht, he]⟩ (by omega)
      · have hrf : r = false := by
          cases r with
          | false => rfl
          | true => exact absurd (hr.1 rfl) he
        repeat (first | refine w_seq ?_ | refine w_blk ?_ | refine z_seq ?_ | refine z_blk ?_ | refine w_skip ?_)
        refine w_yes rfl (by simp [hrf]) ?_
        repeat (first | refine w_seq ?_ | refine w_blk ?_ | refine z_seq ?_ | refine z_blk ?_ | refine w_skip ?_)
        refine w_reg 1 rfl rfl (j' := 1) ?_
        refine n_op .no (q := 0) rfl (s_as rfl ?_)
        refine n_nil ?_
        repeat (first | refine w_ret ?_ | refine w_seq ?_ | refine w_blk ?_ | refine z_seq ?_ | refine z_blk ?_ | refine w_skip ?_)
        refine z_r1 rfl rfl ?_
        exact ⟨⟨_, rfl, ⟨fun h => (by cases h), fun h => absurd (by simp only [h]) he⟩⟩, k3⟩
    · refine w_exit rfl ?_
      repeat (first | refine w_seq ?_ | refine w_blk ?_ | refine z_seq ?_ | refine z_blk ?_ | refine w_skip ?_)
      refine w_reg 1 rfl rfl (j' := 2) ?_
      refine n_op .no (q := 1) rfl (s_as rfl ?_)
      refine n_nil ?_
      repeat (first | refine w_ret ?_ | refine w_seq ?_ | refine w_blk ?_ | refine z_seq ?_ | refine z_blk ?_ | refine w_skip ?_)
      refine z_r1 rfl rfl ?_
      have : i = es.length := by simp at hb; omega
      subst this
      rw [List.take_length, hl, List.take_length] at ht
      exact ⟨⟨_, rfl, ⟨fun _ => ht, fun _ => rfl⟩⟩, k1⟩
  · repeat (first | refine w_seq ?_ | refine w_blk ?_ | refine z_seq ?_ | refine z_blk ?_ | refine w_skip ?_)
    refine w_yes rfl (bne_iff_ne.2 (by omega)) ?_
    repeat (first | refine w_seq ?_ | refine w_blk ?_ | refine z_seq ?_ | refine z_blk ?_ | refine w_skip ?_)
    refine w_reg 1 rfl rfl (j' := 7) ?_
    refine n_op .no (q := 6) rfl (s_as rfl ?_)
    refine n_nil ?_
    repeat (first | refine w_ret ?_ | refine w_seq ?_ | refine w_blk ?_ | refine z_seq ?_ | refine z_blk ?_ | refine w_skip ?_)
    refine z_r1 rfl rfl ?_
    exact ⟨⟨_, rfl, ⟨fun h => (by cases h), fun h => absurd (by rw [h]) hl⟩⟩, (by repeat (first | exact Kp.refl _ _ _ | refine Kp.new ?_ (by omega) _))⟩

end Go.Proofs.YtehmailaabjdjaaGreat
