/-
  StoreGone answers true. No condition but that begun does.
-/
import Derived.Test.YtehmailaabjdjaaGreatSt9
open Go.Proofs
namespace Go.Proofs.YtehmailaabjdjaaGreat
set_option linter.unusedSimpArgs false
set_option linter.unusedVariables false
set_option maxRecDepth 100000

section
variable {S : Sto} {k v : Bs}
theorem gone_c1 (h : S.now = []) (hk : keyOk k) (hv : v.length ≤ 30) : S.can [⟨k, 0, false⟩] [⟨k, v, false⟩] = 0 :=
  can_ok (Sto.may_one (by simp) (fun x hx => by rw [List.mem_singleton.1 hx]; exact ⟨hk, Int.le_refl _⟩) ⟨hk, (fun q => (by cases q.1)), by show v.length ≤ 4000; omega⟩)
    (fun x hx => by rw [List.mem_singleton.1 hx]; show ((findK k S.now).map SEnt.rev).getD 0 = 0; rw [h]; rfl) (fun w hw q => by rw [List.mem_singleton.1 hw] at q; cases q)
theorem gone_g {r q : Int} (h : S.now = [(k, ⟨k, r, v⟩)]) : S.holds ⟨k, q, false⟩ ↔ r = q := by
  show ((findK k S.now).map SEnt.rev).getD 0 = q ↔ _
  rw [h]; simp [findK]
theorem gone_w (hk : keyOk k) : Wr.ok ⟨k, [], true⟩ := ⟨hk, (fun q => absurd q.2 (by simp)), by simp⟩
theorem gone_m (hk : keyOk k) {q : Int} (hq : 0 ≤ q) : txnMay [⟨k, q, false⟩] [⟨k, [], true⟩] := Sto.may_one (by simp) (fun x hx => by rw [List.mem_singleton.1 hx]; exact ⟨hk, hq⟩) (gone_w hk)
theorem gone_c2 {r : Int} (h : S.now = [(k, ⟨k, r, v⟩)]) (hk : keyOk k) (hr : 0 ≤ r) : S.can [⟨k, r + 1, false⟩] [⟨k, [], true⟩] = 6 :=
  can_guard (gone_m hk (by omega)) ⟨_, List.mem_singleton.2 rfl, fun q => by have := (gone_g h).1 q; omega⟩
theorem gone_c3 {r : Int} (h : S.now = [(k, ⟨k, r, v⟩)]) (hk : keyOk k) (hr : 0 ≤ r) : S.can [⟨k, r, false⟩] [⟨k, [], true⟩] = 0 :=
  can_ok (gone_m hk hr) (fun x hx => by rw [List.mem_singleton.1 hx]; exact (gone_g h).2 rfl) fun w hw _ => by
    rw [List.mem_singleton.1 hw, h]; simp [findK]
theorem gone_c4 (h : S.now = []) (hk : keyOk k) : S.can [] [⟨k, [], true⟩] = 3 :=
  can_none (Sto.may_one (by simp) (fun x hx => by cases hx) (gone_w hk)) (fun x hx => by cases hx) ⟨_, List.mem_singleton.2 rfl, rfl, by rw [h]; rfl⟩
end

/-- The head of a round. -/
structure GoneI (g1 : Gm) (n1 s m1 m2 l i : Nat) (g' : Gm) (n' : Nat) : Prop where
  nn : n1 ≤ n'
  kp : K0 g1 n1 g'
  ex : ∃ sl S, StAt n1 g' s m1 m2 l sl S ∧ S.now = [] ∧ S.Inv (10 * i)

theorem storeGone_c (hB : BegunOk) {g : Gm} {n : Nat} {v : Value} {kk : Bs} {xs : List Bs} (h : BssRd g v xs) : C 9 #[.string (str kk), v] g n fun u g' n' => u = .bool true := by
  obtain ⟨a, c, rfl⟩ := h.len
  refine c_in2 Tryz.func9 rfl Tryz.ntmps9 rfl fun hw => ?_
  repeat (first | refine w_seq ?_ | refine w_blk ?_ | refine z_seq ?_ | refine z_blk ?_ | refine w_skip ?_)
  refine w_reg 1 rfl rfl (j' := 1) ?_
  refine n_op .no (q := 0) rfl (s_as rfl ?_)
  refine n_nil ?_
  repeat (first | refine w_seq ?_ | refine w_blk ?_ | refine z_seq ?_ | refine z_blk ?_ | refine w_skip ?_)
  refine w_reg 2 rfl rfl (j' := 3) ?_
  refine n_call .no rfl rfl rfl ?_
  refine C.use (hB _ _) fun v g1 n1 hw1 hn1 hq => ?_
  obtain ⟨rfl, rfl⟩ := hq
  refine n_op .no (q := 2) rfl (s_as rfl ?_)
  refine n_nil ?_
  repeat (first | refine w_seq ?_ | refine w_blk ?_ | refine z_seq ?_ | refine z_blk ?_ | refine w_skip ?_)
  refine w_reg 2 rfl rfl (j' := 2) ?_
  refine n_op .no (q := 0) rfl (s_mv rfl ?_)
  refine n_op .no (q := 1) rfl (s_not rfl ?_)
  refine n_nil ?_
  repeat (first | refine w_seq ?_ | refine w_blk ?_ | refine z_seq ?_ | refine z_blk ?_ | refine w_skip ?_)
  refine w_no rfl (rfl) ?_
  have h1 : BssRd g1 (.slice a xs.length c) xs := h
  have hsz : (str kk).size = kk.length := str_size kk
  repeat (first | refine w_seq ?_ | refine w_blk ?_ | refine z_seq ?_ | refine z_blk ?_ | refine w_skip ?_)
  refine w_reg 7 rfl rfl (j' := 9) ?_
  refine n_op .no (q := 2) rfl (s_mv rfl ?_)
  refine n_op .no (q := 3) rfl (s_mv rfl ?_)
  refine n_op .no (q := 4) rfl (s_len rfl rfl un_9 rfl ?_)
  refine n_op .no (q := 5) rfl (s_min rfl rfl (c := ((min kk.length 9 : Nat) : Int)) (by omega) ?_)
  refine n_op .no (q := 6) rfl (s_hiS rfl rfl (Nat.min_le_left _ _) ?_)
  have hct : ([107] : Bs).length + (kk.take (min kk.length 9)).length ≤ 9223372036854775807 := by rw [List.length_take]; simp only [List.length_cons, List.length_nil]; omega
  refine n_op .no (q := 7) rfl (s_bin rfl rfl (bi_cat (hct)) ?_)
  refine n_op .no (q := 8) rfl (s_as rfl ?_)
  refine n_nil ?_
  have hk : keyOk ([107] ++ kk.take (min kk.length 9)) := by
    simp only [keyOk, List.length_append, List.length_take, List.length_cons, List.length_nil]; omega
  generalize ([107] ++ kk.take (min kk.length 9) : Bs) = k at *
  repeat (first | refine w_seq ?_ | refine w_blk ?_ | refine z_seq ?_ | refine z_blk ?_ | refine w_skip ?_)
  refine w_reg 2 rfl rfl (j' := 11) ?_
  refine n_call .no rfl rfl rfl ?_
  refine C.use (st_newB _ _) fun v g2 n2 hw2 hn2 hq => ?_
  obtain ⟨s, m1, m2, l, rfl, hS2, hb2, k2⟩ := hq
  refine n_op .no (q := 10) rfl (s_as rfl ?_)
  refine n_nil ?_
  repeat (first | refine w_seq ?_ | refine w_blk ?_ | refine z_seq ?_ | refine z_blk ?_ | refine w_skip ?_)
  refine w_reg 1 rfl rfl (j' := 1) ?_
  refine n_op .no (q := 0) rfl (s_as rfl ?_)
  refine n_nil ?_
  repeat (first | refine w_seq ?_ | refine w_blk ?_ | refine z_seq ?_ | refine z_blk ?_ | refine w_skip ?_)
  refine w_loop (β := Nat) (fun i => [(0, .string (str k)), (1, .slice a xs.length c), (6, .pointer (some ⟨s, 0, none⟩)), (7, .int .i64 (i : Int))])
    (fun i g' n' => i ≤ xs.length ∧ i ≤ 8 ∧ GoneI g1 n1 s m1 m2 l i g' n') (fun i => 8 - i) 0 ⟨rfl, rfl, rfl, rfl, trivial⟩
    ⟨by omega, by omega, ⟨by omega, k2.dn (by omega), _, _, hS2.up (by omega), rfl, Sto.Inv.new.up (by omega)⟩⟩ ?_
  rintro i f gL nL hwL ⟨hi, hi8, hnL, kL, sl, S, hS, hnow, hinv⟩
  by_cases hlt : i < xs.length ∧ i < 8
  · repeat (first | refine w_seq ?_ | refine w_blk ?_ | refine z_seq ?_ | refine z_blk ?_ | refine w_skip ?_)
    refine w_reg 8 rfl rfl (j' := 8) ?_
    refine n_op .no (q := 0) rfl (s_mv rfl ?_)
    refine n_op .no (q := 1) rfl (s_mv rfl ?_)
    refine n_op .no (q := 2) rfl (s_len rfl rfl un_56 rfl ?_)
    refine n_op .no (q := 3) rfl (s_bin rfl rfl rfl ?_)
    refine n_op .no (q := 4) rfl (s_mv rfl ?_)
    refine n_op (.yes rfl rfl (decide_eq_true (by omega))) (q := 5) rfl (s_mv rfl ?_)
    refine n_op (.yes rfl rfl (decide_eq_true (by omega))) (q := 6) rfl (s_bin rfl rfl rfl ?_)
    refine n_op .no (q := 7) rfl (s_pt rfl (decide_eq_true (by omega)) rfl ?_)
    refine n_nil ?_
    repeat (first | refine w_seq ?_ | refine w_blk ?_ | refine z_seq ?_ | refine z_blk ?_ | refine w_skip ?_)
    refine w_yes rfl (decide_eq_true (by omega)) ?_
    obtain ⟨l3, o3, c3, cl3, ro3, a3, p3, x1, x2, x3, x4⟩ := (h1.kp0 kL hw1).at hlt.1
    cases x1
    obtain ⟨w, hw⟩ : ∃ w, w = xs[i]'hlt.1 := ⟨_, rfl⟩
    rw [← hw] at x3 x4
    have hil := hlt.1
    repeat (first | refine w_seq ?_ | refine w_blk ?_ | refine z_seq ?_ | refine z_blk ?_ | refine w_skip ?_)
    refine w_drw (T6 9 9) [(0, []), (1, []), (2, []), (3, []), (4, [3]), (5, [3]), (6, [3]), (7, [3]), (8, [3]), (9, [3]), (10, []), (11, [])] 12 (by kernel_rfl) rfl rfl (j' := 20) ?_
    refine d_op rfl rfl .no (q := 8) rfl (s_mv rfl ⟨⟨rfl, rfl⟩, ?_⟩)
    refine d_op rfl rfl .no (q := 9) rfl (s_mv rfl ⟨⟨rfl, rfl⟩, ?_⟩)
    refine d_op rfl rfl .no (q := 10) rfl (s_ia rfl rfl el_56 (by first | assumption | omega) ⟨⟨rfl, rfl⟩, ?_⟩)
    refine d_tc rfl rfl rfl .no (q := 11) rfl (s_ld rfl (by repeat (first | exact gs_same _ _ _ | exact x2 | exact x3 | refine (gs_ne (by omega) _).trans ?_)) ag_26 (by first | exact rfl | exact x2 | exact x3) ⟨clash_nil, ?_⟩)
    refine d_op rfl rfl .no (q := 12) rfl (s_mv rfl ⟨⟨rfl, rfl⟩, ?_⟩)
    refine d_op rfl rfl .no (q := 13) rfl (s_mv rfl ⟨⟨rfl, rfl⟩, ?_⟩)
    refine d_op rfl rfl .no (q := 14) rfl (s_ia rfl rfl el_56 (by first | assumption | omega) ⟨⟨rfl, rfl⟩, ?_⟩)
    refine d_tc rfl rfl rfl .no (q := 15) rfl (s_ld rfl (by repeat (first | exact gs_same _ _ _ | exact x2 | exact x3 | refine (gs_ne (by omega) _).trans ?_)) ag_26 (by first | exact rfl | exact x2 | exact x3) ⟨clash_rd rfl, ?_⟩)
    refine d_tc rfl rfl rfl .no (q := 16) rfl (s_len rfl rfl un_26 rfl ⟨clash_rd rfl, ?_⟩)
    refine d_op rfl rfl .no (q := 17) rfl (s_min rfl rfl (c := ((min w.length 30 : Nat) : Int)) (by omega) ⟨⟨rfl, rfl⟩, ?_⟩)
    refine d_tc rfl rfl rfl .no (q := 18) rfl (s_hiB rfl (BytesAt.kp0 (n := nL) x4 (by repeat (first | exact Kp.refl _ _ _ | refine Kp.new ?_ (by omega) _)) hwL) rfl (Nat.min_le_left _ _) fun w3 hw3 => ⟨clash_nil, ?_⟩)
    refine d_op rfl rfl .no (q := 19) rfl (s_as rfl ⟨⟨rfl, rfl⟩, ?_⟩)
    refine d_nil ?_
    have hwl : (w.take (min w.length 30)).length ≤ 30 := by rw [List.length_take]; omega
    generalize w.take (min w.length 30) = v at *
    clear x3 x4 hw
    obtain ⟨a3, p3, rfl, _⟩ := hw3.len
    obtain ⟨t1, t2, t3, t4, t5⟩ := Sto.txn_one (gone_c1 hnow hk hwl)
    have hi5 := hinv.txn (gs := [⟨k, 0, false⟩]) (ws := [⟨k, v, false⟩])
    repeat (first | refine w_seq ?_ | refine w_blk ?_ | refine z_seq ?_ | refine z_blk ?_ | refine w_skip ?_)
    refine w_reg 15 rfl rfl (j' := 35) ?_
    refine n_op .no (q := 20) rfl (s_mv rfl ?_)
    refine n_op .no (q := 21) rfl (s_mv rfl ?_)
    refine n_op .no (q := 22) rfl (s_bld pl_36 zl_36 rfl rfl rfl ?_)
    refine n_op .no (q := 23) rfl (s_bs el_37 ez_37 rfl rfl rfl ?_)
    refine n_op .no (q := 24) rfl (s_mv rfl ?_)
    refine n_op .no (q := 25) rfl (s_mv rfl ?_)
    refine n_op .no (q := 26) rfl (s_bld pl_39 zl_39 rfl rfl rfl ?_)
    refine n_op .no (q := 27) rfl (s_bs el_40 ez_40 rfl rfl rfl ?_)
    refine n_op .no (q := 28) rfl (s_bld pl_42 zl_42 rfl rfl rfl ?_)
    refine n_call .no rfl rfl rfl ?_
    refine C.use (st_txn_i (hS.kp0 (n := nL) (by repeat (first | exact Kp.refl _ _ _ | refine Kp.new ?_ (by omega) _)) hwL) hinv (by omega) (by omega) (gds_one (x := ⟨k, 0, false⟩) ((gs_ne (by omega) _).trans (gs_same _ _ _))) (wrs_one (x := ⟨k, v, false⟩) (gs_same _ _ _) (hw3.kp0 (n := nL) (by repeat (first | exact Kp.refl _ _ _ | refine Kp.new ?_ (by omega) _)) hwL))) fun v g5 n5 hw5 hn5 hq => ?_
    obtain ⟨sl5, hu, hS5, hM5, k5⟩ := hq
    rw [t1] at hu
    subst hu
    generalize (S.txn [⟨k, 0, false⟩] [⟨k, v, false⟩]).1 = S5 at *
    rw [hnow] at t3
    have t3 : S5.now = [(k, ⟨k, S.rev + 1, v⟩)] := t3
    have hrv := hinv.rev
    refine n_op .no (q := 30) rfl (s_mv rfl ?_)
    refine n_op .no (q := 31) rfl (s_ext rfl rfl ?_)
    refine n_op .no (q := 32) rfl (s_ext rfl rfl ?_)
    refine n_op .no (q := 33) rfl (s_as rfl ?_)
    refine n_op .no (q := 34) rfl (s_as rfl ?_)
    refine n_nil ?_
    have k5' : Kp (FS s m1 m2 l sl) gL nL g5 := (Kp.z (by exact (by repeat (first | exact Kp.refl _ _ _ | refine Kp.new ?_ (by omega) _)))).tr' k5 (by omega)
    have hq : n1 ≤ s ∧ n1 ≤ m1 ∧ n1 ≤ m2 ∧ n1 ≤ l := by omega
    have w5 : K0 g1 n1 g5 := kL.trans0 (hS.low hq (Nat.le_refl _) hnL k5') (Nat.le_refl _)
    have v5 := hw3.kp k5' hwL (FS.nob _ _ _ _ _)
    have sn5 := hw5 _ _ hS5.cell
    clear k5 k5' hM5 hS hw3 kL
    repeat (first | refine w_seq ?_ | refine w_blk ?_ | refine z_seq ?_ | refine z_blk ?_ | refine w_skip ?_)
    refine w_reg 9 rfl rfl (j' := 9) ?_
    refine n_op .no (q := 0) rfl (s_mv rfl ?_)
    refine n_op .no (q := 1) rfl (s_mv rfl ?_)
    refine n_call .no rfl rfl rfl ?_
    refine C.useG (st_get_i (k := k) hS5 hi5 (by omega)) fun v g6 n6 hw6 hn6 hx6 hq => ?_
    obtain ⟨c6, e6, ok6, rfl, hE6, hf6, hS6, k6⟩ := hq
    have hf : findK k S5.now = some ⟨k, S.rev + 1, v⟩ := by rw [t3]; simp [findK]
    obtain ⟨rfl, rfl⟩ : e6 = ⟨k, S.rev + 1, v⟩ ∧ ok6 = true := by
      rcases hf6 with ⟨x, y⟩ | ⟨x, _⟩
      · rw [hf] at x; exact ⟨(Option.some.inj x).symm, y⟩
      · rw [hf] at x; cases x
    obtain ⟨a6, p6, rfl, hv6, _⟩ := hE6
    have hv6 : BytesNew _ g6 (.slice a6 v.length p6) v := hv6
    refine n_op .no (q := 3) rfl (s_mv rfl ?_)
    refine n_op .no (q := 4) rfl (s_ext rfl rfl ?_)
    refine n_op .no (q := 5) rfl (s_ext rfl rfl ?_)
    refine n_op .no (q := 6) rfl (s_al zl_28 ?_)
    refine n_op .no (q := 7) rfl (s_stw rfl rfl sz_28 rfl (by repeat (first | exact gs_same _ _ _ | refine (gs_ne (by omega) _).trans ?_)) (by exact rfl) rfl ?_)
    refine n_op .no (q := 8) rfl (s_as rfl ?_)
    refine n_nil ?_
    repeat (first | refine w_seq ?_ | refine w_blk ?_ | refine z_seq ?_ | refine z_blk ?_ | refine w_skip ?_)
    refine w_gen fun g7 n7 hg7 hn7 hwg7 => ?_
    have z6 : g6 (n5 + 6) = none := hx6 _ (by omega) (hw5.none (by omega))
    have k7 : K0 g6 n6 g7 := by rw [hg7]; exact Kp.add (Kp.add (Kp.refl _ _ _) z6 _) z6 _
    have c7 : g7 (n5 + 6) = some (.cells (entC ⟨k, S.rev + 1, v⟩ (.slice a6 v.length p6)) 0 false) := by rw [hg7]; exact gs_same _ _ _
    clear hg7 hf6
    have k57 : Kp (FC s) g5 n5 g7 := (k6.dn (m := n5) (by omega)).trans0 k7 (by omega)
    have w7 : K0 g1 n1 g7 := w5.trans0 (StAt.lowC hq.1 (by omega) k57) (Nat.le_refl _)
    have hS7 := hS6.kp0 k7 hw6
    have v7 := v5.kp k57 hw5 (FC.nob _)
    have hv7 := hv6.kp0 k7 hw6
    clear k6 k7 k57 hS6 hS5 w5 v5 hv6
    repeat (first | refine w_seq ?_ | refine w_blk ?_ | refine z_seq ?_ | refine z_blk ?_ | refine w_skip ?_)
    refine w_reg 19 rfl rfl (j' := 19) ?_
    refine n_op .no (q := 0) rfl (s_mv rfl ?_)
    refine n_op .no (q := 1) rfl (s_bin rfl rfl rfl ?_)
    refine n_op .no (q := 2) rfl (s_mv rfl ?_)
    refine n_op (.yes rfl rfl (rfl)) (q := 3) rfl (s_mv rfl ?_)
    refine n_op (.yes rfl rfl (rfl)) (q := 4) rfl (s_not rfl ?_)
    refine n_op .no (q := 5) rfl (s_pf rfl (rfl) rfl ?_)
    refine n_op .no (q := 6) rfl (s_mv rfl ?_)
    first | refine n_op (.yes rfl rfl (rfl)) (q := 7) rfl (s_fa0 rfl fo_28_1 ?_) | refine n_op (.yes rfl rfl (rfl)) (q := 7) rfl (s_fa rfl fo_28_1 ?_)
    refine n_op (.yes rfl rfl (rfl)) (q := 8) rfl (s_ld rfl (by repeat (first | exact gs_same _ _ _ | exact c7 | refine (gs_ne (by omega) _).trans ?_)) ag_2 (by first | exact rfl | exact c7) ?_)
    refine n_op (.yes rfl rfl (rfl)) (q := 9) rfl (s_mv rfl ?_)
    refine n_op (.yes rfl rfl (rfl)) (q := 10) rfl (s_bin rfl rfl rfl ?_)
    refine n_op .no (q := 11) rfl (s_pf rfl (rfl) rfl ?_)
    refine n_op .no (q := 12) rfl (s_mv rfl ?_)
    first | refine n_op (.yes rfl rfl ((by simp))) (q := 13) rfl (s_fa0 rfl fo_28_2 ?_) | refine n_op (.yes rfl rfl ((by simp))) (q := 13) rfl (s_fa rfl fo_28_2 ?_)
    refine n_op (.yes rfl rfl ((by simp))) (q := 14) rfl (s_ld rfl (by repeat (first | exact gs_same _ _ _ | exact c7 | refine (gs_ne (by omega) _).trans ?_)) ag_26 (by first | exact rfl | exact c7) ?_)
    refine n_op (.yes rfl rfl ((by simp))) (q := 15) rfl (s_mv rfl ?_)
    refine n_call (.yes rfl rfl ((by simp))) rfl rfl rfl ?_
    refine C.use (bytes_c hv7.at v7) fun v g8 n8 hw8 hn8 hq => ?_
    obtain ⟨rfl, k8⟩ := hq
    refine n_op (.yes rfl rfl ((by simp))) (q := 17) rfl (s_not rfl ?_)
    refine n_op .no (q := 18) rfl (s_pf rfl ((by simp)) rfl ?_)
    refine n_nil ?_
    repeat (first | refine w_seq ?_ | refine w_blk ?_ | refine z_seq ?_ | refine z_blk ?_ | refine w_skip ?_)
    refine w_no rfl (by simp) ?_
    have k8' := k8.dn (m := n7) (by omega)
    have hS8 := hS7.kp0 k8' hwg7
    have w8 : K0 g1 n1 g8 := w7.trans0 k8' (by omega)
    have hi6 := hi5.read
    have t6 : ({ S5 with reads := S5.reads + 1 } : Sto).now = [(k, ⟨k, S.rev + 1, v⟩)] := t3
    generalize ({ S5 with reads := S5.reads + 1 } : Sto) = S6 at *
    clear k8 k8' hS7 w7 hv7 v7 c7
    repeat (first | refine w_seq ?_ | refine w_blk ?_ | refine z_seq ?_ | refine z_blk ?_ | refine w_skip ?_)
    refine w_reg 16 rfl rfl (j' := 16) ?_
    refine n_op .no (q := 0) rfl (s_mv rfl ?_)
    refine n_op .no (q := 1) rfl (s_mv rfl ?_)
    refine n_op .no (q := 2) rfl (s_mv rfl ?_)
    refine n_op .no (q := 3) rfl (s_bin rfl rfl (r := .int .i64 (S.rev + 1 + 1)) (by first | exact bi_add (by omega) (by omega) (by omega) | exact bi_sub (by omega) (by omega) (by omega) | exact bi_add rfl (by omega) (by omega) | exact bi_sub rfl (by omega) (by omega)) ?_)
    refine n_op .no (q := 4) rfl (s_bld pl_36 zl_36 rfl rfl rfl ?_)
    refine n_op .no (q := 5) rfl (s_bs el_37 ez_37 rfl rfl rfl ?_)
    refine n_op .no (q := 6) rfl (s_mv rfl ?_)
    refine n_op .no (q := 7) rfl (s_bld pl_39 zl_39 rfl rfl rfl ?_)
    refine n_op .no (q := 8) rfl (s_bs el_40 ez_40 rfl rfl rfl ?_)
    refine n_op .no (q := 9) rfl (s_bld pl_42 zl_42 rfl rfl rfl ?_)
    refine n_call .no rfl rfl rfl ?_
    refine C.use (st_txn_i (hS8.kp0 (n := n8) (by repeat (first | exact Kp.refl _ _ _ | refine Kp.new ?_ (by omega) _)) hw8) hi6 (by omega) (by omega) (gds_one (x := ⟨k, S.rev + 1 + 1, false⟩) ((gs_ne (by omega) _).trans (gs_same _ _ _))) (wrs_one (x := ⟨k, [], true⟩) (a := none) (p := 0) (gs_same _ _ _) (SlC.nil _ _))) fun v g9 n9 hw9 hn9 hq => ?_
    obtain ⟨sl9, hu, hS9, hM9, k9⟩ := hq
    have hi9 := hi6.txn (gs := [⟨k, S.rev + 1 + 1, false⟩]) (ws := [⟨k, [], true⟩])
    have e9 := gone_c2 t6 hk (by omega)
    rw [Sto.txn_no (by rw [e9]; decide), e9] at hu hS9
    rw [Sto.txn_no (by rw [e9]; decide)] at hi9
    subst hu
    refine n_op .no (q := 11) rfl (s_mv rfl ?_)
    refine n_op .no (q := 12) rfl (s_ext rfl rfl ?_)
    refine n_op .no (q := 13) rfl (s_ext rfl rfl ?_)
    refine n_op .no (q := 14) rfl (s_as rfl ?_)
    refine n_op .no (q := 15) rfl (s_as rfl ?_)
    refine n_nil ?_
    repeat (first | refine w_seq ?_ | refine w_blk ?_ | refine z_seq ?_ | refine z_blk ?_ | refine w_skip ?_)
    refine w_reg 2 rfl rfl (j' := 2) ?_
    refine n_op .no (q := 0) rfl (s_mv rfl ?_)
    refine n_op .no (q := 1) rfl (s_bin rfl rfl rfl ?_)
    refine n_nil ?_
    repeat (first | refine w_seq ?_ | refine w_blk ?_ | refine z_seq ?_ | refine z_blk ?_ | refine w_skip ?_)
    refine w_no rfl (rfl) ?_
    have k9' : Kp (FS s m1 m2 l sl5) g8 n8 g9 := (Kp.z (by exact (by repeat (first | exact Kp.refl _ _ _ | refine Kp.new ?_ (by omega) _)))).tr' k9 (by omega)
    have w9 : K0 g1 n1 g9 := w8.trans0 (hS8.low hq (Nat.le_refl _) (by omega) k9') (Nat.le_refl _)
    have t9 : ({ S6 with writes := S6.writes + 1 } : Sto).now = [(k, ⟨k, S.rev + 1, v⟩)] := t6
    simp only at hS9 hi9
    generalize ({ S6 with writes := S6.writes + 1 } : Sto) = S9 at *
    clear k9 k9' hM9 hS8 w8
    repeat (first | refine w_seq ?_ | refine w_blk ?_ | refine z_seq ?_ | refine z_blk ?_ | refine w_skip ?_)
    refine w_reg 15 rfl rfl (j' := 17) ?_
    refine n_op .no (q := 2) rfl (s_mv rfl ?_)
    refine n_op .no (q := 3) rfl (s_mv rfl ?_)
    refine n_op .no (q := 4) rfl (s_mv rfl ?_)
    refine n_op .no (q := 5) rfl (s_bld pl_36 zl_36 rfl rfl rfl ?_)
    refine n_op .no (q := 6) rfl (s_bs el_37 ez_37 rfl rfl rfl ?_)
    refine n_op .no (q := 7) rfl (s_mv rfl ?_)
    refine n_op .no (q := 8) rfl (s_bld pl_39 zl_39 rfl rfl rfl ?_)
    refine n_op .no (q := 9) rfl (s_bs el_40 ez_40 rfl rfl rfl ?_)
    refine n_op .no (q := 10) rfl (s_bld pl_42 zl_42 rfl rfl rfl ?_)
    refine n_call .no rfl rfl rfl ?_
    refine C.use (st_txn_i (hS9.kp0 (n := n9) (by repeat (first | exact Kp.refl _ _ _ | refine Kp.new ?_ (by omega) _)) hw9) hi9 (by omega) (by omega) (gds_one (x := ⟨k, S.rev + 1, false⟩) ((gs_ne (by omega) _).trans (gs_same _ _ _))) (wrs_one (x := ⟨k, [], true⟩) (a := none) (p := 0) (gs_same _ _ _) (SlC.nil _ _))) fun v g10 n10 hw10 hn10 hq => ?_
    obtain ⟨sl10, hu, hS10, hM10, k10⟩ := hq
    obtain ⟨r1, r2, r3, r4, r5⟩ := Sto.txn_one (gone_c3 t9 hk (by omega))
    have hi10 := hi9.txn (gs := [⟨k, S.rev + 1, false⟩]) (ws := [⟨k, [], true⟩])
    rw [r1] at hu
    subst hu
    refine n_op .no (q := 12) rfl (s_mv rfl ?_)
    refine n_op .no (q := 13) rfl (s_ext rfl rfl ?_)
    refine n_op .no (q := 14) rfl (s_ext rfl rfl ?_)
    refine n_op .no (q := 15) rfl (s_as rfl ?_)
    refine n_op .no (q := 16) rfl (s_as rfl ?_)
    refine n_nil ?_
    repeat (first | refine w_seq ?_ | refine w_blk ?_ | refine z_seq ?_ | refine z_blk ?_ | refine w_skip ?_)
    refine w_reg 2 rfl rfl (j' := 2) ?_
    refine n_op .no (q := 0) rfl (s_mv rfl ?_)
    refine n_op .no (q := 1) rfl (s_bin rfl rfl rfl ?_)
    refine n_nil ?_
    repeat (first | refine w_seq ?_ | refine w_blk ?_ | refine z_seq ?_ | refine z_blk ?_ | refine w_skip ?_)
    refine w_no rfl (rfl) ?_
    have k10' : Kp (FS s m1 m2 l sl9) g9 n9 g10 := (Kp.z (by exact (by repeat (first | exact Kp.refl _ _ _ | refine Kp.new ?_ (by omega) _)))).tr' k10 (by omega)
    have w10 : K0 g1 n1 g10 := w9.trans0 (hS9.low hq (Nat.le_refl _) (by omega) k10') (Nat.le_refl _)
    generalize (S9.txn [⟨k, S.rev + 1, false⟩] [⟨k, [], true⟩]).1 = S10 at *
    have t10 : S10.now = [] := by rw [r3, t9]; simp [delK]
    clear k10 k10' hM10 hS9 w9
    have sn10 := hw10 _ _ hS10.cell
    repeat (first | refine w_seq ?_ | refine w_blk ?_ | refine z_seq ?_ | refine z_blk ?_ | refine w_skip ?_)
    refine w_reg 9 rfl rfl (j' := 11) ?_
    refine n_op .no (q := 2) rfl (s_mv rfl ?_)
    refine n_op .no (q := 3) rfl (s_mv rfl ?_)
    refine n_call .no rfl rfl rfl ?_
    refine C.useG (st_get_i (k := k) hS10 hi10 (by omega)) fun v g11 n11 hw11 hn11 hx11 hq => ?_
    obtain ⟨c11, e11, ok11, rfl, hE11, hf11, hS11, k11⟩ := hq
    have hf2 : findK k S10.now = none := by rw [t10]; rfl
    obtain ⟨rfl, rfl⟩ : e11 = SEnt.zero ∧ ok11 = false := by
      rcases hf11 with ⟨x, y⟩ | ⟨_, x, y⟩
      · rw [hf2] at x; cases x
      · exact ⟨x, y⟩
    obtain ⟨a11, p11, rfl, _, _⟩ := hE11
    refine n_op .no (q := 5) rfl (s_mv rfl ?_)
    refine n_op .no (q := 6) rfl (s_ext rfl rfl ?_)
    refine n_op .no (q := 7) rfl (s_ext rfl rfl ?_)
    refine n_op .no (q := 8) rfl (s_al zl_28 ?_)
    refine n_op .no (q := 9) rfl (s_stw rfl rfl sz_28 rfl (by repeat (first | exact gs_same _ _ _ | refine (gs_ne (by omega) _).trans ?_)) (by exact rfl) rfl ?_)
    refine n_op .no (q := 10) rfl (s_as rfl ?_)
    refine n_nil ?_
    repeat (first | refine w_seq ?_ | refine w_blk ?_ | refine z_seq ?_ | refine z_blk ?_ | refine w_skip ?_)
    refine w_gen fun g12 n12 hg12 hn12 hwg12 => ?_
    have z11 : g11 (n10 + 8) = none := hx11 _ (by omega) (hw10.none (by omega))
    have k12 : K0 g11 n11 g12 := by rw [hg12]; exact Kp.add (Kp.add (Kp.refl _ _ _) z11 _) z11 _
    clear hg12 hf11
    have k112 : Kp (FC s) g10 n10 g12 := (k11.dn (m := n10) (by omega)).trans0 k12 (by omega)
    have w12 : K0 g1 n1 g12 := w10.trans0 (StAt.lowC hq.1 (by omega) k112) (Nat.le_refl _)
    have hS12 := hS11.kp0 k12 hw11
    have hi12 := hi10.read
    have t12 : ({ S10 with reads := S10.reads + 1 } : Sto).now = [] := t10
    generalize ({ S10 with reads := S10.reads + 1 } : Sto) = S12 at *
    clear k11 k12 k112 hS11 hS10 w10
    repeat (first | refine w_seq ?_ | refine w_blk ?_ | refine z_seq ?_ | refine z_blk ?_ | refine w_skip ?_)
    refine w_reg 1 rfl rfl (j' := 1) ?_
    refine n_op .no (q := 0) rfl (s_mv rfl ?_)
    refine n_nil ?_
    repeat (first | refine w_seq ?_ | refine w_blk ?_ | refine z_seq ?_ | refine z_blk ?_ | refine w_skip ?_)
    refine w_no rfl (rfl) ?_
    repeat (first | refine w_seq ?_ | refine w_blk ?_ | refine z_seq ?_ | refine z_blk ?_ | refine w_skip ?_)
    refine w_reg 11 rfl rfl (j' := 12) ?_
    refine n_op .no (q := 1) rfl (s_mv rfl ?_)
    refine n_op .no (q := 2) rfl (s_mv rfl ?_)
    refine n_op .no (q := 3) rfl (s_bld pl_39 zl_39 rfl rfl rfl ?_)
    refine n_op .no (q := 4) rfl (s_bs el_40 ez_40 rfl rfl rfl ?_)
    refine n_op .no (q := 5) rfl (s_bld pl_42 zl_42 rfl rfl rfl ?_)
    refine n_call .no rfl rfl rfl ?_
    refine C.use (st_txn_i (hS12.kp0 (n := n12) (by repeat (first | exact Kp.refl _ _ _ | refine Kp.new ?_ (by omega) _)) hwg12) hi12 (by omega) (by omega) (GdsRd.nil _) (wrs_one (x := ⟨k, [], true⟩) (a := none) (p := 0) (gs_same _ _ _) (SlC.nil _ _))) fun v g13 n13 hw13 hn13 hq => ?_
    obtain ⟨sl13, hu, hS13, hM13, k13⟩ := hq
    have hi13 := hi12.txn (gs := []) (ws := [⟨k, [], true⟩])
    have e13 := gone_c4 t12 hk
    rw [Sto.txn_no (by rw [e13]; decide), e13] at hu hS13
    rw [Sto.txn_no (by rw [e13]; decide)] at hi13
    subst hu
    refine n_op .no (q := 7) rfl (s_mv rfl ?_)
    refine n_op .no (q := 8) rfl (s_ext rfl rfl ?_)
    refine n_op .no (q := 9) rfl (s_ext rfl rfl ?_)
    refine n_op .no (q := 10) rfl (s_as rfl ?_)
    refine n_op .no (q := 11) rfl (s_as rfl ?_)
    refine n_nil ?_
    repeat (first | refine w_seq ?_ | refine w_blk ?_ | refine z_seq ?_ | refine z_blk ?_ | refine w_skip ?_)
    refine w_reg 2 rfl rfl (j' := 2) ?_
    refine n_op .no (q := 0) rfl (s_mv rfl ?_)
    refine n_op .no (q := 1) rfl (s_bin rfl rfl rfl ?_)
    refine n_nil ?_
    repeat (first | refine w_seq ?_ | refine w_blk ?_ | refine z_seq ?_ | refine z_blk ?_ | refine w_skip ?_)
    refine w_no rfl (rfl) ?_
    have k13' : Kp (FS s m1 m2 l sl10) g12 n12 g13 := (Kp.z (by exact (by repeat (first | exact Kp.refl _ _ _ | refine Kp.new ?_ (by omega) _)))).tr' k13 (by omega)
    have w13 : K0 g1 n1 g13 := w12.trans0 (hS12.low hq (Nat.le_refl _) (by omega) k13') (Nat.le_refl _)
    repeat (first | refine w_seq ?_ | refine w_blk ?_ | refine z_seq ?_ | refine z_blk ?_ | refine w_skip ?_)
    repeat (first | refine w_seq ?_ | refine w_blk ?_ | refine z_seq ?_ | refine z_blk ?_ | refine w_skip ?_)
    refine w_reg 3 rfl rfl (j' := 5) ?_
    refine n_op .no (q := 2) rfl (s_mv rfl ?_)
    first | refine n_op .no (q := 3) rfl (s_bin rfl rfl (bi_inc (by omega)) ?_) | refine n_op .no (q := 3) rfl (s_bin rfl rfl (bi_add rfl (by omega) (by omega)) ?_)
    refine n_op .no (q := 4) rfl (s_as rfl ?_)
    refine n_nil ?_
    exact z_round (i + 1) ⟨rfl, rfl, rfl, rfl, trivial⟩ ⟨hlt.1, hlt.2, ⟨by omega, w13, sl13, _, hS13, t12, hi13.up (by omega)⟩⟩ (by omega)
  · by_cases hlt1 : i < xs.length
    · repeat (first | refine w_seq ?_ | refine w_blk ?_ | refine z_seq ?_ | refine z_blk ?_ | refine w_skip ?_)
      refine w_reg 8 rfl rfl (j' := 8) ?_
      refine n_op .no (q := 0) rfl (s_mv rfl ?_)
      refine n_op .no (q := 1) rfl (s_mv rfl ?_)
      refine n_op .no (q := 2) rfl (s_len rfl rfl un_56 rfl ?_)
      refine n_op .no (q := 3) rfl (s_bin rfl rfl rfl ?_)
      refine n_op .no (q := 4) rfl (s_mv rfl ?_)
      refine n_op (.yes rfl rfl (decide_eq_true (by omega))) (q := 5) rfl (s_mv rfl ?_)
      refine n_op (.yes rfl rfl (decide_eq_true (by omega))) (q := 6) rfl (s_bin rfl rfl rfl ?_)
      refine n_op .no (q := 7) rfl (s_pt rfl (decide_eq_true (by omega)) rfl ?_)
      refine n_nil ?_
      repeat (first | refine w_seq ?_ | refine w_blk ?_ | refine z_seq ?_ | refine z_blk ?_ | refine w_skip ?_)
      refine w_no rfl (decide_eq_false (by omega)) ?_
      refine w_exit rfl ?_
      repeat (first | refine w_seq ?_ | refine w_blk ?_ | refine z_seq ?_ | refine z_blk ?_ | refine w_skip ?_)
      refine w_reg 5 rfl rfl (j' := 13) ?_
      refine n_op .no (q := 8) rfl (s_mv rfl ?_)
      refine n_call .no rfl rfl rfl ?_
      refine C.use (st_list_i hS hinv (by omega)) fun v g3 n3 hw3 hn3 hq => ?_
      obtain ⟨hE, _, _⟩ := hq
      have hl : S.list = [] := by rw [Sto.list, hnow]; simp [sortK]
      rw [hl] at hE
      obtain ⟨ae, ce, rfl⟩ := hE.len
      refine n_op .no (q := 10) rfl (s_len rfl rfl un_48 rfl ?_)
      refine n_op .no (q := 11) rfl (s_bin rfl rfl rfl ?_)
      refine n_op .no (q := 12) rfl (s_as rfl ?_)
      refine n_nil ?_
      repeat (first | refine w_ret ?_ | refine w_seq ?_ | refine w_blk ?_ | refine z_seq ?_ | refine z_blk ?_ | refine w_skip ?_)
      refine z_r1 rfl rfl ?_
      rfl
    · repeat (first | refine w_seq ?_ | refine w_blk ?_ | refine z_seq ?_ | refine z_blk ?_ | refine w_skip ?_)
      refine w_reg 8 rfl rfl (j' := 8) ?_
      refine n_op .no (q := 0) rfl (s_mv rfl ?_)
      refine n_op .no (q := 1) rfl (s_mv rfl ?_)
      refine n_op .no (q := 2) rfl (s_len rfl rfl un_56 rfl ?_)
      refine n_op .no (q := 3) rfl (s_bin rfl rfl rfl ?_)
      refine n_op .no (q := 4) rfl (s_mv rfl ?_)
      refine n_sk rfl rfl (decide_eq_false (by omega)) ?_
      refine n_sk rfl rfl (decide_eq_false (by omega)) ?_
      refine n_op .no (q := 7) rfl (s_pf rfl (decide_eq_false (by omega)) rfl ?_)
      refine n_nil ?_
      repeat (first | refine w_seq ?_ | refine w_blk ?_ | refine z_seq ?_ | refine z_blk ?_ | refine w_skip ?_)
      refine w_no rfl (rfl) ?_
      refine w_exit rfl ?_
      repeat (first | refine w_seq ?_ | refine w_blk ?_ | refine z_seq ?_ | refine z_blk ?_ | refine w_skip ?_)
      refine w_reg 5 rfl rfl (j' := 13) ?_
      refine n_op .no (q := 8) rfl (s_mv rfl ?_)
      refine n_call .no rfl rfl rfl ?_
      refine C.use (st_list_i hS hinv (by omega)) fun v g3 n3 hw3 hn3 hq => ?_
      obtain ⟨hE, _, _⟩ := hq
      have hl : S.list = [] := by rw [Sto.list, hnow]; simp [sortK]
      rw [hl] at hE
      obtain ⟨ae, ce, rfl⟩ := hE.len
      refine n_op .no (q := 10) rfl (s_len rfl rfl un_48 rfl ?_)
      refine n_op .no (q := 11) rfl (s_bin rfl rfl rfl ?_)
      refine n_op .no (q := 12) rfl (s_as rfl ?_)
      refine n_nil ?_
      repeat (first | refine w_ret ?_ | refine w_seq ?_ | refine w_blk ?_ | refine z_seq ?_ | refine z_blk ?_ | refine w_skip ?_)
      refine z_r1 rfl rfl ?_
      rfl

end Go.Proofs.YtehmailaabjdjaaGreat
