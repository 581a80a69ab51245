/-
  ReplyTwice answers true. No condition but that begun does.
-/
import Derived.Test.YtehmailaabjdjaaGreatRpB
open Go.Proofs
namespace Go.Proofs.YtehmailaabjdjaaGreat
set_option linter.unusedSimpArgs false
set_option linter.unusedVariables false
set_option maxRecDepth 100000

def twG (k : Bs) (r : Int) : Gd := ⟨k, r, false⟩
def twW (k : Bs) : Wr := ⟨k, [110, 101, 119], false⟩
def twC (f : Int) (k : Bs) (r : Int) : Cal := ⟨f, 5, 4, [], 0, [twG k r], [twW k]⟩
theorem tw_may {f : Int} {k : Bs} {r : Int} (h1 : 0 ≤ f ∧ f ≤ 7) (hk : keyOk k) (hr : 0 ≤ r ∧ r ≤ 1099511627776) : (twC f k r).may := by
 refine (may_flat _).2 ⟨⟨h1.1, h1.2, by show (1 : Int) ≤ 5; decide, by show (5 : Int) ≤ _; decide⟩, ⟨by show (1 : Int) ≤ 4; decide, by show (4 : Int) ≤ 4; decide⟩, fun e => absurd rfl e, fun _ => rfl, fun _ => rfl, (fun e => absurd (show (4 : Int) = 1 from e) (by decide)), ⟨by show (0 : Int) ≤ 0; decide, by show (0 : Int) ≤ _; decide⟩, by show 1 ≤ 20; decide, by show 1 ≤ 64; decide, fun x hx => ?_, fun x hx => ?_⟩
 ·obtain rfl := List.mem_singleton.1 hx
  exact ⟨hk, hr⟩
 ·obtain rfl := List.mem_singleton.1 hx
  exact ⟨hk, by show 3 ≤ 4000; decide⟩
theorem tw_tmay {k : Bs} {r : Int} (hk : keyOk k) (hr : 0 ≤ r) : txnMay [twG k r] [twW k] :=
 Sto.may_one (by simp) (fun x hx => by obtain rfl := List.mem_singleton.1 hx; exact ⟨hk, hr⟩) ⟨hk, (fun q => by cases q.1), by show 3 ≤ 4000; decide⟩
theorem tw_one {S : Sto} {k : Bs} {e : SEnt} {N : Nat} (hi : S.Inv N) (hk : keyOk k) (hf : findK k S.now = some e ∨ findK k S.now = none ∧ e = SEnt.zero) : S.can [twG k e.rev] [twW k] = 0 ∧ 0 ≤ e.rev ∧ e.rev ≤ S.rev := by
 have hr : 0 ≤ e.rev ∧ e.rev ≤ S.rev := by
  rcases hf with h | ⟨_, rfl⟩
  ·have : ∀ {r : List (Bs × SEnt)}, findK k r = some e → ∃ q, (q, e) ∈ r := by
    intro r
    induction r with
    | nil => intro h; cases h
    | cons x r ih =>
     intro h
     unfold findK at h
     split at h
     ·cases h; exact ⟨_, List.mem_cons_self ..⟩
     ·obtain ⟨q, hq⟩ := ih h
      exact ⟨q, List.mem_cons_of_mem _ hq⟩
   obtain ⟨q, hq⟩ := this h
   obtain ⟨_, _, c, d⟩ := hi.now _ hq
   simp only at c d
   omega
  ·have := hi.rev
   exact ⟨by decide, this.1⟩
 refine ⟨can_ok (tw_tmay hk hr.1) (fun x hx => ?_) (fun w hw => ?_), hr⟩
 ·obtain rfl := List.mem_singleton.1 hx
  unfold Sto.holds
  rw [if_neg (show ¬ (twG k e.rev).under = true from fun q => Bool.noConfusion q)]
  show ((findK k S.now).map SEnt.rev).getD 0 = e.rev
  rcases hf with h | ⟨h, rfl⟩
  ·rw [h]; rfl
  ·rw [h]; rfl
 ·obtain rfl := List.mem_singleton.1 hw
  intro e; cases e
theorem tw_two {S : Sto} {k : Bs} {r : Int} (hk : keyOk k) (h0 : S.can [twG k r] [twW k] = 0) (hr : 0 ≤ r ∧ r ≤ S.rev) : (S.txn [twG k r] [twW k]).1.can [twG k r] [twW k] = 6 := by
 obtain ⟨_, _, e3, _, _⟩ := Sto.txn_one h0
 refine can_guard (tw_tmay hk hr.1) ⟨_, List.mem_singleton.2 rfl, fun h => ?_⟩
 unfold Sto.holds at h
 rw [if_neg (show ¬ (twG k r).under = true from fun q => Bool.noConfusion q)] at h
 have h : ((findK k (S.txn [twG k r] [twW k]).1.now).map SEnt.rev).getD 0 = r := h
 rw [e3] at h
 have h : ((findK k (setK k ⟨k, S.rev + 1, [110, 101, 119]⟩ S.now)).map SEnt.rev).getD 0 = r := h
 rw [findK_set, if_pos rfl] at h
 have h : S.rev + 1 = r := h
 omega

theorem replyTwice_c (hB : BegunOk) {g : Gm} {n : Nat} {v : Value} {kk : Bs} {z : Int} {xs : List SOp} (h : SopsRd g v xs) : C 13 #[v, .string (str kk), .int .i64 z] g n fun u g' n' => u = .bool true := by
 obtain ⟨a, c, rfl⟩ := h.len
 refine c_in3 Tryz.func13 rfl Tryz.ntmps13 rfl fun hw => (Na (w_reg 1 rfl rfl (j' := 1) (nA rfl (n_nil (Nc (Na (w_reg 2 rfl rfl (j' := 3) (n_call .no rfl rfl rfl (C.use (hB _ _) fun v g1 n1 hw1 hn1 hq => ?_)))))))))
 obtain ⟨rfl, rfl⟩ := hq
 refine nA rfl (n_nil (Nc (Na (Na (w_reg 2 rfl rfl (j' := 2) (nM rfl (nO (s_not rfl (n_nil (Nc (w_no rfl (rfl) ?_)))))))))))
 have h1 : SopsRd g1 (.slice a xs.length c) xs := h
 have hsz : (str kk).size = kk.length := str_size kk
 refine Ne (Nc (Na (w_reg 7 rfl rfl (j' := 9) (nM rfl (nM rfl (nO (s_len rfl rfl un_9 rfl (nO (s_min rfl rfl (c := ((min kk.length 9 : Nat) : Int)) (by omega) (n_op .no (q := 6) rfl (s_hiS rfl rfl (Nat.min_le_left _ _) ?_)))))))))))
 have hct : ([107] : Bs).length + (kk.take (min kk.length 9)).length ≤ 9223372036854775807 := by rw [List.length_take]; simp only [List.length_cons, List.length_nil]; omega
 refine nO (s_bin rfl rfl (bi_cat (hct)) ?_)
 refine nA rfl (n_nil ?_)
 have hk : keyOk ([107] ++ kk.take (min kk.length 9)) := by
  simp only [keyOk, List.length_append, List.length_take, List.length_cons, List.length_nil]; omega
 generalize ([107] ++ kk.take (min kk.length 9) : Bs) = k at *
 refine Nc (Na (w_reg 2 rfl rfl (j' := 11) (n_call .no rfl rfl rfl (C.use (st_newB _ _) fun v g2 n2 hw2 hn2 hq => ?_))))
 obtain ⟨s, m1, m2, l, rfl, hS2, hb2, k2⟩ := hq
 refine nA rfl (n_nil ?_)
 have hq : n1 ≤ s ∧ n1 ≤ m1 ∧ n1 ≤ m2 ∧ n1 ≤ l := by omega
 have k2' : K0 g1 n1 g2 := k2.dn (m := n1) (by omega)
 have hS2 := hS2.up (b' := n1) (by omega)
 refine Nc (Na (Na (w_reg 1 rfl rfl (j' := 1) (nA rfl (n_nil ?_)))))
 refine z_seq ?_
 refine z_meet (β := Unit) (fun _ => [(1, .string (str k)), (2, .int .i64 z), (8, .pointer (some ⟨s, 0, none⟩))])
  (fun _ g' n' => n1 ≤ n' ∧ ∃ S sl, S.Inv 10 ∧ StAt n1 g' s m1 m2 l sl S) ?_ ?_
 ·repeat first | refine Na ?_ | refine Nb ?_ | refine Nc ?_ | refine Nd ?_ | refine Ne ?_
  refine w_loop (β := Nat) (fun i => [(0, .slice a xs.length c), (1, .string (str k)), (2, .int .i64 z), (8, .pointer (some ⟨s, 0, none⟩)), (9, .int .i64 (i : Int))])
   (fun i g' n' => i ≤ xs.length ∧ i ≤ 10 ∧ n1 ≤ n' ∧ K0 g1 n1 g' ∧ ∃ S sl, S.Inv i ∧ StAt n1 g' s m1 m2 l sl S) (fun i => 10 - i) 0 ⟨rfl, rfl, rfl, rfl, rfl, trivial⟩
   ⟨by simp, by simp, by omega, k2', _, _, Sto.Inv.new, hS2⟩ ?_
  rintro i f gL nL hwL ⟨hi, hi10, hnL, wL, S, sl, hinv, hS⟩
  by_cases e1 : i < xs.length
  rotate_left
  ·repeat first | refine Na ?_ | refine Nb ?_ | refine Nc ?_ | refine Nd ?_ | refine Ne ?_
   refine w_reg 8 rfl rfl (j' := 8) (nM rfl (nM rfl (nO (s_len rfl rfl un_44 rfl (nO (s_bin rfl rfl rfl (nM rfl (n_sk rfl rfl (decide_eq_false (by omega)) (n_sk rfl rfl (decide_eq_false (by omega)) (nO (s_pf rfl (decide_eq_false (by omega)) rfl (n_nil (Nc (w_no rfl (rfl) ?_))))))))))))))
   refine w_exit rfl ?_
   exact z_met () ⟨rfl, rfl, rfl, trivial⟩ ⟨by omega, _, _, hinv.up (by omega), hS⟩
  by_cases e2 : i < 10
  rotate_left
  ·repeat first | refine Na ?_ | refine Nb ?_ | refine Nc ?_ | refine Nd ?_ | refine Ne ?_
   refine w_reg 8 rfl rfl (j' := 8) (nM rfl (nM rfl (nO (s_len rfl rfl un_44 rfl (nO (s_bin rfl rfl rfl (nM rfl (nG rfl rfl (decide_eq_true (by omega)) rfl (nY rfl rfl (decide_eq_true (by omega)) (s_bin rfl rfl rfl (nO (s_pt rfl (decide_eq_true (by omega)) rfl (n_nil (Nc (w_no rfl (decide_eq_false (by omega)) ?_)))))))))))))))
   refine w_exit rfl ?_
   exact z_met () ⟨rfl, rfl, rfl, trivial⟩ ⟨by omega, _, _, hinv.up (by omega), hS⟩
  repeat first | refine Na ?_ | refine Nb ?_ | refine Nc ?_ | refine Nd ?_ | refine Ne ?_
  refine w_reg 8 rfl rfl (j' := 8) (nM rfl (nM rfl (nO (s_len rfl rfl un_44 rfl (nO (s_bin rfl rfl rfl (nM rfl (nG rfl rfl (decide_eq_true (by omega)) rfl (nY rfl rfl (decide_eq_true (by omega)) (s_bin rfl rfl rfl (nO (s_pt rfl (decide_eq_true (by omega)) rfl (n_nil (Nc (w_yes rfl (decide_eq_true (by omega)) ?_)))))))))))))))
  obtain ⟨l3, o3, c3, cl3, ro3, gv3, wv3, x1, x2, x3, x4, x5, x6, x7, x8⟩ := (h1.kp0 wL hw1).at e1
  cases x1
  generalize xs[i] = op at *
  refine Ne (Nc (Na (Nb (w_reg 8 rfl rfl (j' := 16) (nM rfl (nM rfl (nM rfl (nO (s_ia rfl rfl el_44 (by first | assumption | omega) (nO (s_fa rfl fo_47_1 (nO (sLa rfl ag_42 sz_42 ?_)))))))))))))
  refine n_call .no rfl rfl rfl (C.use (cut_c x7 x8) fun v g4 n4 hw4 hn4 hq => ?_)
  obtain ⟨v4, w4, rfl, hg4, hw4', k4⟩ := hq
  have k4' := k4.dn (m := nL) (by omega)
  refine n_call .no rfl rfl rfl (C.use (st_txn_i (hS.kp0 k4' hwL) hinv (by omega) (by omega) hg4 hw4') fun v g5 n5 hw5 hn5 hq => ?_)
  obtain ⟨sl5, hu5, hS5, hM5, k5⟩ := hq
  have k45 : Kp (FS s m1 m2 l sl) gL nL g5 := (Kp.z k4').tr' k5 (by omega)
  have w5 : K0 g1 n1 g5 := wL.trans0 (hS.low hq (Nat.le_refl _) (by omega) k45) (Nat.le_refl _)
  refine n_nil ?_
  repeat first | refine Na ?_ | refine Nb ?_ | refine Nc ?_ | refine Nd ?_ | refine Ne ?_
  repeat first | refine Na ?_ | refine Nb ?_ | refine Nc ?_ | refine Nd ?_ | refine Ne ?_
  refine w_reg 3 rfl rfl (j' := 3) (nM rfl (nO (s_bin rfl rfl (by first | exact bi_inc (by omega) | exact bi_add rfl (by omega) (by omega)) ?_)))
  refine nA rfl (n_nil ?_)
  exact z_round (i + 1) ⟨rfl, rfl, rfl, rfl, rfl, trivial⟩ ⟨e1, e2, by omega, w5, _, _, hinv.txn, hS5⟩ (by omega)
 rintro _ f g6 n6 hw6 ⟨hn6, S, sl, hinv, hS⟩
 repeat first | refine Na ?_ | refine Nb ?_ | refine Nc ?_ | refine Nd ?_ | refine Ne ?_
 refine w_reg 9 rfl rfl (j' := 9) (nM rfl (nM rfl (n_call .no rfl rfl rfl (C.useG (st_get_i (k := k) hS hinv (by omega)) fun v g7 n7 hw7 hn7 hx7 hq => ?_))))
 obtain ⟨c7, e7, ok7, rfl, hE7, hf7, hS7, k7⟩ := hq
 obtain ⟨a7, p7, rfl, hB7, hl7⟩ := hE7
 have hf : findK k ({ S with reads := S.reads + 1 } : Sto).now = some e7 ∨ findK k ({ S with reads := S.reads + 1 } : Sto).now = none ∧ e7 = SEnt.zero := by
  rcases hf7 with ⟨x, _⟩ | ⟨x, y, _⟩
  ·exact .inl x
  ·exact .inr ⟨x, y⟩
 have hinv7 := hinv.read
 obtain ⟨hcan, hr0, hr1⟩ := tw_one hinv7 hk hf
 have hal7 : s < n7 ∧ l < n7 := ⟨hw7 _ _ hS7.cell, hw7 _ _ hS7.log.cell⟩
 have hrv := hinv7.rev
 generalize ({ S with reads := S.reads + 1 } : Sto) = S1 at *
 refine nM rfl (nO (s_ext rfl rfl (nO (s_ext rfl rfl (n_op .no (q := 6) rfl (s_al zl_28 (nO (sSw rfl rfl sz_28 rfl rfl ?_))))))))
 refine nA rfl (n_nil ?_)
 have u1 := tmod_lt (a := z) (b := 8) (by omega)
 have u2 := tmod_nn (a := z.tmod 8 + 8) (b := 8) (by omega) (by omega)
 have u3 := tmod_lt (a := z.tmod 8 + 8) (b := 8) (by omega)
 refine Nc (Na (w_reg 18 rfl rfl (j' := 18) (nM rfl (nO (s_bin rfl rfl (r := .int .i64 (z.tmod 8)) (bi_rem (by omega) (by first | rfl | assumption | omega)) (nO (s_bin rfl rfl (r := .int .i64 (z.tmod 8 + 8)) (by first | exact bi_add (by omega) (by omega) (by omega) | exact bi_add rfl (by omega) (by omega)) ?_)))))))
 refine nO (s_bin rfl rfl (r := .int .i64 ((z.tmod 8 + 8).tmod 8)) (bi_rem (by omega) (by first | rfl | assumption | omega)) (nM rfl (nO (s_fa0 rfl fo_28_1 (nO (sL rfl ag_2 ?_))))))
 refine nO (s_bld pl_36 zl_36 rfl rfl rfl (n_op .no (q := 8) rfl (s_bs el_37 ez_37 rfl rfl rfl (nM rfl (n_op .no (q := 10) rfl (s_bs el_26 ez_26 rfl rfl rfl (n_op .no (q := 11) rfl (s_mark' un_26 un_5 rfl (gs_same _ _ _) (nO (s_bld pl_39 zl_39 rfl rfl rfl (n_op .no (q := 13) rfl (s_bs el_40 ez_40 rfl rfl rfl (nO (s_bld pl_42 zl_42 rfl rfl rfl (nO (s_bld pl_55 zl_55 rfl rfl rfl (n_op .no (q := 16) rfl (s_al zl_55 (nO (sSw rfl rfl sz_55 rfl rfl ?_))))))))))))))))))))
 refine n_nil ?_
 generalize (z.tmod 8 + 8).tmod 8 = fr at *
 repeat first | refine Na ?_ | refine Nb ?_ | refine Nc ?_ | refine Nd ?_ | refine Ne ?_
 refine w_gen fun g8 n8 hg8 hn8 hwg8 => ?_
 have z7 : g7 (n6 + 6) = none := hx7 _ (by omega) (hw6.none (by omega))
 have k8 : K0 g7 n7 g8 := by rw [hg8]; exact Kp.new (Kp.new (Kp.new (Kp.new (Kp.new (Kp.new (Kp.add (Kp.add (Kp.refl _ _ _) z7 _) z7 _) (by omega) _) (by omega) _) (by omega) _) (by omega) _) (by omega) _) (by omega) _
 have hrg : g8 (n7 + 8) = some (.cells (gdC (twG k e7.rev)) 3 false) := by rw [hg8]; exact (by repeat first | exact gS | refine gN (by omega) ?_)
 have hby : g8 (n7 + 10) = some (.cells (u8c [110, 101, 119]) 1 false) := by rw [hg8]; exact (by repeat first | exact gS | refine gN (by omega) ?_)
 have hrw : g8 (n7 + 13) = some (.cells (wrC (twW k) (.slice (some ⟨n7 + 10, 0, none⟩) 3 3)) 3 false) := by rw [hg8]; exact (by repeat first | exact gS | refine gN (by omega) ?_)
 obtain ⟨q, hqq⟩ : ∃ q, q = n7 + 16 := ⟨_, rfl⟩
 have hcq : g8 q = some (.cells (calC (twC fr k e7.rev) (.slice (some ⟨n7 + 8, 0, none⟩) 1 1) (.slice (some ⟨n7 + 13, 0, none⟩) 1 1)) 0 false) := by rw [hg8, hqq]; exact gs_same _ _ _
 rw [← hqq]
 have hqn : s < q ∧ l < q ∧ q < n8 := by omega
 have hC8 : CalAt g8 (twC fr k e7.rev) (.slice (some ⟨n7 + 8, 0, none⟩) 1 1) (.slice (some ⟨n7 + 13, 0, none⟩) 1 1) := ⟨gds_one hrg, wrs_one (x := twW k) hrw (bytes_row (b := 0) (bs := [110, 101, 119]) hby rfl (Nat.zero_le _)).at⟩
 have hS8 := hS7.kp0 k8 hw7
 clear hg8 hrg hby hrw
 have hmay := tw_may (f := fr) (by omega) hk (show 0 ≤ e7.rev ∧ e7.rev ≤ 1099511627776 by omega)
 have hcan2 := tw_two hk hcan ⟨hr0, hr1⟩
 have hA1 := ans_txn (S := S1) hmay rfl
 have hF1 := aft_txn (S := S1) hmay rfl
 obtain ⟨t1, t2, _⟩ := Sto.txn_one hcan
 have hinv1 : (S1.txn [twG k e7.rev] [twW k]).1.Inv 12 := hinv7.txn
 have hA1 : S1.ans (twC fr k e7.rev) = ⟨fr, 5, 4, 0, S1.rev + 1, [], []⟩ := by
  rw [hA1]
  show (⟨fr, 5, 4, (S1.txn [twG k e7.rev] [twW k]).2.2, (S1.txn [twG k e7.rev] [twW k]).1.rev, [], []⟩ : Ans) = _
  rw [t1, t2]
 have hF1 : S1.aft (twC fr k e7.rev) = (S1.txn [twG k e7.rev] [twW k]).1 := hF1
 generalize (S1.txn [twG k e7.rev] [twW k]).1 = S2 at *
 have hno := Sto.txn_no (S := S2) (gs := [twG k e7.rev]) (ws := [twW k]) (by rw [hcan2]; decide)
 have hA2 : S2.ans (twC fr k e7.rev) = ⟨fr, 5, 4, 6, S1.rev + 1, [], []⟩ := by
  rw [ans_txn (S := S2) hmay rfl]
  show (⟨fr, 5, 4, (S2.txn [twG k e7.rev] [twW k]).2.2, (S2.txn [twG k e7.rev] [twW k]).1.rev, [], []⟩ : Ans) = _
  rw [hno, hcan2]
  show (⟨fr, 5, 4, 6, S2.rev, [], []⟩ : Ans) = _
  rw [t2]
 have hF2 : S2.aft (twC fr k e7.rev) = { S2 with writes := S2.writes + 1 } := by
  rw [aft_txn (S := S2) hmay rfl]
  show (S2.txn [twG k e7.rev] [twW k]).1 = _
  rw [hno]
 have hln : (twC fr k e7.rev).gs.length < 2 ^ 40 ∧ (twC fr k e7.rev).ws.length < 2 ^ 40 := by show 1 < _ ∧ 1 < _; omega
 generalize hyy : twC fr k e7.rev = y at *
 have hy0 : y.from_ = fr := by rw [← hyy]; rfl
 clear hyy
 repeat first | refine Na ?_ | refine Nb ?_ | refine Nc ?_ | refine Nd ?_ | refine Ne ?_
 refine w_reg 3 rfl rfl (j' := 3) (nM rfl (n_call .no rfl rfl rfl (C.use (st_rev hS8) fun v g9 n9 hw9 hn9 hq => ?_)))
 obtain ⟨rfl, k9⟩ := hq
 have k9' := k9.dn (m := n8) (by omega)
 have hS9 := hS8.kp0 k9' hwg8
 have hC9 := hC8.kp0 k9' hwg8
 have hcq9 := k9'.at0 hwg8 hcq
 refine nA rfl (n_nil (Nc (Na (w_drw (T6 13 13) [(0, []), (1, []), (3, [1]), (4, [1]), (2, [4]), (5, []), (6, [1, 2, 4, 5]), (7, [1, 2, 4, 5, 6]), (8, []), (9, [])] 10 (by kernel_rfl) rfl rfl (j' := 10) (dM rfl rfl (dT rfl rfl rfl (sLf rfl ag_55 sz_55 ⟨clash_nil, ?_⟩)))))))
 refine dM rfl rfl (dT rfl rfl rfl (sLf rfl ag_55 sz_55 ⟨clash_rd rfl, ?_⟩))
 refine d_call rfl .no rfl rfl rfl (call_rd rfl) (C.useG (of_c hS9 hinv7 (by omega) (by omega) hC9 hln) fun v g10 n10 hw10 hn10 hx10 hq => ?_)
 obtain ⟨sl10, ev10, vv10, rfl, hE10, hV10, hS10, hM10, k10⟩ := hq
 refine ⟨?_, ?_⟩
 ·have q := ((k10.dn (m := n9) (by omega)).at hw9 hcq9 (FS.no0 (by omega) (by omega))).trans hcq9.symm
  repeat' (first | exact trivial | exact q | apply And.intro)
 rw [hA1] at hE10 hV10
 rw [hF1] at hS10
 rw [hA1]
 have k10' := k10.dn (m := n9) (by omega)
 have hcq10 := k10'.at hw9 hcq9 (FS.no0 (by omega) (by omega))
 have hC10 : CalAt g10 y _ _ := ⟨hC9.gs.kk k10' hw9 (FS.no3 _ _ _ _ _), hC9.ws.kk k10' hw9 (FS.no3 _ _ _ _ _) (FS.nob _ _ _ _ _)⟩
 obtain ⟨ae, ce, rfl⟩ := hE10.len
 obtain ⟨av, cv, rfl⟩ := hV10.len
 refine d_call rfl .no rfl rfl rfl call_nil (C.useG (of_c hS10 hinv1 (by omega) (by omega) hC10 hln) fun v g11 n11 hw11 hn11 hx11 hq => ?_)
 obtain ⟨sl11, ev11, vv11, rfl, hE11, hV11, hS11, hM11, k11⟩ := hq
 refine ⟨kept_nil, ?_⟩
 rw [hA2] at hE11 hV11
 rw [hF2] at hS11
 rw [hA2]
 obtain ⟨be, de, rfl⟩ := hE11.len
 obtain ⟨bv, dv, rfl⟩ := hV11.len
 have hcq11 := k11.at hw10 hcq10 (FS.no0 (by omega) (by omega))
 refine d_al rfl rfl rfl .no (q := 6) rfl (s_al zl_67 (d_al rfl rfl rfl .no (q := 7) rfl (s_al zl_67 (dT rfl rfl rfl (sSw rfl rfl sz_67 rfl rfl ⟨clash_nil, ?_⟩)))))
 refine dT rfl rfl rfl (sSw rfl rfl sz_67 rfl rfl ⟨clash_nil, ?_⟩)
 refine d_nil ?_
 repeat first | refine Na ?_ | refine Nb ?_ | refine Nc ?_ | refine Nd ?_ | refine Ne ?_
 refine w_gen fun g12 n12 hg12 hn12 hwg12 => ?_
 have z14 : g11 (n9 + 6) = none := hx11 _ (by omega) (hx10 _ (by omega) (hw9.none (by omega)))
 have z15 : g11 (n9 + 7) = none := hx11 _ (by omega) (hx10 _ (by omega) (hw9.none (by omega)))
 have k12 : K0 g11 n11 g12 := by rw [hg12]; exact Kp.add (Kp.add (Kp.add (Kp.add (Kp.refl _ _ _) z14 _) z15 _) z14 _) z15 _
 have c14 : g12 (n9 + 6) = some (.cells (ansC ⟨fr, 5, 4, 0, S1.rev + 1, [], []⟩ (.slice ae 0 ce) (.slice av 0 cv)) 0 false) := by rw [hg12]; exact (by repeat first | exact gS | refine gN (by omega) ?_)
 have c15 : g12 (n9 + 7) = some (.cells (ansC ⟨fr, 5, 4, 6, S1.rev + 1, [], []⟩ (.slice be 0 de) (.slice bv 0 dv)) 0 false) := by rw [hg12]; exact (by repeat first | exact gS | refine gN (by omega) ?_)
 have hcq12 := k12.at0 hw11 hcq11
 have hS12 := hS11.kp0 k12 hw11
 clear hg12
 repeat first | refine Na ?_ | refine Nb ?_ | refine Nc ?_ | refine Nd ?_ | refine Ne ?_
 refine w_reg 52 rfl rfl (j' := 52) (nO (s_fa0 rfl fo_67_3 (nO (sL rfl ag_32 ?_))))
 refine nO (s_bin rfl rfl rfl (nM rfl (nY rfl rfl (rfl) (s_fa0 rfl fo_67_4 (nY rfl rfl (rfl) (sL rfl ag_2 ?_))))))
 refine nG rfl rfl (rfl) rfl (nY rfl rfl (rfl) (s_bin rfl rfl (r := .int .i64 (S1.rev + 1)) (by first | exact bi_add (by omega) (by omega) (by omega) | exact bi_add rfl (by omega) (by omega)) ?_))
 refine nY rfl rfl (rfl) (s_bin rfl rfl rfl (nO (s_pt rfl (rfl) rfl (nM rfl (nY rfl rfl (beq_self_eq_true _) (s_fa0 rfl fo_67_3 (nY rfl rfl (beq_self_eq_true _) (sL rfl ag_32 ?_))))))))
 refine nY rfl rfl (beq_self_eq_true _) (s_bin rfl rfl rfl (nO (s_pt rfl (beq_self_eq_true _) rfl (nM rfl (nY rfl rfl (rfl) (s_fa0 rfl fo_67_4 (nY rfl rfl (rfl) (sL rfl ag_2 ?_))))))))
 refine nG rfl rfl (rfl) rfl (nY rfl rfl (rfl) (s_bin rfl rfl (r := .int .i64 (S1.rev + 1)) (by first | exact bi_add (by omega) (by omega) (by omega) | exact bi_add rfl (by omega) (by omega)) ?_))
 refine nY rfl rfl (rfl) (s_bin rfl rfl rfl (nO (s_pt rfl (rfl) rfl (nM rfl (nG rfl rfl (beq_self_eq_true _) rfl (n_call (.yes rfl rfl (beq_self_eq_true _)) rfl rfl rfl (C.use (st_rev hS12) fun v g13 n13 hw13 hn13 hq => ?_)))))))
 obtain ⟨rfl, k13⟩ := hq
 have k13' := k13.dn (m := n12) (by omega)
 have c143 := k13'.at0 hwg12 c14
 have hcq13 := k13'.at0 hwg12 hcq12
 refine nG rfl rfl (beq_self_eq_true _) rfl (nY rfl rfl (beq_self_eq_true _) (s_bin rfl rfl (r := .int .i64 (S1.rev + 1)) (by first | exact bi_add (by omega) (by omega) (by omega) | exact bi_add rfl (by omega) (by omega)) ?_))
 refine nY rfl rfl (beq_self_eq_true _) (s_bin rfl rfl rfl (nO (s_pt rfl (beq_self_eq_true _) rfl (nM rfl (nY rfl rfl (beq_iff_eq.2 t2) (s_fa0 rfl fo_67_0 (nY rfl rfl (beq_iff_eq.2 t2) (sL rfl ag_3 ?_))))))))
 refine nY rfl rfl (beq_iff_eq.2 t2) (s_fa0 rfl fo_55_0 (nY rfl rfl (beq_iff_eq.2 t2) (sL rfl ag_3 ?_)))
 refine nY rfl rfl (beq_iff_eq.2 t2) (s_bin rfl rfl rfl (nO (s_pt rfl (beq_iff_eq.2 t2) rfl (nM rfl (nY rfl rfl (beq_iff_eq.2 hy0.symm) (s_fa0 rfl fo_67_1 (nY rfl rfl (beq_iff_eq.2 hy0.symm) (sL rfl ag_2 ?_))))))))
 refine nY rfl rfl (beq_iff_eq.2 hy0.symm) (s_bin rfl rfl rfl (nO (s_pt rfl (beq_iff_eq.2 hy0.symm) rfl (nM rfl (nY rfl rfl (rfl) (s_fa0 rfl fo_67_5 (nY rfl rfl (rfl) (sL rfl ag_48 ?_))))))))
 refine nY rfl rfl (rfl) (s_len rfl rfl un_48 rfl (nY rfl rfl (rfl) (s_fa0 rfl fo_67_6 (nY rfl rfl (rfl) (sL rfl ag_65 ?_)))))
 refine nY rfl rfl (rfl) (s_len rfl rfl un_65 rfl (nY rfl rfl (rfl) (s_bin rfl rfl (r := .int .i64 (0)) (by first | exact bi_add (by omega) (by omega) (by omega) | exact bi_add rfl (by omega) (by omega)) ?_)))
 refine nY rfl rfl (rfl) (s_bin rfl rfl rfl (nO (s_pt rfl (rfl) rfl (nA rfl (n_nil (Nc (Nf (z_r1 rfl rfl ?_))))))))
 rfl

end Go.Proofs.YtehmailaabjdjaaGreat
