/-
  StoreWhole answers true. No condition but that begun does.
-/
import Derived.Test.YtehmailaabjdjaaGreatStoY
open Go.Proofs
namespace Go.Proofs.YtehmailaabjdjaaGreat
set_option linter.unusedSimpArgs false
set_option linter.unusedVariables false
set_option maxRecDepth 100000

theorem puts_off (r : Int) {k : Bs} : ∀ (ws : List Wr) (T : Sto), k ∉ ws.map Wr.key → (T.now.map (·.1)).Nodup → findK k (ws.foldl (Sto.put1 r) T).now = findK k T.now
  | [], T, _, _ => rfl
  | w :: ws, T, h, hn => by
    rw [List.map_cons, List.mem_cons, not_or] at h
    have h1 : findK k (T.put1 r w).now = findK k T.now := by
      unfold Sto.put1
      simp only
      split
      · rw [findK_del hn, if_neg (Ne.symm h.1)]
      · rw [findK_set, if_neg (Ne.symm h.1)]
    have h2 : ((T.put1 r w).now.map (·.1)).Nodup := by
      unfold Sto.put1
      simp only
      split
      · exact delK_nodup hn
      · exact setK_nodup hn
    rw [List.foldl_cons, puts_off r ws _ h.2 h2, h1]
theorem puts_find (r : Int) : ∀ (ws : List Wr) (T : Sto), (ws.map Wr.key).Nodup → (T.now.map (·.1)).Nodup → ∀ w ∈ ws, findK w.key (ws.foldl (Sto.put1 r) T).now = if w.gone = true then none else some ⟨w.key, r, w.val⟩
  | [], _, _, _, w, h => by cases h
  | w' :: ws, T, hk, hn, w, h => by
    rw [List.map_cons, List.nodup_cons] at hk
    have h2 : ((T.put1 r w').now.map (·.1)).Nodup := by
      unfold Sto.put1
      simp only
      split
      · exact delK_nodup hn
      · exact setK_nodup hn
    rw [List.foldl_cons]
    rcases List.mem_cons.1 h with rfl | h
    · rw [puts_off r ws _ hk.1 h2]
      unfold Sto.put1
      simp only
      split
      · rw [findK_del hn, if_pos rfl]
      · rw [findK_set, if_pos rfl]
    · exact puts_find r ws _ hk.2 h2 w h
/-- What a txn that was done left. -/
structure Did (S T : Sto) (ws : List Wr) : Prop where
  rev : T.rev = S.rev + 1
  find : ∀ w ∈ ws, findK w.key T.now = if w.gone = true then none else some ⟨w.key, S.rev + 1, w.val⟩
theorem txn_did {S : Sto} {gs : List Gd} {ws : List Wr} (h : S.can gs ws = 0) (hn : (S.now.map (·.1)).Nodup) : (S.txn gs ws).2 = (S.rev + 1, 0) ∧ Did S (S.txn gs ws).1 ws := by
  have hm := can_may h
  have e : S.txn gs ws = ({ ws.foldl (Sto.put1 (S.rev + 1)) { S with rev := S.rev + 1, writes := S.writes + 1 } with log := S.log.add (ws.map (evtW (S.rev + 1))) }, S.rev + 1, 0) := if_pos h
  rw [e]
  refine ⟨rfl, ?_, fun w hw => ?_⟩
  · exact (puts_same _ _ _).1
  · exact puts_find (S.rev + 1) ws { S with rev := S.rev + 1, writes := S.writes + 1 } hm.2.2.2.2.2 hn w hw
/-- The txn that can't be done. -/
def badTxn (z : Int) : List Gd × List Wr := if z.tmod 2 = 0 then ([⟨[110, 111, 110, 101, 45, 115, 117, 99, 104], 5, false⟩], [⟨[102, 114, 101, 115, 104], [], false⟩]) else ([], [⟨[102, 114, 101, 115, 104], [121], false⟩, ⟨[110, 111, 110, 101, 45, 115, 117, 99, 104], [], true⟩])
theorem bad_can {S : Sto} (z : Int) (h : findK [110, 111, 110, 101, 45, 115, 117, 99, 104] S.now = none) : S.can (badTxn z).1 (badTxn z).2 = 6 ∨ S.can (badTxn z).1 (badTxn z).2 = 3 := by
  unfold badTxn
  split
  · left
    refine can_guard (Sto.may_one (by simp) (fun x hx => ?_) ⟨by simp [keyOk], (fun q => by cases q.1), by simp⟩) ⟨_, List.mem_singleton.2 rfl, fun q => ?_⟩
    · rw [List.mem_singleton.1 hx]; exact ⟨by simp [keyOk], by decide⟩
    · have q : ((findK [110, 111, 110, 101, 45, 115, 117, 99, 104] S.now).map SEnt.rev).getD 0 = 5 := q
      rw [h] at q
      cases q
  · right
    refine can_none ⟨by simp, by simp, by simp, (fun x hx => by cases hx), (fun x hx => ?_), by simp⟩ (fun x hx => by cases hx) ⟨_, List.mem_cons_of_mem _ (List.mem_singleton.2 rfl), rfl, h⟩
    rcases List.mem_cons.1 hx with rfl | hx
    · exact ⟨by simp [keyOk], (fun q => by cases q.1), by simp⟩
    · rw [List.mem_singleton.1 hx]
      exact ⟨by simp [keyOk], (fun q => by simp at q), by simp⟩

theorem storeWhole_c (hB : BegunOk) {g : Gm} {n : Nat} {v gv wv : Value} {z : Int} {xs : List SOp} {gs : List Gd} {ws : List Wr} (h : SopsRd g v xs) (hg : GdsRd g gv gs) (hv : WrsRd g wv ws) : C 4 #[v, .agg [gv, wv].toArray, .int .i64 z] g n fun u g' n' => u = .bool true := by
  obtain ⟨a, c, rfl⟩ := h.len
  obtain ⟨a1, c1, rfl⟩ := hg.len
  obtain ⟨a2, c2, rfl⟩ := hv.len
  refine c_in3 Tryz.func4 rfl Tryz.ntmps4 rfl fun hw => ?_
  repeat (first | refine w_seq ?_ | refine w_blk ?_ | refine z_seq ?_ | refine z_blk ?_ | refine w_skip ?_)
  refine w_reg 2 rfl rfl (j' := 2) ?_
  refine n_op .no (q := 0) rfl (s_boxa rfl ?_)
  refine n_op .no (q := 1) rfl (s_as rfl ?_)
  refine n_nil ?_
  repeat (first | refine w_seq ?_ | refine w_blk ?_ | refine z_seq ?_ | refine z_blk ?_ | refine w_skip ?_)
  refine w_reg 2 rfl rfl (j' := 4) ?_
  refine n_call .no rfl rfl rfl ?_
  refine C.use (hB _ _) fun v g1 n1 hw1 hn1 hq => ?_
  obtain ⟨rfl, rfl⟩ := hq
  refine n_op .no (q := 3) rfl (s_as rfl ?_)
  refine n_nil ?_
  repeat (first | refine w_seq ?_ | refine w_blk ?_ | refine z_seq ?_ | refine z_blk ?_ | refine w_skip ?_)
  refine w_reg 2 rfl rfl (j' := 2) ?_
  refine n_op .no (q := 0) rfl (s_mv rfl ?_)
  refine n_op .no (q := 1) rfl (s_not rfl ?_)
  refine n_nil ?_
  repeat (first | refine w_seq ?_ | refine w_blk ?_ | refine z_seq ?_ | refine z_blk ?_ | refine w_skip ?_)
  refine w_no rfl (rfl) ?_
  repeat (first | refine w_seq ?_ | refine w_blk ?_ | refine z_seq ?_ | refine z_blk ?_ | refine w_skip ?_)
  refine w_gen fun g1 n1 hg1 hn1 hwg1 => ?_
  have k1 : K0 g n g1 := by rw [hg1]; exact (by repeat (first | exact Kp.refl _ _ _ | refine Kp.new ?_ (by omega) _))
  have cb : g1 n = some (.cells [.slice a1 gs.length c1, .slice a2 ws.length c2] 0 false) := by rw [hg1]; exact gs_same _ _ _
  have h1 := h.kp0 k1 hw
  have hgd1 := hg.kp0 k1 hw
  have hwr1 := hv.kp0 k1 hw
  have hnn := hwg1 _ _ cb
  clear hg1 k1 h hg hv
  repeat (first | refine w_seq ?_ | refine w_blk ?_ | refine z_seq ?_ | refine z_blk ?_ | refine w_skip ?_)
  refine w_reg 2 rfl rfl (j' := 2) ?_
  refine n_call .no rfl rfl rfl ?_
  refine C.use (st_newB _ _) fun v g2 n2 hw2 hn2 hq => ?_
  obtain ⟨s, m1, m2, l, rfl, hS2, hb2, k2⟩ := hq
  refine n_op .no (q := 1) rfl (s_as rfl ?_)
  refine n_nil ?_
  have hS2 := hS2.up (b' := n1) (by omega)
  have hq : n1 ≤ s ∧ n1 ≤ m1 ∧ n1 ≤ m2 ∧ n1 ≤ l := by omega
  have k2' : K0 g1 n1 g2 := k2.dn (m := n1) (by omega)
  clear k2
  repeat (first | refine w_seq ?_ | refine w_blk ?_ | refine z_seq ?_ | refine z_blk ?_ | refine w_skip ?_)
  refine w_reg 1 rfl rfl (j' := 1) ?_
  refine n_op .no (q := 0) rfl (s_as rfl ?_)
  refine n_nil ?_
  refine z_seq ?_
  refine z_meet (β := Unit) (fun _ => [(2, .int .i64 z), (4, .pointer (some ⟨n, 0, none⟩)), (8, .pointer (some ⟨s, 0, none⟩))])
    (fun _ g' n' => n1 ≤ n' ∧ K0 g1 n1 g' ∧ ∃ S sl, S.Inv 20 ∧ StAt n1 g' s m1 m2 l sl S) ?_ ?_
  · repeat (first | refine w_seq ?_ | refine w_blk ?_ | refine z_seq ?_ | refine z_blk ?_ | refine w_skip ?_)
    refine w_loop (β := Nat) (fun i => [(0, .slice a xs.length c), (2, .int .i64 z), (4, .pointer (some ⟨n, 0, none⟩)), (8, .pointer (some ⟨s, 0, none⟩)), (9, .int .i64 (i : Int))])
      (fun i g' n' => i ≤ xs.length ∧ i ≤ 20 ∧ n1 ≤ n' ∧ K0 g1 n1 g' ∧ ∃ S sl, S.Inv i ∧ StAt n1 g' s m1 m2 l sl S) (fun i => 20 - i) 0 ⟨rfl, rfl, rfl, rfl, rfl, trivial⟩
      ⟨by omega, by omega, by omega, k2', _, _, Sto.Inv.new, hS2⟩ ?_
    rintro i f gL nL hwL ⟨hi, hi20, hnL, wL, S, sl, hinv, hS⟩
    by_cases hlt : i < xs.length ∧ i < 20
    rotate_left
    · by_cases hlt1 : i < xs.length
      · repeat (first | refine w_seq ?_ | refine w_blk ?_ | refine z_seq ?_ | refine z_blk ?_ | refine w_skip ?_)
        refine w_reg 8 rfl rfl (j' := 8) ?_
        refine n_op .no (q := 0) rfl (s_mv rfl ?_)
        refine n_op .no (q := 1) rfl (s_mv rfl ?_)
        refine n_op .no (q := 2) rfl (s_len rfl rfl un_44 rfl ?_)
        refine n_op .no (q := 3) rfl (s_bin rfl rfl rfl ?_)
        refine n_op .no (q := 4) rfl (s_mv rfl ?_)
        refine n_op (.yes rfl rfl (decide_eq_true (by omega))) (q := 5) rfl (s_mv rfl ?_)
        refine n_op (.yes rfl rfl (decide_eq_true (by omega))) (q := 6) rfl (s_bin rfl rfl rfl ?_)
        refine n_op .no (q := 7) rfl (s_pt rfl (decide_eq_true (by omega)) rfl ?_)
        refine n_nil ?_
        repeat (first | refine w_seq ?_ | refine w_blk ?_ | refine z_seq ?_ | refine z_blk ?_ | refine w_skip ?_)
        refine w_no rfl (decide_eq_false (by omega)) ?_
        refine w_exit rfl ?_
        exact z_met () ⟨rfl, rfl, rfl, trivial⟩ ⟨by omega, wL, S, sl, hinv.up (by omega), hS⟩
      · repeat (first | refine w_seq ?_ | refine w_blk ?_ | refine z_seq ?_ | refine z_blk ?_ | refine w_skip ?_)
        refine w_reg 8 rfl rfl (j' := 8) ?_
        refine n_op .no (q := 0) rfl (s_mv rfl ?_)
        refine n_op .no (q := 1) rfl (s_mv rfl ?_)
        refine n_op .no (q := 2) rfl (s_len rfl rfl un_44 rfl ?_)
        refine n_op .no (q := 3) rfl (s_bin rfl rfl rfl ?_)
        refine n_op .no (q := 4) rfl (s_mv rfl ?_)
        refine n_sk rfl rfl (decide_eq_false (by omega)) ?_
        refine n_sk rfl rfl (decide_eq_false (by omega)) ?_
        refine n_op .no (q := 7) rfl (s_pf rfl (decide_eq_false (by omega)) rfl ?_)
        refine n_nil ?_
        repeat (first | refine w_seq ?_ | refine w_blk ?_ | refine z_seq ?_ | refine z_blk ?_ | refine w_skip ?_)
        refine w_no rfl (rfl) ?_
        refine w_exit rfl ?_
        exact z_met () ⟨rfl, rfl, rfl, trivial⟩ ⟨by omega, wL, S, sl, hinv.up (by omega), hS⟩
    repeat (first | refine w_seq ?_ | refine w_blk ?_ | refine z_seq ?_ | refine z_blk ?_ | refine w_skip ?_)
    refine w_reg 8 rfl rfl (j' := 8) ?_
    refine n_op .no (q := 0) rfl (s_mv rfl ?_)
    refine n_op .no (q := 1) rfl (s_mv rfl ?_)
    refine n_op .no (q := 2) rfl (s_len rfl rfl un_44 rfl ?_)
    refine n_op .no (q := 3) rfl (s_bin rfl rfl rfl ?_)
    refine n_op .no (q := 4) rfl (s_mv rfl ?_)
    refine n_op (.yes rfl rfl (decide_eq_true (by omega))) (q := 5) rfl (s_mv rfl ?_)
    refine n_op (.yes rfl rfl (decide_eq_true (by omega))) (q := 6) rfl (s_bin rfl rfl rfl ?_)
    refine n_op .no (q := 7) rfl (s_pt rfl (decide_eq_true (by omega)) rfl ?_)
    refine n_nil ?_
    repeat (first | refine w_seq ?_ | refine w_blk ?_ | refine z_seq ?_ | refine z_blk ?_ | refine w_skip ?_)
    refine w_yes rfl (decide_eq_true (by omega)) ?_
    have hil := hlt.1
    obtain ⟨l3, o3, c3, cl3, ro3, gv3, wv3, x1, x2, x3, x4, x5, x6, x7, x8⟩ := (h1.kp0 wL hwg1).at hil
    cases x1
    obtain ⟨op, hop⟩ : ∃ op, op = xs[i]'hil := ⟨_, rfl⟩
    rw [← hop] at x4 x6 x7 x8
    repeat (first | refine w_seq ?_ | refine w_blk ?_ | refine z_seq ?_ | refine z_blk ?_ | refine w_skip ?_)
    refine w_reg 8 rfl rfl (j' := 16) ?_
    refine n_op .no (q := 8) rfl (s_mv rfl ?_)
    refine n_op .no (q := 9) rfl (s_mv rfl ?_)
    refine n_op .no (q := 10) rfl (s_mv rfl ?_)
    refine n_op .no (q := 11) rfl (s_ia rfl rfl el_44 (by first | assumption | omega) ?_)
    first | refine n_op .no (q := 12) rfl (s_fa0 rfl fo_47_1 ?_) | refine n_op .no (q := 12) rfl (s_fa rfl fo_47_1 ?_)
    refine n_op .no (q := 13) rfl (s_lda rfl (by repeat (first | exact gs_same _ _ _ | exact x2 | exact x5 | refine (gs_ne (by omega) _).trans ?_)) ag_42 sz_42 (by first | exact Nat.le_of_ble_eq_true rfl | assumption | omega) (by first | exact x2 | exact x5 | exact rfl) ?_)
    refine n_call .no rfl rfl rfl ?_
    refine C.use (cut_c x7 x8) fun v g4 n4 hw4 hn4 hq => ?_
    obtain ⟨v4, w4, rfl, hg4, hw4', k4⟩ := hq
    refine n_call .no rfl rfl rfl ?_
    have k4' := k4.dn (m := nL) (by omega)
    refine C.use (st_txn_i (hS.kp0 k4' hwL) hinv (by omega) (by omega) hg4 hw4') fun v g5 n5 hw5 hn5 hq => ?_
    obtain ⟨sl5, hu5, hS5, hM5, k5⟩ := hq
    refine n_nil ?_
    have k45 : Kp (FS s m1 m2 l sl) gL nL g5 := (Kp.z k4').tr' k5 (by omega)
    have w5 : K0 g1 n1 g5 := wL.trans0 (hS.low hq (Nat.le_refl _) (by omega) k45) (Nat.le_refl _)
    repeat (first | refine w_seq ?_ | refine w_blk ?_ | refine z_seq ?_ | refine z_blk ?_ | refine w_skip ?_)
    repeat (first | refine w_seq ?_ | refine w_blk ?_ | refine z_seq ?_ | refine z_blk ?_ | refine w_skip ?_)
    refine w_reg 3 rfl rfl (j' := 3) ?_
    refine n_op .no (q := 0) rfl (s_mv rfl ?_)
    first | refine n_op .no (q := 1) rfl (s_bin rfl rfl (bi_inc (by omega)) ?_) | refine n_op .no (q := 1) rfl (s_bin rfl rfl (bi_add rfl (by omega) (by omega)) ?_)
    refine n_op .no (q := 2) rfl (s_as rfl ?_)
    refine n_nil ?_
    exact z_round (i + 1) ⟨rfl, rfl, rfl, rfl, rfl, trivial⟩ ⟨by omega, by omega, by omega, w5, _, sl5, hinv.txn, hS5⟩ (by omega)
  clear hS2 k2' h1
  rintro _ f g8 n8 hw8 ⟨hn8, w8, S, sl, hinv, hS⟩
  have c8 := w8.lt (by omega) cb
  repeat (first | refine w_seq ?_ | refine w_blk ?_ | refine z_seq ?_ | refine z_blk ?_ | refine w_skip ?_)
  refine w_reg 3 rfl rfl (j' := 3) ?_
  refine n_op .no (q := 0) rfl (s_ldf rfl (by repeat (first | exact gs_same _ _ _ | exact c8 | refine (gs_ne (by omega) _).trans ?_)) ag_42 sz_42 (by exact rfl) ?_)
  refine n_call .no rfl rfl rfl ?_
  refine C.use (cut_c (hgd1.kp0 w8 hwg1) (hwr1.kp0 w8 hwg1)) fun v g9 n9 hw9 hn9 hq => ?_
  obtain ⟨gv', wv', rfl, hG, hW, k9⟩ := hq
  obtain ⟨ag, cg, rfl⟩ := hG.len
  obtain ⟨aw, cw, rfl⟩ := hW.len
  have c9 := k9.lt (by omega) c8
  refine n_op .no (q := 2) rfl (s_sta rfl rfl sz_42 rfl (by repeat (first | exact gs_same _ _ _ | exact c9 | refine (gs_ne (by omega) _).trans ?_)) (by first | exact Nat.le_of_ble_eq_true rfl | assumption | omega) rfl ?_)
  refine n_nil ?_
  repeat (first | refine w_seq ?_ | refine w_blk ?_ | refine z_seq ?_ | refine z_blk ?_ | refine w_skip ?_)
  refine w_gen fun g10 n10 hg10 hn10 hwg10 => ?_
  have kz : Kp (FC n) g9 n9 g10 := by rw [hg10]; exact Kp.set (Kp.refl _ _ _) (FC.of c9) _
  have c10 : g10 n = some (.cells [.slice ag (gs.take 25).length cg, .slice aw (ws.take 70).length cw] 0 false) := by rw [hg10]; exact gs_same _ _ _
  have hS10 := (hS.kp0 (k9.dn (m := n8) (by omega)) hw8).fc kz hw9 (by omega) (by omega)
  have hG10 := hG.kk kz hw9 (FC.no3 _)
  have hW10 := hW.kk kz hw9 (FC.no3 _) (FC.nob _)
  clear hG hW kz c9 c8 hg10 hS w8 k9 cb
  generalize gs.take 25 = G at *
  generalize hWn : ws.take 70 = W at *
  have hWl : W.length ≤ 70 := by rw [← hWn, List.length_take]; omega
  repeat (first | refine w_seq ?_ | refine w_blk ?_ | refine z_seq ?_ | refine z_blk ?_ | refine w_skip ?_)
  refine w_reg 6 rfl rfl (j' := 6) ?_
  refine n_op .no (q := 0) rfl (s_mv rfl ?_)
  refine n_call .no rfl rfl rfl ?_
  refine C.use (st_list_i hS10 hinv (by omega)) fun v g11 n11 hw11 hn11 hq => ?_
  obtain ⟨hE11, hS11, k11⟩ := hq
  obtain ⟨aE, cE, rfl⟩ := hE11.len
  refine n_op .no (q := 2) rfl (s_mv rfl ?_)
  refine n_call .no rfl rfl rfl ?_
  have hE11 := hE11.rd
  refine C.use (st_rev hS11) fun v g12 n12 hw12 hn12 hq => ?_
  obtain ⟨rfl, k12⟩ := hq
  refine n_op .no (q := 4) rfl (s_as rfl ?_)
  refine n_op .no (q := 5) rfl (s_as rfl ?_)
  refine n_nil ?_
  have k12' := k12.dn (m := n11) (by omega)
  have k1012 : Kp (FC s) g10 n10 g12 := (k11.dn (m := n10) (by omega)).trans0 k12' (by omega)
  have hS12 := hS11.kp0 k12' hw11
  have hE12 := hE11.kp0 k12' hw11
  have hG12 := hG10.kk k1012 hwg10 (FC.no3 _)
  have hW12 := hW10.kk k1012 hwg10 (FC.no3 _) (FC.nob _)
  have hsn : n < n10 := hwg10 _ _ c10
  have c12 := k1012.at hwg10 c10 (fun hf => by have := hf.1; omega)
  have hi12 := hinv.read
  have eL : Sto.list { S with reads := S.reads + 1 } = S.list := rfl
  rw [← eL] at hE12
  rw [← eL]
  generalize hS1 : ({ S with reads := S.reads + 1 } : Sto) = S1 at *
  clear k11 k12 k12' k1012 hS11 hE11 hG10 hW10 hS10 hinv eL hS1 c10
  repeat (first | refine w_seq ?_ | refine w_blk ?_ | refine z_seq ?_ | refine z_blk ?_ | refine w_skip ?_)
  refine w_reg 8 rfl rfl (j' := 8) ?_
  refine n_op .no (q := 0) rfl (s_mv rfl ?_)
  refine n_op .no (q := 1) rfl (s_ldf rfl (by repeat (first | exact gs_same _ _ _ | exact c12 | refine (gs_ne (by omega) _).trans ?_)) ag_42 sz_42 (by exact rfl) ?_)
  refine n_call .no rfl rfl rfl ?_
  refine C.use (st_txn_i hS12 hi12 (by omega) (by omega) hG12 hW12) fun v g13 n13 hw13 hn13 hq => ?_
  obtain ⟨sl13, hu13, hS13, hM13, k13⟩ := hq
  generalize hr13 : (S1.txn G W).2.1 = r13 at hu13
  generalize hc13 : (S1.txn G W).2.2 = e13 at hu13
  subst hu13
  refine n_op .no (q := 3) rfl (s_mv rfl ?_)
  refine n_op .no (q := 4) rfl (s_ext rfl rfl ?_)
  refine n_op .no (q := 5) rfl (s_ext rfl rfl ?_)
  refine n_op .no (q := 6) rfl (s_as rfl ?_)
  refine n_op .no (q := 7) rfl (s_as rfl ?_)
  refine n_nil ?_
  have k13 := k13.dn (m := n12) (by omega)
  have hE13 := hE12.kk k13 hw12 (FS.no3 _ _ _ _ _) (FS.nob _ _ _ _ _)
  have hW13 := hW12.kk k13 hw12 (FS.no3 _ _ _ _ _) (FS.nob _ _ _ _ _)
  have c13 := k13.at hw12 c12 (FS.no0 (by omega) (by omega))
  have hi13 := hi12.txn (gs := G) (ws := W)
  have hnd := hS12.now.nodup
  clear hE12 hW12 hG12 c12 hM13 k13 hS12
  repeat (first | refine w_seq ?_ | refine w_blk ?_ | refine z_seq ?_ | refine z_blk ?_ | refine w_skip ?_)
  refine w_reg 3 rfl rfl (j' := 3) ?_
  refine n_op .no (q := 0) rfl (s_mv rfl ?_)
  refine n_call .no rfl rfl rfl ?_
  refine C.use (st_list_i hS13 hi13 (by omega)) fun v g14 n14 hw14 hn14 hq => ?_
  obtain ⟨hE14, hS14, k14⟩ := hq
  obtain ⟨aF, cF, rfl⟩ := hE14.len
  refine n_op .no (q := 2) rfl (s_as rfl ?_)
  refine n_nil ?_
  have k14 := k14.dn (m := n13) (by omega)
  have hE14 := hE14.rd
  have hE14' := hE13.kk k14 hw13 (FC.no3 _) (FC.nob _)
  have hW14 := hW13.kk k14 hw13 (FC.no3 _) (FC.nob _)
  have c14 := k14.at hw13 c13 (fun hf => by have := hf.1; omega)
  have hi14 := hi13.read
  clear hE13 hW13 c13 k14 hS13
  by_cases h0 : S1.can G W = 0
  rotate_left
  · have et := Sto.txn_no h0
    obtain rfl : r13 = 0 := by rw [← hr13, et]
    obtain rfl : e13 = S1.can G W := by rw [← hc13, et]
    rw [et] at hE14 hS14 hi14
    rw [et]
    repeat (first | refine w_seq ?_ | refine w_blk ?_ | refine z_seq ?_ | refine z_blk ?_ | refine w_skip ?_)
    refine w_reg 2 rfl rfl (j' := 2) ?_
    refine n_op .no (q := 0) rfl (s_mv rfl ?_)
    refine n_op .no (q := 1) rfl (s_bin rfl rfl rfl ?_)
    refine n_nil ?_
    repeat (first | refine w_seq ?_ | refine w_blk ?_ | refine z_seq ?_ | refine z_blk ?_ | refine w_skip ?_)
    refine w_yes rfl (bne_iff_ne.2 h0) ?_
    repeat (first | refine w_seq ?_ | refine w_blk ?_ | refine z_seq ?_ | refine z_blk ?_ | refine w_skip ?_)
    refine w_reg 14 rfl rfl (j' := 16) ?_
    refine n_op .no (q := 2) rfl (s_mv rfl ?_)
    refine n_op .no (q := 3) rfl (s_bin rfl rfl rfl ?_)
    refine n_op .no (q := 4) rfl (s_mv rfl ?_)
    refine n_op (.yes rfl rfl (rfl)) (q := 5) rfl (s_mv rfl ?_)
    refine n_call (.yes rfl rfl (rfl)) rfl rfl rfl ?_
    refine C.use (st_rev hS14) fun v g15 n15 hw15 hn15 hq => ?_
    obtain ⟨rfl, k15⟩ := hq
    refine n_op (.yes rfl rfl (rfl)) (q := 7) rfl (s_mv rfl ?_)
    refine n_op (.yes rfl rfl (rfl)) (q := 8) rfl (s_bin rfl rfl rfl ?_)
    refine n_op .no (q := 9) rfl (s_pt rfl (rfl) rfl ?_)
    refine n_op .no (q := 10) rfl (s_mv rfl ?_)
    refine n_op (.yes rfl rfl (beq_iff_eq.2 rfl)) (q := 11) rfl (s_mv rfl ?_)
    refine n_op (.yes rfl rfl (beq_iff_eq.2 rfl)) (q := 12) rfl (s_mv rfl ?_)
    refine n_call (.yes rfl rfl (beq_iff_eq.2 rfl)) rfl rfl rfl ?_
    have k15' := k15.dn (m := n14) (by omega)
    have el : Sto.list { S1 with writes := S1.writes + 1 } = S1.list := rfl
    refine C.use (eqEntries_c (hE14'.kp0 k15' hw14) (hE14.kp0 k15' hw14) (by have := hi12.list_len; omega)) fun v g16 n16 hw16 hn16 hq => ?_
    obtain ⟨⟨r, rfl, hr⟩, k16⟩ := hq
    obtain rfl : r = true := hr.2 el.symm
    refine n_op .no (q := 14) rfl (s_pt rfl (beq_iff_eq.2 rfl) rfl ?_)
    refine n_op .no (q := 15) rfl (s_as rfl ?_)
    refine n_nil ?_
    repeat (first | refine w_ret ?_ | refine w_seq ?_ | refine w_blk ?_ | refine z_seq ?_ | refine z_blk ?_ | refine w_skip ?_)
    refine z_r1 rfl rfl ?_
    rfl
  obtain ⟨et, hdid⟩ := txn_did h0 hnd
  obtain rfl : r13 = S1.rev + 1 := by rw [← hr13, et]
  obtain rfl : e13 = 0 := by rw [← hc13, et]
  have hm := can_may h0
  have hfd : ∀ w ∈ W, findK w.key ({ (S1.txn G W).1 with reads := (S1.txn G W).1.reads + 1 } : Sto).now = if w.gone = true then none else some ⟨w.key, S1.rev + 1, w.val⟩ := hdid.find
  have hTr : ({ (S1.txn G W).1 with reads := (S1.txn G W).1.reads + 1 } : Sto).rev = S1.rev + 1 := hdid.rev
  clear hr13 hc13 hE14 hE14' et hdid hi13
  generalize ({ (S1.txn G W).1 with reads := (S1.txn G W).1.reads + 1 } : Sto) = T at *
  have hrv := hi12.rev
  repeat (first | refine w_seq ?_ | refine w_blk ?_ | refine z_seq ?_ | refine z_blk ?_ | refine w_skip ?_)
  refine w_reg 2 rfl rfl (j' := 2) ?_
  refine n_op .no (q := 0) rfl (s_mv rfl ?_)
  refine n_op .no (q := 1) rfl (s_bin rfl rfl rfl ?_)
  refine n_nil ?_
  repeat (first | refine w_seq ?_ | refine w_blk ?_ | refine z_seq ?_ | refine z_blk ?_ | refine w_skip ?_)
  refine w_no rfl (rfl) ?_
  repeat (first | refine w_seq ?_ | refine w_blk ?_ | refine z_seq ?_ | refine z_blk ?_ | refine w_skip ?_)
  refine w_reg 10 rfl rfl (j' := 12) ?_
  refine n_op .no (q := 2) rfl (s_mv rfl ?_)
  refine n_op .no (q := 3) rfl (s_mv rfl ?_)
  refine n_op .no (q := 4) rfl (s_bin rfl rfl (r := .int .i64 (S1.rev + 1)) (by first | exact bi_add (by omega) (by omega) (by omega) | exact bi_sub (by omega) (by omega) (by omega) | exact bi_add rfl (by omega) (by omega) | exact bi_sub rfl (by omega) (by omega)) ?_)
  refine n_op .no (q := 5) rfl (s_bin rfl rfl rfl ?_)
  refine n_op .no (q := 6) rfl (s_mv rfl ?_)
  refine n_op (.yes rfl rfl (bne_eq_false_iff_eq.2 rfl)) (q := 7) rfl (s_mv rfl ?_)
  refine n_call (.yes rfl rfl (bne_eq_false_iff_eq.2 rfl)) rfl rfl rfl ?_
  refine C.use (st_rev hS14) fun v g17 n17 hw17 hn17 hq => ?_
  obtain ⟨rfl, k17⟩ := hq
  refine n_op (.yes rfl rfl (bne_eq_false_iff_eq.2 rfl)) (q := 9) rfl (s_mv rfl ?_)
  refine n_op (.yes rfl rfl (bne_eq_false_iff_eq.2 rfl)) (q := 10) rfl (s_bin rfl rfl rfl ?_)
  refine n_op .no (q := 11) rfl (s_pf rfl (bne_eq_false_iff_eq.2 rfl) rfl ?_)
  refine n_nil ?_
  repeat (first | refine w_seq ?_ | refine w_blk ?_ | refine z_seq ?_ | refine z_blk ?_ | refine w_skip ?_)
  refine w_no rfl (bne_eq_false_iff_eq.2 hTr) ?_
  have k17' := k17.dn (m := n14) (by omega)
  have hS17 := hS14.kp0 k17' hw14
  have hW17 := hW14.kp0 k17' hw14
  have c17 := k17'.lt (by omega) c14
  clear k17 k17' hS14 hW14 c14
  repeat (first | refine w_seq ?_ | refine w_blk ?_ | refine z_seq ?_ | refine z_blk ?_ | refine w_skip ?_)
  refine w_reg 4 rfl rfl (j' := 4) ?_
  first | refine n_op .no (q := 0) rfl (s_fa0 rfl fo_42_1 ?_) | refine n_op .no (q := 0) rfl (s_fa rfl fo_42_1 ?_)
  refine n_op .no (q := 1) rfl (s_ld rfl (by repeat (first | exact gs_same _ _ _ | exact c17 | refine (gs_ne (by omega) _).trans ?_)) ag_40 (by first | exact rfl | exact c17) ?_)
  refine n_op .no (q := 2) rfl (s_len rfl rfl un_40 rfl ?_)
  refine n_op .no (q := 3) rfl (s_mv rfl ?_)
  refine n_nil ?_
  refine z_seq ?_
  refine z_meet (β := Unit) (fun _ => [(2, .int .i64 z), (8, .pointer (some ⟨s, 0, none⟩)), (12, .int .i64 (S1.rev + 1))])
    (fun _ g' n' => n1 ≤ n' ∧ ∃ T' : Sto, T'.now = T.now ∧ T'.rev = S1.rev + 1 ∧ T'.Inv 100 ∧ StAt n1 g' s m1 m2 l sl13 T') ?_ ?_
  · repeat (first | refine w_seq ?_ | refine w_blk ?_ | refine z_seq ?_ | refine z_blk ?_ | refine w_skip ?_)
    refine w_loop (β := Nat) (fun i => [(2, .int .i64 z), (8, .pointer (some ⟨s, 0, none⟩)), (12, .int .i64 (S1.rev + 1)), (88, .slice aw W.length cw), (89, .int .i64 W.length), (90, .int .i64 (i : Int))])
      (fun i g' n' => i ≤ W.length ∧ n17 ≤ n' ∧ Kp (FC s) g17 n17 g' ∧ ∃ T' : Sto, T'.now = T.now ∧ T'.rev = S1.rev + 1 ∧ T'.Inv (24 + i) ∧ StAt n1 g' s m1 m2 l sl13 T') (fun i => W.length - i) 0 ⟨rfl, rfl, rfl, rfl, rfl, rfl, trivial⟩
      ⟨by omega, by omega, Kp.refl _ _ _, T, rfl, hTr, hi14.up (by omega), hS17⟩ ?_
    rintro i f gL nL hwL ⟨hi, hnL, kL, T', e1, e2, hiL, hSL⟩
    repeat (first | refine w_seq ?_ | refine w_blk ?_ | refine z_seq ?_ | refine z_blk ?_ | refine w_skip ?_)
    refine w_reg 1 rfl rfl (j' := 1) ?_
    refine n_op .no (q := 0) rfl (s_bin rfl rfl rfl ?_)
    refine n_nil ?_
    repeat (first | refine w_seq ?_ | refine w_blk ?_ | refine z_seq ?_ | refine z_blk ?_ | refine w_skip ?_)
    refine w_if rfl (fun hb => ?_) (fun hb => ?_)
    · have hi : i < W.length := by have := of_decide_eq_true hb; omega
      obtain ⟨l3, o3, c3, cl3, ro3, p3, q3, x1, x2, x0, x5, x6⟩ := (hW17.kk kL hw17 (FC.no3 _) (FC.nob _)).at hi
      cases x1
      obtain ⟨w, hwi⟩ : ∃ w, w = W[i] := ⟨_, rfl⟩
      have hmem : w ∈ W := by rw [hwi]; exact List.getElem_mem hi
      rw [← hwi] at x5 x6
      have hx2 := hwL _ _ x2
      have hsL := hwL _ _ hSL.cell
      have hff := hfd w hmem
      rw [← e1] at hff
      repeat (first | refine w_seq ?_ | refine w_blk ?_ | refine z_seq ?_ | refine z_blk ?_ | refine w_skip ?_)
      refine w_reg 4 rfl rfl (j' := 5) ?_
      refine n_op .no (q := 1) rfl (s_ia rfl rfl el_40 (by first | assumption | omega) ?_)
      refine n_op .no (q := 2) rfl (s_lda rfl (by repeat (first | exact gs_same _ _ _ | exact x2 | exact x5 | refine (gs_ne (by omega) _).trans ?_)) ag_39 sz_39 (by first | exact Nat.le_of_ble_eq_true rfl | assumption | omega) (by first | exact x2 | exact x5 | exact rfl) ?_)
      refine n_op .no (q := 3) rfl (s_al zl_39 ?_)
      refine n_op .no (q := 4) rfl (s_stw rfl rfl sz_39 rfl (by repeat (first | exact gs_same _ _ _ | exact x2 | exact x5 | refine (gs_ne (by omega) _).trans ?_)) (by exact rfl) rfl ?_)
      refine n_nil ?_
      repeat (first | refine w_seq ?_ | refine w_blk ?_ | refine z_seq ?_ | refine z_blk ?_ | refine w_skip ?_)
      refine w_gen fun g5 n5 hg5 hn5 hwg5 => ?_
      have k5 : K0 gL nL g5 := by rw [hg5]; exact (by repeat (first | exact Kp.refl _ _ _ | refine Kp.new ?_ (by omega) _))
      have c5 : g5 (nL + 3) = some (.cells (wrC w (.slice p3 w.val.length q3)) 0 false) := by rw [hg5]; exact gs_same _ _ _
      have x65 := x6.kp0 k5 hwL
      have hS5 := hSL.kp0 k5 hwL
      clear hg5 x2 x5 x6
      repeat (first | refine w_seq ?_ | refine w_blk ?_ | refine z_seq ?_ | refine z_blk ?_ | refine w_skip ?_)
      refine w_reg 10 rfl rfl (j' := 10) ?_
      refine n_op .no (q := 0) rfl (s_mv rfl ?_)
      first | refine n_op .no (q := 1) rfl (s_fa0 rfl fo_39_0 ?_) | refine n_op .no (q := 1) rfl (s_fa rfl fo_39_0 ?_)
      refine n_op .no (q := 2) rfl (s_ld rfl (by repeat (first | exact gs_same _ _ _ | exact c5 | refine (gs_ne (by omega) _).trans ?_)) ag_9 (by first | exact rfl | exact c5) ?_)
      refine n_call .no rfl rfl rfl ?_
      refine C.useG (st_get_i (k := w.key) hS5 hiL (by omega)) fun v g6 n6 hw6 hn6 hx6 hq => ?_
      obtain ⟨c6, e6, ok6, rfl, hE6, hf6, hS6, k6⟩ := hq
      have k6' := k6.dn (m := n5) (by omega)
      have c56 := k6'.at hwg5 c5 (fun hf => by have := hf.1; omega)
      have x66 := x65.kp k6' hwg5 (FC.nob _)
      obtain ⟨a6, p6, rfl, hv6, _⟩ := hE6
      refine n_op .no (q := 4) rfl (s_mv rfl ?_)
      refine n_op .no (q := 5) rfl (s_ext rfl rfl ?_)
      refine n_op .no (q := 6) rfl (s_ext rfl rfl ?_)
      refine n_op .no (q := 7) rfl (s_al zl_28 ?_)
      refine n_op .no (q := 8) rfl (s_stw rfl rfl sz_28 rfl (by repeat (first | exact gs_same _ _ _ | refine (gs_ne (by omega) _).trans ?_)) (by exact rfl) rfl ?_)
      refine n_op .no (q := 9) rfl (s_as rfl ?_)
      refine n_nil ?_
      repeat (first | refine w_seq ?_ | refine w_blk ?_ | refine z_seq ?_ | refine z_blk ?_ | refine w_skip ?_)
      refine w_gen fun g7 n7 hg7 hn7 hwg7 => ?_
      have z6 : g6 (n5 + 7) = none := hx6 _ (by omega) (hwg5.none (by omega))
      have k7 : K0 g6 n6 g7 := by rw [hg7]; exact Kp.add (Kp.add (Kp.refl _ _ _) z6 _) z6 _
      have c7 : g7 (n5 + 7) = some (.cells (entC e6 (.slice a6 e6.val.length p6)) 0 false) := by rw [hg7]; exact gs_same _ _ _
      have c57 := k7.at0 hw6 c56
      have x67 := x66.kp0 k7 hw6
      have hS7 := hS6.kp0 k7 hw6
      have hv7 := hv6.kp0 k7 hw6
      have kL7 : Kp (FC s) gL nL g7 := (Kp.z k5).tr' (k6'.trans0 k7 (by omega)) (by omega)
      clear hg7 k7 k6 k6' z6 c56 x66 x65 hS6 hS5 hv6
      have hi7 := hiL.read
      rcases hgo : w.gone with _ | _
      · rw [hgo] at hff
        simp only [Bool.false_eq_true, if_false] at hff
        obtain ⟨rfl, rfl⟩ : e6 = ⟨w.key, S1.rev + 1, w.val⟩ ∧ ok6 = true := by
          rcases hf6 with ⟨x, y⟩ | ⟨x, _⟩
          · rw [hff] at x; exact ⟨(Option.some.inj x).symm, y⟩
          · rw [hff] at x; cases x
        have hv7 : BytesNew _ g7 (.slice a6 w.val.length p6) w.val := hv7
        have hd : (true == w.gone) = false := by rw [hgo]; rfl
        repeat (first | refine w_seq ?_ | refine w_blk ?_ | refine z_seq ?_ | refine z_blk ?_ | refine w_skip ?_)
        refine w_reg 21 rfl rfl (j' := 21) ?_
        refine n_op .no (q := 0) rfl (s_mv rfl ?_)
        first | refine n_op .no (q := 1) rfl (s_fa0 rfl fo_39_2 ?_) | refine n_op .no (q := 1) rfl (s_fa rfl fo_39_2 ?_)
        refine n_op .no (q := 2) rfl (s_ld rfl (by repeat (first | exact gs_same _ _ _ | exact c7 | exact c57 | refine (gs_ne (by omega) _).trans ?_)) ag_4 (by first | exact rfl | exact c7 | exact c57) ?_)
        refine n_op .no (q := 3) rfl (s_bin rfl rfl (bi_d un_4 rfl) ?_)
        refine n_op .no (q := 4) rfl (s_mv rfl ?_)
        refine n_op (.yes rfl rfl (hd)) (q := 5) rfl (s_mv rfl ?_)
        refine n_op (.yes rfl rfl (hd)) (q := 6) rfl (s_mv rfl ?_)
        first | refine n_op (.yes rfl rfl (rfl)) (q := 7) rfl (s_fa0 rfl fo_28_1 ?_) | refine n_op (.yes rfl rfl (rfl)) (q := 7) rfl (s_fa rfl fo_28_1 ?_)
        refine n_op (.yes rfl rfl (rfl)) (q := 8) rfl (s_ld rfl (by repeat (first | exact gs_same _ _ _ | exact c7 | exact c57 | refine (gs_ne (by omega) _).trans ?_)) ag_2 (by first | exact rfl | exact c7 | exact c57) ?_)
        refine n_op (.yes rfl rfl (rfl)) (q := 9) rfl (s_mv rfl ?_)
        refine n_op (.yes rfl rfl (rfl)) (q := 10) rfl (s_bin rfl rfl rfl ?_)
        refine n_op (.yes rfl rfl (rfl)) (q := 11) rfl (s_mv rfl ?_)
        first | refine n_op (.yes rfl rfl (bne_eq_false_iff_eq.2 rfl)) (q := 12) rfl (s_fa0 rfl fo_28_2 ?_) | refine n_op (.yes rfl rfl (bne_eq_false_iff_eq.2 rfl)) (q := 12) rfl (s_fa rfl fo_28_2 ?_)
        refine n_op (.yes rfl rfl (bne_eq_false_iff_eq.2 rfl)) (q := 13) rfl (s_ld rfl (by repeat (first | exact gs_same _ _ _ | exact c7 | exact c57 | refine (gs_ne (by omega) _).trans ?_)) ag_26 (by first | exact rfl | exact c7 | exact c57) ?_)
        first | refine n_op (.yes rfl rfl (bne_eq_false_iff_eq.2 rfl)) (q := 14) rfl (s_fa0 rfl fo_39_1 ?_) | refine n_op (.yes rfl rfl (bne_eq_false_iff_eq.2 rfl)) (q := 14) rfl (s_fa rfl fo_39_1 ?_)
        refine n_op (.yes rfl rfl (bne_eq_false_iff_eq.2 rfl)) (q := 15) rfl (s_ld rfl (by repeat (first | exact gs_same _ _ _ | exact c7 | exact c57 | refine (gs_ne (by omega) _).trans ?_)) ag_26 (by first | exact rfl | exact c7 | exact c57) ?_)
        refine n_call (.yes rfl rfl (bne_eq_false_iff_eq.2 rfl)) rfl rfl rfl ?_
        refine C.use (bytes_c hv7.at x67) fun v g8 n8 hw8 hn8 hq => ?_
        obtain ⟨rfl, k8⟩ := hq
        refine n_op (.yes rfl rfl (bne_eq_false_iff_eq.2 rfl)) (q := 17) rfl (s_not rfl ?_)
        refine n_op (.yes rfl rfl (rfl)) (q := 18) rfl (s_pf rfl (bne_eq_false_iff_eq.2 rfl) rfl ?_)
        refine n_op (.yes rfl rfl (hd)) (q := 19) rfl (s_pt rfl (rfl) rfl ?_)
        refine n_op .no (q := 20) rfl (s_pf rfl (hd) rfl ?_)
        refine n_nil ?_
        repeat (first | refine w_seq ?_ | refine w_blk ?_ | refine z_seq ?_ | refine z_blk ?_ | refine w_skip ?_)
        refine w_no rfl (by simp) ?_
        have k8' := k8.dn (m := n7) (by omega)
        repeat (first | refine w_seq ?_ | refine w_blk ?_ | refine z_seq ?_ | refine z_blk ?_ | refine w_skip ?_)
        repeat (first | refine w_seq ?_ | refine w_blk ?_ | refine z_seq ?_ | refine z_blk ?_ | refine w_skip ?_)
        refine w_reg 2 rfl rfl (j' := 2) ?_
        first | refine n_op .no (q := 0) rfl (s_bin rfl rfl (bi_inc (by omega)) ?_) | refine n_op .no (q := 0) rfl (s_bin rfl rfl (bi_add rfl (by omega) (by omega)) ?_)
        refine n_op .no (q := 1) rfl (s_mv rfl ?_)
        refine n_nil ?_
        exact z_round (i + 1) ⟨rfl, rfl, rfl, rfl, rfl, rfl, trivial⟩ ⟨hi, by omega, (kL.tr' kL7 (by omega)).trans0 k8' (by omega), { T' with reads := T'.reads + 1 }, e1, e2, hi7.up (by omega), hS7.kp0 k8' hwg7⟩ (by omega)
      · rw [hgo] at hff
        simp only [if_true] at hff
        obtain ⟨rfl, rfl⟩ : e6 = SEnt.zero ∧ ok6 = false := by
          rcases hf6 with ⟨x, y⟩ | ⟨_, x, y⟩
          · rw [hff] at x; cases x
          · exact ⟨x, y⟩
        have hd : (false == w.gone) = false := by rw [hgo]; rfl
        repeat (first | refine w_seq ?_ | refine w_blk ?_ | refine z_seq ?_ | refine z_blk ?_ | refine w_skip ?_)
        refine w_reg 21 rfl rfl (j' := 21) ?_
        refine n_op .no (q := 0) rfl (s_mv rfl ?_)
        first | refine n_op .no (q := 1) rfl (s_fa0 rfl fo_39_2 ?_) | refine n_op .no (q := 1) rfl (s_fa rfl fo_39_2 ?_)
        refine n_op .no (q := 2) rfl (s_ld rfl (by repeat (first | exact gs_same _ _ _ | exact c7 | exact c57 | refine (gs_ne (by omega) _).trans ?_)) ag_4 (by first | exact rfl | exact c7 | exact c57) ?_)
        refine n_op .no (q := 3) rfl (s_bin rfl rfl (bi_d un_4 rfl) ?_)
        refine n_op .no (q := 4) rfl (s_mv rfl ?_)
        refine n_op (.yes rfl rfl (hd)) (q := 5) rfl (s_mv rfl ?_)
        refine n_op (.yes rfl rfl (hd)) (q := 6) rfl (s_mv rfl ?_)
        refine n_sk rfl rfl (rfl) ?_
        refine n_sk rfl rfl (rfl) ?_
        refine n_sk rfl rfl (rfl) ?_
        refine n_sk rfl rfl (rfl) ?_
        refine n_sk rfl rfl (rfl) ?_
        refine n_skU rfl rfl ?_
        refine n_skU rfl rfl ?_
        refine n_skU rfl rfl ?_
        refine n_skU rfl rfl ?_
        refine n_skU rfl rfl ?_
        refine n_skU rfl rfl ?_
        refine n_sk rfl rfl (rfl) ?_
        refine n_op (.yes rfl rfl (hd)) (q := 19) rfl (s_pf rfl (rfl) rfl ?_)
        refine n_op .no (q := 20) rfl (s_pf rfl (hd) rfl ?_)
        refine n_nil ?_
        repeat (first | refine w_seq ?_ | refine w_blk ?_ | refine z_seq ?_ | refine z_blk ?_ | refine w_skip ?_)
        refine w_no rfl (rfl) ?_
        repeat (first | refine w_seq ?_ | refine w_blk ?_ | refine z_seq ?_ | refine z_blk ?_ | refine w_skip ?_)
        repeat (first | refine w_seq ?_ | refine w_blk ?_ | refine z_seq ?_ | refine z_blk ?_ | refine w_skip ?_)
        refine w_reg 2 rfl rfl (j' := 23) ?_
        first | refine n_op .no (q := 21) rfl (s_bin rfl rfl (bi_inc (by omega)) ?_) | refine n_op .no (q := 21) rfl (s_bin rfl rfl (bi_add rfl (by omega) (by omega)) ?_)
        refine n_op .no (q := 22) rfl (s_mv rfl ?_)
        refine n_nil ?_
        exact z_round (i + 1) ⟨rfl, rfl, rfl, rfl, rfl, rfl, trivial⟩ ⟨hi, by omega, kL.tr' kL7 (by omega), { T' with reads := T'.reads + 1 }, e1, e2, hi7.up (by omega), hS7⟩ (by omega)
    · refine w_exit rfl ?_
      exact z_met () ⟨rfl, rfl, rfl, trivial⟩ ⟨by omega, T', e1, e2, hiL.up (by omega), hSL⟩
  clear hW17 c17 hS17 hi14 hfd hTr
  rintro _ f g20 n20 hw20 ⟨hn20, T1, e1, e2, hi1, hS1⟩
  repeat (first | refine w_seq ?_ | refine w_blk ?_ | refine z_seq ?_ | refine z_blk ?_ | refine w_skip ?_)
  refine w_reg 3 rfl rfl (j' := 3) ?_
  refine n_op .no (q := 0) rfl (s_bs el_52 ez_52 rfl rfl rfl ?_)
  refine n_op .no (q := 1) rfl (s_len rfl rfl un_52 rfl ?_)
  refine n_op .no (q := 2) rfl (s_mv rfl ?_)
  refine n_nil ?_
  refine z_seq ?_
  refine z_meet (β := Unit) (fun _ => [(2, .int .i64 z), (8, .pointer (some ⟨s, 0, none⟩)), (12, .int .i64 (S1.rev + 1))])
    (fun _ g' n' => n1 ≤ n' ∧ ∃ T' : Sto, T'.rev = S1.rev + 1 ∧ findK [102, 114, 101, 115, 104] T'.now = none ∧ findK [110, 111, 110, 101, 45, 115, 117, 99, 104] T'.now = none ∧ T'.Inv 110 ∧ StAt n1 g' s m1 m2 l sl13 T') ?_ ?_
  · repeat (first | refine w_seq ?_ | refine w_blk ?_ | refine z_seq ?_ | refine z_blk ?_ | refine w_skip ?_)
    refine w_gen fun g21 n21 hg21 hn21 hwg21 => ?_
    have k21 : K0 g20 n20 g21 := by rw [hg21]; exact (by repeat (first | exact Kp.refl _ _ _ | refine Kp.new ?_ (by omega) _))
    have cst : g21 n20 = some (.cells [.string (str [102, 114, 101, 115, 104]), .string (str [110, 111, 110, 101, 45, 115, 117, 99, 104])] 1 false) := by rw [hg21]; exact gs_same _ _ _
    have hS21 := hS1.kp0 k21 hw20
    have hs20 := hw20 _ _ hS1.cell
    clear hg21 k21
    refine w_loop (β := Nat) (fun i => [(2, .int .i64 z), (8, .pointer (some ⟨s, 0, none⟩)), (12, .int .i64 (S1.rev + 1)), (123, .slice (some ⟨n20, 0, none⟩) 2 2), (124, .int .i64 2), (125, .int .i64 (i : Int))])
      (fun i g' n' => i ≤ 2 ∧ n21 ≤ n' ∧ Kp (FC s) g21 n21 g' ∧ ∃ T' : Sto, T'.now = T1.now ∧ T'.rev = S1.rev + 1 ∧ T'.Inv (100 + i) ∧ StAt n1 g' s m1 m2 l sl13 T' ∧ (1 ≤ i → findK [102, 114, 101, 115, 104] T1.now = none) ∧ (2 ≤ i → findK [110, 111, 110, 101, 45, 115, 117, 99, 104] T1.now = none)) (fun i => 2 - i) 0 ⟨rfl, rfl, rfl, rfl, rfl, rfl, trivial⟩
      ⟨by omega, by omega, Kp.refl _ _ _, T1, rfl, e2, hi1, hS21, (fun h => absurd h (by omega)), fun h => absurd h (by omega)⟩ ?_
    rintro i f gL nL hwL ⟨hi, hnL, kL, T', f1, f2, hiL, hSL, q1, q2⟩
    repeat (first | refine w_seq ?_ | refine w_blk ?_ | refine z_seq ?_ | refine z_blk ?_ | refine w_skip ?_)
    refine w_reg 1 rfl rfl (j' := 1) ?_
    refine n_op .no (q := 0) rfl (s_bin rfl rfl rfl ?_)
    refine n_nil ?_
    repeat (first | refine w_seq ?_ | refine w_blk ?_ | refine z_seq ?_ | refine z_blk ?_ | refine w_skip ?_)
    refine w_if rfl (fun hb => ?_) (fun hb => ?_)
    · have hi : i < 2 := by have := of_decide_eq_true hb; omega
      have cst := kL.at hwg21 cst (fun hf => by obtain ⟨_, _, _, q⟩ := hf; cases q)
      obtain ⟨kk, hk1, hk2, hk3⟩ : ∃ kk : Bs, ([.string (str [102, 114, 101, 115, 104]), .string (str [110, 111, 110, 101, 45, 115, 117, 99, 104])] : List Value)[0 + i * 1]? = some (.string (str kk)) ∧ (i = 0 → kk = [102, 114, 101, 115, 104]) ∧ (i = 1 → kk = [110, 111, 110, 101, 45, 115, 117, 99, 104]) := by
        have : i = 0 ∨ i = 1 := by omega
        rcases this with rfl | rfl
        · exact ⟨_, rfl, (fun _ => rfl), fun h => by omega⟩
        · exact ⟨_, rfl, (fun h => by omega), fun _ => rfl⟩
      repeat (first | refine w_seq ?_ | refine w_blk ?_ | refine z_seq ?_ | refine z_blk ?_ | refine w_skip ?_)
      refine w_reg 3 rfl rfl (j' := 4) ?_
      refine n_op .no (q := 1) rfl (s_ia rfl rfl el_52 (by first | assumption | omega) ?_)
      refine n_op .no (q := 2) rfl (s_ld rfl (by repeat (first | exact gs_same _ _ _ | exact cst | exact hk1 | refine (gs_ne (by omega) _).trans ?_)) ag_9 (by first | exact rfl | exact cst | exact hk1) ?_)
      refine n_op .no (q := 3) rfl (s_as rfl ?_)
      refine n_nil ?_
      repeat (first | refine w_seq ?_ | refine w_blk ?_ | refine z_seq ?_ | refine z_blk ?_ | refine w_skip ?_)
      refine w_reg 9 rfl rfl (j' := 13) ?_
      refine n_op .no (q := 4) rfl (s_mv rfl ?_)
      refine n_op .no (q := 5) rfl (s_mv rfl ?_)
      refine n_call .no rfl rfl rfl ?_
      have hsL := hwL _ _ hSL.cell
      refine C.useG (st_get_i (k := kk) hSL hiL (by omega)) fun v g6 n6 hw6 hn6 hx6 hq => ?_
      obtain ⟨c6, e6, ok6, rfl, hE6, hf6, hS6, k6⟩ := hq
      obtain ⟨a6, p6, rfl, hv6, _⟩ := hE6
      refine n_op .no (q := 7) rfl (s_mv rfl ?_)
      refine n_op .no (q := 8) rfl (s_ext rfl rfl ?_)
      refine n_op .no (q := 9) rfl (s_ext rfl rfl ?_)
      refine n_op .no (q := 10) rfl (s_al zl_28 ?_)
      refine n_op .no (q := 11) rfl (s_stw rfl rfl sz_28 rfl (by repeat (first | exact gs_same _ _ _ | refine (gs_ne (by omega) _).trans ?_)) (by exact rfl) rfl ?_)
      refine n_op .no (q := 12) rfl (s_as rfl ?_)
      refine n_nil ?_
      repeat (first | refine w_seq ?_ | refine w_blk ?_ | refine z_seq ?_ | refine z_blk ?_ | refine w_skip ?_)
      refine w_gen fun g7 n7 hg7 hn7 hwg7 => ?_
      have z6 : g6 (nL + 10) = none := hx6 _ (by omega) (hwL.none (by omega))
      have k7 : K0 g6 n6 g7 := by rw [hg7]; exact Kp.add (Kp.add (Kp.refl _ _ _) z6 _) z6 _
      have hS7 := hS6.kp0 k7 hw6
      have kL7 : Kp (FC s) gL nL g7 := (k6.dn (m := nL) (by omega)).trans0 k7 (by omega)
      have hi7 := hiL.read
      clear hg7 k7 z6
      rcases hf6 with ⟨x, rfl⟩ | ⟨x, rfl, rfl⟩
      · repeat (first | refine w_seq ?_ | refine w_blk ?_ | refine z_seq ?_ | refine z_blk ?_ | refine w_skip ?_)
        refine w_reg 1 rfl rfl (j' := 1) ?_
        refine n_op .no (q := 0) rfl (s_mv rfl ?_)
        refine n_nil ?_
        repeat (first | refine w_seq ?_ | refine w_blk ?_ | refine z_seq ?_ | refine z_blk ?_ | refine w_skip ?_)
        refine w_yes rfl (rfl) ?_
        repeat (first | refine w_seq ?_ | refine w_blk ?_ | refine z_seq ?_ | refine z_blk ?_ | refine w_skip ?_)
        refine w_reg 1 rfl rfl (j' := 2) ?_
        refine n_op .no (q := 1) rfl (s_as rfl ?_)
        refine n_nil ?_
        repeat (first | refine w_ret ?_ | refine w_seq ?_ | refine w_blk ?_ | refine z_seq ?_ | refine z_blk ?_ | refine w_skip ?_)
        refine z_r1 rfl rfl ?_
        rfl
      · repeat (first | refine w_seq ?_ | refine w_blk ?_ | refine z_seq ?_ | refine z_blk ?_ | refine w_skip ?_)
        refine w_reg 1 rfl rfl (j' := 1) ?_
        refine n_op .no (q := 0) rfl (s_mv rfl ?_)
        refine n_nil ?_
        repeat (first | refine w_seq ?_ | refine w_blk ?_ | refine z_seq ?_ | refine z_blk ?_ | refine w_skip ?_)
        refine w_no rfl (rfl) ?_
        repeat (first | refine w_seq ?_ | refine w_blk ?_ | refine z_seq ?_ | refine z_blk ?_ | refine w_skip ?_)
        repeat (first | refine w_seq ?_ | refine w_blk ?_ | refine z_seq ?_ | refine z_blk ?_ | refine w_skip ?_)
        refine w_reg 2 rfl rfl (j' := 3) ?_
        first | refine n_op .no (q := 1) rfl (s_bin rfl rfl (bi_inc (by omega)) ?_) | refine n_op .no (q := 1) rfl (s_bin rfl rfl (bi_add rfl (by omega) (by omega)) ?_)
        refine n_op .no (q := 2) rfl (s_mv rfl ?_)
        refine n_nil ?_
        rw [f1] at x
        refine z_round (i + 1) ⟨rfl, rfl, rfl, rfl, rfl, rfl, trivial⟩ ⟨by omega, by omega, kL.tr' kL7 (by omega), { T' with reads := T'.reads + 1 }, f1, f2, hi7.up (by omega), hS7, fun _ => ?_, fun h => ?_⟩ (by omega)
        · by_cases h0 : i = 0
          · rw [← hk2 h0]; exact x
          · exact q1 (by omega)
        · rw [← hk3 (by omega)]; exact x
    · have hi2 : i = 2 := by have := of_decide_eq_false hb; omega
      subst hi2
      refine w_exit rfl ?_
      exact z_met () ⟨rfl, rfl, rfl, trivial⟩ ⟨by omega, T', f2, by rw [f1]; exact q1 (by omega), by rw [f1]; exact q2 (by omega), hiL.up (by omega), hSL⟩
  clear hS1 hi1 e1 e2
  rintro _ f g30 n30 hw30 ⟨hn30, T2, r2, f1, f2, hi2, hS2⟩
  have hs30 := hw30 _ _ hS2.cell
  repeat (first | refine w_seq ?_ | refine w_blk ?_ | refine z_seq ?_ | refine z_blk ?_ | refine w_skip ?_)
  refine w_reg 10 rfl rfl (j' := 10) ?_
  refine n_op .no (q := 0) rfl (s_bs el_26 ez_26 rfl rfl rfl ?_)
  refine n_op .no (q := 1) rfl (s_mark' un_26 un_5 rfl (gs_same _ _ _) ?_)
  refine n_op .no (q := 2) rfl (s_bld pl_39 zl_39 rfl rfl rfl ?_)
  refine n_op .no (q := 3) rfl (s_bs el_40 ez_40 rfl rfl rfl ?_)
  refine n_op .no (q := 4) rfl (s_bld pl_39 zl_39 rfl rfl rfl ?_)
  refine n_op .no (q := 5) rfl (s_bs el_40 ez_40 rfl rfl rfl ?_)
  refine n_op .no (q := 6) rfl (s_app app40' rfl rfl (own_row (by repeat (first | exact gs_same _ _ _ | refine (gs_ne (by omega) _).trans ?_)) rfl) (src_one (by repeat (first | exact gs_same _ _ _ | refine (gs_ne (by omega) _).trans ?_)) rfl) rfl (by omega) fun a5 c5 g5 tc5 wr5 hrow hgr => ?_)
  have hy5 : g5 (n30 + 0) = some (.cells (u8c [121]) 1 false) := (hgr.same _ (by omega) (fun q => by simp only [vname, Option.some.injEq] at q; omega)).trans (by repeat (first | exact gs_same _ _ _ | refine (gs_ne (by omega) _).trans ?_))
  have k5 : K0 g30 n30 g5 := hgr.kp (by repeat (first | exact Kp.refl _ _ _ | refine Kp.new ?_ (by omega) _)) (by omega) fun x hx => .inl (by simp only [vname, Option.some.injEq] at hx; omega)
  have hW5 : WrsRd g5 (.slice a5 2 c5) [⟨[102, 114, 101, 115, 104], [121], false⟩, ⟨[110, 111, 110, 101, 45, 115, 117, 99, 104], [], true⟩] := ⟨_, hrow.slc, Rows.append (Rows.one rfl ⟨_, _, rfl, ⟨rfl, .inr (.inr ⟨n30 + 0, 0, 1, rfl, Nat.le_refl _, .inr ⟨_, _, hy5, Nat.le_refl _, rfl⟩⟩)⟩⟩) (Rows.one rfl ⟨none, 0, rfl, SlC.nil _ _⟩)⟩
  refine n_op .no (q := 7) rfl (s_bld pl_42 zl_42 rfl rfl rfl ?_)
  refine n_op .no (q := 8) rfl (s_al zl_42 ?_)
  refine n_op .no (q := 9) rfl (s_stw rfl rfl sz_42 rfl (by repeat (first | exact gs_same _ _ _ | refine (gs_ne (by omega) _).trans ?_)) (by exact rfl) rfl ?_)
  refine n_nil ?_
  refine z_seq ?_
  refine w_seq ?_
  refine z_meet (β := Value × Value) (fun x => [(8, .pointer (some ⟨s, 0, none⟩)), (12, .int .i64 (S1.rev + 1)), (23, .pointer (some ⟨n30 + 8, 0, none⟩))])
    (fun x g' n' => n30 + 9 ≤ n' ∧ g' (n30 + 8) = some (.cells [x.1, x.2] 0 false) ∧ GdsRd g' x.1 (badTxn z).1 ∧ WrsRd g' x.2 (badTxn z).2 ∧ StAt n1 g' s m1 m2 l sl13 T2) ?_ ?_
  · repeat (first | refine w_seq ?_ | refine w_blk ?_ | refine z_seq ?_ | refine z_blk ?_ | refine w_skip ?_)
    refine w_gen fun g6 n6 hg6 hn6 hwg6 => ?_
    have hnm : vname (.slice a5 2 c5) ≠ some (n30 + 8) := fun q => by
      rcases hgr.name with e | e | e
      · rw [e] at q; cases q
      · rw [e] at q; simp only [vname, Option.some.injEq] at q; omega
      · rw [e] at q; simp only [Option.some.injEq] at q; omega
    have k6 : K0 g30 n30 g6 := by rw [hg6]; exact Kp.new (Kp.new k5 (by omega) _) (by omega) _
    have c6 : g6 (n30 + 8) = some (.cells [.slice none 0 0, .slice a5 2 c5] 0 false) := by rw [hg6]; exact gs_same _ _ _
    have hy6 : g6 (n30 + 0) = some (.cells (u8c [121]) 1 false) := by rw [hg6]; exact (gs_ne (by omega) _).trans ((gs_ne (by omega) _).trans hy5)
    have hrow6 := (hrow.other hnm (.cells [.slice none 0 0, .slice none 0 0] 0 false)).other hnm (.cells [.slice none 0 0, .slice a5 (1 + 1) c5] 0 false)
    have hW6 : WrsRd g6 (.slice a5 2 c5) [⟨[102, 114, 101, 115, 104], [121], false⟩, ⟨[110, 111, 110, 101, 45, 115, 117, 99, 104], [], true⟩] := ⟨wrC ⟨[102, 114, 101, 115, 104], [121], false⟩ (.slice (some ⟨n30 + 0, 0, none⟩) 1 1) ++ wrC ⟨[110, 111, 110, 101, 45, 115, 117, 99, 104], [], true⟩ (.slice none 0 0), by rw [hg6]; exact hrow6.slc, Rows.append (Rows.one rfl ⟨_, _, rfl, ⟨rfl, .inr (.inr ⟨n30 + 0, 0, 1, rfl, Nat.le_refl _, .inr ⟨_, _, hy6, Nat.le_refl _, rfl⟩⟩)⟩⟩) (Rows.one rfl ⟨none, 0, rfl, SlC.nil _ _⟩)⟩
    have hS6 := hS2.kp0 k6 hw30
    clear hg6 hrow6 hrow hgr k5 hy5 hy6 k6
    repeat (first | refine w_seq ?_ | refine w_blk ?_ | refine z_seq ?_ | refine z_blk ?_ | refine w_skip ?_)
    refine w_reg 3 rfl rfl (j' := 3) ?_
    refine n_op .no (q := 0) rfl (s_mv rfl ?_)
    refine n_op .no (q := 1) rfl (s_bin rfl rfl (r := .int .i64 (z.tmod 2)) (bi_rem (by omega) (by first | rfl | assumption | omega)) ?_)
    refine n_op .no (q := 2) rfl (s_bin rfl rfl rfl ?_)
    refine n_nil ?_
    by_cases hz : z.tmod 2 = 0
    · repeat (first | refine w_seq ?_ | refine w_blk ?_ | refine z_seq ?_ | refine z_blk ?_ | refine w_skip ?_)
      refine w_yes rfl (beq_iff_eq.2 hz) ?_
      repeat (first | refine w_seq ?_ | refine w_blk ?_ | refine z_seq ?_ | refine z_blk ?_ | refine w_skip ?_)
      refine w_reg 6 rfl rfl (j' := 9) ?_
      refine n_op .no (q := 3) rfl (s_bld pl_36 zl_36 rfl rfl rfl ?_)
      refine n_op .no (q := 4) rfl (s_bs el_37 ez_37 rfl rfl rfl ?_)
      refine n_op .no (q := 5) rfl (s_bld pl_39 zl_39 rfl rfl rfl ?_)
      refine n_op .no (q := 6) rfl (s_bs el_40 ez_40 rfl rfl rfl ?_)
      refine n_op .no (q := 7) rfl (s_bld pl_42 zl_42 rfl rfl rfl ?_)
      refine n_op .no (q := 8) rfl (s_stw rfl rfl sz_42 rfl (by repeat (first | exact gs_same _ _ _ | exact c6 | refine (gs_ne (by omega) _).trans ?_)) (by exact rfl) rfl ?_)
      refine n_nil ?_
      repeat (first | refine w_seq ?_ | refine w_blk ?_ | refine z_seq ?_ | refine z_blk ?_ | refine w_skip ?_)
      refine z_met (.slice (some ⟨n6 + 4, 0, none⟩) 1 1, .slice (some ⟨n6 + 6, 0, none⟩) 1 1) ⟨rfl, rfl, rfl, trivial⟩ ⟨by omega, gs_same _ _ _, ?_, ?_, ?_⟩
      · rw [show badTxn z = _ from if_pos hz]
        exact gds_one (x := ⟨[110, 111, 110, 101, 45, 115, 117, 99, 104], 5, false⟩) (by repeat (first | exact gs_same _ _ _ | refine (gs_ne (by omega) _).trans ?_))
      · rw [show badTxn z = _ from if_pos hz]
        exact wrs_one (x := ⟨[102, 114, 101, 115, 104], [], false⟩) (a := none) (p := 0) (by repeat (first | exact gs_same _ _ _ | refine (gs_ne (by omega) _).trans ?_)) (SlC.nil _ _)
      · exact hS6.fc (x := n30 + 8) (n := n6) (Kp.set (Kp.new (Kp.new (Kp.refl _ _ _) (by omega) _) (by omega) _) (FC.of c6) _) hwg6 (by omega) (by have := hw30 _ _ hS2.log.cell; omega)
    · repeat (first | refine w_seq ?_ | refine w_blk ?_ | refine z_seq ?_ | refine z_blk ?_ | refine w_skip ?_)
      refine w_no rfl (beq_eq_false_iff_ne.2 hz) ?_
      repeat (first | refine w_seq ?_ | refine w_blk ?_ | refine z_seq ?_ | refine z_blk ?_ | refine w_skip ?_)
      refine z_met (.slice none 0 0, .slice a5 2 c5) ⟨rfl, rfl, rfl, trivial⟩ ⟨by omega, c6, ?_, ?_, hS6⟩
      · rw [show badTxn z = _ from if_neg hz]
        exact GdsRd.nil _
      · rw [show badTxn z = _ from if_neg hz]
        exact hW6
  clear hW5 hrow hgr hy5 k5 hS2
  rintro ⟨gv7, wv7⟩ f g7 n7 hw7 ⟨hn7, c7, hG7, hW7, hS7⟩
  simp only at c7 hG7 hW7
  have q := bad_can z f2
  have et : T2.txn (badTxn z).1 (badTxn z).2 = ({ T2 with writes := T2.writes + 1 }, 0, T2.can (badTxn z).1 (badTxn z).2) := Sto.txn_no (by rcases q with q | q <;> rw [q] <;> decide)
  have hi34 := hi2.txn (gs := (badTxn z).1) (ws := (badTxn z).2)
  rw [et] at hi34
  repeat (first | refine w_seq ?_ | refine w_blk ?_ | refine z_seq ?_ | refine z_blk ?_ | refine w_skip ?_)
  refine w_reg 7 rfl rfl (j' := 7) ?_
  refine n_op .no (q := 0) rfl (s_mv rfl ?_)
  refine n_op .no (q := 1) rfl (s_ldf rfl (by repeat (first | exact gs_same _ _ _ | exact c7 | refine (gs_ne (by omega) _).trans ?_)) ag_42 sz_42 (by exact rfl) ?_)
  refine n_call .no rfl rfl rfl ?_
  refine C.use (st_txn_i hS7 hi2 (by omega) (by omega) hG7 hW7) fun v g34 n34 hw34 hn34 hq => ?_
  obtain ⟨sl34, hu34, hS34, hM34, k34⟩ := hq
  rw [et] at hu34 hS34
  subst hu34
  refine n_op .no (q := 3) rfl (s_mv rfl ?_)
  refine n_op .no (q := 4) rfl (s_ext rfl rfl ?_)
  refine n_op .no (q := 5) rfl (s_ext rfl rfl ?_)
  refine n_op .no (q := 6) rfl (s_as rfl ?_)
  refine n_nil ?_
  repeat (first | refine w_seq ?_ | refine w_blk ?_ | refine z_seq ?_ | refine z_blk ?_ | refine w_skip ?_)
  refine w_reg 8 rfl rfl (j' := 8) ?_
  refine n_op .no (q := 0) rfl (s_mv rfl ?_)
  refine n_call .no rfl rfl rfl ?_
  refine C.useG (st_get_i (k := [102, 114, 101, 115, 104]) hS34 hi34 (by omega)) fun v g35 n35 hw35 hn35 hx35 hq => ?_
  obtain ⟨c9, e9, ok9, rfl, hE9, hf9, hS9, k9⟩ := hq
  have f1' : findK [102, 114, 101, 115, 104] ({ T2 with writes := T2.writes + 1 } : Sto).now = none := f1
  obtain ⟨rfl, rfl⟩ : e9 = SEnt.zero ∧ ok9 = false := by
    rcases hf9 with ⟨x, y⟩ | ⟨_, x, y⟩
    · rw [f1'] at x; cases x
    · exact ⟨x, y⟩
  obtain ⟨a9, p9, rfl, _, _⟩ := hE9
  refine n_op .no (q := 2) rfl (s_mv rfl ?_)
  refine n_op .no (q := 3) rfl (s_ext rfl rfl ?_)
  refine n_op .no (q := 4) rfl (s_ext rfl rfl ?_)
  refine n_op .no (q := 5) rfl (s_al zl_28 ?_)
  refine n_op .no (q := 6) rfl (s_stw rfl rfl sz_28 rfl (by repeat (first | exact gs_same _ _ _ | refine (gs_ne (by omega) _).trans ?_)) (by exact rfl) rfl ?_)
  refine n_op .no (q := 7) rfl (s_as rfl ?_)
  refine n_nil ?_
  repeat (first | refine w_seq ?_ | refine w_blk ?_ | refine z_seq ?_ | refine z_blk ?_ | refine w_skip ?_)
  refine w_gen fun g40 n40 hg40 hn40 hwg40 => ?_
  have z40 : g35 (n34 + 5) = none := hx35 _ (by omega) (hw34.none (by omega))
  have k40 : K0 g35 n35 g40 := by rw [hg40]; exact Kp.add (Kp.add (Kp.refl _ _ _) z40 _) z40 _
  have hS40 := hS9.kp0 k40 hw35
  clear hg40 k40 z40 hf9 hS34 hM34 k34 k9 hS9
  rcases q with q | q
  · repeat (first | refine w_seq ?_ | refine w_blk ?_ | refine z_seq ?_ | refine z_blk ?_ | refine w_skip ?_)
    refine w_reg 17 rfl rfl (j' := 17) ?_
    refine n_op .no (q := 0) rfl (s_mv rfl ?_)
    refine n_op .no (q := 1) rfl (s_bin rfl rfl rfl ?_)
    refine n_op .no (q := 2) rfl (s_mv rfl ?_)
    refine n_op (.yes rfl rfl (beq_eq_false_iff_ne.2 (show T2.can (badTxn z).1 (badTxn z).2 ≠ 3 by rw [q]; decide))) (q := 3) rfl (s_mv rfl ?_)
    refine n_op (.yes rfl rfl (beq_eq_false_iff_ne.2 (show T2.can (badTxn z).1 (badTxn z).2 ≠ 3 by rw [q]; decide))) (q := 4) rfl (s_bin rfl rfl rfl ?_)
    refine n_op .no (q := 5) rfl (s_pf rfl (beq_eq_false_iff_ne.2 (show T2.can (badTxn z).1 (badTxn z).2 ≠ 3 by rw [q]; decide)) rfl ?_)
    refine n_op .no (q := 6) rfl (s_mv rfl ?_)
    refine n_op (.yes rfl rfl (beq_iff_eq.2 q)) (q := 7) rfl (s_mv rfl ?_)
    refine n_op (.yes rfl rfl (beq_iff_eq.2 q)) (q := 8) rfl (s_not rfl ?_)
    refine n_op .no (q := 9) rfl (s_pt rfl (beq_iff_eq.2 q) rfl ?_)
    refine n_op .no (q := 10) rfl (s_mv rfl ?_)
    refine n_op (.yes rfl rfl (rfl)) (q := 11) rfl (s_mv rfl ?_)
    refine n_call (.yes rfl rfl (rfl)) rfl rfl rfl ?_
    refine C.use (st_rev hS40) fun v g41 n41 hw41 hn41 hq => ?_
    obtain ⟨rfl, k41⟩ := hq
    refine n_op (.yes rfl rfl (rfl)) (q := 13) rfl (s_mv rfl ?_)
    refine n_op (.yes rfl rfl (rfl)) (q := 14) rfl (s_bin rfl rfl rfl ?_)
    refine n_op .no (q := 15) rfl (s_pt rfl (rfl) rfl ?_)
    refine n_op .no (q := 16) rfl (s_as rfl ?_)
    refine n_nil ?_
    repeat (first | refine w_ret ?_ | refine w_seq ?_ | refine w_blk ?_ | refine z_seq ?_ | refine z_blk ?_ | refine w_skip ?_)
    refine z_r1 rfl rfl ?_
    show Value.bool (T2.rev == S1.rev + 1) = _
    rw [r2, beq_self_eq_true]
  · repeat (first | refine w_seq ?_ | refine w_blk ?_ | refine z_seq ?_ | refine z_blk ?_ | refine w_skip ?_)
    refine w_reg 17 rfl rfl (j' := 17) ?_
    refine n_op .no (q := 0) rfl (s_mv rfl ?_)
    refine n_op .no (q := 1) rfl (s_bin rfl rfl rfl ?_)
    refine n_op .no (q := 2) rfl (s_mv rfl ?_)
    refine n_sk rfl rfl (beq_iff_eq.2 q) ?_
    refine n_sk rfl rfl (beq_iff_eq.2 q) ?_
    refine n_op .no (q := 5) rfl (s_pt rfl (beq_iff_eq.2 q) rfl ?_)
    refine n_op .no (q := 6) rfl (s_mv rfl ?_)
    refine n_op (.yes rfl rfl (rfl)) (q := 7) rfl (s_mv rfl ?_)
    refine n_op (.yes rfl rfl (rfl)) (q := 8) rfl (s_not rfl ?_)
    refine n_op .no (q := 9) rfl (s_pt rfl (rfl) rfl ?_)
    refine n_op .no (q := 10) rfl (s_mv rfl ?_)
    refine n_op (.yes rfl rfl (rfl)) (q := 11) rfl (s_mv rfl ?_)
    refine n_call (.yes rfl rfl (rfl)) rfl rfl rfl ?_
    refine C.use (st_rev hS40) fun v g41 n41 hw41 hn41 hq => ?_
    obtain ⟨rfl, k41⟩ := hq
    refine n_op (.yes rfl rfl (rfl)) (q := 13) rfl (s_mv rfl ?_)
    refine n_op (.yes rfl rfl (rfl)) (q := 14) rfl (s_bin rfl rfl rfl ?_)
    refine n_op .no (q := 15) rfl (s_pt rfl (rfl) rfl ?_)
    refine n_op .no (q := 16) rfl (s_as rfl ?_)
    refine n_nil ?_
    repeat (first | refine w_ret ?_ | refine w_seq ?_ | refine w_blk ?_ | refine z_seq ?_ | refine z_blk ?_ | refine w_skip ?_)
    refine z_r1 rfl rfl ?_
    show Value.bool (T2.rev == S1.rev + 1) = _
    rw [r2, beq_self_eq_true]

end Go.Proofs.YtehmailaabjdjaaGreat
