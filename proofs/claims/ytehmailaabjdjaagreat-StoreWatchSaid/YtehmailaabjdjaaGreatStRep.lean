/-
  StoreReplay answers true. No condition but that begun does.
-/
import Derived.Test.YtehmailaabjdjaaGreatCaB
open Go.Proofs
namespace Go.Proofs.YtehmailaabjdjaaGreat
set_option linter.unusedSimpArgs false
set_option linter.unusedVariables false
set_option maxRecDepth 100000

/-- Events whose bytes are few. -/
def EvSm (es : List Evt) : Prop := ∀ e ∈ es, e.val.length ≤ 4000
theorem Hist.txnV {S : Sto} {all : List Evt} (h : Hist S all) (hv : EvSm all) (gs : List Gd) (ws : List Wr) : ∃ es, Hist (S.txn gs ws).1 (all ++ es) ∧ (S.txn gs ws).1.now = es.foldl evPut S.now ∧ (∀ e ∈ es, S.rev < e.rev) ∧ S.rev ≤ (S.txn gs ws).1.rev ∧ EvSm (all ++ es) := by
  by_cases h0 : S.can gs ws = 0
  · have hm := can_may h0
    have e : S.txn gs ws = ({ ws.foldl (Sto.put1 (S.rev + 1)) { S with rev := S.rev + 1, writes := S.writes + 1 } with log := S.log.add (ws.map (evtW (S.rev + 1))) }, S.rev + 1, 0) := if_pos h0
    rw [e]
    have hne : ws.map (evtW (S.rev + 1)) ≠ [] := fun q => by
      have := congrArg List.length q
      rw [List.length_map] at this
      have := hm.2.1
      simp_all
    have hr : ∀ x ∈ ws.map (evtW (S.rev + 1)), x.rev = S.rev + 1 := fun x hx => by
      obtain ⟨w, _, rfl⟩ := List.mem_map.1 hx
      rfl
    have hl := h.last
    obtain ⟨k1, k2, _⟩ := h.log.add hne hr (by omega)
    have hrev := (puts_same (S.rev + 1) ws ({ S with rev := S.rev + 1, writes := S.writes + 1 } : Sto)).1
    refine ⟨ws.map (evtW (S.rev + 1)), ⟨k1, ?_⟩, ?_, fun x hx => by rw [hr x hx]; omega, ?_, fun x hx => ?_⟩
    · show (S.log.add _).last = _
      rw [k2]; exact hrev.symm
    · exact puts_ev _ _ _
    · have : S.rev ≤ (ws.foldl (Sto.put1 (S.rev + 1)) ({ S with rev := S.rev + 1, writes := S.writes + 1 } : Sto)).rev := by rw [hrev]; simp only; omega
      exact this
    · rcases List.mem_append.1 hx with hx | hx
      · exact hv x hx
      · obtain ⟨w, hw, rfl⟩ := List.mem_map.1 hx
        exact (hm.2.2.2.2.1 w hw).2.2
  · have e : S.txn gs ws = ({ S with writes := S.writes + 1 }, 0, S.can gs ws) := if_neg h0
    rw [e]
    refine ⟨[], ⟨?_, h.last⟩, rfl, (fun x hx => by cases hx), Int.le_refl _, ?_⟩
    · rw [List.append_nil]; exact h.log
    · rw [List.append_nil]; exact hv
theorem Since.txnV {S : Sto} {r : Int} {was : List (Bs × SEnt)} {all : List Evt} (h : Since S r was all) (hv : EvSm all) (gs : List Gd) (ws : List Wr) : ∃ all', Since (S.txn gs ws).1 r was all' ∧ EvSm all' := by
  obtain ⟨es, h1, h2, h3, h4, h5⟩ := h.hist.txnV hv gs ws
  have hle := h.le
  refine ⟨_, ⟨h1, ⟨hle.1, by omega⟩, ?_⟩, h5⟩
  rw [h2, h.now]
  have : after r (all ++ es) = after r all ++ es := by
    unfold after
    rw [List.filter_append]
    congr 1
    refine List.filter_eq_self.2 fun e he => decide_eq_true ?_
    have := h3 e he
    omega
  rw [this, List.foldl_append]
theorem from_len (L : Log) (r : Int) : (L.from_ r).1.length ≤ L.evs.length := by
  unfold Log.from_
  split
  · simp
  · split
    · simp
    · exact List.length_filter_le _ _

/-- What was taken down of a store, at some revision. -/
structure TakenAt (g : Gm) (v : Value) (r : Int) (S : Sto) (was : List (Bs × SEnt)) (L : List SEnt) (all : List Evt) : Prop where
  since : Since S r was all
  small : EvSm all
  rl : RL L was
  ents : EntsRd g v L
  len : L.length ≤ 2 ^ 19

theorem storeReplay_c (hB : BegunOk) {g : Gm} {n : Nat} {v : Value} {z : Int} {xs : List SOp} (h : SopsRd g v xs) : C 18 #[v, .int .i64 z] g n fun u g' n' => u = .bool true := by
  obtain ⟨a, c, rfl⟩ := h.len
  refine c_in2 Tryz.func18 rfl Tryz.ntmps18 rfl fun hw => ?_
  repeat first | refine Na ?_ | refine Nb ?_ | refine Nc ?_ | refine Nd ?_ | refine Ne ?_
  refine w_reg 1 rfl rfl (j' := 1) (nA rfl (n_nil ?_))
  repeat first | refine Na ?_ | refine Nb ?_ | refine Nc ?_ | refine Nd ?_ | refine Ne ?_
  refine w_reg 2 rfl rfl (j' := 3) (n_call .no rfl rfl rfl ?_)
  refine C.use (hB _ _) fun v g1 n1 hw1 hn1 hq => ?_
  obtain ⟨rfl, rfl⟩ := hq
  refine nA rfl (n_nil ?_)
  repeat first | refine Na ?_ | refine Nb ?_ | refine Nc ?_ | refine Nd ?_ | refine Ne ?_
  refine w_reg 2 rfl rfl (j' := 2) (nM rfl (nO (s_not rfl (n_nil ?_))))
  repeat first | refine Na ?_ | refine Nb ?_ | refine Nc ?_ | refine Nd ?_ | refine Ne ?_
  refine w_no rfl (rfl) ?_
  have h1 : SopsRd g1 (.slice a xs.length c) xs := h
  repeat first | refine Na ?_ | refine Nb ?_ | refine Nc ?_ | refine Nd ?_ | refine Ne ?_
  refine w_reg 2 rfl rfl (j' := 4) (n_call .no rfl rfl rfl ?_)
  refine C.use (st_newB _ _) fun v g2 n2 hw2 hn2 hq => ?_
  obtain ⟨s, m1, m2, l, rfl, hS2, hb2, k2⟩ := hq
  refine nA rfl (n_nil ?_)
  have hS2 := hS2.up (b' := n1) (by omega)
  have hq : n1 ≤ s ∧ n1 ≤ m1 ∧ n1 ≤ m2 ∧ n1 ≤ l := by omega
  have k2' : K0 g1 n1 g2 := k2.dn (m := n1) (by omega)
  clear k2
  have t1 := tmod_lt (a := z) (b := 40) (by omega)
  repeat first | refine Na ?_ | refine Nb ?_ | refine Nc ?_ | refine Nd ?_ | refine Ne ?_
  refine w_reg 1 rfl rfl (j' := 1) (nA rfl (n_nil ?_))
  repeat first | refine Na ?_ | refine Nb ?_ | refine Nc ?_ | refine Nd ?_ | refine Ne ?_
  refine w_reg 1 rfl rfl (j' := 2) (nA rfl (n_nil ?_))
  refine z_seq ?_
  refine w_seq ?_
  repeat first | refine Na ?_ | refine Nb ?_ | refine Nc ?_ | refine Nd ?_ | refine Ne ?_
  refine w_reg 1 rfl rfl (j' := 3) (nA rfl (n_nil ?_))
  refine z_seq ?_
  refine z_meet (β := Value × Int) (fun x => [(6, .pointer (some ⟨s, 0, none⟩)), (7, x.1), (8, .int .i64 x.2)])
    (fun x g' n' => n1 ≤ n' ∧ K0 g1 n1 g' ∧ ∃ S sl was L all, S.Inv 80 ∧ StAt n1 g' s m1 m2 l sl S ∧ TakenAt g' x.1 x.2 S was L all) ?_ ?_
  · repeat first | refine Na ?_ | refine Nb ?_ | refine Nc ?_ | refine Nd ?_ | refine Ne ?_
    refine w_loop (β := Nat × Value × Int) (fun x => [(0, .slice a xs.length c), (1, .int .i64 z), (6, .pointer (some ⟨s, 0, none⟩)), (7, x.2.1), (8, .int .i64 x.2.2), (9, .int .i64 (x.1 : Int))])
      (fun x g' n' => x.1 ≤ xs.length ∧ x.1 ≤ 40 ∧ n1 ≤ n' ∧ K0 g1 n1 g' ∧ ∃ S sl was L all, S.Inv (2 * x.1) ∧ StAt n1 g' s m1 m2 l sl S ∧ TakenAt g' x.2.1 x.2.2 S was L all) (fun x => 40 - x.1) (0, .slice none 0 0, 0) ⟨rfl, rfl, rfl, rfl, rfl, rfl, trivial⟩
      ⟨by simp, by simp, by omega, k2', _, _, [], [], [], Sto.Inv.new, hS2, ⟨Since.here Hist.new, (fun e he => by cases he), RL.nil, EntsRd.nil _, by simp⟩⟩ ?_
    rintro ⟨i, vw, fr⟩ f gL nL hwL ⟨hi, hi40, hnL, wL, S, sl, was, L, all, hinv, hS, hT⟩
    simp only at hi hi40 hinv hT
    by_cases hlt : i < xs.length ∧ i < 40
    rotate_left
    · by_cases hlt1 : i < xs.length
      · repeat first | refine Na ?_ | refine Nb ?_ | refine Nc ?_ | refine Nd ?_ | refine Ne ?_
        refine w_reg 8 rfl rfl (j' := 8) (nM rfl (nM rfl (nO (s_len rfl rfl un_44 rfl (nO (s_bin rfl rfl rfl (nM rfl (nG rfl rfl (decide_eq_true (by omega)) rfl (nY rfl rfl (decide_eq_true (by omega)) (s_bin rfl rfl rfl (nO (s_pt rfl (decide_eq_true (by omega)) rfl (n_nil ?_)))))))))))))
        repeat first | refine Na ?_ | refine Nb ?_ | refine Nc ?_ | refine Nd ?_ | refine Ne ?_
        refine w_no rfl (decide_eq_false (by omega)) ?_
        refine w_exit rfl ?_
        exact z_met (vw, fr) ⟨rfl, rfl, rfl, trivial⟩ ⟨by omega, wL, S, sl, was, L, all, hinv.up (by omega), hS, hT⟩
      · repeat first | refine Na ?_ | refine Nb ?_ | refine Nc ?_ | refine Nd ?_ | refine Ne ?_
        refine w_reg 8 rfl rfl (j' := 8) (nM rfl (nM rfl (nO (s_len rfl rfl un_44 rfl (nO (s_bin rfl rfl rfl (nM rfl (n_sk rfl rfl (decide_eq_false (by omega)) (n_sk rfl rfl (decide_eq_false (by omega)) (nO (s_pf rfl (decide_eq_false (by omega)) rfl (n_nil ?_))))))))))))
        repeat first | refine Na ?_ | refine Nb ?_ | refine Nc ?_ | refine Nd ?_ | refine Ne ?_
        refine w_no rfl (rfl) ?_
        refine w_exit rfl ?_
        exact z_met (vw, fr) ⟨rfl, rfl, rfl, trivial⟩ ⟨by omega, wL, S, sl, was, L, all, hinv.up (by omega), hS, hT⟩
    repeat first | refine Na ?_ | refine Nb ?_ | refine Nc ?_ | refine Nd ?_ | refine Ne ?_
    refine w_reg 8 rfl rfl (j' := 8) (nM rfl (nM rfl (nO (s_len rfl rfl un_44 rfl (nO (s_bin rfl rfl rfl (nM rfl (nG rfl rfl (decide_eq_true (by omega)) rfl (nY rfl rfl (decide_eq_true (by omega)) (s_bin rfl rfl rfl (nO (s_pt rfl (decide_eq_true (by omega)) rfl (n_nil ?_)))))))))))))
    repeat first | refine Na ?_ | refine Nb ?_ | refine Nc ?_ | refine Nd ?_ | refine Ne ?_
    refine w_yes rfl (decide_eq_true (by omega)) ?_
    have hil := hlt.1
    obtain ⟨l3, o3, c3, cl3, ro3, gv3, wv3, x1, x2, x3, x4, x5, x6, x7, x8⟩ := (h1.kp0 wL hw1).at hil
    cases x1
    obtain ⟨op, hop⟩ : ∃ op, op = xs[i]'hil := ⟨_, rfl⟩
    rw [← hop] at x4 x6 x7 x8
    repeat first | refine Na ?_ | refine Nb ?_ | refine Nc ?_ | refine Nd ?_ | refine Ne ?_
    refine w_reg 8 rfl rfl (j' := 16) (nM rfl (nM rfl (nM rfl (nO (s_ia rfl rfl el_44 (by first | assumption | omega) (nO (s_fa rfl fo_47_1 ?_)))))))
    refine nO (s_lda rfl (by repeat first | exact gS | exact x2 | exact x5 | refine gN (by omega) ?_) ag_42 sz_42 (by first | exact Nat.le_of_ble_eq_true rfl | assumption | omega) (by first | exact x2 | exact x5 | exact rfl) ?_)
    refine n_call .no rfl rfl rfl ?_
    refine C.use (cut_c x7 x8) fun v g4 n4 hw4 hn4 hq => ?_
    obtain ⟨v4, w4, rfl, hg4, hw4', k4⟩ := hq
    refine n_call .no rfl rfl rfl ?_
    have k4' := k4.dn (m := nL) (by omega)
    refine C.use (st_txn_i (hS.kp0 k4' hwL) hinv (by omega) (by omega) hg4 hw4') fun v g5 n5 hw5 hn5 hq => ?_
    obtain ⟨sl5, hu5, hS5, hM5, k5⟩ := hq
    refine n_nil ?_
    have k45 : Kp (FS s m1 m2 l sl) gL nL g5 := (Kp.z k4').tr' k5 (by omega)
    have w5 : K0 g1 n1 g5 := wL.trans0 (hS.low hq (Nat.le_refl _) (by omega) k45) (Nat.le_refl _)
    obtain ⟨all', hS', hV'⟩ := hT.since.txnV hT.small (op.gs.take 25) (op.ws.take 70)
    have hT5 : TakenAt g5 vw fr (S.txn (op.gs.take 25) (op.ws.take 70)).1 was L all' := ⟨hS', hV', hT.rl, hT.ents.kk k45 hwL (FS.no3 _ _ _ _ _) (FS.nob _ _ _ _ _), hT.len⟩
    have hinv5 := hinv.txn (gs := op.gs.take 25) (ws := op.ws.take 70)
    clear k4 k4' k5 hM5 hg4 hw4' x2 x3 x4 x5 x6 x7 x8 hS k45 wL hS' hV' hT hinv hu5
    generalize (S.txn (op.gs.take 25) (op.ws.take 70)).1 = S1 at *
    have t2 := tmod_nn (a := z.tmod 40 + 40) (b := 40) (by omega) (by omega)
    repeat first | refine Na ?_ | refine Nb ?_ | refine Nc ?_ | refine Nd ?_ | refine Ne ?_
    refine w_reg 6 rfl rfl (j' := 6) (nM rfl (nM rfl (nO (s_bin rfl rfl (r := .int .i64 (z.tmod 40)) (bi_rem (by omega) (by first | rfl | assumption | omega)) (nO (s_bin rfl rfl (r := .int .i64 (z.tmod 40 + 40)) (by first | exact bi_add (by omega) (by omega) (by omega) | exact bi_add rfl (by omega) (by omega)) ?_))))))
    refine nO (s_bin rfl rfl (r := .int .i64 ((z.tmod 40 + 40).tmod 40)) (bi_rem (by omega) (by first | rfl | assumption | omega)) (nO (s_bin rfl rfl rfl (n_nil ?_))))
    repeat first | refine Na ?_ | refine Nb ?_ | refine Nc ?_ | refine Nd ?_ | refine Ne ?_
    refine w_if rfl (fun hb => ?_) (fun hb => ?_)
    · repeat first | refine Na ?_ | refine Nb ?_ | refine Nc ?_ | refine Nd ?_ | refine Ne ?_
      refine w_reg 6 rfl rfl (j' := 12) (nM rfl (n_call .no rfl rfl rfl ?_))
      refine C.use (st_list_i hS5 hinv5 (by omega)) fun v g6 n6 hw6 hn6 hq => ?_
      obtain ⟨hE6, hS6, k6⟩ := hq
      refine nM rfl (n_call .no rfl rfl rfl ?_)
      have k6' := k6.dn (m := n5) (by omega)
      refine C.use (st_rev hS6) fun v g7 n7 hw7 hn7 hq => ?_
      obtain ⟨rfl, k7⟩ := hq
      refine nA rfl (nA rfl (n_nil ?_))
      have k7' := k7.dn (m := n6) (by omega)
      have hS7 := hS6.kp0 k7' hw6
      have k57 : Kp (FC s) g5 n5 g7 := k6'.trans0 k7' (by omega)
      have w7 : K0 g1 n1 g7 := w5.trans0 (StAt.lowC hq.1 (by omega) k57) (Nat.le_refl _)
      have hrl : RL S1.list S1.now := RL.ofList hS5.now.nodup fun e he => (hinv5.now e he).2.1
      have hT7 : TakenAt g7 v S1.rev { S1 with reads := S1.reads + 1 } S1.now S1.list all' := ⟨(Since.here hT5.since.hist).read, hT5.small, hrl, (hE6.rd.kp0 k7' hw6), by have := hinv5.list_len; omega⟩
      repeat first | refine Na ?_ | refine Nb ?_ | refine Nc ?_ | refine Nd ?_ | refine Ne ?_
      repeat first | refine Na ?_ | refine Nb ?_ | refine Nc ?_ | refine Nd ?_ | refine Ne ?_
      refine w_reg 3 rfl rfl (j' := 3) (nM rfl (nO (s_bin rfl rfl (by first | exact bi_inc (by omega) | exact bi_add rfl (by omega) (by omega)) ?_)))
      refine nA rfl (n_nil ?_)
      exact z_round (i + 1, v, S1.rev) ⟨rfl, rfl, rfl, rfl, rfl, rfl, trivial⟩ ⟨hil, by simp only; omega, by omega, w7, _, _, _, _, _, hinv5.read.up (by simp only; omega), hS7, hT7⟩ (by simp only; omega)
    · repeat first | refine Na ?_ | refine Nb ?_ | refine Nc ?_ | refine Nd ?_ | refine Ne ?_
      repeat first | refine Na ?_ | refine Nb ?_ | refine Nc ?_ | refine Nd ?_ | refine Ne ?_
      refine w_reg 3 rfl rfl (j' := 9) (nM rfl (nO (s_bin rfl rfl (by first | exact bi_inc (by omega) | exact bi_add rfl (by omega) (by omega)) ?_)))
      refine nA rfl (n_nil ?_)
      exact z_round (i + 1, vw, fr) ⟨rfl, rfl, rfl, rfl, rfl, rfl, trivial⟩ ⟨hil, by simp only; omega, by omega, w5, _, _, _, _, _, hinv5.up (by simp only; omega), hS5, hT5⟩ (by simp only; omega)
  rintro ⟨vw, fr⟩ f g8 n8 hw8 ⟨hn8, w8, S, sl, was, L, all, hinv, hS, hT⟩
  simp only at hT
  have hwt := hT.since.watch
  repeat first | refine Na ?_ | refine Nb ?_ | refine Nc ?_ | refine Nd ?_ | refine Ne ?_
  refine w_reg 8 rfl rfl (j' := 8) (nM rfl (nM rfl (n_call .no rfl rfl rfl ?_)))
  refine C.use (st_watch_i hS hinv (by omega)) fun v g9 n9 hw9 hn9 hq => ?_
  obtain ⟨v9, rfl, hE9, hS9, k9⟩ := hq
  rw [hwt] at hE9
  rw [hwt]
  refine nM rfl (nO (s_ext rfl rfl (nO (s_ext rfl rfl (nA rfl (nA rfl (n_nil ?_)))))))
  by_cases hlt : fr < S.log.base
  · rw [if_pos hlt]
    repeat first | refine Na ?_ | refine Nb ?_ | refine Nc ?_ | refine Nd ?_ | refine Ne ?_
    refine w_reg 2 rfl rfl (j' := 2) (nM rfl (nO (s_bin rfl rfl rfl (n_nil ?_))))
    repeat first | refine Na ?_ | refine Nb ?_ | refine Nc ?_ | refine Nd ?_ | refine Ne ?_
    refine w_yes rfl (rfl) ?_
    repeat first | refine Na ?_ | refine Nb ?_ | refine Nc ?_ | refine Nd ?_ | refine Ne ?_
    refine w_reg 9 rfl rfl (j' := 11) (nM rfl (nO (s_bin rfl rfl rfl (nM rfl (nG rfl rfl (rfl) rfl (nG rfl rfl (rfl) rfl (n_call (.yes rfl rfl (rfl)) rfl rfl rfl ?_)))))))
    refine C.use (st_base hS9) fun v g10 n10 hw10 hn10 hq => ?_
    obtain ⟨rfl, k10⟩ := hq
    refine nY rfl rfl (rfl) (s_bin rfl rfl rfl (nO (s_pt rfl (rfl) rfl (nA rfl (n_nil ?_)))))
    repeat first | refine Nf ?_ | refine Na ?_ | refine Nb ?_ | refine Nc ?_ | refine Nd ?_ | refine Ne ?_
    refine z_r1 rfl rfl ?_
    exact congrArg Value.bool (decide_eq_true hlt)
  rw [if_neg hlt] at hE9 ⊢
  have k9' := k9.dn (m := n8) (by omega)
  have hlen9 : (after fr all).length ≤ 2 ^ 20 := by
    have h2 := from_len S.log fr
    rw [hwt, if_neg hlt] at h2
    have h2 : (after fr all).length ≤ S.log.evs.length := h2
    have := hinv.len
    omega
  obtain ⟨aw, cw, rfl⟩ := hT.ents.len
  repeat first | refine Na ?_ | refine Nb ?_ | refine Nc ?_ | refine Nd ?_ | refine Ne ?_
  refine w_reg 2 rfl rfl (j' := 2) (nM rfl (nO (s_bin rfl rfl rfl (n_nil ?_))))
  repeat first | refine Na ?_ | refine Nb ?_ | refine Nc ?_ | refine Nd ?_ | refine Ne ?_
  refine w_no rfl (rfl) ?_
  repeat first | refine Na ?_ | refine Nb ?_ | refine Nc ?_ | refine Nd ?_ | refine Ne ?_
  refine w_reg 5 rfl rfl (j' := 7) (nM rfl (nM rfl (nO (s_bld pl_107 zl_107 rfl rfl rfl (n_op .no (q := 5) rfl (s_boxa rfl (nA rfl (n_nil ?_))))))))
  repeat first | refine Na ?_ | refine Nb ?_ | refine Nc ?_ | refine Nd ?_ | refine Ne ?_
  refine w_gen fun g10 n10 hg10 hn10 hwg10 => ?_
  have k10 : K0 g9 n9 g10 := by rw [hg10]; exact (by repeat (first | exact Kp.refl _ _ _ | refine Kp.new ?_ (by omega) _))
  have k90 : Kp (FC s) g8 n8 g10 := k9'.trans0 k10 (by omega)
  have hC10 : CaAt g10 (n9 + 5) (.slice aw L.length cw) fr L := ⟨by rw [hg10]; exact gs_same _ _ _, (hT.ents.kk k90 hw8 (FC.no3 _) (FC.nob _)), hT.rl.srt⟩
  clear hg10
  have hS10 := hS9.kp0 k10 hw9
  have hE10 := hE9.kp0 k10 hw9
  obtain ⟨hasc, hrevs⟩ := hT.since.revs
  have hle := hT.since.le
  have hlst := hT.since.list hT.rl
  have hsm : EvSm (after fr all) := fun e he => hT.small e (List.mem_filter.1 he).1
  have hss := hwg10 _ _ hS10.cell
  have hs8 := hw8 _ _ hS.cell
  repeat first | refine Na ?_ | refine Nb ?_ | refine Nc ?_ | refine Nd ?_ | refine Ne ?_
  refine w_drw (T6 18 17) [(0, []), (1, []), (2, []), (4, []), (3, []), (5, []), (6, []), (7, []), (8, []), (9, []), (10, []), (11, [10]), (12, [10]), (13, []), (14, []), (15, [])] 16 (by kernel_rfl) rfl rfl (j' := 16) (dM rfl rfl (dM rfl rfl (dM rfl rfl (dM rfl rfl (d_call rfl .no rfl rfl rfl call_nil ?_)))))
  refine C.use (st_rev hS10) fun v g11 n11 hw11 hn11 hq => ?_
  obtain ⟨rfl, k11⟩ := hq
  refine ⟨kept_nil, ?_⟩
  refine d_call rfl .no rfl rfl rfl call_nil ?_
  have k11' := k11.dn (m := n10) (by omega)
  have hS11 := hS10.kp0 k11' hwg10
  refine C.use (apply_c (hC10.kp0 k11' hwg10) (hE10.rd.kp0 k11' hwg10) hle.1 hle.2 hrevs hasc hsm hlen9 (by have := hT.len; omega)) fun v g12 n12 hw12 hn12 hq => ?_
  obtain ⟨rfl, ⟨lv12, hC12⟩, k12⟩ := hq
  refine ⟨kept_nil, ?_⟩
  have k12' := k12.dn (m := n11) (by omega)
  have hS12 := hS11.fc k12' hw11 (by omega) (by have := hw8 _ _ hS.log.cell; omega)
  have hinv12 := hinv.read
  have hc12 := hC12.cell
  refine dM rfl rfl (d_op rfl rfl (.yes rfl rfl (rfl)) (q := 7) rfl (s_mv rfl ⟨⟨rfl, rfl⟩, (d_op rfl rfl (.yes rfl rfl (rfl)) (q := 8) rfl (s_nil rfl ⟨⟨rfl, rfl⟩, (d_op rfl rfl (.yes rfl rfl (rfl)) (q := 9) rfl (s_fa0 rfl fo_107_1 ⟨⟨rfl, rfl⟩, ?_⟩))⟩))⟩))
  refine d_tc rfl rfl rfl (.yes rfl rfl (rfl)) (q := 10) rfl (s_ld rfl (by repeat first | exact gS | exact hc12 | refine gN (by omega) ?_) ag_48 (by first | exact rfl | exact hc12) ⟨clash_nil, ?_⟩)
  refine d_op rfl rfl (.yes rfl rfl (rfl)) (q := 11) rfl (s_mv rfl ⟨⟨rfl, rfl⟩, (d_call rfl (.yes rfl rfl (rfl)) rfl rfl rfl (call_rd rfl) ?_)⟩)
  refine C.use (st_list_i hS12 hinv12 (by omega)) fun v g13 n13 hw13 hn13 hq => ?_
  obtain ⟨hE13, hS13, k13⟩ := hq
  refine ⟨?_, ?_⟩
  · have k13' := k13.dn (m := n12) (by omega)
    have q := (k13'.at hw12 hc12 (fun hf => by have := hf.1; omega)).trans hc12.symm
    repeat' (first | exact trivial | exact q | apply And.intro)
  have k13' := k13.dn (m := n12) (by omega)
  have hL13 := hC12.ents.kk k13' hw12 (FC.no3 _) (FC.nob _)
  have hll := evsLay_len (after fr all) (L := L) hT.rl.srt
  refine d_call rfl (.yes rfl rfl (rfl)) rfl rfl rfl call_nil ?_
  refine C.use (eqEntries_c hL13 hE13.rd (Nat.lt_of_le_of_lt hll (by have := hT.len; omega))) fun v g14 n14 hw14 hn14 hq => ?_
  obtain ⟨⟨b, rfl, hb⟩, _⟩ := hq
  refine ⟨kept_nil, ?_⟩
  refine dO rfl rfl (s_pt rfl (rfl) rfl ⟨⟨rfl, rfl⟩, (dO rfl rfl (s_as rfl ⟨⟨rfl, rfl⟩, (d_nil ?_)⟩))⟩)
  repeat first | refine Nf ?_ | refine Na ?_ | refine Nb ?_ | refine Nc ?_ | refine Nd ?_ | refine Ne ?_
  refine z_r1 rfl rfl ?_
  have e : (after fr all).foldl evLay L = ({ S with reads := S.reads + 1 } : Sto).list := hlst
  exact congrArg Value.bool (hb.2 e)

end Go.Proofs.YtehmailaabjdjaaGreat
