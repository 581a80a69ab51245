/-
  StoreGuards answers true. No condition but that begun does.
-/
import Derived.Test.YtehmailaabjdjaaGreatStoY
open Go.Proofs
namespace Go.Proofs.YtehmailaabjdjaaGreat
set_option linter.unusedSimpArgs false
set_option linter.unusedVariables false
set_option maxRecDepth 100000

/-- Two stores of the same worth. -/
structure TwoI (b : Nat) (s m1 m2 l s' m1' m2' l' : Nat) (S : Sto) (g : Gm) : Prop where
  ex : ∃ sl sl', StAt b g s m1 m2 l sl S ∧ StAt b g s' m1' m2' l' sl' S ∧ SlApart sl sl'

theorem plainL_app {p : Value → Bool} : ∀ {a b : List Value}, plainL p a = true → plainL p b = true → plainL p (a ++ b) = true
  | [], b, _, h => h
  | x :: a, b, h, k => by
    simp only [plainL, List.cons_append, Bool.and_eq_true] at h ⊢
    exact ⟨h.1, plainL_app h.2 k⟩
theorem gds_plain : ∀ {gs : List Gd} {cs : List Value}, Rows 3 (fun c x => c = gdC x) cs gs → plainL oneCell cs = true
  | [], cs, h => by
    have h : cs = [] := h
    subst h; rfl
  | x :: gs, cs, h => by
    obtain ⟨c, d, rfl, _, rfl, h4⟩ := h
    exact plainL_app rfl (gds_plain h4)
theorem own_one {g : Gm} {nm z : Nat} {c : List Value} (h : g nm = some (.cells c z false)) (hz : c.length = z) : SlOwn g z (.slice (some ⟨nm, 0, none⟩) 1 1) 1 c :=
  ⟨by omega, .inr ⟨nm, 0, 1, c, rfl, Nat.le_refl _, h, by omega, by simp [← hz]⟩⟩
theorem may_rev {gs : List Gd} {ws : List Wr} : txnMay gs.reverse ws ↔ txnMay gs ws := by
  simp only [txnMay, List.length_reverse, List.mem_reverse]
theorem can_rev (S : Sto) (gs : List Gd) (ws : List Wr) : S.can gs.reverse ws = S.can gs ws := by
  by_cases hm : txnMay gs ws
  · have hm' : txnMay gs.reverse ws := may_rev.2 hm
    by_cases h2 : ∃ x ∈ gs, ¬ S.holds x
    · rw [can_guard hm h2, can_guard hm' (by simpa using h2)]
    · have h4 : ∀ x ∈ gs, S.holds x := fun x hx => Classical.byContradiction fun q => h2 ⟨x, hx, q⟩
      have h4' : ∀ x ∈ gs.reverse, S.holds x := fun x hx => h4 x (List.mem_reverse.1 hx)
      by_cases h3 : ∃ w ∈ ws, w.gone = true ∧ findK w.key S.now = none
      · rw [can_none hm h4 h3, can_none hm' h4' h3]
      · have h5 : ∀ w ∈ ws, w.gone = true → findK w.key S.now ≠ none := fun w hw a b => h3 ⟨w, hw, a, b⟩
        rw [can_ok hm h4 h5, can_ok hm' h4' h5]
  · rw [can_form hm, can_form fun h => hm (may_rev.1 h)]
theorem txn_rev (S : Sto) (gs : List Gd) (ws : List Wr) : S.txn gs.reverse ws = S.txn gs ws := by
  unfold Sto.txn
  rw [can_rev]
theorem txn_code (S : Sto) (gs : List Gd) (ws : List Wr) : (S.txn gs ws).2.2 = S.can gs ws := by
  unfold Sto.txn
  split
  · rename_i h; exact h.symm
  · rfl
theorem can_vals (S : Sto) (gs : List Gd) {ws : List Wr} (h : ∀ w ∈ ws, w.gone = false) : S.can gs ws = 0 ∨ S.can gs ws = 1 ∨ S.can gs ws = 6 ∧ txnMay gs ws ∧ ∃ x ∈ gs, ¬ S.holds x := by
  by_cases hm : txnMay gs ws
  · by_cases h2 : ∃ x ∈ gs, ¬ S.holds x
    · exact .inr (.inr ⟨can_guard hm h2, hm, h2⟩)
    · exact .inl (can_ok hm (fun x hx => Classical.byContradiction fun q => h2 ⟨x, hx, q⟩) fun w hw e => by rw [h w hw] at e; cases e)
  · exact .inr (.inl (can_form hm))
theorem app37' : AppT E6.P 37 37 3 32 := ⟨36, _, un_37, sz_36, by_36, zp_36, rfl, by decide, by decide, by rw [un_37]; rfl⟩

theorem one_or_rest {S : Sto} {G : List Gd} {ws : List Wr} {j : Nat} (hj : j < G.length) (hm : txnMay G ws) (hb : ∃ x ∈ G, ¬ S.holds x) {w' : Wr} (hw : w'.ok) : S.can [G[j]] [w'] = 6 ∨ S.can (G.take j ++ G.drop (j + 1)) [w'] = 6 := by
  have hG : G = G.take j ++ G[j] :: G.drop (j + 1) := by rw [List.getElem_cons_drop, List.take_append_drop]
  obtain ⟨x, hx, hn⟩ := hb
  have hk := hm.2.2.2.1
  have hl := hm.1
  by_cases e : x = G[j]
  · left
    subst e
    exact can_guard (Sto.may_one (by simp) (fun y hy => by rw [List.mem_singleton.1 hy]; exact hk _ hx) hw) ⟨_, List.mem_singleton.2 rfl, hn⟩
  · right
    have hx' : x ∈ G.take j ++ G.drop (j + 1) := by
      rw [hG] at hx
      rcases List.mem_append.1 hx with h | h
      · exact List.mem_append.2 (.inl h)
      · rcases List.mem_cons.1 h with h | h
        · exact absurd h e
        · exact List.mem_append.2 (.inr h)
    refine can_guard (Sto.may_one (by simp; omega) (fun y hy => hk y ?_) hw) ⟨x, hx', hn⟩
    rcases List.mem_append.1 hy with h | h
    · exact List.mem_of_mem_take h
    · exact List.mem_of_mem_drop h

theorem storeGuards_c (hB : BegunOk) {g : Gm} {n : Nat} {v gv : Value} {z : Int} {xs : List SOp} {gs : List Gd} (h : SopsRd g v xs) (hg : GdsRd g gv gs) : C 8 #[v, gv, .int .i64 z] g n fun u g' n' => u = .bool true := by
  obtain ⟨a, c, rfl⟩ := h.len
  obtain ⟨a', c', rfl⟩ := hg.len
  refine c_in3 Tryz.func8 rfl Tryz.ntmps8 rfl fun hw => ?_
  repeat (first | refine w_seq ?_ | refine w_blk ?_ | refine z_seq ?_ | refine z_blk ?_ | refine w_skip ?_)
  refine w_reg 1 rfl rfl (j' := 1) ?_
  refine n_op .no (q := 0) rfl (s_as rfl ?_)
  refine n_nil ?_
  repeat (first | refine w_seq ?_ | refine w_blk ?_ | refine z_seq ?_ | refine z_blk ?_ | refine w_skip ?_)
  refine w_reg 2 rfl rfl (j' := 3) ?_
  refine n_call .no rfl rfl rfl ?_
  refine C.use (hB _ _) fun v g1 n1 hw1 hn1 hq => ?_
  obtain ⟨rfl, rfl⟩ := hq
  refine n_op .no (q := 2) rfl (s_as rfl ?_)
  refine n_nil ?_
  repeat (first | refine w_seq ?_ | refine w_blk ?_ | refine z_seq ?_ | refine z_blk ?_ | refine w_skip ?_)
  refine w_reg 2 rfl rfl (j' := 2) ?_
  refine n_op .no (q := 0) rfl (s_mv rfl ?_)
  refine n_op .no (q := 1) rfl (s_not rfl ?_)
  refine n_nil ?_
  repeat (first | refine w_seq ?_ | refine w_blk ?_ | refine z_seq ?_ | refine z_blk ?_ | refine w_skip ?_)
  refine w_no rfl (rfl) ?_
  have h1 : SopsRd g1 (.slice a xs.length c) xs := h
  have hg1 : GdsRd g1 (.slice a' gs.length c') gs := hg
  repeat (first | refine w_seq ?_ | refine w_blk ?_ | refine z_seq ?_ | refine z_blk ?_ | refine w_skip ?_)
  refine w_reg 4 rfl rfl (j' := 6) ?_
  refine n_call .no rfl rfl rfl ?_
  refine C.use (st_newB _ _) fun v g2 n2 hw2 hn2 hq => ?_
  obtain ⟨s, m1, m2, l, rfl, hS2, hb2, k2⟩ := hq
  refine n_call .no rfl rfl rfl ?_
  refine C.use (st_newB _ _) fun v g3 n3 hw3 hn3 hq => ?_
  obtain ⟨s', m1', m2', l', rfl, hT3, hb3, k3⟩ := hq
  refine n_op .no (q := 4) rfl (s_as rfl ?_)
  refine n_op .no (q := 5) rfl (s_as rfl ?_)
  refine n_nil ?_
  have hS3 := (hS2.kp0 (k3.dn (m := n2) (by omega)) hw2).up (b' := n1) (by omega)
  have hT3 := hT3.up (b' := n1) (by omega)
  have w3 : K0 g1 n1 g3 := (k2.dn (m := n1) (by omega)).trans0 (k3.dn (m := n2) (by omega)) (by omega)
  have hq : n1 ≤ s ∧ n1 ≤ m1 ∧ n1 ≤ m2 ∧ n1 ≤ l := by omega
  have hq' : n1 ≤ s' ∧ n1 ≤ m1' ∧ n1 ≤ m2' ∧ n1 ≤ l' := by omega
  have b1 := hw2 _ _ hS2.cell
  have b2 := hw2 _ _ hS2.log.cell
  have b3 : m1 < n2 := by obtain ⟨es, c, x, _⟩ := hS2.now; exact hw2 _ _ x
  have b4 : m2 < n2 := by obtain ⟨es, c, x, _⟩ := hS2.last; exact hw2 _ _ x
  have hap : Apart s m1 m2 l s' m1' m2' l' := ⟨by omega, by omega⟩
  clear hS2 k2 k3 b1 b2 b3 b4
  repeat (first | refine w_seq ?_ | refine w_blk ?_ | refine z_seq ?_ | refine z_blk ?_ | refine w_skip ?_)
  refine w_reg 1 rfl rfl (j' := 1) ?_
  refine n_op .no (q := 0) rfl (s_as rfl ?_)
  refine n_nil ?_
  refine z_seq ?_
  refine z_meet (β := Unit) (fun _ => [(1, .slice a' gs.length c'), (2, .int .i64 z), (8, .pointer (some ⟨s, 0, none⟩)), (9, .pointer (some ⟨s', 0, none⟩))])
    (fun _ g' n' => n3 ≤ n' ∧ K0 g1 n1 g' ∧ ∃ S, S.Inv 30 ∧ TwoI n1 s m1 m2 l s' m1' m2' l' S g') ?_ ?_
  · repeat (first | refine w_seq ?_ | refine w_blk ?_ | refine z_seq ?_ | refine z_blk ?_ | refine w_skip ?_)
    refine w_loop (β := Nat) (fun i => [(0, .slice a xs.length c), (1, .slice a' gs.length c'), (2, .int .i64 z), (8, .pointer (some ⟨s, 0, none⟩)), (9, .pointer (some ⟨s', 0, none⟩)), (10, .int .i64 (i : Int))])
      (fun i g' n' => i ≤ xs.length ∧ i ≤ 15 ∧ n3 ≤ n' ∧ K0 g1 n1 g' ∧ ∃ S, S.Inv i ∧ TwoI n1 s m1 m2 l s' m1' m2' l' S g') (fun i => 15 - i) 0 ⟨rfl, rfl, rfl, rfl, rfl, rfl, trivial⟩
      ⟨by omega, by omega, by omega, w3, _, Sto.Inv.new, ⟨_, _, hS3, hT3, fun x h => by cases h⟩⟩ ?_
    clear hS3 hT3 w3
    rintro i f gL nL hwL ⟨hi, hi15, hnL, wL, S, hinv, ⟨sl, sl', hS, hT, hsep⟩⟩
    by_cases hlt : i < xs.length ∧ i < 15
    rotate_left
    · by_cases hlt1 : i < xs.length
      · repeat (first | refine w_seq ?_ | refine w_blk ?_ | refine z_seq ?_ | refine z_blk ?_ | refine w_skip ?_)
        refine w_reg 8 rfl rfl (j' := 8) ?_
        refine n_op .no (q := 0) rfl (s_mv rfl ?_)
        refine n_op .no (q := 1) rfl (s_mv rfl ?_)
        refine n_op .no (q := 2) rfl (s_len rfl rfl un_44 rfl ?_)
        refine n_op .no (q := 3) rfl (s_bin rfl rfl rfl ?_)
        refine n_op .no (q := 4) rfl (s_mv rfl ?_)
        refine n_op (.yes rfl rfl (decide_eq_true (by omega))) (q := 5) rfl (s_mv rfl ?_)
        refine n_op (.yes rfl rfl (decide_eq_true (by omega))) (q := 6) rfl (s_bin rfl rfl rfl ?_)
        refine n_op .no (q := 7) rfl (s_pt rfl (decide_eq_true (by omega)) rfl ?_)
        refine n_nil ?_
        repeat (first | refine w_seq ?_ | refine w_blk ?_ | refine z_seq ?_ | refine z_blk ?_ | refine w_skip ?_)
        refine w_no rfl (decide_eq_false (by omega)) ?_
        refine w_exit rfl ?_
        exact z_met () ⟨rfl, rfl, rfl, rfl, trivial⟩ ⟨by omega, wL, S, hinv.up (by omega), ⟨_, _, hS, hT, hsep⟩⟩
      · repeat (first | refine w_seq ?_ | refine w_blk ?_ | refine z_seq ?_ | refine z_blk ?_ | refine w_skip ?_)
        refine w_reg 8 rfl rfl (j' := 8) ?_
        refine n_op .no (q := 0) rfl (s_mv rfl ?_)
        refine n_op .no (q := 1) rfl (s_mv rfl ?_)
        refine n_op .no (q := 2) rfl (s_len rfl rfl un_44 rfl ?_)
        refine n_op .no (q := 3) rfl (s_bin rfl rfl rfl ?_)
        refine n_op .no (q := 4) rfl (s_mv rfl ?_)
        refine n_sk rfl rfl (decide_eq_false (by omega)) ?_
        refine n_sk rfl rfl (decide_eq_false (by omega)) ?_
        refine n_op .no (q := 7) rfl (s_pf rfl (decide_eq_false (by omega)) rfl ?_)
        refine n_nil ?_
        repeat (first | refine w_seq ?_ | refine w_blk ?_ | refine z_seq ?_ | refine z_blk ?_ | refine w_skip ?_)
        refine w_no rfl (rfl) ?_
        refine w_exit rfl ?_
        exact z_met () ⟨rfl, rfl, rfl, rfl, trivial⟩ ⟨by omega, wL, S, hinv.up (by omega), ⟨_, _, hS, hT, hsep⟩⟩
    repeat (first | refine w_seq ?_ | refine w_blk ?_ | refine z_seq ?_ | refine z_blk ?_ | refine w_skip ?_)
    refine w_reg 8 rfl rfl (j' := 8) ?_
    refine n_op .no (q := 0) rfl (s_mv rfl ?_)
    refine n_op .no (q := 1) rfl (s_mv rfl ?_)
    refine n_op .no (q := 2) rfl (s_len rfl rfl un_44 rfl ?_)
    refine n_op .no (q := 3) rfl (s_bin rfl rfl rfl ?_)
    refine n_op .no (q := 4) rfl (s_mv rfl ?_)
    refine n_op (.yes rfl rfl (decide_eq_true (by omega))) (q := 5) rfl (s_mv rfl ?_)
    refine n_op (.yes rfl rfl (decide_eq_true (by omega))) (q := 6) rfl (s_bin rfl rfl rfl ?_)
    refine n_op .no (q := 7) rfl (s_pt rfl (decide_eq_true (by omega)) rfl ?_)
    refine n_nil ?_
    repeat (first | refine w_seq ?_ | refine w_blk ?_ | refine z_seq ?_ | refine z_blk ?_ | refine w_skip ?_)
    refine w_yes rfl (decide_eq_true (by omega)) ?_
    have hil := hlt.1
    obtain ⟨l3, o3, c3, cl3, ro3, gv3, wv3, x1, x2, x3, x4, x5, x6, x7, x8⟩ := (h1.kp0 wL hw1).at hil
    cases x1
    obtain ⟨op, hop⟩ : ∃ op, op = xs[i]'hil := ⟨_, rfl⟩
    rw [← hop] at x4 x6 x7 x8
    have hl3 := hwL _ _ x2
    repeat (first | refine w_seq ?_ | refine w_blk ?_ | refine z_seq ?_ | refine z_blk ?_ | refine w_skip ?_)
    refine w_reg 8 rfl rfl (j' := 16) ?_
    refine n_op .no (q := 8) rfl (s_mv rfl ?_)
    refine n_op .no (q := 9) rfl (s_mv rfl ?_)
    refine n_op .no (q := 10) rfl (s_mv rfl ?_)
    refine n_op .no (q := 11) rfl (s_ia rfl rfl el_44 (by first | assumption | omega) ?_)
    first | refine n_op .no (q := 12) rfl (s_fa0 rfl fo_47_1 ?_) | refine n_op .no (q := 12) rfl (s_fa rfl fo_47_1 ?_)
    refine n_op .no (q := 13) rfl (s_lda rfl (by repeat (first | exact gs_same _ _ _ | exact x2 | exact x5 | refine (gs_ne (by omega) _).trans ?_)) ag_42 sz_42 (by first | exact Nat.le_of_ble_eq_true rfl | assumption | omega) (by first | exact x2 | exact x5 | exact rfl) ?_)
    refine n_call .no rfl rfl rfl ?_
    refine C.use (cut_c x7 x8) fun v g4 n4 hw4 hn4 hq => ?_
    obtain ⟨v4, w4, rfl, hg4, hw4, k4⟩ := hq
    refine n_call .no rfl rfl rfl ?_
    have k4' := k4.dn (m := nL) (by omega)
    refine C.use (st_txn_i (hS.kp0 k4' hwL) hinv (by omega) (by omega) hg4 hw4) fun v g5 n5 hw5 hn5 hq => ?_
    obtain ⟨sl5, hu5, hS5, hM5, k5⟩ := hq
    refine n_nil ?_
    have k45 : Kp (FS s m1 m2 l sl) gL nL g5 := (Kp.z k4').tr' k5 (by omega)
    have w5 : K0 g1 n1 g5 := wL.trans0 (hS.low hq (Nat.le_refl _) (by omega) k45) (Nat.le_refl _)
    have hT5 := hT.other k45 hwL hap hsep
    have hsep5 : SlApart sl5 sl' := hsep.mvd hM5 fun x hx => by have := hT.slt hwL x hx; omega
    clear k4 k4' k5 hM5 hg4 hw4 x2 x3 x4 x5 x6 x7 x8 hS hT hsep k45 wL hl3
    obtain ⟨l5, o5, c5, cl5, ro5, gv5, wv5, x1, x2, x3, x4, x5, x6, x7, x8⟩ := (h1.kp0 w5 hw1).at hil
    cases x1
    rw [← hop] at x4 x6 x7 x8
    have hl3 := hw5 _ _ x2
    repeat (first | refine w_seq ?_ | refine w_blk ?_ | refine z_seq ?_ | refine z_blk ?_ | refine w_skip ?_)
    refine w_reg 8 rfl rfl (j' := 8) ?_
    refine n_op .no (q := 0) rfl (s_mv rfl ?_)
    refine n_op .no (q := 1) rfl (s_mv rfl ?_)
    refine n_op .no (q := 2) rfl (s_mv rfl ?_)
    refine n_op .no (q := 3) rfl (s_ia rfl rfl el_44 (by first | assumption | omega) ?_)
    first | refine n_op .no (q := 4) rfl (s_fa0 rfl fo_47_1 ?_) | refine n_op .no (q := 4) rfl (s_fa rfl fo_47_1 ?_)
    refine n_op .no (q := 5) rfl (s_lda rfl (by repeat (first | exact gs_same _ _ _ | exact x2 | exact x5 | refine (gs_ne (by omega) _).trans ?_)) ag_42 sz_42 (by first | exact Nat.le_of_ble_eq_true rfl | assumption | omega) (by first | exact x2 | exact x5 | exact rfl) ?_)
    refine n_call .no rfl rfl rfl ?_
    refine C.use (cut_c x7 x8) fun v g6 n6 hw6 hn6 hq => ?_
    obtain ⟨v6, w6, rfl, hg6, hw6', k6⟩ := hq
    refine n_call .no rfl rfl rfl ?_
    have k6' := k6.dn (m := n5) (by omega)
    refine C.use (st_txn_i (hT5.kp0 k6' hw5) hinv (by omega) (by omega) hg6 hw6') fun v g7 n7 hw7 hn7 hq => ?_
    obtain ⟨sl7, hu7, hT7, hM7, k7⟩ := hq
    refine n_nil ?_
    have k67 : Kp (FS s' m1' m2' l' sl') g5 n5 g7 := (Kp.z k6').tr' k7 (by omega)
    have w7 : K0 g1 n1 g7 := w5.trans0 (hT5.low hq' (Nat.le_refl _) (by omega) k67) (Nat.le_refl _)
    have hS7 := hS5.other k67 hw5 hap.sym hsep5.sym
    have hsep7 : SlApart sl5 sl7 := (hsep5.sym.mvd hM7 fun x hx => by have := hS5.slt hw5 x hx; omega).sym
    repeat (first | refine w_seq ?_ | refine w_blk ?_ | refine z_seq ?_ | refine z_blk ?_ | refine w_skip ?_)
    repeat (first | refine w_seq ?_ | refine w_blk ?_ | refine z_seq ?_ | refine z_blk ?_ | refine w_skip ?_)
    refine w_reg 3 rfl rfl (j' := 3) ?_
    refine n_op .no (q := 0) rfl (s_mv rfl ?_)
    first | refine n_op .no (q := 1) rfl (s_bin rfl rfl (bi_inc (by omega)) ?_) | refine n_op .no (q := 1) rfl (s_bin rfl rfl (bi_add rfl (by omega) (by omega)) ?_)
    refine n_op .no (q := 2) rfl (s_as rfl ?_)
    refine n_nil ?_
    exact z_round (i + 1) ⟨rfl, rfl, rfl, rfl, rfl, rfl, trivial⟩ ⟨by omega, by omega, by omega, w7, _, hinv.txn, ⟨_, _, hS7, hT7, hsep7⟩⟩ (by omega)
  clear hS3 hT3
  rintro _ f g8 n8 hw8 ⟨hn8, w8, S, hinv, hTwo⟩
  obtain ⟨slA, slB, hS, hT, hsep⟩ := hTwo
  obtain ⟨csG, hG1, hG2⟩ := hg1.kp0 w8 hw1
  repeat (first | refine w_seq ?_ | refine w_blk ?_ | refine z_seq ?_ | refine z_blk ?_ | refine w_skip ?_)
  refine w_reg 6 rfl rfl (j' := 6) ?_
  refine n_op .no (q := 0) rfl (s_mv rfl ?_)
  refine n_op .no (q := 1) rfl (s_mv rfl ?_)
  refine n_op .no (q := 2) rfl (s_len rfl rfl un_37 rfl ?_)
  refine n_op .no (q := 3) rfl (s_min rfl rfl (c := ((min gs.length 10 : Nat) : Int)) (by omega) ?_)
  refine n_op .no (q := 4) rfl (s_hiC un_37 sz_36 rfl hG1 rfl (Nat.min_le_left _ _) fun a8 c8 hG8 hG8n => ?_)
  refine n_op .no (q := 5) rfl (s_as rfl ?_)
  refine n_nil ?_
  have hlen : (gs.take 10).length = min gs.length 10 := by rw [List.length_take, Nat.min_comm]
  have hgs8 : GdsRd g8 (.slice a8 (gs.take 10).length c8) (gs.take 10) := by
    refine ⟨_, ?_, Rows.take 10 hG2⟩
    rw [hlen]
    have : csG.take (min gs.length 10 * 3) = csG.take (10 * 3) := by
      have := hG2.length
      rcases Nat.le_total gs.length 10 with h | h
      · rw [Nat.min_eq_left h, ← this, List.take_length, List.take_of_length_le (by omega)]
      · rw [Nat.min_eq_right h]
    rw [← this]; exact hG8
  rw [← hlen]
  have hG10 : (gs.take 10).length ≤ 10 := by omega
  clear hG1 hG2 hG8 hG8n hlen
  generalize gs.take 10 = G at *
  repeat (first | refine w_seq ?_ | refine w_blk ?_ | refine z_seq ?_ | refine z_blk ?_ | refine w_skip ?_)
  refine w_reg 1 rfl rfl (j' := 7) ?_
  refine n_op .no (q := 6) rfl (s_as rfl ?_)
  refine n_nil ?_
  repeat (first | refine w_seq ?_ | refine w_blk ?_ | refine z_seq ?_ | refine z_blk ?_ | refine w_skip ?_)
  refine w_reg 3 rfl rfl (j' := 10) ?_
  refine n_op .no (q := 7) rfl (s_mv rfl ?_)
  refine n_op .no (q := 8) rfl (s_len rfl rfl un_37 rfl ?_)
  refine n_op .no (q := 9) rfl (s_mv rfl ?_)
  refine n_nil ?_
  repeat (first | refine w_seq ?_ | refine w_blk ?_ | refine z_seq ?_ | refine z_blk ?_ | refine w_skip ?_)
  refine w_loop (β := Nat × Value) (fun x => [(1, .slice a8 G.length c8), (2, .int .i64 z), (8, .pointer (some ⟨s, 0, none⟩)), (9, .pointer (some ⟨s', 0, none⟩)), (11, x.2), (60, .int .i64 G.length), (61, .int .i64 (x.1 : Int))])
    (fun x g' n' => x.1 ≤ G.length ∧ n8 ≤ n' ∧ K0 g8 n8 g' ∧ GdsRd g' x.2 (G.take x.1).reverse) (fun x => G.length - x.1) (0, .slice none 0 0) ⟨rfl, rfl, rfl, rfl, rfl, rfl, rfl, trivial⟩
    ⟨by simp, by omega, (by repeat (first | exact Kp.refl _ _ _ | refine Kp.new ?_ (by omega) _)), GdsRd.nil _⟩ ?_
  rintro ⟨i, rv⟩ f gL nL hwL ⟨hi, hnL, kL, hR⟩
  simp only at hi hR
  repeat (first | refine w_seq ?_ | refine w_blk ?_ | refine z_seq ?_ | refine z_blk ?_ | refine w_skip ?_)
  refine w_reg 1 rfl rfl (j' := 1) ?_
  refine n_op .no (q := 0) rfl (s_bin rfl rfl rfl ?_)
  refine n_nil ?_
  repeat (first | refine w_seq ?_ | refine w_blk ?_ | refine z_seq ?_ | refine z_blk ?_ | refine w_skip ?_)
  refine w_if rfl (fun hb => ?_) (fun hb => ?_)
  · have hi : i < G.length := by have := of_decide_eq_true hb; omega
    obtain ⟨l3, o3, c3, cl3, ro3, x1, x2, x3, x4⟩ := (hgs8.kp0 kL hw8).at hi
    cases x1
    obtain ⟨rcs, hr1, hr2⟩ := hR
    rw [List.length_reverse, List.length_take_of_le (by omega)] at hr1
    repeat (first | refine w_seq ?_ | refine w_blk ?_ | refine z_seq ?_ | refine z_blk ?_ | refine w_skip ?_)
    refine w_reg 2 rfl rfl (j' := 3) ?_
    refine n_op .no (q := 1) rfl (s_mv rfl ?_)
    refine n_op .no (q := 2) rfl (s_as rfl ?_)
    refine n_nil ?_
    repeat (first | refine w_seq ?_ | refine w_blk ?_ | refine z_seq ?_ | refine z_blk ?_ | refine w_skip ?_)
    refine w_reg 8 rfl rfl (j' := 11) ?_
    refine n_op .no (q := 3) rfl (s_mv rfl ?_)
    refine n_op .no (q := 4) rfl (s_mv rfl ?_)
    refine n_op .no (q := 5) rfl (s_ia rfl rfl el_37 (by first | assumption | omega) ?_)
    refine n_op .no (q := 6) rfl (s_lda rfl (by repeat (first | exact gs_same _ _ _ | exact x2 | exact x4 | refine (gs_ne (by omega) _).trans ?_)) ag_36 sz_36 (by first | exact Nat.le_of_ble_eq_true rfl | assumption | omega) (by first | exact x2 | exact x4 | exact rfl) ?_)
    refine n_op .no (q := 7) rfl (s_bs el_37 ez_37 rfl rfl rfl ?_)
    refine n_op .no (q := 8) rfl (s_mv rfl ?_)
    refine n_op .no (q := 9) rfl (s_app app37' rfl rfl (own_one (gs_same _ _ _) rfl) (SlC.kp0 (n := nL) hr1 (by repeat (first | exact Kp.refl _ _ _ | refine Kp.new ?_ (by omega) _)) hwL).src (gds_plain hr2) (by omega) fun a5 c5 g5 tc5 wr5 hrow hgr => ?_)
    refine n_op .no (q := 10) rfl (s_as rfl ?_)
    refine n_nil ?_
    repeat (first | refine w_seq ?_ | refine w_blk ?_ | refine z_seq ?_ | refine z_blk ?_ | refine w_skip ?_)
    repeat (first | refine w_seq ?_ | refine w_blk ?_ | refine z_seq ?_ | refine z_blk ?_ | refine w_skip ?_)
    refine w_reg 2 rfl rfl (j' := 13) ?_
    first | refine n_op .no (q := 11) rfl (s_bin rfl rfl (bi_inc (by omega)) ?_) | refine n_op .no (q := 11) rfl (s_bin rfl rfl (bi_add rfl (by omega) (by omega)) ?_)
    refine n_op .no (q := 12) rfl (s_mv rfl ?_)
    refine n_nil ?_
    have k5 : K0 g8 n8 g5 := hgr.kp (Kp.trans0 (n' := nL) kL (by repeat (first | exact Kp.refl _ _ _ | refine Kp.new ?_ (by omega) _)) (by omega)) (by omega) fun y hy => .inl (by cases hy; omega)
    refine z_round (i + 1, .slice a5 (1 + i) c5) ⟨rfl, rfl, rfl, rfl, rfl, rfl, rfl, trivial⟩ ⟨hi, by omega, k5, ?_⟩ (by simp only; omega)
    simp only
    rw [List.take_succ_eq_append_getElem hi, List.reverse_append]
    refine ⟨_, ?_, Rows.append (Rows.one rfl rfl) hr2⟩
    rw [List.length_append, List.length_reverse, List.length_reverse, List.length_take_of_le (by omega)]
    exact hrow.slc
  refine w_exit rfl ?_
  have hin : i = G.length := by have := of_decide_eq_false hb; omega
  subst hin
  rw [List.take_length] at hR
  have hSL := hS.kp0 kL hw8
  have hTL := hT.kp0 kL hw8
  have hgsL := hgs8.kp0 kL hw8
  have hi17 := hinv.txn (gs := G) (ws := [⟨[119], [], false⟩])
  repeat (first | refine w_seq ?_ | refine w_blk ?_ | refine z_seq ?_ | refine z_blk ?_ | refine w_skip ?_)
  refine w_reg 11 rfl rfl (j' := 12) ?_
  refine n_op .no (q := 1) rfl (s_mv rfl ?_)
  refine n_op .no (q := 2) rfl (s_mv rfl ?_)
  refine n_op .no (q := 3) rfl (s_bld pl_39 zl_39 rfl rfl rfl ?_)
  refine n_op .no (q := 4) rfl (s_bs el_40 ez_40 rfl rfl rfl ?_)
  refine n_op .no (q := 5) rfl (s_bld pl_42 zl_42 rfl rfl rfl ?_)
  refine n_call .no rfl rfl rfl ?_
  refine C.use (st_txn_i (hSL.kp0 (n := nL) (by repeat (first | exact Kp.refl _ _ _ | refine Kp.new ?_ (by omega) _)) hwL) hinv (by omega) (by omega) (hgsL.kp0 (n := nL) (by repeat (first | exact Kp.refl _ _ _ | refine Kp.new ?_ (by omega) _)) hwL) (wrs_one (x := ⟨[119], [], false⟩) (a := none) (p := 0) (gs_same _ _ _) (SlC.nil _ _))) fun v g17 n17 hw17 hn17 hq => ?_
  obtain ⟨sl17, hu17, hS17, hM17, k17⟩ := hq
  subst hu17
  refine n_op .no (q := 7) rfl (s_mv rfl ?_)
  refine n_op .no (q := 8) rfl (s_ext rfl rfl ?_)
  refine n_op .no (q := 9) rfl (s_ext rfl rfl ?_)
  refine n_op .no (q := 10) rfl (s_as rfl ?_)
  refine n_op .no (q := 11) rfl (s_as rfl ?_)
  refine n_nil ?_
  have kA : Kp (FS s m1 m2 l slA) gL nL g17 := (Kp.z (by exact (by repeat (first | exact Kp.refl _ _ _ | refine Kp.new ?_ (by omega) _)))).tr' k17 (by omega)
  have hT17 := hTL.other kA hwL hap hsep
  have hsep17 : SlApart sl17 slB := hsep.mvd hM17 fun x hx => by have := hTL.slt hwL x hx; omega
  have hg17 := hgsL.kk kA hwL (FS.no3 _ _ _ _ _)
  have hR17 := hR.kk kA hwL (FS.no3 _ _ _ _ _)
  obtain ⟨ar, cr, rfl⟩ := hR.len
  clear hM17 k17 kA hR hgsL hSL hTL hgs8
  repeat (first | refine w_seq ?_ | refine w_blk ?_ | refine z_seq ?_ | refine z_blk ?_ | refine w_skip ?_)
  refine w_reg 11 rfl rfl (j' := 11) ?_
  refine n_op .no (q := 0) rfl (s_mv rfl ?_)
  refine n_op .no (q := 1) rfl (s_mv rfl ?_)
  refine n_op .no (q := 2) rfl (s_bld pl_39 zl_39 rfl rfl rfl ?_)
  refine n_op .no (q := 3) rfl (s_bs el_40 ez_40 rfl rfl rfl ?_)
  refine n_op .no (q := 4) rfl (s_bld pl_42 zl_42 rfl rfl rfl ?_)
  refine n_call .no rfl rfl rfl ?_
  refine C.use (st_txn_i (hT17.kp0 (n := n17) (by repeat (first | exact Kp.refl _ _ _ | refine Kp.new ?_ (by omega) _)) hw17) hinv (by omega) (by omega) (hR17.kp0 (n := n17) (by repeat (first | exact Kp.refl _ _ _ | refine Kp.new ?_ (by omega) _)) hw17) (wrs_one (x := ⟨[119], [], false⟩) (a := none) (p := 0) (gs_same _ _ _) (SlC.nil _ _))) fun v g18 n18 hw18 hn18 hq => ?_
  obtain ⟨sl18, hu18, hT18, hM18, k18⟩ := hq
  rw [txn_rev] at hu18 hT18
  subst hu18
  refine n_op .no (q := 6) rfl (s_mv rfl ?_)
  refine n_op .no (q := 7) rfl (s_ext rfl rfl ?_)
  refine n_op .no (q := 8) rfl (s_ext rfl rfl ?_)
  refine n_op .no (q := 9) rfl (s_as rfl ?_)
  refine n_op .no (q := 10) rfl (s_as rfl ?_)
  refine n_nil ?_
  have kB : Kp (FS s' m1' m2' l' slB) g17 n17 g18 := (Kp.z (by exact (by repeat (first | exact Kp.refl _ _ _ | refine Kp.new ?_ (by omega) _)))).tr' k18 (by omega)
  have hS18 := hS17.other kB hw17 hap.sym hsep17.sym
  have hsep18 : SlApart sl17 sl18 := (hsep17.sym.mvd hM18 fun x hx => by have := hS17.slt hw17 x hx; omega).sym
  have hg18 := hg17.kk kB hw17 (FS.no3 _ _ _ _ _)
  clear hM18 k18 kB hR17 hg17 hS17 hT17
  have hcd := txn_code S G [⟨[119], [], false⟩]
  generalize hq2 : (S.txn G [⟨[119], [], false⟩]).2.2 = q at *
  rcases can_vals S G (ws := [⟨[119], [], false⟩]) (fun w hw => by rw [List.mem_singleton.1 hw]) with e | e | ⟨e, hmay, hbad⟩
  · rw [e] at hcd
    subst hcd
    repeat (first | refine w_seq ?_ | refine w_blk ?_ | refine z_seq ?_ | refine z_blk ?_ | refine w_skip ?_)
    refine w_reg 15 rfl rfl (j' := 15) ?_
    refine n_op .no (q := 0) rfl (s_mv rfl ?_)
    refine n_op .no (q := 1) rfl (s_mv rfl ?_)
    refine n_op .no (q := 2) rfl (s_bin rfl rfl rfl ?_)
    refine n_op .no (q := 3) rfl (s_mv rfl ?_)
    refine n_op (.yes rfl rfl (rfl)) (q := 4) rfl (s_mv rfl ?_)
    refine n_op (.yes rfl rfl (rfl)) (q := 5) rfl (s_bin rfl rfl rfl ?_)
    refine n_op (.yes rfl rfl (rfl)) (q := 6) rfl (s_mv rfl ?_)
    refine n_sk rfl rfl (rfl) ?_
    refine n_sk rfl rfl (rfl) ?_
    refine n_op (.yes rfl rfl (rfl)) (q := 9) rfl (s_pf rfl (rfl) rfl ?_)
    refine n_op (.yes rfl rfl (rfl)) (q := 10) rfl (s_mv rfl ?_)
    refine n_sk rfl rfl (rfl) ?_
    refine n_sk rfl rfl (rfl) ?_
    refine n_op (.yes rfl rfl (rfl)) (q := 13) rfl (s_pf rfl (rfl) rfl ?_)
    refine n_op .no (q := 14) rfl (s_pf rfl (rfl) rfl ?_)
    refine n_nil ?_
    repeat (first | refine w_seq ?_ | refine w_blk ?_ | refine z_seq ?_ | refine z_blk ?_ | refine w_skip ?_)
    refine w_no rfl (rfl) ?_
    repeat (first | refine w_seq ?_ | refine w_blk ?_ | refine z_seq ?_ | refine z_blk ?_ | refine w_skip ?_)
    refine w_reg 2 rfl rfl (j' := 17) ?_
    refine n_op .no (q := 15) rfl (s_mv rfl ?_)
    refine n_op .no (q := 16) rfl (s_bin rfl rfl rfl ?_)
    refine n_nil ?_
    repeat (first | refine w_seq ?_ | refine w_blk ?_ | refine z_seq ?_ | refine z_blk ?_ | refine w_skip ?_)
    refine w_yes rfl (rfl) ?_
    repeat (first | refine w_seq ?_ | refine w_blk ?_ | refine z_seq ?_ | refine z_blk ?_ | refine w_skip ?_)
    refine w_reg 1 rfl rfl (j' := 18) ?_
    refine n_op .no (q := 17) rfl (s_as rfl ?_)
    refine n_nil ?_
    repeat (first | refine w_ret ?_ | refine w_seq ?_ | refine w_blk ?_ | refine z_seq ?_ | refine z_blk ?_ | refine w_skip ?_)
    refine z_r1 rfl rfl ?_
    rfl
  · rw [e] at hcd
    subst hcd
    repeat (first | refine w_seq ?_ | refine w_blk ?_ | refine z_seq ?_ | refine z_blk ?_ | refine w_skip ?_)
    refine w_reg 15 rfl rfl (j' := 15) ?_
    refine n_op .no (q := 0) rfl (s_mv rfl ?_)
    refine n_op .no (q := 1) rfl (s_mv rfl ?_)
    refine n_op .no (q := 2) rfl (s_bin rfl rfl rfl ?_)
    refine n_op .no (q := 3) rfl (s_mv rfl ?_)
    refine n_op (.yes rfl rfl (rfl)) (q := 4) rfl (s_mv rfl ?_)
    refine n_op (.yes rfl rfl (rfl)) (q := 5) rfl (s_bin rfl rfl rfl ?_)
    refine n_op (.yes rfl rfl (rfl)) (q := 6) rfl (s_mv rfl ?_)
    refine n_op (.yes rfl rfl (rfl)) (q := 7) rfl (s_mv rfl ?_)
    refine n_op (.yes rfl rfl (rfl)) (q := 8) rfl (s_bin rfl rfl rfl ?_)
    refine n_op (.yes rfl rfl (rfl)) (q := 9) rfl (s_pt rfl (rfl) rfl ?_)
    refine n_op (.yes rfl rfl (rfl)) (q := 10) rfl (s_mv rfl ?_)
    refine n_op (.yes rfl rfl (rfl)) (q := 11) rfl (s_mv rfl ?_)
    refine n_op (.yes rfl rfl (rfl)) (q := 12) rfl (s_bin rfl rfl rfl ?_)
    refine n_op (.yes rfl rfl (rfl)) (q := 13) rfl (s_pt rfl (rfl) rfl ?_)
    refine n_op .no (q := 14) rfl (s_pf rfl (rfl) rfl ?_)
    refine n_nil ?_
    repeat (first | refine w_seq ?_ | refine w_blk ?_ | refine z_seq ?_ | refine z_blk ?_ | refine w_skip ?_)
    refine w_no rfl (rfl) ?_
    repeat (first | refine w_seq ?_ | refine w_blk ?_ | refine z_seq ?_ | refine z_blk ?_ | refine w_skip ?_)
    refine w_reg 2 rfl rfl (j' := 17) ?_
    refine n_op .no (q := 15) rfl (s_mv rfl ?_)
    refine n_op .no (q := 16) rfl (s_bin rfl rfl rfl ?_)
    refine n_nil ?_
    repeat (first | refine w_seq ?_ | refine w_blk ?_ | refine z_seq ?_ | refine z_blk ?_ | refine w_skip ?_)
    refine w_yes rfl (rfl) ?_
    repeat (first | refine w_seq ?_ | refine w_blk ?_ | refine z_seq ?_ | refine z_blk ?_ | refine w_skip ?_)
    refine w_reg 1 rfl rfl (j' := 18) ?_
    refine n_op .no (q := 17) rfl (s_as rfl ?_)
    refine n_nil ?_
    repeat (first | refine w_ret ?_ | refine w_seq ?_ | refine w_blk ?_ | refine z_seq ?_ | refine z_blk ?_ | refine w_skip ?_)
    refine z_r1 rfl rfl ?_
    rfl
  rw [e] at hcd
  subst hcd
  repeat (first | refine w_seq ?_ | refine w_blk ?_ | refine z_seq ?_ | refine z_blk ?_ | refine w_skip ?_)
  refine w_reg 15 rfl rfl (j' := 15) ?_
  refine n_op .no (q := 0) rfl (s_mv rfl ?_)
  refine n_op .no (q := 1) rfl (s_mv rfl ?_)
  refine n_op .no (q := 2) rfl (s_bin rfl rfl rfl ?_)
  refine n_op .no (q := 3) rfl (s_mv rfl ?_)
  refine n_op (.yes rfl rfl (rfl)) (q := 4) rfl (s_mv rfl ?_)
  refine n_op (.yes rfl rfl (rfl)) (q := 5) rfl (s_bin rfl rfl rfl ?_)
  refine n_op (.yes rfl rfl (rfl)) (q := 6) rfl (s_mv rfl ?_)
  refine n_op (.yes rfl rfl (rfl)) (q := 7) rfl (s_mv rfl ?_)
  refine n_op (.yes rfl rfl (rfl)) (q := 8) rfl (s_bin rfl rfl rfl ?_)
  refine n_op (.yes rfl rfl (rfl)) (q := 9) rfl (s_pt rfl (rfl) rfl ?_)
  refine n_op (.yes rfl rfl (rfl)) (q := 10) rfl (s_mv rfl ?_)
  refine n_sk rfl rfl (rfl) ?_
  refine n_sk rfl rfl (rfl) ?_
  refine n_op (.yes rfl rfl (rfl)) (q := 13) rfl (s_pf rfl (rfl) rfl ?_)
  refine n_op .no (q := 14) rfl (s_pf rfl (rfl) rfl ?_)
  refine n_nil ?_
  repeat (first | refine w_seq ?_ | refine w_blk ?_ | refine z_seq ?_ | refine z_blk ?_ | refine w_skip ?_)
  refine w_no rfl (rfl) ?_
  repeat (first | refine w_seq ?_ | refine w_blk ?_ | refine z_seq ?_ | refine z_blk ?_ | refine w_skip ?_)
  refine w_reg 2 rfl rfl (j' := 17) ?_
  refine n_op .no (q := 15) rfl (s_mv rfl ?_)
  refine n_op .no (q := 16) rfl (s_bin rfl rfl rfl ?_)
  refine n_nil ?_
  repeat (first | refine w_seq ?_ | refine w_blk ?_ | refine z_seq ?_ | refine z_blk ?_ | refine w_skip ?_)
  refine w_no rfl (rfl) ?_
  have hpos : 0 < G.length := by
    obtain ⟨x, hx, _⟩ := hbad
    exact List.length_pos_of_mem hx
  have t1 := tmod_lt (a := z) (b := (G.length : Int)) (by omega)
  have t2 := tmod_nn (a := z.tmod G.length + G.length) (b := (G.length : Int)) (by omega) (by omega)
  have t3 := tmod_lt (a := z.tmod G.length + G.length) (b := (G.length : Int)) (by omega)
  have hz0 : (G.length : Int) ≠ 0 := by omega
  repeat (first | refine w_seq ?_ | refine w_blk ?_ | refine z_seq ?_ | refine z_blk ?_ | refine w_skip ?_)
  refine w_reg 11 rfl rfl (j' := 28) ?_
  refine n_op .no (q := 17) rfl (s_mv rfl ?_)
  refine n_op .no (q := 18) rfl (s_mv rfl ?_)
  refine n_op .no (q := 19) rfl (s_len rfl rfl un_37 rfl ?_)
  refine n_op .no (q := 20) rfl (s_bin rfl rfl (r := .int .i64 (z.tmod G.length)) (bi_rem (by omega) (by first | rfl | assumption | omega)) ?_)
  refine n_op .no (q := 21) rfl (s_mv rfl ?_)
  refine n_op .no (q := 22) rfl (s_len rfl rfl un_37 rfl ?_)
  refine n_op .no (q := 23) rfl (s_bin rfl rfl (r := .int .i64 (z.tmod G.length + G.length)) (by first | exact bi_add (by omega) (by omega) (by omega) | exact bi_sub (by omega) (by omega) (by omega) | exact bi_add rfl (by omega) (by omega) | exact bi_sub rfl (by omega) (by omega)) ?_)
  refine n_op .no (q := 24) rfl (s_mv rfl ?_)
  refine n_op .no (q := 25) rfl (s_len rfl rfl un_37 rfl ?_)
  refine n_op .no (q := 26) rfl (s_bin rfl rfl (r := .int .i64 ((z.tmod G.length + G.length).tmod G.length)) (bi_rem (by omega) (by first | rfl | assumption | omega)) ?_)
  refine n_op .no (q := 27) rfl (s_as rfl ?_)
  refine n_nil ?_
  obtain ⟨j, hj⟩ : ∃ j : Nat, (z.tmod G.length + G.length).tmod G.length = (j : Int) := ⟨_, (Int.toNat_of_nonneg (by omega)).symm⟩
  rw [hj]
  have hjl : j < G.length := by omega
  clear t1 t2 t3 hj
  have hi18 : (S.txn G [⟨[119], [], false⟩]).1.Inv 31 := hi17
  have hbad1 : ∃ x ∈ G, ¬ (S.txn G [⟨[119], [], false⟩]).1.holds x := by
    rw [Sto.txn_no (by rw [e]; decide)]
    exact hbad
  generalize (S.txn G [⟨[119], [], false⟩]).1 = S1 at *
  obtain ⟨csG, hG1, hG2⟩ := id hg18
  obtain ⟨lG, oG, cG, clG, roG, e8, hcG, hgl, hgo, hgt⟩ := hG1.pos hpos
  cases e8
  have hlG := hw18 _ _ hgl
  repeat (first | refine w_seq ?_ | refine w_blk ?_ | refine z_seq ?_ | refine z_blk ?_ | refine w_skip ?_)
  refine w_drw (T6 8 24) [(0, []), (1, []), (2, []), (3, []), (4, [2, 3]), (5, [2, 3]), (6, [2, 3]), (7, [2, 3]), (8, []), (9, [])] 10 (by kernel_rfl) rfl rfl (j' := 38) ?_
  refine d_op rfl rfl .no (q := 28) rfl (s_mv rfl ⟨⟨rfl, rfl⟩, ?_⟩)
  refine d_op rfl rfl .no (q := 29) rfl (s_mv rfl ⟨⟨rfl, rfl⟩, ?_⟩)
  refine d_tc rfl rfl rfl .no (q := 30) rfl (s_hiC un_37 sz_36 rfl hG1 rfl (Nat.le_of_lt hjl) fun a1 c1 hA hAn => ⟨clash_nil, ?_⟩)
  refine d_tc rfl rfl rfl .no (q := 31) rfl (s_app0 app37' rfl rfl hA.src (by omega) fun a2 c2 g2 tc2 wr2 hwr2 hB hgB hnB => ⟨clash_nil, ?_⟩)
  have k2 : K0 g18 n18 g2 := fun x o hx ho _ => by rw [hgB x (by omega)]; exact ho
  refine d_op rfl rfl .no (q := 32) rfl (s_mv rfl ⟨⟨rfl, rfl⟩, ?_⟩)
  refine d_op rfl rfl .no (q := 33) rfl (s_mv rfl ⟨⟨rfl, rfl⟩, ?_⟩)
  first | refine d_op rfl rfl .no (q := 34) rfl (s_bin rfl rfl (bi_inc (by omega)) ⟨⟨rfl, rfl⟩, ?_⟩) | refine d_op rfl rfl .no (q := 34) rfl (s_bin rfl rfl (bi_add rfl (by omega) (by omega)) ⟨⟨rfl, rfl⟩, ?_⟩)
  refine d_tc rfl rfl rfl .no (q := 35) rfl (s_loC (j := j + 1) (q := n18) un_37 sz_36 rfl (hG1.kp0 k2 hw18) rfl hjl (fun y hy => by cases hy; exact hlG) fun a3 c3 tc3 htc3 hC hCn => ⟨(by (rcases hwr2 with rfl | rfl) <;> (rcases htc3 with rfl | ⟨_, _, rfl⟩) <;> simp only [clashS, memN, cases2, neAll, ne1, if_true, if_false, Nat.reduceEqDiff, reduceIte, and_true, true_and] <;> omega), ?_⟩)
  refine d_tc rfl rfl rfl .no (q := 36) rfl (s_app app37' rfl rfl hB hC.src (gds_plain (Rows.drop (j + 1) hG2)) (by omega) fun a4 c4 g4 tc4 wr4 hD hgr4 => ⟨clash_nil, ?_⟩)
  have k4 : K0 g18 n18 g4 := hgr4.kp k2 (by omega) fun x hx => .inl (by have := hnB x hx; omega)
  refine d_op rfl rfl .no (q := 37) rfl (s_as rfl ⟨⟨rfl, rfl⟩, ?_⟩)
  refine d_nil ?_
  repeat (first | refine w_seq ?_ | refine w_blk ?_ | refine z_seq ?_ | refine z_blk ?_ | refine w_skip ?_)
  refine w_gen fun g5 n5 hg5 hn5 hwg5 => ?_
  rw [← hg5] at k4 hD
  have hll : (G.take j ++ G.drop (j + 1)).length = j + (G.length - (j + 1)) := by simp; omega
  have hLess : GdsRd g5 (.slice a4 (j + (G.length - (j + 1))) c4) (G.take j ++ G.drop (j + 1)) := ⟨_, by rw [hll]; exact hD.slc, Rows.append (Rows.take j hG2) (Rows.drop (j + 1) hG2)⟩
  have hgl5 := k4.at0 hw18 hgl
  have hS5 := hS18.kp0 k4 hw18
  have hT5 := hT18.kp0 k4 hw18
  have hOne : GdsRd g5 (.slice (some ⟨lG, oG + j * 3, none⟩) 1 (c8 - j)) [G[j]] := ⟨gdC G[j], ⟨rfl, .inr (.inr ⟨lG, oG + j * 3, c8 - j, rfl, (show 1 ≤ c8 - j by omega), .inr ⟨clG, roG, hgl5, (show oG + j * 3 + 1 * 3 ≤ clG.length by omega), (take_part (j := j * 3) (s := 3) hgt (by omega)).trans (hG2.get hjl)⟩⟩)⟩, Rows.one rfl rfl⟩
  clear hgr4 hB hC hD hgB hnB hA hAn hwr2 hg5 k2
  have hone := one_or_rest hjl hmay hbad1 (w' := ⟨[118], [], false⟩) ⟨by simp [keyOk], (fun q => by cases q.1), by simp⟩
  repeat (first | refine w_seq ?_ | refine w_blk ?_ | refine z_seq ?_ | refine z_blk ?_ | refine w_skip ?_)
  refine w_reg 15 rfl rfl (j' := 15) ?_
  refine n_op .no (q := 0) rfl (s_mv rfl ?_)
  refine n_op .no (q := 1) rfl (s_mv rfl ?_)
  refine n_op .no (q := 2) rfl (s_mv rfl ?_)
  refine n_op .no (q := 3) rfl (s_mv rfl ?_)
  first | refine n_op .no (q := 4) rfl (s_bin rfl rfl (bi_inc (by omega)) ?_) | refine n_op .no (q := 4) rfl (s_bin rfl rfl (bi_add rfl (by omega) (by omega)) ?_)
  refine n_op .no (q := 5) rfl (s_mid (j := j) (i := j + 1) (q := 1) un_37 sz_36 rfl rfl rfl rfl (by omega) hgl5 fun tc => ?_)
  refine n_op .no (q := 6) rfl (s_bld pl_39 zl_39 rfl rfl rfl ?_)
  refine n_op .no (q := 7) rfl (s_bs el_40 ez_40 rfl rfl rfl ?_)
  refine n_op .no (q := 8) rfl (s_bld pl_42 zl_42 rfl rfl rfl ?_)
  refine n_call .no rfl rfl rfl ?_
  refine C.use (st_txn_i (hS5.kp0 (n := n5) (by repeat (first | exact Kp.refl _ _ _ | refine Kp.new ?_ (by omega) _)) hwg5) hi18 (by omega) (by omega) (hOne.kp0 (n := n5) (by repeat (first | exact Kp.refl _ _ _ | refine Kp.new ?_ (by omega) _)) hwg5) (wrs_one (x := ⟨[118], [], false⟩) (a := none) (p := 0) (gs_same _ _ _) (SlC.nil _ _))) fun v g25 n25 hw25 hn25 hq => ?_
  obtain ⟨sl25, hu25, hS25, hM25, k25⟩ := hq
  rw [txn_code] at hu25
  subst hu25
  refine n_op .no (q := 10) rfl (s_mv rfl ?_)
  refine n_op .no (q := 11) rfl (s_ext rfl rfl ?_)
  refine n_op .no (q := 12) rfl (s_ext rfl rfl ?_)
  refine n_op .no (q := 13) rfl (s_as rfl ?_)
  refine n_op .no (q := 14) rfl (s_as rfl ?_)
  refine n_nil ?_
  have kC : Kp (FS s m1 m2 l sl17) g5 n5 g25 := (Kp.z (by exact (by repeat (first | exact Kp.refl _ _ _ | refine Kp.new ?_ (by omega) _)))).tr' k25 (by omega)
  have hT25 := hT5.other kC hwg5 hap hsep18
  have hL25 := hLess.kk kC hwg5 (FS.no3 _ _ _ _ _)
  clear k25 kC hM25 hS25 hS5 hT5 hLess hOne
  repeat (first | refine w_seq ?_ | refine w_blk ?_ | refine z_seq ?_ | refine z_blk ?_ | refine w_skip ?_)
  refine w_reg 11 rfl rfl (j' := 11) ?_
  refine n_op .no (q := 0) rfl (s_mv rfl ?_)
  refine n_op .no (q := 1) rfl (s_mv rfl ?_)
  refine n_op .no (q := 2) rfl (s_bld pl_39 zl_39 rfl rfl rfl ?_)
  refine n_op .no (q := 3) rfl (s_bs el_40 ez_40 rfl rfl rfl ?_)
  refine n_op .no (q := 4) rfl (s_bld pl_42 zl_42 rfl rfl rfl ?_)
  refine n_call .no rfl rfl rfl ?_
  refine C.use (st_txn_i (hT25.kp0 (n := n25) (by repeat (first | exact Kp.refl _ _ _ | refine Kp.new ?_ (by omega) _)) hw25) hi18 (by omega) (by omega) (hL25.kp0 (n := n25) (by repeat (first | exact Kp.refl _ _ _ | refine Kp.new ?_ (by omega) _)) hw25) (wrs_one (x := ⟨[118], [], false⟩) (a := none) (p := 0) (gs_same _ _ _) (SlC.nil _ _))) fun v g26 n26 hw26 hn26 hq => ?_
  obtain ⟨sl26, hu26, _, _, _⟩ := hq
  rw [txn_code] at hu26
  subst hu26
  refine n_op .no (q := 6) rfl (s_mv rfl ?_)
  refine n_op .no (q := 7) rfl (s_ext rfl rfl ?_)
  refine n_op .no (q := 8) rfl (s_ext rfl rfl ?_)
  refine n_op .no (q := 9) rfl (s_as rfl ?_)
  refine n_op .no (q := 10) rfl (s_as rfl ?_)
  refine n_nil ?_
  by_cases q6 : S1.can [G[j]] [⟨[118], [], false⟩] = 6
  · repeat (first | refine w_seq ?_ | refine w_blk ?_ | refine z_seq ?_ | refine z_blk ?_ | refine w_skip ?_)
    refine w_reg 7 rfl rfl (j' := 7) ?_
    refine n_op .no (q := 0) rfl (s_mv rfl ?_)
    refine n_op .no (q := 1) rfl (s_bin rfl rfl rfl ?_)
    refine n_op .no (q := 2) rfl (s_mv rfl ?_)
    refine n_sk rfl rfl (beq_iff_eq.2 q6) ?_
    refine n_sk rfl rfl (beq_iff_eq.2 q6) ?_
    refine n_op .no (q := 5) rfl (s_pt rfl (beq_iff_eq.2 q6) rfl ?_)
    refine n_op .no (q := 6) rfl (s_as rfl ?_)
    refine n_nil ?_
    repeat (first | refine w_ret ?_ | refine w_seq ?_ | refine w_blk ?_ | refine z_seq ?_ | refine z_blk ?_ | refine w_skip ?_)
    refine z_r1 rfl rfl ?_
    rfl
  have q7 := hone.resolve_left q6
  repeat (first | refine w_seq ?_ | refine w_blk ?_ | refine z_seq ?_ | refine z_blk ?_ | refine w_skip ?_)
  refine w_reg 7 rfl rfl (j' := 7) ?_
  refine n_op .no (q := 0) rfl (s_mv rfl ?_)
  refine n_op .no (q := 1) rfl (s_bin rfl rfl rfl ?_)
  refine n_op .no (q := 2) rfl (s_mv rfl ?_)
  refine n_op (.yes rfl rfl (beq_eq_false_iff_ne.2 q6)) (q := 3) rfl (s_mv rfl ?_)
  refine n_op (.yes rfl rfl (beq_eq_false_iff_ne.2 q6)) (q := 4) rfl (s_bin rfl rfl rfl ?_)
  refine n_op .no (q := 5) rfl (s_pf rfl (beq_eq_false_iff_ne.2 q6) rfl ?_)
  refine n_op .no (q := 6) rfl (s_as rfl ?_)
  refine n_nil ?_
  repeat (first | refine w_ret ?_ | refine w_seq ?_ | refine w_blk ?_ | refine z_seq ?_ | refine z_blk ?_ | refine w_skip ?_)
  refine z_r1 rfl rfl ?_
  rw [q7]
  rfl

end Go.Proofs.YtehmailaabjdjaaGreat
