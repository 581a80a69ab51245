/-
  StoreWatch answers true. No condition but that begun does.
-/
import Derived.Test.YtehmailaabjdjaaGreatStRep
import Derived.Test.YtehmailaabjdjaaGreatCaC
open Go.Proofs
namespace Go.Proofs.YtehmailaabjdjaaGreat
set_option linter.unusedSimpArgs false
set_option linter.unusedVariables false
set_option maxRecDepth 100000

theorem findK_in {α : Type} {k : Bs} {a : α} : ∀ {r : List (Bs × α)}, findK k r = some a → (k, a) ∈ r
  | [], h => by cases h
  | x :: r, h => by
    unfold findK at h
    split at h
    · rename_i q
      cases h
      rw [← q]; exact List.mem_cons_self ..
    · exact List.mem_cons_of_mem _ (findK_in h)
theorem list_mem {S : Sto} {x : SEnt} (h : x ∈ S.list) : ∃ k, (k, x) ∈ S.now := by
  unfold Sto.list at h
  obtain ⟨k, hk, rfl⟩ := List.mem_map.1 h
  have hk' : k ∈ S.now.map (·.1) := (List.mergeSort_perm _ _).mem_iff.1 hk
  obtain ⟨a, ha⟩ := findK_mem hk'
  exact ⟨k, by rw [ha]; exact findK_in ha⟩
theorem Sto.Inv.listed {S : Sto} {N : Nat} (h : S.Inv N) : ∀ x ∈ S.list, x.key ≠ [] ∧ 1 ≤ x.rev ∧ x.rev ≤ S.rev := fun x hx => by
  obtain ⟨k, hk⟩ := list_mem hx
  obtain ⟨a, b, c, d⟩ := h.now _ hk
  simp only at a b c d
  refine ⟨fun e => ?_, by omega, d⟩
  rw [b] at e
  rw [e] at a
  exact absurd a.1 (by simp)
theorem TakenAt.fc {g g' : Gm} {n s : Nat} {v : Value} {r : Int} {S : Sto} {was : List (Bs × SEnt)} {L : List SEnt} {all : List Evt} (h : TakenAt g v r S was L all) (hk : Kp (FC s) g n g') (hw : WF g n) : TakenAt g' v r S was L all :=
  ⟨h.since, h.small, h.rl, h.ents.kk hk hw (FC.no3 _) (FC.nob _), h.len⟩

theorem storeWatch_c (hB : BegunOk) {g : Gm} {n : Nat} {v w : Value} {xs : List SOp} {bs : List Bool} (h : SopsRd g v xs) (h' : BoolsAt g w bs) : C 20 #[v, w] g n fun u g' n' => u = .bool true := by
  obtain ⟨a, c, rfl⟩ := h.len
  obtain ⟨a', c', rfl⟩ := h'.len
  refine c_in2 Tryz.func20 rfl Tryz.ntmps20 rfl fun hw => ?_
  repeat first | refine Na ?_ | refine Nb ?_ | refine Nc ?_ | refine Nd ?_ | refine Ne ?_
  refine w_reg 1 rfl rfl (j' := 1) (nA rfl (n_nil ?_))
  repeat first | refine Na ?_ | refine Nb ?_ | refine Nc ?_ | refine Nd ?_ | refine Ne ?_
  refine w_reg 2 rfl rfl (j' := 3) (n_call .no rfl rfl rfl ?_)
  refine C.use (hB _ _) fun v g1 n1 hw1 hn1 hq => ?_
  obtain ⟨rfl, rfl⟩ := hq
  refine nA rfl (n_nil ?_)
  repeat first | refine Na ?_ | refine Nb ?_ | refine Nc ?_ | refine Nd ?_ | refine Ne ?_
  refine w_reg 2 rfl rfl (j' := 2) (nM rfl (nO (s_not rfl (n_nil ?_))))
  repeat first | refine Na ?_ | refine Nb ?_ | refine Nc ?_ | refine Nd ?_ | refine Ne ?_
  refine w_no rfl (rfl) ?_
  have h1 : SopsRd g1 (.slice a xs.length c) xs := h
  have h1' : BoolsAt g1 (.slice a' bs.length c') bs := h'
  repeat first | refine Na ?_ | refine Nb ?_ | refine Nc ?_ | refine Nd ?_ | refine Ne ?_
  refine w_reg 2 rfl rfl (j' := 4) (n_call .no rfl rfl rfl ?_)
  refine C.use (st_newB _ _) fun v g2 n2 hw2 hn2 hq => ?_
  obtain ⟨s, m1, m2, l, rfl, hS2, hb2, k2⟩ := hq
  refine nA rfl (n_nil ?_)
  have hS2 := hS2.up (b' := n1) (by omega)
  have hq : n1 ≤ s ∧ n1 ≤ m1 ∧ n1 ≤ m2 ∧ n1 ≤ l := by omega
  have k2' : K0 g1 n1 g2 := k2.dn (m := n1) (by omega)
  clear k2
  have hsn := hw2 _ _ hS2.cell
  have hln := hw2 _ _ hS2.log.cell
  repeat first | refine Na ?_ | refine Nb ?_ | refine Nc ?_ | refine Nd ?_ | refine Ne ?_
  refine w_reg 3 rfl rfl (j' := 3) (nO (s_bld pl_107 zl_107 rfl rfl rfl (n_op .no (q := 1) rfl (s_boxa rfl (nA rfl (n_nil ?_))))))
  repeat first | refine Na ?_ | refine Nb ?_ | refine Nc ?_ | refine Nd ?_ | refine Ne ?_
  refine w_gen fun g3 n3 hg3 hn3 hwg3 => ?_
  have k3 : K0 g2 n2 g3 := by rw [hg3]; exact (by repeat (first | exact Kp.refl _ _ _ | refine Kp.new ?_ (by omega) _))
  obtain ⟨cc, hcc⟩ : ∃ cc, cc = n2 + 1 := ⟨_, rfl⟩
  have hc3 : g3 cc = some (.cells [.int .i64 0, .slice none 0 0] 0 false) := by rw [hg3, hcc]; exact gs_same _ _ _
  have hS3 := hS2.kp0 k3 hw2
  have w3 : K0 g1 n1 g3 := k2'.trans0 (k3.dn (m := n1) (by omega)) (Nat.le_refl _)
  rw [← hcc]
  have hcs : s < cc ∧ l < cc := by omega
  clear hg3
  repeat first | refine Na ?_ | refine Nb ?_ | refine Nc ?_ | refine Nd ?_ | refine Ne ?_
  refine w_reg 1 rfl rfl (j' := 1) (nA rfl (n_nil ?_))
  repeat first | refine Na ?_ | refine Nb ?_ | refine Nc ?_ | refine Nd ?_ | refine Ne ?_
  refine w_loop (β := Nat × Value × Int) (fun x => [(0, .slice a xs.length c), (1, .slice a' bs.length c'), (6, .pointer (some ⟨s, 0, none⟩)), (7, .pointer (some ⟨cc, 0, none⟩)), (8, .int .i64 (x.1 : Int))])
    (fun x g' n' => x.1 ≤ xs.length ∧ x.1 ≤ 50 ∧ n3 ≤ n' ∧ K0 g1 n1 g' ∧ g' cc = some (.cells [.int .i64 x.2.2, x.2.1] 0 false) ∧ ∃ S sl was L all, S.Inv (4 * x.1) ∧ StAt n1 g' s m1 m2 l sl S ∧ TakenAt g' x.2.1 x.2.2 S was L all) (fun x => 50 - x.1) (0, .slice none 0 0, 0) ⟨rfl, rfl, rfl, rfl, rfl, trivial⟩
    ⟨by simp, by simp, by omega, w3, hc3, _, _, [], [], [], Sto.Inv.new, hS3, ⟨Since.here Hist.new, (fun e he => by cases he), RL.nil, EntsRd.nil _, by simp⟩⟩ ?_
  rintro ⟨i, lv, cr⟩ f gL nL hwL ⟨hi, hi50, hnL, wL, hcL, S, sl, was, L, all, hinv, hS, hT⟩
  simp only at hi hi50 hcL hinv hT
  by_cases e1 : i < xs.length
  rotate_left
  · repeat first | refine Na ?_ | refine Nb ?_ | refine Nc ?_ | refine Nd ?_ | refine Ne ?_
    refine w_reg 14 rfl rfl (j' := 14) (nM rfl (nM rfl (nO (s_len rfl rfl un_44 rfl (nO (s_bin rfl rfl rfl (nM rfl (n_sk rfl rfl (decide_eq_false (by omega)) (n_sk rfl rfl (decide_eq_false (by omega)) (n_sk rfl rfl (decide_eq_false (by omega)) (n_sk rfl rfl (decide_eq_false (by omega)) (nO (s_pf rfl (decide_eq_false (by omega)) rfl (nM rfl (n_sk rfl rfl (rfl) (n_sk rfl rfl (rfl) (nO (s_pf rfl (rfl) rfl (n_nil ?_)))))))))))))))))))
    repeat first | refine Na ?_ | refine Nb ?_ | refine Nc ?_ | refine Nd ?_ | refine Ne ?_
    refine w_no rfl (rfl) ?_
    refine w_exit rfl ?_
    repeat first | refine Na ?_ | refine Nb ?_ | refine Nc ?_ | refine Nd ?_ | refine Ne ?_
    refine w_reg 1 rfl rfl (j' := 15) (nA rfl (n_nil ?_))
    repeat first | refine Nf ?_ | refine Na ?_ | refine Nb ?_ | refine Nc ?_ | refine Nd ?_ | refine Ne ?_
    refine z_r1 rfl rfl ?_
    exact rfl
  by_cases e2 : i < bs.length
  rotate_left
  · repeat first | refine Na ?_ | refine Nb ?_ | refine Nc ?_ | refine Nd ?_ | refine Ne ?_
    refine w_reg 14 rfl rfl (j' := 14) (nM rfl (nM rfl (nO (s_len rfl rfl un_44 rfl (nO (s_bin rfl rfl rfl (nM rfl (nG rfl rfl (decide_eq_true (by omega)) rfl (nG rfl rfl (decide_eq_true (by omega)) rfl (nY rfl rfl (decide_eq_true (by omega)) (s_len rfl rfl un_103 rfl (nY rfl rfl (decide_eq_true (by omega)) (s_bin rfl rfl rfl (nO (s_pt rfl (decide_eq_true (by omega)) rfl (nM rfl (n_sk rfl rfl (decide_eq_false (by omega)) (n_sk rfl rfl (decide_eq_false (by omega)) (nO (s_pf rfl (decide_eq_false (by omega)) rfl (n_nil ?_)))))))))))))))))))))
    repeat first | refine Na ?_ | refine Nb ?_ | refine Nc ?_ | refine Nd ?_ | refine Ne ?_
    refine w_no rfl (rfl) ?_
    refine w_exit rfl ?_
    repeat first | refine Na ?_ | refine Nb ?_ | refine Nc ?_ | refine Nd ?_ | refine Ne ?_
    refine w_reg 1 rfl rfl (j' := 15) (nA rfl (n_nil ?_))
    repeat first | refine Nf ?_ | refine Na ?_ | refine Nb ?_ | refine Nc ?_ | refine Nd ?_ | refine Ne ?_
    refine z_r1 rfl rfl ?_
    exact rfl
  by_cases e3 : i < 50
  rotate_left
  · repeat first | refine Na ?_ | refine Nb ?_ | refine Nc ?_ | refine Nd ?_ | refine Ne ?_
    refine w_reg 14 rfl rfl (j' := 14) (nM rfl (nM rfl (nO (s_len rfl rfl un_44 rfl (nO (s_bin rfl rfl rfl (nM rfl (nG rfl rfl (decide_eq_true (by omega)) rfl (nG rfl rfl (decide_eq_true (by omega)) rfl (nY rfl rfl (decide_eq_true (by omega)) (s_len rfl rfl un_103 rfl (nY rfl rfl (decide_eq_true (by omega)) (s_bin rfl rfl rfl (nO (s_pt rfl (decide_eq_true (by omega)) rfl (nM rfl (nG rfl rfl (decide_eq_true (by omega)) rfl (nY rfl rfl (decide_eq_true (by omega)) (s_bin rfl rfl rfl (nO (s_pt rfl (decide_eq_true (by omega)) rfl (n_nil ?_))))))))))))))))))))))
    repeat first | refine Na ?_ | refine Nb ?_ | refine Nc ?_ | refine Nd ?_ | refine Ne ?_
    refine w_no rfl (decide_eq_false (by omega)) ?_
    refine w_exit rfl ?_
    repeat first | refine Na ?_ | refine Nb ?_ | refine Nc ?_ | refine Nd ?_ | refine Ne ?_
    refine w_reg 1 rfl rfl (j' := 15) (nA rfl (n_nil ?_))
    repeat first | refine Nf ?_ | refine Na ?_ | refine Nb ?_ | refine Nc ?_ | refine Nd ?_ | refine Ne ?_
    refine z_r1 rfl rfl ?_
    exact rfl
  repeat first | refine Na ?_ | refine Nb ?_ | refine Nc ?_ | refine Nd ?_ | refine Ne ?_
  refine w_reg 14 rfl rfl (j' := 14) (nM rfl (nM rfl (nO (s_len rfl rfl un_44 rfl (nO (s_bin rfl rfl rfl (nM rfl (nG rfl rfl (decide_eq_true (by omega)) rfl (nG rfl rfl (decide_eq_true (by omega)) rfl (nY rfl rfl (decide_eq_true (by omega)) (s_len rfl rfl un_103 rfl (nY rfl rfl (decide_eq_true (by omega)) (s_bin rfl rfl rfl (nO (s_pt rfl (decide_eq_true (by omega)) rfl (nM rfl (nG rfl rfl (decide_eq_true (by omega)) rfl (nY rfl rfl (decide_eq_true (by omega)) (s_bin rfl rfl rfl (nO (s_pt rfl (decide_eq_true (by omega)) rfl (n_nil ?_))))))))))))))))))))))
  repeat first | refine Na ?_ | refine Nb ?_ | refine Nc ?_ | refine Nd ?_ | refine Ne ?_
  refine w_yes rfl (decide_eq_true (by omega)) ?_
  refine w_skip ?_
  refine z_seq ?_
  refine w_seq ?_
  refine w_blk ?_
  refine w_seq ?_
  refine z_meet (β := Unit) (fun _ => [(0, .slice a xs.length c), (1, .slice a' bs.length c'), (6, .pointer (some ⟨s, 0, none⟩)), (7, .pointer (some ⟨cc, 0, none⟩)), (8, .int .i64 (i : Int))])
    (fun _ g' n' => nL ≤ n' ∧ K0 g1 n1 g' ∧ g' cc = some (.cells [.int .i64 cr, lv] 0 false) ∧ ∃ S sl all, S.Inv (4 * i + 1) ∧ StAt n1 g' s m1 m2 l sl S ∧ TakenAt g' lv cr S was L all) ?_ ?_
  · obtain ⟨l3, o3, c3, cl3, ro3, gv3, wv3, x1, x2, x3, x4, x5, x6, x7, x8⟩ := (h1.kp0 wL hw1).at e1
    cases x1
    obtain ⟨op, hop⟩ : ∃ op, op = xs[i]'e1 := ⟨_, rfl⟩
    rw [← hop] at x4 x6 x7 x8
    repeat first | refine Na ?_ | refine Nb ?_ | refine Nc ?_ | refine Nd ?_ | refine Ne ?_
    refine w_reg 6 rfl rfl (j' := 20) (nM rfl (nM rfl (nO (s_ia rfl rfl el_44 (by first | assumption | omega) (nO (s_fa rfl fo_47_0 ?_))))))
    refine nO (s_ld rfl (by repeat first | exact gS | exact x2 | exact x4 | refine gN (by omega) ?_) ag_3 (by first | exact rfl | exact x2 | exact x4) ?_)
    refine nO (s_bin rfl rfl rfl (n_nil ?_))
    by_cases hk1 : op.kind = 1
    · repeat first | refine Na ?_ | refine Nb ?_ | refine Nc ?_ | refine Nd ?_ | refine Ne ?_
      refine w_yes rfl (beq_iff_eq.2 hk1) ?_
      repeat first | refine Na ?_ | refine Nb ?_ | refine Nc ?_ | refine Nd ?_ | refine Ne ?_
      refine w_reg 7 rfl rfl (j' := 27) (nM rfl (nM rfl (nM rfl (nO (s_ia rfl rfl el_44 (by first | assumption | omega) (nO (s_fa rfl fo_47_2 ?_)))))))
      refine nO (s_ld rfl (by repeat first | exact gS | exact x2 | exact x6 | refine gN (by omega) ?_) ag_2 (by first | exact rfl | exact x2 | exact x6) ?_)
      refine n_call .no rfl rfl rfl ?_
      refine C.use (st_compact (rev := op.rev) hS (by have := hinv.len; omega)) fun v g4 n4 hw4 hn4 hq => ?_
      obtain ⟨sl4, hS4, hv4, k4⟩ := hq
      refine n_nil ?_
      repeat first | refine Na ?_ | refine Nb ?_ | refine Nc ?_ | refine Nd ?_ | refine Ne ?_
      have k4' : Kp (FS s m1 m2 l sl) gL nL g4 := FL.fs hS (k4.dn (m := nL) (by omega))
      have w4 : K0 g1 n1 g4 := wL.trans0 (hS.low hq (Nat.le_refl _) (by omega) k4') (Nat.le_refl _)
      have hc4 := k4'.at hwL hcL (FS.no0 (by omega) (by omega))
      exact z_met () ⟨rfl, rfl, rfl, rfl, rfl, trivial⟩ ⟨by omega, w4, hc4, _, _, all, (hinv.cut op.rev).up (by omega), hS4, ⟨hT.since.cut op.rev, hT.small, hT.rl, hT.ents.kk k4' hwL (FS.no3 _ _ _ _ _) (FS.nob _ _ _ _ _), hT.len⟩⟩
    · repeat first | refine Na ?_ | refine Nb ?_ | refine Nc ?_ | refine Nd ?_ | refine Ne ?_
      refine w_no rfl (beq_eq_false_iff_ne.2 hk1) ?_
      repeat first | refine Na ?_ | refine Nb ?_ | refine Nc ?_ | refine Nd ?_ | refine Ne ?_
      refine w_reg 8 rfl rfl (j' := 28) (nM rfl (nM rfl (nM rfl (nO (s_ia rfl rfl el_44 (by first | assumption | omega) (nO (s_fa rfl fo_47_1 ?_)))))))
      refine nO (s_lda rfl (by repeat first | exact gS | exact x2 | exact x5 | refine gN (by omega) ?_) ag_42 sz_42 (by first | exact Nat.le_of_ble_eq_true rfl | assumption | omega) (by first | exact x2 | exact x5 | exact rfl) ?_)
      refine n_call .no rfl rfl rfl ?_
      refine C.use (cut_c x7 x8) fun v g4 n4 hw4 hn4 hq => ?_
      obtain ⟨v4, w4, rfl, hg4, hw4', k4⟩ := hq
      refine n_call .no rfl rfl rfl ?_
      have k4' := k4.dn (m := nL) (by omega)
      refine C.use (st_txn_i (hS.kp0 k4' hwL) hinv (by omega) (by omega) hg4 hw4') fun v g5 n5 hw5 hn5 hq => ?_
      obtain ⟨sl5, hu5, hS5, hM5, k5⟩ := hq
      refine n_nil ?_
      repeat first | refine Na ?_ | refine Nb ?_ | refine Nc ?_ | refine Nd ?_ | refine Ne ?_
      have k45 : Kp (FS s m1 m2 l sl) gL nL g5 := (Kp.z k4').tr' k5 (by omega)
      have w5 : K0 g1 n1 g5 := wL.trans0 (hS.low hq (Nat.le_refl _) (by omega) k45) (Nat.le_refl _)
      have hc5 := k45.at hwL hcL (FS.no0 (by omega) (by omega))
      obtain ⟨all', hS', hV'⟩ := hT.since.txnV hT.small (op.gs.take 25) (op.ws.take 70)
      exact z_met () ⟨rfl, rfl, rfl, rfl, rfl, trivial⟩ ⟨by omega, w5, hc5, _, _, all', hinv.txn, hS5, ⟨hS', hV', hT.rl, hT.ents.kk k45 hwL (FS.no3 _ _ _ _ _) (FS.nob _ _ _ _ _), hT.len⟩⟩
  clear hcL hinv hS hT wL
  rintro _ f g4 n4 hw4 ⟨hn4, w4, hc4, S, sl, all, hinv, hS, hT⟩
  obtain ⟨ly, oy, cy, cly, roy, y1, y2, y3⟩ := (h1'.kp0 w4 hw1).at e2
  cases y1
  repeat first | refine Na ?_ | refine Nb ?_ | refine Nc ?_ | refine Nd ?_ | refine Ne ?_
  refine w_reg 5 rfl rfl (j' := 5) (nM rfl (nM rfl (nO (s_ia rfl rfl el_103 (by first | assumption | omega) ?_))))
  refine nO (s_ld rfl (by repeat first | exact gS | exact y2 | exact y3 | refine gN (by omega) ?_) ag_4 (by first | exact rfl | exact y2 | exact y3) ?_)
  refine nO (s_not rfl (n_nil ?_))
  by_cases hb : bs[i] = true
  rotate_left
  · repeat first | refine Na ?_ | refine Nb ?_ | refine Nc ?_ | refine Nd ?_ | refine Ne ?_
    refine w_yes rfl (by simpa using hb) ?_
    refine w_exit rfl ?_
    repeat first | refine Na ?_ | refine Nb ?_ | refine Nc ?_ | refine Nd ?_ | refine Ne ?_
    repeat first | refine Na ?_ | refine Nb ?_ | refine Nc ?_ | refine Nd ?_ | refine Ne ?_
    refine w_reg 3 rfl rfl (j' := 8) (nM rfl (nO (s_bin rfl rfl (by first | exact bi_inc (by omega) | exact bi_add rfl (by omega) (by omega)) ?_)))
    refine nA rfl (n_nil ?_)
    exact z_round (i + 1, lv, cr) ⟨rfl, rfl, rfl, rfl, rfl, trivial⟩ ⟨e1, e3, by omega, w4, hc4, _, _, _, _, _, hinv.up (by simp only; omega), hS, hT⟩ (by simp only; omega)
  repeat first | refine Na ?_ | refine Nb ?_ | refine Nc ?_ | refine Nd ?_ | refine Ne ?_
  refine w_no rfl (by simpa using hb) ?_
  have hwt := hT.since.watch
  have hcs4 := hw4 _ _ hc4
  repeat first | refine Na ?_ | refine Nb ?_ | refine Nc ?_ | refine Nd ?_ | refine Ne ?_
  refine w_reg 11 rfl rfl (j' := 16) (nM rfl (nM rfl (nN rfl (nO (s_fa0 rfl fo_107_0 ?_)))))
  refine nO (s_ld rfl (by repeat first | exact gS | exact hc4 | refine gN (by omega) ?_) ag_2 (by first | exact rfl | exact hc4) ?_)
  refine n_call .no rfl rfl rfl ?_
  refine C.use (st_watch_i hS hinv (by omega)) fun v g5 n5 hw5 hn5 hq => ?_
  obtain ⟨v5, rfl, hE5, hS5, k5⟩ := hq
  rw [hwt] at hE5
  rw [hwt]
  refine nM rfl (nO (s_ext rfl rfl (nO (s_ext rfl rfl (nA rfl (nA rfl (n_nil ?_)))))))
  have k5' := k5.dn (m := n4) (by omega)
  have hc5 := k5'.at hw4 hc4 (fun hf => by have := hf.1; omega)
  have w5 : K0 g1 n1 g5 := w4.trans0 (StAt.lowC hq.1 (by omega) k5') (Nat.le_refl _)
  have hT5 := hT.fc k5' hw4
  have hinv5 := hinv.read
  have hlv1 : oneCell lv = true := by obtain ⟨_, _, e⟩ := hT.ents.len; rw [e]; rfl
  have hrl : RL S.list S.now := RL.ofList hS.now.nodup fun e he => (hinv.now e he).2.1
  have hhist := hT.since.hist
  have hlst := hT.since.list hT.rl
  have hsm := hT.small
  have hle := hT.since.le
  refine z_seq ?_
  refine w_seq ?_
  refine z_meet (β := Value) (fun x => [(0, .slice a xs.length c), (1, .slice (some ⟨ly, oy, none⟩) bs.length c'), (6, .pointer (some ⟨s, 0, none⟩)), (7, .pointer (some ⟨cc, 0, none⟩)), (8, .int .i64 (i : Int))])
    (fun x g' n' => n4 ≤ n' ∧ K0 g1 n1 g' ∧ g' cc = some (.cells [.int .i64 S.rev, x] 0 false) ∧ EntsRd g' x S.list ∧ ∃ S' : Sto, S'.Inv (4 * i + 3) ∧ StAt n1 g' s m1 m2 l sl S' ∧ S'.rev = S.rev ∧ S'.now = S.now ∧ Since S' S.rev S.now all) ?_ ?_
  · by_cases hlt : cr < S.log.base
    · rw [if_pos hlt]
      repeat first | refine Na ?_ | refine Nb ?_ | refine Nc ?_ | refine Nd ?_ | refine Ne ?_
      refine w_reg 1 rfl rfl (j' := 1) (nM rfl (n_nil ?_))
      repeat first | refine Na ?_ | refine Nb ?_ | refine Nc ?_ | refine Nd ?_ | refine Ne ?_
      refine w_reg 2 rfl rfl (j' := 3) (nO (s_bin rfl rfl rfl (nA rfl (n_nil ?_))))
      repeat first | refine Na ?_ | refine Nb ?_ | refine Nc ?_ | refine Nd ?_ | refine Ne ?_
      refine w_no rfl (rfl) ?_
      repeat first | refine Na ?_ | refine Nb ?_ | refine Nc ?_ | refine Nd ?_ | refine Ne ?_
      refine w_reg 2 rfl rfl (j' := 5) (nO (s_bin rfl rfl rfl (nA rfl (n_nil ?_))))
      repeat first | refine Na ?_ | refine Nb ?_ | refine Nc ?_ | refine Nd ?_ | refine Ne ?_
      refine w_yes rfl (rfl) ?_
      repeat first | refine Na ?_ | refine Nb ?_ | refine Nc ?_ | refine Nd ?_ | refine Ne ?_
      refine w_drw (T6 20 20) [(0, []), (1, []), (2, []), (3, []), (4, [3]), (5, [3]), (6, []), (7, []), (8, []), (9, []), (11, []), (10, []), (12, []), (13, []), (14, []), (15, [])] 16 (by kernel_rfl) rfl rfl (j' := 21) (dM rfl rfl (dO rfl rfl (s_nil rfl ⟨⟨rfl, rfl⟩, (dO rfl rfl (s_fa0 rfl fo_107_0 ⟨⟨rfl, rfl⟩, ?_⟩))⟩)))
      refine dT rfl rfl rfl (s_ld rfl (by repeat first | exact gS | exact hc5 | refine gN (by omega) ?_) ag_2 (by first | exact rfl | exact hc5) ⟨clash_nil, ?_⟩)
      refine dM rfl rfl (d_call rfl .no rfl rfl rfl (call_rd rfl) ?_)
      refine C.use (st_base hS5) fun v g6 n6 hw6 hn6 hq => ?_
      obtain ⟨rfl, k6⟩ := hq
      refine ⟨?_, ?_⟩
      · have k6' := k6.dn (m := n5) (by omega)
        have q := (k6'.at0 hw5 hc5).trans hc5.symm
        repeat' (first | exact trivial | exact q | apply And.intro)
      have k6' := k6.dn (m := n5) (by omega)
      have hS6 := hS5.kp0 k6' hw5
      have hc6 := k6'.at0 hw5 hc5
      refine dO rfl rfl (s_bin rfl rfl rfl ⟨⟨rfl, rfl⟩, (dM rfl rfl (d_op rfl rfl (.yes rfl rfl (decide_eq_false (by simp only; omega))) (q := 13) rfl (s_mv rfl ⟨⟨rfl, rfl⟩, (d_op rfl rfl (.yes rfl rfl (decide_eq_false (by simp only; omega))) (q := 14) rfl (s_mv rfl ⟨⟨rfl, rfl⟩, (d_op rfl rfl (.yes rfl rfl (decide_eq_false (by simp only; omega))) (q := 16) rfl (s_mv rfl ⟨⟨rfl, rfl⟩, (d_call rfl (.yes rfl rfl (decide_eq_false (by simp only; omega))) rfl rfl rfl call_nil ?_)⟩))⟩))⟩)))⟩)
      refine C.use (st_rev hS6) fun v g7 n7 hw7 hn7 hq => ?_
      obtain ⟨rfl, k7⟩ := hq
      refine ⟨kept_nil, ?_⟩
      have k7' := k7.dn (m := n6) (by omega)
      have hS7 := hS6.kp0 k7' hw6
      have hc7 := k7'.at0 hw6 hc6
      refine d_call rfl (.yes rfl rfl (decide_eq_false (by simp only; omega))) rfl rfl rfl call_nil ?_
      refine C.use (st_list_i hS7 hinv5 (by omega)) fun v g8 n8 hw8 hn8 hq => ?_
      obtain ⟨hE8, hS8, k8⟩ := hq
      refine ⟨kept_nil, ?_⟩
      have k8' := k8.dn (m := n7) (by omega)
      have hc8 := k8'.at hw7 hc7 (fun hf => by have := hf.1; omega)
      have hE8 : EntsOwn n7 g8 v S.list := hE8
      have hlen := hinv.list_len
      refine d_call rfl (.yes rfl rfl (decide_eq_false (by simp only; omega))) rfl rfl rfl call_nil ?_
      refine C.use (clist_c hc8 hE8.rd hrl.srt hinv.rev.1 hinv.listed (by omega) hlv1) fun v g9 n9 hw9 hn9 hq => ?_
      obtain ⟨rfl, ⟨lv9, hC9⟩, k9⟩ := hq
      refine ⟨kept_nil, ?_⟩
      have k9' := k9.dn (m := n8) (by omega)
      refine d_op rfl rfl (.yes rfl rfl (decide_eq_false (by simp only; omega))) (q := 19) rfl (s_not rfl ⟨⟨rfl, rfl⟩, (dO rfl rfl (s_pf rfl (decide_eq_false (by simp only; omega)) rfl ⟨⟨rfl, rfl⟩, (d_nil ?_)⟩))⟩)
      repeat first | refine Na ?_ | refine Nb ?_ | refine Nc ?_ | refine Nd ?_ | refine Ne ?_
      refine w_no rfl (rfl) ?_
      repeat first | refine Na ?_ | refine Nb ?_ | refine Nc ?_ | refine Nd ?_ | refine Ne ?_
      have hS9 := hS8.fc k9' hw8 (by omega) (by omega)
      have w9 : K0 g1 n1 g9 := ((w5.trans0 ((k6'.trans0 k7' (by omega)).dn (m := n1) (by omega)) (Nat.le_refl _)).trans0 (StAt.lowC (n := n7) hq.1 (by omega) k8') (Nat.le_refl _)).trans0 (StAt.lowC (n := n8) (s := cc) (by omega) (by omega) k9') (Nat.le_refl _)
      exact z_met lv9 ⟨rfl, rfl, rfl, rfl, rfl, trivial⟩ ⟨by omega, w9, hC9.cell, hC9.ents, _, hinv5.read, hS9, rfl, rfl, (Since.here hhist).read.read⟩
    · rw [if_neg hlt] at hE5 ⊢
      obtain ⟨hasc, hrevs⟩ := hT.since.revs
      have hsm' : EvSm (after cr all) := fun e he => hsm e (List.mem_filter.1 he).1
      have hlen9 : (after cr all).length ≤ 2 ^ 20 := by
        have h2 := from_len S.log cr
        rw [hwt, if_neg hlt] at h2
        have h2 : (after cr all).length ≤ S.log.evs.length := h2
        have := hinv.len
        omega
      obtain ⟨a5, q5, rfl⟩ := hE5.rd.len
      repeat first | refine Na ?_ | refine Nb ?_ | refine Nc ?_ | refine Nd ?_ | refine Ne ?_
      refine w_reg 1 rfl rfl (j' := 1) (nM rfl (n_nil ?_))
      repeat first | refine Na ?_ | refine Nb ?_ | refine Nc ?_ | refine Nd ?_ | refine Ne ?_
      refine w_reg 2 rfl rfl (j' := 3) (nO (s_bin rfl rfl rfl (nA rfl (n_nil ?_))))
      repeat first | refine Na ?_ | refine Nb ?_ | refine Nc ?_ | refine Nd ?_ | refine Ne ?_
      refine w_yes rfl (rfl) ?_
      repeat first | refine Na ?_ | refine Nb ?_ | refine Nc ?_ | refine Nd ?_ | refine Ne ?_
      refine w_drw (T6 20 17) [(0, []), (1, []), (2, []), (3, []), (4, []), (5, [4]), (7, [4]), (6, [4]), (8, []), (9, [])] 10 (by kernel_rfl) rfl rfl (j' := 13) (dM rfl rfl (dM rfl rfl (dO rfl rfl (s_nil rfl ⟨⟨rfl, rfl⟩, (dO rfl rfl (s_fa0 rfl fo_107_0 ⟨⟨rfl, rfl⟩, ?_⟩))⟩))))
      refine dT rfl rfl rfl (s_ld rfl (by repeat first | exact gS | exact hc5 | refine gN (by omega) ?_) ag_2 (by first | exact rfl | exact hc5) ⟨clash_nil, ?_⟩)
      refine dM rfl rfl (dM rfl rfl (d_call rfl .no rfl rfl rfl (call_rd rfl) ?_))
      refine C.use (st_rev hS5) fun v g6 n6 hw6 hn6 hq => ?_
      obtain ⟨rfl, k6⟩ := hq
      refine ⟨?_, ?_⟩
      · have k6' := k6.dn (m := n5) (by omega)
        have q := (k6'.at0 hw5 hc5).trans hc5.symm
        repeat' (first | exact trivial | exact q | apply And.intro)
      have k6' := k6.dn (m := n5) (by omega)
      have hS6 := hS5.kp0 k6' hw5
      have hc6 := k6'.at0 hw5 hc5
      have hC6 : CaAt g6 cc lv cr L := ⟨hc6, hT5.ents.kp0 k6' hw5, hT.rl.srt⟩
      refine d_call rfl .no rfl rfl rfl call_nil ?_
      refine C.use (apply_c hC6 (hE5.rd.kp0 k6' hw5) hle.1 hle.2 hrevs hasc hsm' hlen9 (by have := hT.len; omega)) fun v g7 n7 hw7 hn7 hq => ?_
      obtain ⟨rfl, ⟨lv7, hC7⟩, k7⟩ := hq
      refine ⟨kept_nil, ?_⟩
      have k7' := k7.dn (m := n6) (by omega)
      rw [hlst] at hC7
      refine dO rfl rfl (s_not rfl ⟨⟨rfl, rfl⟩, (d_nil ?_)⟩)
      repeat first | refine Na ?_ | refine Nb ?_ | refine Nc ?_ | refine Nd ?_ | refine Ne ?_
      refine w_no rfl (rfl) ?_
      repeat first | refine Na ?_ | refine Nb ?_ | refine Nc ?_ | refine Nd ?_ | refine Ne ?_
      have hS7 := hS6.fc k7' hw6 (by omega) (by omega)
      have w7 : K0 g1 n1 g7 := (w5.trans0 (k6'.dn (m := n1) (by omega)) (Nat.le_refl _)).trans0 (StAt.lowC (n := n6) (s := cc) (by omega) (by omega) k7') (Nat.le_refl _)
      exact z_met lv7 ⟨rfl, rfl, rfl, rfl, rfl, trivial⟩ ⟨by omega, w7, hC7.cell, hC7.ents, _, hinv5.up (by omega), hS7, rfl, rfl, (Since.here hhist).read⟩
  clear hT5 hT hc5 hS5 hE5
  rintro lv6 f g6 n6 hw6 ⟨hn6, w6, hc6, hL6, S', hinv6, hS6, hr6, hnow6, hsi6⟩
  have hlist : S'.list = S.list := by unfold Sto.list; rw [hnow6]
  have hlen := hinv.list_len
  repeat first | refine Na ?_ | refine Nb ?_ | refine Nc ?_ | refine Nd ?_ | refine Ne ?_
  refine w_drw (T6 20 22) [(0, []), (1, []), (2, []), (3, []), (4, [3]), (5, [3]), (6, []), (7, [])] 8 (by kernel_rfl) rfl rfl (j' := 8) (dM rfl rfl (dO rfl rfl (s_nil rfl ⟨⟨rfl, rfl⟩, (dO rfl rfl (s_fa0 rfl fo_107_1 ⟨⟨rfl, rfl⟩, ?_⟩))⟩)))
  refine dT rfl rfl rfl (s_ld rfl (by repeat first | exact gS | exact hc6 | refine gN (by omega) ?_) ag_48 (by first | exact rfl | exact hc6) ⟨clash_nil, ?_⟩)
  refine dM rfl rfl (d_call rfl .no rfl rfl rfl (call_rd rfl) ?_)
  refine C.use (st_list_i hS6 hinv6 (by omega)) fun v g7 n7 hw7 hn7 hq => ?_
  obtain ⟨hE7, hS7, k7⟩ := hq
  refine ⟨?_, ?_⟩
  · have k7' := k7.dn (m := n6) (by omega)
    have q := (k7'.at hw6 hc6 (fun hf => by have := hf.1; omega)).trans hc6.symm
    repeat' (first | exact trivial | exact q | apply And.intro)
  have k7' := k7.dn (m := n6) (by omega)
  have hc7 := k7'.at hw6 hc6 (fun hf => by have := hf.1; omega)
  have hL7 := hL6.kk k7' hw6 (FC.no3 _) (FC.nob _)
  have w7 : K0 g1 n1 g7 := w6.trans0 (StAt.lowC hq.1 (by omega) k7') (Nat.le_refl _)
  rw [hlist] at hE7
  refine d_call rfl .no rfl rfl rfl call_nil ?_
  refine C.use (eqEntries_c hL7 hE7.rd (by omega)) fun v g8 n8 hw8 hn8 hq => ?_
  obtain ⟨⟨b, rfl, hb8⟩, k8⟩ := hq
  refine ⟨kept_nil, ?_⟩
  have k8' := k8.dn (m := n7) (by omega)
  obtain rfl : b = true := hb8.2 rfl
  refine dO rfl rfl (s_not rfl ⟨⟨rfl, rfl⟩, (d_nil ?_)⟩)
  repeat first | refine Na ?_ | refine Nb ?_ | refine Nc ?_ | refine Nd ?_ | refine Ne ?_
  refine w_no rfl (rfl) ?_
  repeat first | refine Na ?_ | refine Nb ?_ | refine Nc ?_ | refine Nd ?_ | refine Ne ?_
  repeat first | refine Na ?_ | refine Nb ?_ | refine Nc ?_ | refine Nd ?_ | refine Ne ?_
  refine w_reg 3 rfl rfl (j' := 3) (nM rfl (nO (s_bin rfl rfl (by first | exact bi_inc (by omega) | exact bi_add rfl (by omega) (by omega)) ?_)))
  refine nA rfl (n_nil ?_)
  refine z_round (i + 1, lv6, S.rev) ⟨rfl, rfl, rfl, rfl, rfl, trivial⟩ ⟨e1, e3, by omega, w7.trans0 (k8'.dn (m := n1) (by omega)) (Nat.le_refl _), k8'.at0 hw7 hc7, _, _, S.now, S.list, all, hinv6.read.up (by simp only; omega), hS7.kp0 k8' hw7, ⟨hsi6.read, hsm, hrl, hL7.kp0 k8' hw7, by omega⟩⟩ (by simp only; omega)

end Go.Proofs.YtehmailaabjdjaaGreat
