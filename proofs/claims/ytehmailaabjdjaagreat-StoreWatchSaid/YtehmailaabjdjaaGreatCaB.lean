/-
  The reference's cache in memory: Apply and List, by contract. No condition.
-/
import Derived.Test.YtehmailaabjdjaaGreatCaA
open Go.Proofs
namespace Go.Proofs.YtehmailaabjdjaaGreat
set_option linter.unusedSimpArgs false
set_option linter.unusedVariables false
set_option maxRecDepth 100000

/-- Where a cache of the reference lies. -/
structure CaAt (g : Gm) (c : Nat) (lv : Value) (rev : Int) (L : List SEnt) : Prop where
  cell : g c = some (.cells [.int .i64 rev, lv] 0 false)
  ents : EntsRd g lv L
  srt : Srtd L
section
variable {g g' : Gm} {n c : Nat} {lv : Value} {rev : Int} {L : List SEnt}
theorem CaAt.kk {F : Nat → AObj → Prop} (h : CaAt g c lv rev L) (hk : Kp F g n g') (hw : WF g n) (hb : NoB F) (h3 : ∀ x c ro, ¬ F x (.cells c 3 ro)) (hc : ∀ o, ¬ F c (.cells o 0 false)) : CaAt g' c lv rev L :=
  ⟨hk.at hw h.cell (hc _), h.ents.kk hk hw h3 hb, h.srt⟩
theorem CaAt.kp0 (h : CaAt g c lv rev L) (hk : K0 g n g') (hw : WF g n) : CaAt g' c lv rev L := h.kk hk hw NoB.z (fun _ _ _ h => h) (fun _ h => h)

theorem apply_c {upto : Int} {ev : Value} {es : List Evt} (h : CaAt g c lv rev L) (hv : EvsRd g ev es) (h0 : 0 ≤ rev) (h1 : rev ≤ upto) (hr : ∀ x ∈ es, rev < x.rev ∧ x.rev ≤ upto) (ha : Asc es) (hb : ∀ x ∈ es, x.val.length ≤ 4000) (hle : es.length ≤ 2 ^ 20) (hlL : L.length ≤ 2 ^ 20) :
    C 56 #[.pointer (some ⟨c, 0, none⟩), .int .i64 rev, .int .i64 upto, ev] g n fun u g' n' => u = .bool true ∧ (∃ lv', CaAt g' c lv' upto (es.foldl evLay L)) ∧ Kp (FC c) g n g' := by
  obtain ⟨a0, c0, rfl⟩ := hv.len
  have hc := h.cell
  refine c_in4 Tryz.func56 rfl Tryz.ntmps56 rfl fun hw => ?_
  have hcn := hw _ _ hc
  repeat first | refine Na ?_ | refine Nb ?_ | refine Nc ?_ | refine Nd ?_ | refine Ne ?_
  refine w_reg 1 rfl rfl (j' := 1) (nA rfl (n_nil ?_))
  repeat first | refine Na ?_ | refine Nb ?_ | refine Nc ?_ | refine Nd ?_ | refine Ne ?_
  refine w_reg 18 rfl rfl (j' := 19) (nM rfl (nN rfl (nO (s_fa0 rfl fo_107_0 ?_))))
  refine nO (s_ld rfl (by repeat first | exact gS | exact hc | refine gN (by omega) ?_) ag_2 (by first | exact rfl | exact hc) ?_)
  refine nO (s_bin rfl rfl rfl (nM rfl (nG rfl rfl (decide_eq_false (by omega)) rfl (nY rfl rfl (decide_eq_false (by omega)) (s_nil rfl (nY rfl rfl (decide_eq_false (by omega)) (s_fa0 rfl fo_107_0 ?_)))))))
  refine nY rfl rfl (decide_eq_false (by omega)) (s_ld rfl (by repeat first | exact gS | exact hc | refine gN (by omega) ?_) ag_2 (by first | exact rfl | exact hc) ?_)
  refine nG rfl rfl (decide_eq_false (by omega)) rfl (nY rfl rfl (decide_eq_false (by omega)) (s_bin rfl rfl rfl (nO (s_pf rfl (decide_eq_false (by omega)) rfl (nM rfl (nG rfl rfl (bne_eq_false_iff_eq.2 rfl) rfl (nG rfl rfl (bne_eq_false_iff_eq.2 rfl) rfl (nY rfl rfl (bne_eq_false_iff_eq.2 rfl) (s_bin rfl rfl rfl (nO (s_pf rfl (bne_eq_false_iff_eq.2 rfl) rfl (n_nil ?_))))))))))))
  repeat first | refine Na ?_ | refine Nb ?_ | refine Nc ?_ | refine Nd ?_ | refine Ne ?_
  refine w_no rfl (decide_eq_false (by omega)) ?_
  repeat first | refine Na ?_ | refine Nb ?_ | refine Nc ?_ | refine Nd ?_ | refine Ne ?_
  refine w_reg 3 rfl rfl (j' := 22) (nM rfl (nO (s_len rfl rfl un_65 rfl (nM rfl (n_nil ?_)))))
  refine z_seq ?_
  refine z_meet (β := Unit) (fun _ => [(0, .pointer (some ⟨c, 0, none⟩)), (2, .int .i64 upto), (3, .slice a0 es.length c0)])
    (fun _ g' n' => n ≤ n' ∧ K0 g n g') ?_ ?_
  · repeat first | refine Na ?_ | refine Nb ?_ | refine Nc ?_ | refine Nd ?_ | refine Ne ?_
    refine w_loop (β := Nat) (fun i => [(0, .pointer (some ⟨c, 0, none⟩)), (1, .int .i64 rev), (2, .int .i64 upto), (3, .slice a0 es.length c0), (30, .int .i64 es.length), (31, .int .i64 i)])
      (fun i g' n' => i ≤ es.length ∧ n ≤ n' ∧ K0 g n g') (fun i => es.length - i) 0 ⟨rfl, rfl, rfl, rfl, rfl, rfl, trivial⟩ ⟨by omega, by omega, (by repeat (first | exact Kp.refl _ _ _ | refine Kp.new ?_ (by omega) _))⟩ ?_
    rintro i f gL nL hwL ⟨hi, hnL, kL⟩
    repeat first | refine Na ?_ | refine Nb ?_ | refine Nc ?_ | refine Nd ?_ | refine Ne ?_
    refine w_reg 1 rfl rfl (j' := 1) (nO (s_bin rfl rfl rfl (n_nil ?_)))
    repeat first | refine Na ?_ | refine Nb ?_ | refine Nc ?_ | refine Nd ?_ | refine Ne ?_
    refine w_if rfl (fun hb1 => ?_) (fun hb1 => ?_)
    · have hi : i < es.length := by simpa using hb1
      have hri := hr _ (List.getElem_mem hi)
      obtain ⟨l3, o3, c3, cl3, ro3, a3, p3, x1, x0, x2, x3⟩ := (hv.kp0 kL hw).at hi
      cases x1
      have xl := x3.len
      have xc := x3.c0
      have xc' := x3.c0'
      repeat first | refine Na ?_ | refine Nb ?_ | refine Nc ?_ | refine Nd ?_ | refine Ne ?_
      refine w_reg 2 rfl rfl (j' := 3) (nM rfl (nA rfl (n_nil ?_)))
      by_cases hi0 : i = 0
      · subst hi0
        repeat first | refine Na ?_ | refine Nb ?_ | refine Nc ?_ | refine Nd ?_ | refine Ne ?_
        refine w_drw (T6 56 6) [(0, []), (1, []), (2, []), (3, []), (4, []), (5, [4]), (6, []), (7, []), (8, []), (9, []), (10, []), (11, []), (12, []), (13, [12]), (14, []), (15, []), (16, []), (17, []), (18, []), (19, []), (20, []), (21, []), (22, []), (23, []), (24, []), (25, [24]), (26, [24]), (27, [24]), (28, [24]), (29, [24]), (30, [24]), (31, []), (32, []), (33, [])] 34 (by kernel_rfl) rfl rfl (j' := 37) (dM rfl rfl (dM rfl rfl (dO rfl rfl (s_ia rfl rfl el_65 (by first | assumption | omega) ⟨⟨rfl, rfl⟩, (dO rfl rfl (s_fa rfl fo_82_0 ⟨⟨rfl, rfl⟩, ?_⟩))⟩))))
        refine dT rfl rfl rfl (s_ld rfl (by repeat first | exact gS | exact x2 | exact xc | exact xc' | refine gN (by omega) ?_) ag_2 (by first | exact rfl | exact x2 | exact xc | exact xc') ⟨clash_nil, ?_⟩)
        refine dM rfl rfl (dO rfl rfl (s_bin rfl rfl rfl ⟨⟨rfl, rfl⟩, (dM rfl rfl (d_op rfl rfl (.yes rfl rfl (decide_eq_false (by omega))) (q := 11) rfl (s_mv rfl ⟨⟨rfl, rfl⟩, (d_op rfl rfl (.yes rfl rfl (decide_eq_false (by omega))) (q := 12) rfl (s_mv rfl ⟨⟨rfl, rfl⟩, (d_op rfl rfl (.yes rfl rfl (decide_eq_false (by omega))) (q := 13) rfl (s_ia rfl rfl el_65 (by first | assumption | omega) ⟨⟨rfl, rfl⟩, (d_op rfl rfl (.yes rfl rfl (decide_eq_false (by omega))) (q := 14) rfl (s_fa rfl fo_82_0 ⟨⟨rfl, rfl⟩, ?_⟩))⟩))⟩))⟩)))⟩))
        refine d_tc rfl rfl rfl (.yes rfl rfl (decide_eq_false (by omega))) (q := 15) rfl (s_ld rfl (by repeat first | exact gS | exact x2 | exact xc | exact xc' | refine gN (by omega) ?_) ag_2 (by first | exact rfl | exact x2 | exact xc | exact xc') ⟨clash_nil, ?_⟩)
        refine d_op rfl rfl (.yes rfl rfl (decide_eq_false (by omega))) (q := 16) rfl (s_mv rfl ⟨⟨rfl, rfl⟩, (d_op rfl rfl (.yes rfl rfl (decide_eq_false (by omega))) (q := 17) rfl (s_bin rfl rfl rfl ⟨⟨rfl, rfl⟩, (dO rfl rfl (s_pf rfl (decide_eq_false (by omega)) rfl ⟨⟨rfl, rfl⟩, (dM rfl rfl (d_op rfl rfl (.yes rfl rfl (decide_eq_false (by omega))) (q := 20) rfl (s_mv rfl ⟨⟨rfl, rfl⟩, (d_op rfl rfl (.yes rfl rfl (decide_eq_false (by omega))) (q := 21) rfl (s_bin rfl rfl rfl ⟨⟨rfl, rfl⟩, (d_op rfl rfl (.yes rfl rfl (decide_eq_false (by omega))) (q := 22) rfl (s_mv rfl ⟨⟨rfl, rfl⟩, (d_sk rfl rfl rfl (rfl) (d_sk rfl rfl rfl (rfl) (d_sk rfl rfl rfl (rfl) (d_sk rfl rfl rfl (rfl) (d_sk rfl rfl rfl (rfl) (d_sk rfl rfl rfl (rfl) (d_sk rfl rfl rfl (rfl) (d_sk rfl rfl rfl (rfl) (d_sk rfl rfl rfl (rfl) (d_sk rfl rfl rfl (rfl) (d_sk rfl rfl rfl (rfl) (d_sk rfl rfl rfl (rfl) (d_op rfl rfl (.yes rfl rfl (decide_eq_false (by omega))) (q := 35) rfl (s_pf rfl (rfl) rfl ⟨⟨rfl, rfl⟩, (dO rfl rfl (s_pf rfl (decide_eq_false (by omega)) rfl ⟨⟨rfl, rfl⟩, (d_nil ?_)⟩))⟩))))))))))))))⟩))⟩))⟩)))⟩))⟩))⟩)
        repeat first | refine Na ?_ | refine Nb ?_ | refine Nc ?_ | refine Nd ?_ | refine Ne ?_
        refine w_no rfl (rfl) ?_
        repeat first | refine Na ?_ | refine Nb ?_ | refine Nc ?_ | refine Nd ?_ | refine Ne ?_
        repeat first | refine Na ?_ | refine Nb ?_ | refine Nc ?_ | refine Nd ?_ | refine Ne ?_
        refine w_reg 2 rfl rfl (j' := 39) (nO (s_bin rfl rfl (by first | exact bi_inc (by omega) | exact bi_add rfl (by omega) (by omega)) ?_))
        refine nM rfl (n_nil ?_)
        exact z_round (0 + 1) ⟨rfl, rfl, rfl, rfl, rfl, rfl, trivial⟩ ⟨hi, by omega, kL⟩ (by omega)
      · have hi1 : i - 1 < es.length := by omega
        obtain ⟨l4, o4, c4, cl4, ro4, a4, p4, y1, y0, y2, y3⟩ := (hv.kp0 kL hw).at hi1
        cases y1
        rw [x2] at y2
        cases y2
        have yl := y3.len
        have yc := y3.c0
        have yc' := y3.c0'
        have has : es[i - 1].rev ≤ es[i].rev := (List.pairwise_iff_getElem.1 ha) (i - 1) i hi1 hi (by omega)
        repeat first | refine Na ?_ | refine Nb ?_ | refine Nc ?_ | refine Nd ?_ | refine Ne ?_
        refine w_drw (T6 56 6) [(0, []), (1, []), (2, []), (3, []), (4, []), (5, [4]), (6, []), (7, []), (8, []), (9, []), (10, []), (11, []), (12, []), (13, [12]), (14, []), (15, []), (16, []), (17, []), (18, []), (19, []), (20, []), (21, []), (22, []), (23, []), (24, []), (25, [24]), (26, [24]), (27, [24]), (28, [24]), (29, [24]), (30, [24]), (31, []), (32, []), (33, [])] 34 (by kernel_rfl) rfl rfl (j' := 37) (dM rfl rfl (dM rfl rfl (dO rfl rfl (s_ia rfl rfl el_65 (by first | assumption | omega) ⟨⟨rfl, rfl⟩, (dO rfl rfl (s_fa rfl fo_82_0 ⟨⟨rfl, rfl⟩, ?_⟩))⟩))))
        refine dT rfl rfl rfl (s_ld rfl (by repeat first | exact gS | exact x2 | exact xc | exact xc' | exact yc | exact yc' | refine gN (by omega) ?_) ag_2 (by first | exact rfl | exact x2 | exact xc | exact xc' | exact yc | exact yc') ⟨clash_nil, ?_⟩)
        refine dM rfl rfl (dO rfl rfl (s_bin rfl rfl rfl ⟨⟨rfl, rfl⟩, (dM rfl rfl (d_op rfl rfl (.yes rfl rfl (decide_eq_false (by omega))) (q := 11) rfl (s_mv rfl ⟨⟨rfl, rfl⟩, (d_op rfl rfl (.yes rfl rfl (decide_eq_false (by omega))) (q := 12) rfl (s_mv rfl ⟨⟨rfl, rfl⟩, (d_op rfl rfl (.yes rfl rfl (decide_eq_false (by omega))) (q := 13) rfl (s_ia rfl rfl el_65 (by first | assumption | omega) ⟨⟨rfl, rfl⟩, (d_op rfl rfl (.yes rfl rfl (decide_eq_false (by omega))) (q := 14) rfl (s_fa rfl fo_82_0 ⟨⟨rfl, rfl⟩, ?_⟩))⟩))⟩))⟩)))⟩))
        refine d_tc rfl rfl rfl (.yes rfl rfl (decide_eq_false (by omega))) (q := 15) rfl (s_ld rfl (by repeat first | exact gS | exact x2 | exact xc | exact xc' | exact yc | exact yc' | refine gN (by omega) ?_) ag_2 (by first | exact rfl | exact x2 | exact xc | exact xc' | exact yc | exact yc') ⟨clash_nil, ?_⟩)
        refine d_op rfl rfl (.yes rfl rfl (decide_eq_false (by omega))) (q := 16) rfl (s_mv rfl ⟨⟨rfl, rfl⟩, (d_op rfl rfl (.yes rfl rfl (decide_eq_false (by omega))) (q := 17) rfl (s_bin rfl rfl rfl ⟨⟨rfl, rfl⟩, (dO rfl rfl (s_pf rfl (decide_eq_false (by omega)) rfl ⟨⟨rfl, rfl⟩, (dM rfl rfl (d_op rfl rfl (.yes rfl rfl (decide_eq_false (by omega))) (q := 20) rfl (s_mv rfl ⟨⟨rfl, rfl⟩, (d_op rfl rfl (.yes rfl rfl (decide_eq_false (by omega))) (q := 21) rfl (s_bin rfl rfl rfl ⟨⟨rfl, rfl⟩, (d_op rfl rfl (.yes rfl rfl (decide_eq_false (by omega))) (q := 22) rfl (s_mv rfl ⟨⟨rfl, rfl⟩, (d_op rfl rfl (.yes rfl rfl (decide_eq_true (by omega))) (q := 23) rfl (s_mv rfl ⟨⟨rfl, rfl⟩, (d_op rfl rfl (.yes rfl rfl (decide_eq_true (by omega))) (q := 24) rfl (s_mv rfl ⟨⟨rfl, rfl⟩, (d_op rfl rfl (.yes rfl rfl (decide_eq_true (by omega))) (q := 25) rfl (s_ia rfl rfl el_65 (by first | assumption | omega) ⟨⟨rfl, rfl⟩, (d_op rfl rfl (.yes rfl rfl (decide_eq_true (by omega))) (q := 26) rfl (s_fa rfl fo_82_0 ⟨⟨rfl, rfl⟩, ?_⟩))⟩))⟩))⟩))⟩))⟩))⟩)))⟩))⟩))⟩)
        refine d_tc rfl rfl rfl (.yes rfl rfl (decide_eq_true (by omega))) (q := 27) rfl (s_ld rfl (by repeat first | exact gS | exact x2 | exact xc | exact xc' | exact yc | exact yc' | refine gN (by omega) ?_) ag_2 (by first | exact rfl | exact x2 | exact xc | exact xc' | exact yc | exact yc') ⟨clash_nil, ?_⟩)
        refine d_op rfl rfl (.yes rfl rfl (decide_eq_true (by omega))) (q := 28) rfl (s_mv rfl ⟨⟨rfl, rfl⟩, (d_op rfl rfl (.yes rfl rfl (decide_eq_true (by omega))) (q := 29) rfl (s_mv rfl ⟨⟨rfl, rfl⟩, (d_op rfl rfl (.yes rfl rfl (decide_eq_true (by omega))) (q := 30) rfl (s_bin rfl rfl (by first | exact bi_dec (by omega) (by omega) | exact bi_sub rfl (by omega) (by omega)) ⟨⟨rfl, rfl⟩, ?_⟩))⟩))⟩)
        refine d_op rfl rfl (.yes rfl rfl (decide_eq_true (by omega))) (q := 31) rfl (s_ia rfl rfl el_65 (by first | assumption | omega) ⟨⟨rfl, rfl⟩, (d_op rfl rfl (.yes rfl rfl (decide_eq_true (by omega))) (q := 32) rfl (s_fa rfl fo_82_0 ⟨⟨rfl, rfl⟩, ?_⟩))⟩)
        refine d_tc rfl rfl rfl (.yes rfl rfl (decide_eq_true (by omega))) (q := 33) rfl (s_ld rfl (by repeat first | exact gS | exact x2 | exact xc | exact xc' | exact yc | exact yc' | refine gN (by omega) ?_) ag_2 (by first | exact rfl | exact x2 | exact xc | exact xc' | exact yc | exact yc') ⟨clash_rd rfl, ?_⟩)
        refine d_op rfl rfl (.yes rfl rfl (decide_eq_true (by omega))) (q := 34) rfl (s_bin rfl rfl rfl ⟨⟨rfl, rfl⟩, (d_op rfl rfl (.yes rfl rfl (decide_eq_false (by omega))) (q := 35) rfl (s_pt rfl (decide_eq_true (by omega)) rfl ⟨⟨rfl, rfl⟩, (dO rfl rfl (s_pf rfl (decide_eq_false (by omega)) rfl ⟨⟨rfl, rfl⟩, (d_nil ?_)⟩))⟩))⟩)
        repeat first | refine Na ?_ | refine Nb ?_ | refine Nc ?_ | refine Nd ?_ | refine Ne ?_
        refine w_no rfl (decide_eq_false (by omega)) ?_
        repeat first | refine Na ?_ | refine Nb ?_ | refine Nc ?_ | refine Nd ?_ | refine Ne ?_
        repeat first | refine Na ?_ | refine Nb ?_ | refine Nc ?_ | refine Nd ?_ | refine Ne ?_
        refine w_reg 2 rfl rfl (j' := 39) (nO (s_bin rfl rfl (by first | exact bi_inc (by omega) | exact bi_add rfl (by omega) (by omega)) ?_))
        refine nM rfl (n_nil ?_)
        exact z_round (i + 1) ⟨rfl, rfl, rfl, rfl, rfl, rfl, trivial⟩ ⟨hi, by omega, kL⟩ (by omega)
    · refine w_exit rfl ?_
      exact z_met () ⟨rfl, rfl, rfl, trivial⟩ ⟨by omega, kL⟩
  rintro _ f g1 n1 hw1 ⟨hn1, k1⟩
  have h1' := h.kp0 k1 hw
  have hv1 := hv.kp0 k1 hw
  refine w_seq ?_
  repeat first | refine Na ?_ | refine Nb ?_ | refine Nc ?_ | refine Nd ?_ | refine Ne ?_
  refine w_reg 3 rfl rfl (j' := 3) (nM rfl (nO (s_len rfl rfl un_65 rfl (nM rfl (n_nil ?_)))))
  refine z_seq ?_
  refine z_meet (β := Value) (fun x => [(0, .pointer (some ⟨c, 0, none⟩)), (2, .int .i64 upto)])
    (fun x g' n' => n1 ≤ n' ∧ Kp (FC c) g1 n1 g' ∧ CaAt g' c x rev (es.foldl evLay L)) ?_ ?_
  · repeat first | refine Na ?_ | refine Nb ?_ | refine Nc ?_ | refine Nd ?_ | refine Ne ?_
    refine w_loop (β := Nat × Value) (fun x => [(0, .pointer (some ⟨c, 0, none⟩)), (2, .int .i64 upto), (3, .slice a0 es.length c0), (70, .int .i64 es.length), (71, .int .i64 x.1)])
      (fun x g' n' => x.1 ≤ es.length ∧ n1 ≤ n' ∧ Kp (FC c) g1 n1 g' ∧ CaAt g' c x.2 rev ((es.take x.1).foldl evLay L)) (fun x => es.length - x.1) (0, lv) ⟨rfl, rfl, rfl, rfl, rfl, trivial⟩
      ⟨by simp, by omega, Kp.refl _ _ _, h1'⟩ ?_
    rintro ⟨i, lvi⟩ f gL nL hwL ⟨hi, hnL, kL, hA⟩
    simp only at hi hA
    repeat first | refine Na ?_ | refine Nb ?_ | refine Nc ?_ | refine Nd ?_ | refine Ne ?_
    refine w_reg 1 rfl rfl (j' := 1) (nO (s_bin rfl rfl rfl (n_nil ?_)))
    repeat first | refine Na ?_ | refine Nb ?_ | refine Nc ?_ | refine Nd ?_ | refine Ne ?_
    refine w_if rfl (fun hb1 => ?_) (fun hb1 => ?_)
    · have hi : i < es.length := by simpa using hb1
      obtain ⟨l3, o3, c3, cl3, ro3, a3, p3, x1, x0, x2, x3⟩ := (hv1.kv kL hw1 (FC.nob _) (fun x c ro _ hf => by obtain ⟨_, c', q, e⟩ := hf; cases e)).at hi
      cases x1
      have xl := x3.len
      have xc := x3.c0
      have xc' := x3.c0'
      have xc1 := x3.c1
      have xc2 := x3.c2
      have xc3 := x3.c3
      have hAc := hA.cell
      obtain ⟨e, he⟩ : ∃ e, e = es[i] := ⟨_, rfl⟩
      have hel : e.val.length ≤ 4000 := by rw [he]; exact hb _ (List.getElem_mem hi)
      have hln := evsLay_len (es.take i) (L := L) h.srt
      rw [List.length_take_of_le (by omega)] at hln
      have xv := x3.val
      rw [← he] at xc xc' xc1 xc2 xc3 xv
      have hnext : (es.take (i + 1)).foldl evLay L = evLay ((es.take i).foldl evLay L) e := by rw [List.take_succ_eq_append_getElem hi, List.foldl_append, ← he]; rfl
      repeat first | refine Na ?_ | refine Nb ?_ | refine Nc ?_ | refine Nd ?_ | refine Ne ?_
      refine w_reg 2 rfl rfl (j' := 3) (nM rfl (nA rfl (n_nil ?_)))
      repeat first | refine Na ?_ | refine Nb ?_ | refine Nc ?_ | refine Nd ?_ | refine Ne ?_
      refine w_drw (T6 56 12) [(0, []), (1, []), (2, []), (3, []), (4, []), (5, [4]), (6, [4]), (7, [4]), (8, [4]), (9, [4]), (10, [4, 9]), (11, [4, 9]), (12, [4, 9]), (13, [4, 9]), (14, [4, 9]), (15, [4, 9, 14]), (16, [4, 9, 14]), (17, [4, 9, 14]), (18, [4, 9, 14]), (19, [4, 9, 14]), (20, [4]), (21, [4, 9, 14, 19]), (22, [4, 9, 14, 19]), (23, [4, 9, 14, 19]), (24, [4, 9, 14, 19]), (25, [4, 9, 14, 19]), (26, []), (27, []), (28, []), (29, [])] 30 (by kernel_rfl) rfl rfl (j' := 33) (dM rfl rfl (dM rfl rfl (dO rfl rfl (s_nil rfl ⟨⟨rfl, rfl⟩, (dO rfl rfl (s_fa0 rfl fo_107_1 ⟨⟨rfl, rfl⟩, ?_⟩))⟩))))
      refine dT rfl rfl rfl (s_ld rfl (by repeat first | exact gS | exact hAc | exact x2 | exact xc | exact xc' | exact xc1 | exact xc2 | exact xc3 | refine gN (by omega) ?_) ag_48 (by first | exact rfl | exact hAc | exact x2 | exact xc | exact xc' | exact xc1 | exact xc2 | exact xc3) ⟨clash_nil, ?_⟩)
      refine dM rfl rfl (dM rfl rfl (dO rfl rfl (s_ia rfl rfl el_65 (by first | assumption | omega) ⟨⟨rfl, rfl⟩, (dO rfl rfl (s_fa rfl fo_82_1 ⟨⟨rfl, rfl⟩, ?_⟩))⟩)))
      refine dT rfl rfl rfl (s_ld rfl (by repeat first | exact gS | exact hAc | exact x2 | exact xc | exact xc' | exact xc1 | exact xc2 | exact xc3 | refine gN (by omega) ?_) ag_9 (by first | exact rfl | exact hAc | exact x2 | exact xc | exact xc' | exact xc1 | exact xc2 | exact xc3) ⟨clash_rd rfl, ?_⟩)
      refine dM rfl rfl (dM rfl rfl (dO rfl rfl (s_ia rfl rfl el_65 (by first | assumption | omega) ⟨⟨rfl, rfl⟩, (dO rfl rfl (s_fa rfl fo_82_0 ⟨⟨rfl, rfl⟩, ?_⟩))⟩)))
      refine dT rfl rfl rfl (s_ld rfl (by repeat first | exact gS | exact hAc | exact x2 | exact xc | exact xc' | exact xc1 | exact xc2 | exact xc3 | refine gN (by omega) ?_) ag_2 (by first | exact rfl | exact hAc | exact x2 | exact xc | exact xc' | exact xc1 | exact xc2 | exact xc3) ⟨clash_rd rfl, ?_⟩)
      refine dM rfl rfl (dM rfl rfl (dO rfl rfl (s_ia rfl rfl el_65 (by first | assumption | omega) ⟨⟨rfl, rfl⟩, (dO rfl rfl (s_fa rfl fo_82_2 ⟨⟨rfl, rfl⟩, ?_⟩))⟩)))
      refine dT rfl rfl rfl (s_ld rfl (by repeat first | exact gS | exact hAc | exact x2 | exact xc | exact xc' | exact xc1 | exact xc2 | exact xc3 | refine gN (by omega) ?_) ag_26 (by first | exact rfl | exact hAc | exact x2 | exact xc | exact xc' | exact xc1 | exact xc2 | exact xc3) ⟨clash_rd rfl, ?_⟩)
      refine dO rfl rfl (s_bld pl_28 zl_28 rfl rfl rfl ⟨⟨rfl, rfl⟩, (dM rfl rfl (dM rfl rfl (dO rfl rfl (s_ia rfl rfl el_65 (by first | assumption | omega) ⟨⟨rfl, rfl⟩, (dO rfl rfl (s_fa rfl fo_82_3 ⟨⟨rfl, rfl⟩, ?_⟩))⟩))))⟩)
      refine dT rfl rfl rfl (s_ld rfl (by repeat first | exact gS | exact hAc | exact x2 | exact xc | exact xc' | exact xc1 | exact xc2 | exact xc3 | refine gN (by omega) ?_) ag_4 (by first | exact rfl | exact hAc | exact x2 | exact xc | exact xc' | exact xc1 | exact xc2 | exact xc3) ⟨clash_rd rfl, ?_⟩)
      refine d_call rfl .no rfl rfl rfl call_nil ?_
      refine C.use (lay_c (e := ⟨e.key, e.rev, e.val⟩) (gone := e.gone) hA.ents hA.srt xv hel (by omega)) fun v g5 n5 hw5 hn5 hq => ?_
      obtain ⟨hE5, hn5', k5⟩ := hq
      refine ⟨kept_nil, ?_⟩
      have k5' := k5.dn (m := nL) (by omega)
      have hc5 := k5'.at0 hwL hAc
      obtain ⟨a5, q5, rfl⟩ := hE5.len
      refine dO rfl rfl (s_nil rfl ⟨⟨rfl, rfl⟩, (dO rfl rfl (s_fa0 rfl fo_107_1 ⟨⟨rfl, rfl⟩, ?_⟩))⟩)
      refine dT rfl rfl rfl (s_st rfl rfl sz_48 (by repeat first | exact gS | exact hc5 | refine gN (by omega) ?_) rfl rfl (by exact rfl) ⟨clash_nil, ?_⟩)
      refine d_nil ?_
      repeat first | refine Na ?_ | refine Nb ?_ | refine Nc ?_ | refine Nd ?_ | refine Ne ?_
      repeat first | refine Na ?_ | refine Nb ?_ | refine Nc ?_ | refine Nd ?_ | refine Ne ?_
      refine w_reg 2 rfl rfl (j' := 2) (nO (s_bin rfl rfl (by first | exact bi_inc (by omega) | exact bi_add rfl (by omega) (by omega)) ?_))
      refine nM rfl (n_nil ?_)
      have k6 : ∀ o, Kp (FC c) gL nL (gset g5 c o) := fun o => Kp.set k5'.z (FC.of hAc) o
      have k7 : ∀ o, Kp (FC c) g5 n5 (gset g5 c o) := fun o => Kp.set (Kp.refl _ _ _) (FC.of hc5) o
      refine z_round (i + 1, .slice a5 (layL ((es.take i).foldl evLay L) ⟨e.key, e.rev, e.val⟩ e.gone).length q5) ⟨rfl, rfl, rfl, rfl, rfl, trivial⟩ ⟨hi, by omega, kL.tr' (k6 _) (by omega), ?_⟩ (by simp only; omega)
      simp only
      rw [hnext]
      exact ⟨gs_same _ _ _, hE5.rd.kk (k7 _) hw5 (FC.no3 _) (FC.nob _), layL_sort hA.srt _ _⟩
    · refine w_exit rfl ?_
      have hin : i = es.length := by simp at hb1; omega
      subst hin
      rw [List.take_length] at hA
      exact z_met lvi ⟨rfl, rfl, trivial⟩ ⟨by omega, kL, hA⟩
  rintro lv2 f g2 n2 hw2 ⟨hn2, k2, hA⟩
  have hc2 := hA.cell
  repeat first | refine Na ?_ | refine Nb ?_ | refine Nc ?_ | refine Nd ?_ | refine Ne ?_
  refine w_reg 5 rfl rfl (j' := 5) (nM rfl (nM rfl (nN rfl (nO (s_fa0 rfl fo_107_0 ?_)))))
  refine nO (s_st rfl rfl sz_2 (by repeat first | exact gS | exact hc2 | refine gN (by omega) ?_) rfl rfl (by exact rfl) ?_)
  refine n_nil ?_
  repeat first | refine Na ?_ | refine Nb ?_ | refine Nc ?_ | refine Nd ?_ | refine Ne ?_
  refine w_reg 1 rfl rfl (j' := 6) (nA rfl (n_nil ?_))
  repeat first | refine Nf ?_ | refine Na ?_ | refine Nb ?_ | refine Nc ?_ | refine Nd ?_ | refine Ne ?_
  refine z_r1 rfl rfl ?_
  have k3 : Kp (FC c) g2 n2 (gset g2 c (.cells [.int .i64 upto, lv2] 0 false)) := Kp.set (Kp.refl _ _ _) (FC.of hc2) _
  exact ⟨rfl, ⟨lv2, gs_same _ _ _, hA.ents.kk k3 hw2 (FC.no3 _) (FC.nob _), hA.srt⟩, (k1.z.tr' k2 (by omega)).tr' k3 (by omega)⟩
end

end Go.Proofs.YtehmailaabjdjaaGreat
