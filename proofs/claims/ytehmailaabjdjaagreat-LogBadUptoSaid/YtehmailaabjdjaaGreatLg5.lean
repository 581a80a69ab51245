/-
  package log: Add, by contract; the references' EqEvents. No condition.
-/
import Derived.Test.YtehmailaabjdjaaGreatLg4
open Go.Proofs
namespace Go.Proofs.YtehmailaabjdjaaGreat
set_option linter.unusedSimpArgs false
set_option linter.unusedVariables false
set_option maxRecDepth 100000

def SortedE (es : List Evt) : Prop := ∀ i, (h : i + 1 < es.length) → es[i].rev ≤ es[i + 1].rev
def Log.may (L : Log) (es : List Evt) : Prop := (∃ e r, es = e :: r ∧ L.last < e.rev) ∧ SortedE es
def lastRev : List Evt → Int
  | [] => 0
  | [e] => e.rev
  | _ :: r => lastRev r
def Log.trim : Nat → Log → Log
  | 0, L => L
  | k + 1, L => if L.most < L.evs.length then match L.evs with
      | [] => L
      | e :: _ => Log.trim k (L.cut e.rev)
    else L
def Log.put (L : Log) (es : List Evt) : Log := { L with evs := L.evs ++ es, last := lastRev es }
def Log.add (L : Log) (es : List Evt) : Log := Log.trim (L.evs.length + es.length) (L.put es)

theorem EvsRd.at0 {g : Gm} {v : Value} {es : List Evt} (h : EvsRd g v es) (hi : 0 < es.length) : ∃ l o c cl ro a p, v = .slice (some ⟨l, o, none⟩) es.length c ∧ es.length ≤ c ∧ g l = some (.cells cl 4 ro) ∧ EvAt g (BytesAt g) es[0] l o cl a p := by
  obtain ⟨l, o, c, cl, ro, a, p, h1, h2, h3, h4⟩ := h.at hi
  rw [Nat.zero_mul, Nat.add_zero] at h4
  exact ⟨l, o, c, cl, ro, a, p, h1, h2, h3, h4⟩

theorem lastRev_eq : ∀ {es : List Evt} (h : 0 < es.length), lastRev es = (es[es.length - 1]).rev
  | [e], _ => rfl
  | e :: e2 :: r, _ => by
    have := lastRev_eq (es := e2 :: r) (by simp)
    simp only [lastRev] at this ⊢
    rw [this]
    simp

section
variable {g : Gm} {n b l : Nat} {sl v : Value} {L : Log} {es : List Evt}

theorem log_add_no (h : LogAt b g l sl L) (hv : EvsRd g v es) (hn : es.length < 2 ^ 40) (hm : ¬ L.may es) : C 43 #[.pointer (some ⟨l, 0, none⟩), v] g n fun u g' n' => u = .bool false ∧ K0 g n g' := by
  have hl := h.cell
  by_cases h0 : es.length = 0
  · obtain ⟨a, c, rfl⟩ := hv.len
    refine c_in2 Tryz.func43 rfl Tryz.ntmps43 rfl fun hw => ?_
    repeat (first | refine w_seq ?_ | refine w_blk ?_ | refine z_seq ?_ | refine z_blk ?_ | refine w_skip ?_)
    refine w_reg 1 rfl rfl (j' := 1) ?_
    refine n_op .no (q := 0) rfl (s_as rfl ?_)
    refine n_nil ?_
    repeat (first | refine w_seq ?_ | refine w_blk ?_ | refine z_seq ?_ | refine z_blk ?_ | refine w_skip ?_)
    refine w_drw (T6 43 1) [(0, []), (1, []), (2, []), (3, []), (4, []), (5, []), (6, []), (7, []), (8, []), (9, []), (10, []), (11, []), (12, [11]), (13, [11]), (14, [11]), (15, [11]), (16, []), (17, [])] 18 (by kernel_rfl) rfl rfl (j' := 19) ?_
    refine d_op rfl rfl .no (q := 1) rfl (s_mv rfl ⟨⟨rfl, rfl⟩, ?_⟩)
    refine d_op rfl rfl .no (q := 2) rfl (s_bin rfl rfl (bi_d un_78 rfl) ⟨⟨rfl, rfl⟩, ?_⟩)
    refine d_op rfl rfl .no (q := 3) rfl (s_mv rfl ⟨⟨rfl, rfl⟩, ?_⟩)
    refine d_op rfl rfl (.yes rfl rfl (rfl)) (q := 4) rfl (s_mv rfl ⟨⟨rfl, rfl⟩, ?_⟩)
    refine d_tc rfl rfl rfl (.yes rfl rfl (rfl)) (q := 5) rfl (s_len rfl rfl un_65 rfl ⟨clash_nil, ?_⟩)
    refine d_op rfl rfl (.yes rfl rfl (rfl)) (q := 6) rfl (s_bin rfl rfl rfl ⟨⟨rfl, rfl⟩, ?_⟩)
    refine d_op rfl rfl .no (q := 7) rfl (s_pf rfl (rfl) rfl ⟨⟨rfl, rfl⟩, ?_⟩)
    refine d_op rfl rfl .no (q := 8) rfl (s_mv rfl ⟨⟨rfl, rfl⟩, ?_⟩)
    refine d_sk rfl rfl rfl (by rw [h0]; rfl) ?_
    refine d_sk rfl rfl rfl (by rw [h0]; rfl) ?_
    refine d_sk rfl rfl rfl (by rw [h0]; rfl) ?_
    refine d_sk rfl rfl rfl (by rw [h0]; rfl) ?_
    refine d_sk rfl rfl rfl (by rw [h0]; rfl) ?_
    refine d_sk rfl rfl rfl (by rw [h0]; rfl) ?_
    refine d_sk rfl rfl rfl (by rw [h0]; rfl) ?_
    refine d_sk rfl rfl rfl (by rw [h0]; rfl) ?_
    refine d_sk rfl rfl rfl (by rw [h0]; rfl) ?_
    refine d_op rfl rfl .no (q := 18) rfl (s_pt rfl (by rw [h0]; rfl) rfl ⟨⟨rfl, rfl⟩, ?_⟩)
    refine d_nil ?_
    repeat (first | refine w_seq ?_ | refine w_blk ?_ | refine z_seq ?_ | refine z_blk ?_ | refine w_skip ?_)
    refine w_yes rfl (rfl) ?_
    repeat (first | refine w_seq ?_ | refine w_blk ?_ | refine z_seq ?_ | refine z_blk ?_ | refine w_skip ?_)
    refine w_reg 1 rfl rfl (j' := 20) ?_
    refine n_op .no (q := 19) rfl (s_as rfl ?_)
    refine n_nil ?_
    repeat (first | refine w_ret ?_ | refine w_seq ?_ | refine w_blk ?_ | refine z_seq ?_ | refine z_blk ?_ | refine w_skip ?_)
    refine z_r1 rfl rfl ?_
    exact ⟨rfl, (by repeat (first | exact Kp.refl _ _ _ | refine Kp.new ?_ (by omega) _))⟩
  obtain ⟨l2, o, c, cl, ro, p, q, rfl, hc, e2, e3⟩ := hv.at0 (by omega)
  have d0 := e3.c0'
  refine c_in2 Tryz.func43 rfl Tryz.ntmps43 rfl fun hw => ?_
  have hll := hw _ _ hl
  repeat (first | refine w_seq ?_ | refine w_blk ?_ | refine z_seq ?_ | refine z_blk ?_ | refine w_skip ?_)
  refine w_reg 1 rfl rfl (j' := 1) ?_
  refine n_op .no (q := 0) rfl (s_as rfl ?_)
  refine n_nil ?_
  repeat (first | refine w_seq ?_ | refine w_blk ?_ | refine z_seq ?_ | refine z_blk ?_ | refine w_skip ?_)
  refine w_drw (T6 43 1) [(0, []), (1, []), (2, []), (3, []), (4, []), (5, []), (6, []), (7, []), (8, []), (9, []), (10, []), (11, []), (12, [11]), (13, [11]), (14, [11]), (15, [11]), (16, []), (17, [])] 18 (by kernel_rfl) rfl rfl (j' := 19) ?_
  refine d_op rfl rfl .no (q := 1) rfl (s_mv rfl ⟨⟨rfl, rfl⟩, ?_⟩)
  refine d_op rfl rfl .no (q := 2) rfl (s_bin rfl rfl (bi_d un_78 rfl) ⟨⟨rfl, rfl⟩, ?_⟩)
  refine d_op rfl rfl .no (q := 3) rfl (s_mv rfl ⟨⟨rfl, rfl⟩, ?_⟩)
  refine d_op rfl rfl (.yes rfl rfl (rfl)) (q := 4) rfl (s_mv rfl ⟨⟨rfl, rfl⟩, ?_⟩)
  refine d_tc rfl rfl rfl (.yes rfl rfl (rfl)) (q := 5) rfl (s_len rfl rfl un_65 rfl ⟨clash_nil, ?_⟩)
  refine d_op rfl rfl (.yes rfl rfl (rfl)) (q := 6) rfl (s_bin rfl rfl rfl ⟨⟨rfl, rfl⟩, ?_⟩)
  refine d_op rfl rfl .no (q := 7) rfl (s_pf rfl (rfl) rfl ⟨⟨rfl, rfl⟩, ?_⟩)
  refine d_op rfl rfl .no (q := 8) rfl (s_mv rfl ⟨⟨rfl, rfl⟩, ?_⟩)
  refine d_op rfl rfl (.yes rfl rfl (beq_eq_false_iff_ne.2 (by omega))) (q := 9) rfl (s_mv rfl ⟨⟨rfl, rfl⟩, ?_⟩)
  refine d_op rfl rfl (.yes rfl rfl (beq_eq_false_iff_ne.2 (by omega))) (q := 10) rfl (s_ia0 rfl rfl el_65 (by first | assumption | omega) ⟨⟨rfl, rfl⟩, ?_⟩)
  first | refine d_op rfl rfl (.yes rfl rfl (beq_eq_false_iff_ne.2 (by omega))) (q := 11) rfl (s_fa0 rfl fo_82_0 ⟨⟨rfl, rfl⟩, ?_⟩) | refine d_op rfl rfl (.yes rfl rfl (beq_eq_false_iff_ne.2 (by omega))) (q := 11) rfl (s_fa rfl fo_82_0 ⟨⟨rfl, rfl⟩, ?_⟩)
  refine d_tc rfl rfl rfl (.yes rfl rfl (beq_eq_false_iff_ne.2 (by omega))) (q := 12) rfl (s_ld rfl (by repeat (first | exact gs_same _ _ _ | exact hl | exact e2 | exact d0 | refine (gs_ne (by omega) _).trans ?_)) ag_2 (by first | exact rfl | exact hl | exact e2 | exact d0) ⟨clash_nil, ?_⟩)
  refine d_op rfl rfl (.yes rfl rfl (beq_eq_false_iff_ne.2 (by omega))) (q := 13) rfl (s_mv rfl ⟨⟨rfl, rfl⟩, ?_⟩)
  refine d_op rfl rfl (.yes rfl rfl (beq_eq_false_iff_ne.2 (by omega))) (q := 14) rfl (s_nil rfl ⟨⟨rfl, rfl⟩, ?_⟩)
  first | refine d_op rfl rfl (.yes rfl rfl (beq_eq_false_iff_ne.2 (by omega))) (q := 15) rfl (s_fa0 rfl fo_166_3 ⟨⟨rfl, rfl⟩, ?_⟩) | refine d_op rfl rfl (.yes rfl rfl (beq_eq_false_iff_ne.2 (by omega))) (q := 15) rfl (s_fa rfl fo_166_3 ⟨⟨rfl, rfl⟩, ?_⟩)
  refine d_tc rfl rfl rfl (.yes rfl rfl (beq_eq_false_iff_ne.2 (by omega))) (q := 16) rfl (s_ld rfl (by repeat (first | exact gs_same _ _ _ | exact hl | exact e2 | exact d0 | refine (gs_ne (by omega) _).trans ?_)) ag_2 (by first | exact rfl | exact hl | exact e2 | exact d0) ⟨clash_rd rfl, ?_⟩)
  refine d_op rfl rfl (.yes rfl rfl (beq_eq_false_iff_ne.2 (by omega))) (q := 17) rfl (s_bin rfl rfl rfl ⟨⟨rfl, rfl⟩, ?_⟩)
  refine d_op rfl rfl .no (q := 18) rfl (s_pf rfl (beq_eq_false_iff_ne.2 (by omega)) rfl ⟨⟨rfl, rfl⟩, ?_⟩)
  refine d_nil ?_
  by_cases h1 : es[0].rev ≤ L.last
  · repeat (first | refine w_seq ?_ | refine w_blk ?_ | refine z_seq ?_ | refine z_blk ?_ | refine w_skip ?_)
    refine w_yes rfl (decide_eq_true h1) ?_
    repeat (first | refine w_seq ?_ | refine w_blk ?_ | refine z_seq ?_ | refine z_blk ?_ | refine w_skip ?_)
    refine w_reg 1 rfl rfl (j' := 20) ?_
    refine n_op .no (q := 19) rfl (s_as rfl ?_)
    refine n_nil ?_
    repeat (first | refine w_ret ?_ | refine w_seq ?_ | refine w_blk ?_ | refine z_seq ?_ | refine z_blk ?_ | refine w_skip ?_)
    refine z_r1 rfl rfl ?_
    exact ⟨rfl, (by repeat (first | exact Kp.refl _ _ _ | refine Kp.new ?_ (by omega) _))⟩
  repeat (first | refine w_seq ?_ | refine w_blk ?_ | refine z_seq ?_ | refine z_blk ?_ | refine w_skip ?_)
  refine w_no rfl (decide_eq_false h1) ?_
  repeat (first | refine w_seq ?_ | refine w_blk ?_ | refine z_seq ?_ | refine z_blk ?_ | refine w_skip ?_)
  refine w_reg 3 rfl rfl (j' := 22) ?_
  refine n_op .no (q := 19) rfl (s_mv rfl ?_)
  refine n_op .no (q := 20) rfl (s_len rfl rfl un_65 rfl ?_)
  refine n_op .no (q := 21) rfl (s_mv rfl ?_)
  refine n_nil ?_
  repeat (first | refine w_seq ?_ | refine w_blk ?_ | refine z_seq ?_ | refine z_blk ?_ | refine w_skip ?_)
  refine w_loop (β := Nat) (fun i => [(0, .pointer (some ⟨l, 0, none⟩)), (1, .slice (some ⟨l2, o, none⟩) es.length c), (27, .int .i64 es.length), (28, .int .i64 i)])
    (fun i g' n' => i ≤ es.length ∧ n ≤ n' ∧ K0 g n g' ∧ ∀ j, (h : j + 1 < es.length) → j + 1 < i → es[j].rev ≤ es[j + 1].rev) (fun i => es.length - i) 0 ⟨rfl, rfl, rfl, rfl, trivial⟩ ⟨by omega, by omega, (by repeat (first | exact Kp.refl _ _ _ | refine Kp.new ?_ (by omega) _)), fun _ _ h => absurd h (by omega)⟩ ?_
  rintro i f g1 n1 hw1 ⟨hi, hn1, k1, hS⟩
  repeat (first | refine w_seq ?_ | refine w_blk ?_ | refine z_seq ?_ | refine z_blk ?_ | refine w_skip ?_)
  refine w_reg 1 rfl rfl (j' := 1) ?_
  refine n_op .no (q := 0) rfl (s_bin rfl rfl rfl ?_)
  refine n_nil ?_
  repeat (first | refine w_seq ?_ | refine w_blk ?_ | refine z_seq ?_ | refine z_blk ?_ | refine w_skip ?_)
  refine w_if rfl (fun hb => ?_) (fun hb => ?_)
  · have hi : i < es.length := by simpa using hb
    repeat (first | refine w_seq ?_ | refine w_blk ?_ | refine z_seq ?_ | refine z_blk ?_ | refine w_skip ?_)
    refine w_reg 2 rfl rfl (j' := 3) ?_
    refine n_op .no (q := 1) rfl (s_mv rfl ?_)
    refine n_op .no (q := 2) rfl (s_as rfl ?_)
    refine n_nil ?_
    obtain ⟨l3, o3, c3, cl3, ro3, p3, q3, x1, _, x2, x3⟩ := (hv.kp0 k1 hw).at hi
    cases x1
    have y0 := x3.c0'
    by_cases hi0 : 0 < i
    · obtain ⟨l3, o3, c3, cl3, ro3, p3, q3, x1, _, x4, x5⟩ := (hv.kp0 k1 hw).at (show i - 1 < es.length by omega)
      cases x1
      have x6 := x2.symm.trans x4
      cases x6
      have z0 := x5.c0'
      repeat (first | refine w_seq ?_ | refine w_blk ?_ | refine z_seq ?_ | refine z_blk ?_ | refine w_skip ?_)
      refine w_drw (T6 43 6) [(0, []), (1, []), (2, []), (3, []), (4, []), (5, []), (6, []), (7, []), (8, [7]), (9, [7]), (10, [7]), (11, [7]), (12, [7]), (13, [7]), (14, []), (15, [])] 16 (by kernel_rfl) rfl rfl (j' := 19) ?_
      refine d_op rfl rfl .no (q := 3) rfl (s_mv rfl ⟨⟨rfl, rfl⟩, ?_⟩)
      refine d_op rfl rfl .no (q := 4) rfl (s_bin rfl rfl rfl ⟨⟨rfl, rfl⟩, ?_⟩)
      refine d_op rfl rfl .no (q := 5) rfl (s_mv rfl ⟨⟨rfl, rfl⟩, ?_⟩)
      refine d_op rfl rfl (.yes rfl rfl (decide_eq_true (by omega))) (q := 6) rfl (s_mv rfl ⟨⟨rfl, rfl⟩, ?_⟩)
      refine d_op rfl rfl (.yes rfl rfl (decide_eq_true (by omega))) (q := 7) rfl (s_mv rfl ⟨⟨rfl, rfl⟩, ?_⟩)
      refine d_op rfl rfl (.yes rfl rfl (decide_eq_true (by omega))) (q := 8) rfl (s_ia rfl rfl el_65 (by first | assumption | omega) ⟨⟨rfl, rfl⟩, ?_⟩)
      first | refine d_op rfl rfl (.yes rfl rfl (decide_eq_true (by omega))) (q := 9) rfl (s_fa0 rfl fo_82_0 ⟨⟨rfl, rfl⟩, ?_⟩) | refine d_op rfl rfl (.yes rfl rfl (decide_eq_true (by omega))) (q := 9) rfl (s_fa rfl fo_82_0 ⟨⟨rfl, rfl⟩, ?_⟩)
      refine d_tc rfl rfl rfl (.yes rfl rfl (decide_eq_true (by omega))) (q := 10) rfl (s_ld rfl (by repeat (first | exact gs_same _ _ _ | exact x2 | exact y0 | exact z0 | refine (gs_ne (by omega) _).trans ?_)) ag_2 (by first | exact rfl | exact x2 | exact y0 | exact z0) ⟨clash_nil, ?_⟩)
      refine d_op rfl rfl (.yes rfl rfl (decide_eq_true (by omega))) (q := 11) rfl (s_mv rfl ⟨⟨rfl, rfl⟩, ?_⟩)
      refine d_op rfl rfl (.yes rfl rfl (decide_eq_true (by omega))) (q := 12) rfl (s_mv rfl ⟨⟨rfl, rfl⟩, ?_⟩)
      first | refine d_op rfl rfl (.yes rfl rfl (decide_eq_true (by omega))) (q := 13) rfl (s_bin rfl rfl (bi_dec (by omega) (by omega)) ⟨⟨rfl, rfl⟩, ?_⟩) | refine d_op rfl rfl (.yes rfl rfl (decide_eq_true (by omega))) (q := 13) rfl (s_bin rfl rfl (bi_sub rfl (by omega) (by omega)) ⟨⟨rfl, rfl⟩, ?_⟩)
      refine d_op rfl rfl (.yes rfl rfl (decide_eq_true (by omega))) (q := 14) rfl (s_ia rfl rfl el_65 (by first | assumption | omega) ⟨⟨rfl, rfl⟩, ?_⟩)
      first | refine d_op rfl rfl (.yes rfl rfl (decide_eq_true (by omega))) (q := 15) rfl (s_fa0 rfl fo_82_0 ⟨⟨rfl, rfl⟩, ?_⟩) | refine d_op rfl rfl (.yes rfl rfl (decide_eq_true (by omega))) (q := 15) rfl (s_fa rfl fo_82_0 ⟨⟨rfl, rfl⟩, ?_⟩)
      refine d_tc rfl rfl rfl (.yes rfl rfl (decide_eq_true (by omega))) (q := 16) rfl (s_ld rfl (by repeat (first | exact gs_same _ _ _ | exact x2 | exact y0 | exact z0 | refine (gs_ne (by omega) _).trans ?_)) ag_2 (by first | exact rfl | exact x2 | exact y0 | exact z0) ⟨clash_rd rfl, ?_⟩)
      refine d_op rfl rfl (.yes rfl rfl (decide_eq_true (by omega))) (q := 17) rfl (s_bin rfl rfl rfl ⟨⟨rfl, rfl⟩, ?_⟩)
      refine d_op rfl rfl .no (q := 18) rfl (s_pt rfl (decide_eq_true (by omega)) rfl ⟨⟨rfl, rfl⟩, ?_⟩)
      refine d_nil ?_
      by_cases h2 : es[i].rev < es[i - 1].rev
      · repeat (first | refine w_seq ?_ | refine w_blk ?_ | refine z_seq ?_ | refine z_blk ?_ | refine w_skip ?_)
        refine w_yes rfl (decide_eq_true h2) ?_
        repeat (first | refine w_seq ?_ | refine w_blk ?_ | refine z_seq ?_ | refine z_blk ?_ | refine w_skip ?_)
        refine w_reg 1 rfl rfl (j' := 20) ?_
        refine n_op .no (q := 19) rfl (s_as rfl ?_)
        refine n_nil ?_
        repeat (first | refine w_ret ?_ | refine w_seq ?_ | refine w_blk ?_ | refine z_seq ?_ | refine z_blk ?_ | refine w_skip ?_)
        refine z_r1 rfl rfl ?_
        exact ⟨rfl, k1⟩
      · repeat (first | refine w_seq ?_ | refine w_blk ?_ | refine z_seq ?_ | refine z_blk ?_ | refine w_skip ?_)
        refine w_no rfl (decide_eq_false h2) ?_
        repeat (first | refine w_seq ?_ | refine w_blk ?_ | refine z_seq ?_ | refine z_blk ?_ | refine w_skip ?_)
        repeat (first | refine w_seq ?_ | refine w_blk ?_ | refine z_seq ?_ | refine z_blk ?_ | refine w_skip ?_)
        refine w_reg 2 rfl rfl (j' := 21) ?_
        first | refine n_op .no (q := 19) rfl (s_bin rfl rfl (bi_inc (by omega)) ?_) | refine n_op .no (q := 19) rfl (s_bin rfl rfl (bi_add rfl (by omega) (by omega)) ?_)
        refine n_op .no (q := 20) rfl (s_mv rfl ?_)
        refine n_nil ?_
        refine z_round (i + 1) ⟨rfl, rfl, rfl, rfl, trivial⟩ ⟨hi, by omega, k1, fun j hj hji => ?_⟩ (by omega)
        by_cases e : j + 1 = i
        · subst e
          simp only [Nat.add_sub_cancel] at h2
          omega
        · exact hS j hj (by omega)
    · repeat (first | refine w_seq ?_ | refine w_blk ?_ | refine z_seq ?_ | refine z_blk ?_ | refine w_skip ?_)
      refine w_drw (T6 43 6) [(0, []), (1, []), (2, []), (3, []), (4, []), (5, []), (6, []), (7, []), (8, [7]), (9, [7]), (10, [7]), (11, [7]), (12, [7]), (13, [7]), (14, []), (15, [])] 16 (by kernel_rfl) rfl rfl (j' := 19) ?_
      refine d_op rfl rfl .no (q := 3) rfl (s_mv rfl ⟨⟨rfl, rfl⟩, ?_⟩)
      refine d_op rfl rfl .no (q := 4) rfl (s_bin rfl rfl rfl ⟨⟨rfl, rfl⟩, ?_⟩)
      refine d_op rfl rfl .no (q := 5) rfl (s_mv rfl ⟨⟨rfl, rfl⟩, ?_⟩)
      refine d_sk rfl rfl rfl (decide_eq_false (by omega)) ?_
      refine d_sk rfl rfl rfl (decide_eq_false (by omega)) ?_
      refine d_sk rfl rfl rfl (decide_eq_false (by omega)) ?_
      refine d_sk rfl rfl rfl (decide_eq_false (by omega)) ?_
      refine d_sk rfl rfl rfl (decide_eq_false (by omega)) ?_
      refine d_sk rfl rfl rfl (decide_eq_false (by omega)) ?_
      refine d_sk rfl rfl rfl (decide_eq_false (by omega)) ?_
      refine d_sk rfl rfl rfl (decide_eq_false (by omega)) ?_
      refine d_sk rfl rfl rfl (decide_eq_false (by omega)) ?_
      refine d_sk rfl rfl rfl (decide_eq_false (by omega)) ?_
      refine d_sk rfl rfl rfl (decide_eq_false (by omega)) ?_
      refine d_sk rfl rfl rfl (decide_eq_false (by omega)) ?_
      refine d_op rfl rfl .no (q := 18) rfl (s_pf rfl (decide_eq_false (by omega)) rfl ⟨⟨rfl, rfl⟩, ?_⟩)
      refine d_nil ?_
      repeat (first | refine w_seq ?_ | refine w_blk ?_ | refine z_seq ?_ | refine z_blk ?_ | refine w_skip ?_)
      refine w_no rfl (rfl) ?_
      repeat (first | refine w_seq ?_ | refine w_blk ?_ | refine z_seq ?_ | refine z_blk ?_ | refine w_skip ?_)
      repeat (first | refine w_seq ?_ | refine w_blk ?_ | refine z_seq ?_ | refine z_blk ?_ | refine w_skip ?_)
      refine w_reg 2 rfl rfl (j' := 21) ?_
      first | refine n_op .no (q := 19) rfl (s_bin rfl rfl (bi_inc (by omega)) ?_) | refine n_op .no (q := 19) rfl (s_bin rfl rfl (bi_add rfl (by omega) (by omega)) ?_)
      refine n_op .no (q := 20) rfl (s_mv rfl ?_)
      refine n_nil ?_
      refine z_round (i + 1) ⟨rfl, rfl, rfl, rfl, trivial⟩ ⟨hi, by omega, k1, fun j hj hji => absurd hji (by omega)⟩ (by omega)
  · exfalso
    have : i = es.length := by simp at hb; omega
    subst this
    refine hm ⟨?_, fun j hj => hS j hj hj⟩
    cases es with
    | nil => simp at h0
    | cons e r => exact ⟨e, r, rfl, by simpa using h1⟩
end

end Go.Proofs.YtehmailaabjdjaaGreat
