/-
  package log: From, by contract; the references' EqEvents. No condition.
-/
import Derived.Test.YtehmailaabjdjaaGreatLg3
open Go.Proofs
namespace Go.Proofs.YtehmailaabjdjaaGreat
set_option linter.unusedSimpArgs false
set_option linter.unusedVariables false
set_option maxRecDepth 100000

theorem Gr.low {g g' g'' : Gm} {n nm q : Nat} {v v' : Value} (h : Gr g' g'' nm v v') (hk : Kp (fun x _ => x < q) g n g') (hn : nm < q) (hv : ∀ l, vname v = some l → l < q) : Kp (fun x _ => x < q) g n g'' :=
  fun x o hx ho hf => by
    rw [h.same x (by omega) fun e => hf (hv x e)]
    exact hk x o hx ho hf

/-- A row of one element. -/
theorem src_one {g : Gm} {nm z : Nat} {c : List Value} {ro : Bool} (h : g nm = some (.cells c z ro)) (hz : c.length = z) : Src g z (.slice (some ⟨nm, 0, none⟩) 1 1) 1 c :=
  SlC.src ⟨by omega, .inr (.inr ⟨nm, 0, 1, rfl, Nat.le_refl _, .inr ⟨c, ro, h, by omega, by simp [← hz]⟩⟩)⟩

theorem evs_app {F : Nat → AObj → Prop} {b q n1 n2 : Nat} {g1 g2 g' : Gm} {xs : List Evt} {e : Evt} {cs c : List Value} {w' : Value} (hR : Rows 4 (EvC (BytesNew b g1)) cs xs) (hw1 : WF g1 n1) (hF : Kp F g1 n1 g') (hFb : NoB F)
    (hnew : EvC (BytesNew q g2) c e) (hw2 : WF g2 n2) (hK : Kp (fun x _ => x < q) g2 n2 g') (hb : b ≤ q) (hrow : SlOwn g' 4 w' (xs.length + 1) (cs ++ c)) (hfrom : ∀ l, vname w' = some l → b ≤ l) : EvsOwn b g' w' (xs ++ [e]) := by
  refine ⟨⟨cs ++ c, by rw [List.length_append]; exact hrow, Rows.append (hR.mono fun c x _ hx => hx.mono fun _ _ k => k.kp hF hw1 hFb) (Rows.one ?_ (hnew.mono fun v bs k => (k.kpb hK hw2 fun x _ _ hx => by omega).up hb))⟩, hfrom⟩
  obtain ⟨a, p, rfl, _⟩ := hnew
  rfl

def Log.from_ (L : Log) (rev : Int) : List Evt × Int :=
  if rev < L.base then ([], 7) else if L.last < rev then ([], 2) else (L.evs.filter fun e => decide (rev < e.rev), 0)

theorem EvsOwn.nil (b : Nat) (g : Gm) : EvsOwn b g (.slice none 0 0) [] := ⟨⟨[], SlOwn.nil _ _, rfl⟩, fun l h => by cases h⟩

section
variable {g : Gm} {n b l : Nat} {sl : Value} {L : Log}

theorem log_from {rev : Int} (h : LogAt b g l sl L) (hn : L.evs.length < 2 ^ 40) :
    C 44 #[.pointer (some ⟨l, 0, none⟩), .int .i64 rev] g n fun u g' n' => ∃ v, u = .tuple #[v, .int .i64 (L.from_ rev).2] ∧ EvsOwn n g' v (L.from_ rev).1 ∧ K0 g n g' := by
  have hl := h.cell
  refine c_in2 Tryz.func44 rfl Tryz.ntmps44 rfl fun hw => ?_
  have hll := hw _ _ hl
  repeat (first | refine w_seq ?_ | refine w_blk ?_ | refine z_seq ?_ | refine z_blk ?_ | refine w_skip ?_)
  refine w_reg 2 rfl rfl (j' := 2) ?_
  refine n_op .no (q := 0) rfl (s_as rfl ?_)
  refine n_op .no (q := 1) rfl (s_as rfl ?_)
  refine n_nil ?_
  repeat (first | refine w_seq ?_ | refine w_blk ?_ | refine z_seq ?_ | refine z_blk ?_ | refine w_skip ?_)
  refine w_reg 3 rfl rfl (j' := 5) ?_
  refine n_op .no (q := 2) rfl (s_mv rfl ?_)
  refine n_op .no (q := 3) rfl (s_bin rfl rfl (bi_d un_78 rfl) ?_)
  refine n_op .no (q := 4) rfl (s_as rfl ?_)
  refine n_nil ?_
  repeat (first | refine w_seq ?_ | refine w_blk ?_ | refine z_seq ?_ | refine z_blk ?_ | refine w_skip ?_)
  refine w_no rfl (rfl) ?_
  repeat (first | refine w_seq ?_ | refine w_blk ?_ | refine z_seq ?_ | refine z_blk ?_ | refine w_skip ?_)
  refine w_reg 7 rfl rfl (j' := 12) ?_
  refine n_op .no (q := 5) rfl (s_mv rfl ?_)
  refine n_op .no (q := 6) rfl (s_mv rfl ?_)
  refine n_op .no (q := 7) rfl (s_nil rfl ?_)
  first | refine n_op .no (q := 8) rfl (s_fa0 rfl fo_166_2 ?_) | refine n_op .no (q := 8) rfl (s_fa rfl fo_166_2 ?_)
  refine n_op .no (q := 9) rfl (s_ld rfl (by repeat (first | exact gs_same _ _ _ | exact hl | refine (gs_ne (by omega) _).trans ?_)) ag_2 (by first | exact rfl | exact hl) ?_)
  refine n_op .no (q := 10) rfl (s_bin rfl rfl rfl ?_)
  refine n_op .no (q := 11) rfl (s_as rfl ?_)
  refine n_nil ?_
  by_cases h1 : rev < L.base
  · repeat (first | refine w_seq ?_ | refine w_blk ?_ | refine z_seq ?_ | refine z_blk ?_ | refine w_skip ?_)
    refine w_yes rfl (decide_eq_true h1) ?_
    repeat (first | refine w_seq ?_ | refine w_blk ?_ | refine z_seq ?_ | refine z_blk ?_ | refine w_skip ?_)
    refine w_reg 2 rfl rfl (j' := 14) ?_
    refine n_op .no (q := 12) rfl (s_as rfl ?_)
    refine n_op .no (q := 13) rfl (s_as rfl ?_)
    refine n_nil ?_
    repeat (first | refine w_ret ?_ | refine w_seq ?_ | refine w_blk ?_ | refine z_seq ?_ | refine z_blk ?_ | refine w_skip ?_)
    refine z_r2 rfl rfl rfl ?_
    have e : L.from_ rev = ([], 7) := by simp only [Log.from_, h1, if_true]
    rw [e]
    exact ⟨_, rfl, EvsOwn.nil _ _, (by repeat (first | exact Kp.refl _ _ _ | refine Kp.new ?_ (by omega) _))⟩
  repeat (first | refine w_seq ?_ | refine w_blk ?_ | refine z_seq ?_ | refine z_blk ?_ | refine w_skip ?_)
  refine w_no rfl (decide_eq_false h1) ?_
  repeat (first | refine w_seq ?_ | refine w_blk ?_ | refine z_seq ?_ | refine z_blk ?_ | refine w_skip ?_)
  refine w_reg 7 rfl rfl (j' := 19) ?_
  refine n_op .no (q := 12) rfl (s_mv rfl ?_)
  refine n_op .no (q := 13) rfl (s_mv rfl ?_)
  refine n_op .no (q := 14) rfl (s_nil rfl ?_)
  first | refine n_op .no (q := 15) rfl (s_fa0 rfl fo_166_3 ?_) | refine n_op .no (q := 15) rfl (s_fa rfl fo_166_3 ?_)
  refine n_op .no (q := 16) rfl (s_ld rfl (by repeat (first | exact gs_same _ _ _ | exact hl | refine (gs_ne (by omega) _).trans ?_)) ag_2 (by first | exact rfl | exact hl) ?_)
  refine n_op .no (q := 17) rfl (s_bin rfl rfl rfl ?_)
  refine n_op .no (q := 18) rfl (s_as rfl ?_)
  refine n_nil ?_
  by_cases h2 : L.last < rev
  · repeat (first | refine w_seq ?_ | refine w_blk ?_ | refine z_seq ?_ | refine z_blk ?_ | refine w_skip ?_)
    refine w_yes rfl (decide_eq_true h2) ?_
    repeat (first | refine w_seq ?_ | refine w_blk ?_ | refine z_seq ?_ | refine z_blk ?_ | refine w_skip ?_)
    refine w_reg 2 rfl rfl (j' := 21) ?_
    refine n_op .no (q := 19) rfl (s_as rfl ?_)
    refine n_op .no (q := 20) rfl (s_as rfl ?_)
    refine n_nil ?_
    repeat (first | refine w_ret ?_ | refine w_seq ?_ | refine w_blk ?_ | refine z_seq ?_ | refine z_blk ?_ | refine w_skip ?_)
    refine z_r2 rfl rfl rfl ?_
    have e : L.from_ rev = ([], 2) := by simp only [Log.from_, h1, h2, if_true, if_false]
    rw [e]
    exact ⟨_, rfl, EvsOwn.nil _ _, (by repeat (first | exact Kp.refl _ _ _ | refine Kp.new ?_ (by omega) _))⟩
  repeat (first | refine w_seq ?_ | refine w_blk ?_ | refine z_seq ?_ | refine z_blk ?_ | refine w_skip ?_)
  refine w_no rfl (decide_eq_false h2) ?_
  have e : L.from_ rev = (L.evs.filter fun e => decide (rev < e.rev), 0) := by simp only [Log.from_, h1, h2, if_false]
  rw [e]
  repeat (first | refine w_seq ?_ | refine w_blk ?_ | refine z_seq ?_ | refine z_blk ?_ | refine w_skip ?_)
  refine w_reg 1 rfl rfl (j' := 20) ?_
  refine n_op .no (q := 19) rfl (s_as rfl ?_)
  refine n_nil ?_
  obtain ⟨a, c, rfl⟩ := h.evs.lenE
  repeat (first | refine w_seq ?_ | refine w_blk ?_ | refine z_seq ?_ | refine z_blk ?_ | refine w_skip ?_)
  refine w_reg 6 rfl rfl (j' := 26) ?_
  refine n_op .no (q := 20) rfl (s_mv rfl ?_)
  refine n_op .no (q := 21) rfl (s_nil rfl ?_)
  first | refine n_op .no (q := 22) rfl (s_fa0 rfl fo_166_0 ?_) | refine n_op .no (q := 22) rfl (s_fa rfl fo_166_0 ?_)
  refine n_op .no (q := 23) rfl (s_ld rfl (by repeat (first | exact gs_same _ _ _ | exact hl | refine (gs_ne (by omega) _).trans ?_)) ag_65 (by first | exact rfl | exact hl) ?_)
  refine n_op .no (q := 24) rfl (s_len rfl rfl un_65 rfl ?_)
  refine n_op .no (q := 25) rfl (s_mv rfl ?_)
  refine n_nil ?_
  repeat (first | refine w_seq ?_ | refine w_blk ?_ | refine z_seq ?_ | refine z_blk ?_ | refine w_skip ?_)
  refine w_loop (β := Nat × Value) (fun x => [(0, .pointer (some ⟨l, 0, none⟩)), (1, .int .i64 rev), (6, x.2), (29, .slice a L.evs.length c), (30, .int .i64 L.evs.length), (31, .int .i64 x.1)])
    (fun x g' n' => x.1 ≤ L.evs.length ∧ n ≤ n' ∧ K0 g n g' ∧ EvsOwn n g' x.2 ((L.evs.take x.1).filter fun e => decide (rev < e.rev))) (fun x => L.evs.length - x.1) (0, .slice none 0 0) ⟨rfl, rfl, rfl, rfl, rfl, rfl, trivial⟩ ⟨by simp, by omega, (by repeat (first | exact Kp.refl _ _ _ | refine Kp.new ?_ (by omega) _)), EvsOwn.nil _ _⟩ ?_
  rintro ⟨i, w⟩ f g1 n1 hw1 ⟨hi, hn1, k1, hE⟩
  simp only at hi hE
  repeat (first | refine w_seq ?_ | refine w_blk ?_ | refine z_seq ?_ | refine z_blk ?_ | refine w_skip ?_)
  refine w_reg 1 rfl rfl (j' := 1) ?_
  refine n_op .no (q := 0) rfl (s_bin rfl rfl rfl ?_)
  refine n_nil ?_
  repeat (first | refine w_seq ?_ | refine w_blk ?_ | refine z_seq ?_ | refine z_blk ?_ | refine w_skip ?_)
  refine w_if rfl (fun hb => ?_) (fun hb => ?_)
  · have hi : i < L.evs.length := by simpa using hb
    obtain ⟨l2, o, c', cl, ro, p, q, e1, hc', e2, e3⟩ := (h.evs.rd.kp0 k1 hw).at hi
    cases e1
    have c0 := e3.len
    have c1 := e3.all
    have e0 := List.drop_eq_getElem_cons hi
    have e5 : (L.evs.take (i + 1)).filter (fun e => decide (rev < e.rev)) = (L.evs.take i).filter (fun e => decide (rev < e.rev)) ++ if rev < L.evs[i].rev then [L.evs[i]] else [] := by
      rw [List.take_succ_eq_append_getElem hi, List.filter_append]
      by_cases h : rev < L.evs[i].rev <;> simp [h]
    have hlw : ((L.evs.take i).filter fun e => decide (rev < e.rev)).length ≤ i := Nat.le_trans (List.length_filter_le _ _) (by rw [List.length_take]; omega)
    repeat (first | refine w_seq ?_ | refine w_blk ?_ | refine z_seq ?_ | refine z_blk ?_ | refine w_skip ?_)
    refine w_reg 4 rfl rfl (j' := 5) ?_
    refine n_op .no (q := 1) rfl (s_ia rfl rfl el_65 (by first | assumption | omega) ?_)
    refine n_op .no (q := 2) rfl (s_lda rfl (by repeat (first | exact gs_same _ _ _ | exact e2 | exact c1 | refine (gs_ne (by omega) _).trans ?_)) ag_82 sz_82 (by first | exact Nat.le_of_ble_eq_true rfl | assumption | omega) (by first | exact e2 | exact c1 | exact rfl) ?_)
    refine n_op .no (q := 3) rfl (s_al zl_82 ?_)
    refine n_op .no (q := 4) rfl (s_stw rfl rfl sz_82 rfl (by repeat (first | exact gs_same _ _ _ | exact e2 | exact c1 | refine (gs_ne (by omega) _).trans ?_)) (by exact rfl) rfl ?_)
    refine n_nil ?_
    repeat (first | refine w_seq ?_ | refine w_blk ?_ | refine z_seq ?_ | refine z_blk ?_ | refine w_skip ?_)
    refine w_reg 4 rfl rfl (j' := 9) ?_
    first | refine n_op .no (q := 5) rfl (s_fa0 rfl fo_82_0 ?_) | refine n_op .no (q := 5) rfl (s_fa rfl fo_82_0 ?_)
    refine n_op .no (q := 6) rfl (s_ld rfl (by repeat (first | exact gs_same _ _ _ | refine (gs_ne (by omega) _).trans ?_)) ag_2 (by first | exact rfl) ?_)
    refine n_op .no (q := 7) rfl (s_mv rfl ?_)
    refine n_op .no (q := 8) rfl (s_bin rfl rfl rfl ?_)
    refine n_nil ?_
    by_cases h3 : rev < L.evs[i].rev
    · repeat (first | refine w_seq ?_ | refine w_blk ?_ | refine z_seq ?_ | refine z_blk ?_ | refine w_skip ?_)
      refine w_yes rfl (decide_eq_true h3) ?_
      repeat (first | refine w_seq ?_ | refine w_blk ?_ | refine z_seq ?_ | refine z_blk ?_ | refine w_skip ?_)
      refine w_reg 6 rfl rfl (j' := 15) ?_
      refine n_op .no (q := 9) rfl (s_mv rfl ?_)
      refine n_op .no (q := 10) rfl (s_ldf rfl (by repeat (first | exact gs_same _ _ _ | refine (gs_ne (by omega) _).trans ?_)) ag_82 sz_82 (by exact rfl) ?_)
      refine n_call .no rfl rfl rfl ?_
      refine C.use (copied_c (BytesAt.kp0 (n := n1) e3.val (by repeat (first | exact Kp.refl _ _ _ | refine Kp.new ?_ (by omega) _)) hw1) e3.small) fun v g2 n2 hw2 hn2 hq => ?_
      obtain ⟨c5, rfl, h5, k2⟩ := hq
      obtain ⟨⟨cs, hs, hR⟩, hfrom⟩ := id hE
      have h5' := h5
      obtain ⟨a5, p5, rfl, h6, h7⟩ := h5
      have k3 : K0 g1 n1 g2 := Kp.trans0 (by repeat (first | exact Kp.refl _ _ _ | refine Kp.new ?_ (by omega) _)) k2 (by omega)
      refine n_op .no (q := 12) rfl (s_bs el_65 ez_65 rfl rfl rfl ?_)
      refine n_op .no (q := 13) rfl (s_app app65 rfl rfl (hs.kp0 (n := n1) (Kp.new k3 (by omega) _) hw1) (src_one (gs_same _ _ _) rfl) rfl (by omega) fun aw cw g3 tc wr hrow hgr => ?_)
      refine n_op .no (q := 14) rfl (s_as rfl ?_)
      refine n_nil ?_
      repeat (first | refine w_seq ?_ | refine w_blk ?_ | refine z_seq ?_ | refine z_blk ?_ | refine w_skip ?_)
      refine w_reg 2 rfl rfl (j' := 2) ?_
      first | refine n_op .no (q := 0) rfl (s_bin rfl rfl (bi_inc (by omega)) ?_) | refine n_op .no (q := 0) rfl (s_bin rfl rfl (bi_add rfl (by omega) (by omega)) ?_)
      refine n_op .no (q := 1) rfl (s_mv rfl ?_)
      refine n_nil ?_
      have kF : Kp (FV w) g1 n1 g3 := hgr.kp (Kp.new k3.z (by omega) _) (by omega) fun l hl => .inr fun o ho => ⟨hl, hE.nbo hl ho⟩
      refine z_round (i + 1, .slice aw _ cw) ⟨rfl, rfl, rfl, rfl, rfl, rfl, trivial⟩ ⟨hi, by omega, ?_, ?_⟩ (by simp only; omega)
      · exact fun x o hx ho _ => kF x o (by omega) (k1.lt hx ho) fun hF => by have := hfrom _ hF.1; omega
      · rw [e5, if_pos h3]
        refine evs_app hR hw1 kF (FV.nob w) h5' hw2 (hgr.low ((Kp.refl _ _ _).low (by omega) _) (by omega) fun x hx => ?_) (by omega) hrow fun x hx => ?_
        · have := hE.lt hw1 hx; omega
        · rcases hgr.name with e | e | e
          · rw [e] at hx; cases hx
          · rw [e] at hx; exact hfrom _ hx
          · rw [e] at hx; cases hx; omega
    · repeat (first | refine w_seq ?_ | refine w_blk ?_ | refine z_seq ?_ | refine z_blk ?_ | refine w_skip ?_)
      refine w_no rfl (decide_eq_false h3) ?_
      repeat (first | refine w_seq ?_ | refine w_blk ?_ | refine z_seq ?_ | refine z_blk ?_ | refine w_skip ?_)
      repeat (first | refine w_seq ?_ | refine w_blk ?_ | refine z_seq ?_ | refine z_blk ?_ | refine w_skip ?_)
      refine w_reg 2 rfl rfl (j' := 11) ?_
      first | refine n_op .no (q := 9) rfl (s_bin rfl rfl (bi_inc (by omega)) ?_) | refine n_op .no (q := 9) rfl (s_bin rfl rfl (bi_add rfl (by omega) (by omega)) ?_)
      refine n_op .no (q := 10) rfl (s_mv rfl ?_)
      refine n_nil ?_
      refine z_round (i + 1, w) ⟨rfl, rfl, rfl, rfl, rfl, rfl, trivial⟩ ⟨hi, by omega, Kp.trans0 k1 (n' := n1) (by repeat (first | exact Kp.refl _ _ _ | refine Kp.new ?_ (by omega) _)) (by omega), ?_⟩ (by simp only; omega)
      rw [e5, if_neg h3, List.append_nil]
      exact hE.kp0 (n := n1) (by repeat (first | exact Kp.refl _ _ _ | refine Kp.new ?_ (by omega) _)) hw1
  · refine w_exit rfl ?_
    repeat (first | refine w_seq ?_ | refine w_blk ?_ | refine z_seq ?_ | refine z_blk ?_ | refine w_skip ?_)
    refine w_reg 3 rfl rfl (j' := 4) ?_
    refine n_op .no (q := 1) rfl (s_mv rfl ?_)
    refine n_op .no (q := 2) rfl (s_as rfl ?_)
    refine n_op .no (q := 3) rfl (s_as rfl ?_)
    refine n_nil ?_
    repeat (first | refine w_ret ?_ | refine w_seq ?_ | refine w_blk ?_ | refine z_seq ?_ | refine z_blk ?_ | refine w_skip ?_)
    refine z_r2 rfl rfl rfl ?_
    have : i = L.evs.length := by simp at hb; omega
    subst this
    rw [List.take_length] at hE
    exact ⟨_, rfl, hE, k1⟩
end

end Go.Proofs.YtehmailaabjdjaaGreat
