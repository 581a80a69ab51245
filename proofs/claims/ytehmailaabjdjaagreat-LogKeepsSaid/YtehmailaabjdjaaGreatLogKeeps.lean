/-
  LogKeeps answers true. No condition but that begun does.
-/
import Derived.Test.YtehmailaabjdjaaGreatLwB
open Go.Proofs
namespace Go.Proofs.YtehmailaabjdjaaGreat
set_option linter.unusedSimpArgs false
set_option linter.unusedVariables false
set_option maxRecDepth 100000

structure KeepI (M : Int) (xs : List Int) (g1 : Gm) (n1 l i : Nat) (cv : Value) (g' : Gm) (n' : Nat) : Prop where
  nn : n1 ≤ n'
  le : i ≤ xs.length ∧ i ≤ 30
  kp : K0 g1 n1 g'
  ex : ∃ ns f sl, ns.length = i ∧ (∀ x ∈ ns, 0 < x ∧ x ≤ 4) ∧ KFr M ns f ∧ SlOwn g' 1 cv i (ns.map fun x => .int .i64 ((x : Nat) : Int)) ∧ (∀ x, vname cv = some x → n1 ≤ x) ∧ LogAt n1 (hid g' (vIs cv)) l sl (keepsL M ns f)

/-- A row of events without bytes. -/
def EvsZ (g : Gm) (v : Value) (es : List Evt) : Prop := ∃ cs, SlOwn g 4 v es.length cs ∧ Rows 4 (EvC fun v bs => v = .slice none 0 0 ∧ bs = []) cs es
theorem EvsZ.rd {g : Gm} {v : Value} {es : List Evt} (h : EvsZ g v es) : EvsRd g v es := by
  obtain ⟨cs, h1, h2⟩ := h
  exact ⟨cs, h1.slc, h2.mono fun c x _ hx => hx.mono fun _ _ ⟨e1, e2⟩ => by subst e1 e2; exact SlC.nil _ _⟩

theorem logKeeps_c (hB : BegunOk) {g : Gm} {n : Nat} {most : Int} {v : Value} {xs : List Int} (h : IntsAt g v xs) : C 19 #[.int .i64 most, v] g n fun u g' n' => u = .bool true := by
  obtain ⟨a, c, rfl⟩ := h.len
  refine c_in2 Tryz.func19 rfl Tryz.ntmps19 rfl fun hw => ?_
  repeat (first | refine w_seq ?_ | refine w_blk ?_ | refine z_seq ?_ | refine z_blk ?_ | refine w_skip ?_)
  refine w_reg 1 rfl rfl (j' := 1) ?_
  refine n_op .no (q := 0) rfl (s_as rfl ?_)
  refine n_nil ?_
  repeat (first | refine w_seq ?_ | refine w_blk ?_ | refine z_seq ?_ | refine z_blk ?_ | refine w_skip ?_)
  refine w_reg 2 rfl rfl (j' := 3) ?_
  refine n_call .no rfl rfl rfl ?_
  refine C.use (hB _ _) fun v g1 n1 hw1 hn1 hq => ?_
  obtain ⟨rfl, rfl⟩ := hq
  refine n_op .no (q := 2) rfl (s_as rfl ?_)
  refine n_nil ?_
  repeat (first | refine w_seq ?_ | refine w_blk ?_ | refine z_seq ?_ | refine z_blk ?_ | refine w_skip ?_)
  refine w_reg 2 rfl rfl (j' := 2) ?_
  refine n_op .no (q := 0) rfl (s_mv rfl ?_)
  refine n_op .no (q := 1) rfl (s_not rfl ?_)
  refine n_nil ?_
  repeat (first | refine w_seq ?_ | refine w_blk ?_ | refine z_seq ?_ | refine z_blk ?_ | refine w_skip ?_)
  refine w_no rfl (rfl) ?_
  have h1 : IntsAt g1 (.slice a xs.length c) xs := h
  have t1 := tmod_lt (a := most) (b := 12) (by decide)
  have t2 := tmod_nn (a := most.tmod 12 + 12) (b := 12) (by omega) (by decide)
  repeat (first | refine w_seq ?_ | refine w_blk ?_ | refine z_seq ?_ | refine z_blk ?_ | refine w_skip ?_)
  refine w_reg 6 rfl rfl (j' := 8) ?_
  refine n_op .no (q := 2) rfl (s_mv rfl ?_)
  refine n_op .no (q := 3) rfl (s_bin rfl rfl rfl ?_)
  refine n_op .no (q := 4) rfl (s_bin rfl rfl (r := .int .i64 (most.tmod 12 + 12)) (by first | exact bi_add (by omega) (by omega) (by omega) | exact bi_sub (by omega) (by omega) (by omega)) ?_)
  refine n_op .no (q := 5) rfl (s_bin rfl rfl rfl ?_)
  refine n_op .no (q := 6) rfl (s_bin rfl rfl (r := .int .i64 (1 + (most.tmod 12 + 12).tmod 12)) (by first | exact bi_add (by omega) (by omega) (by omega) | exact bi_sub (by omega) (by omega) (by omega)) ?_)
  refine n_op .no (q := 7) rfl (s_as rfl ?_)
  refine n_nil ?_
  generalize hM : 1 + (most.tmod 12 + 12).tmod 12 = M at *
  have hM1 : 1 ≤ M ∧ M ≤ 12 := by omega
  clear t1 t2 hM
  repeat (first | refine w_seq ?_ | refine w_blk ?_ | refine z_seq ?_ | refine z_blk ?_ | refine w_skip ?_)
  refine w_reg 3 rfl rfl (j' := 11) ?_
  refine n_op .no (q := 8) rfl (s_mv rfl ?_)
  refine n_call .no rfl rfl rfl ?_
  refine C.use (log_new g1 _ M) fun v g2 n2 hw2 hn2 hq => ?_
  obtain ⟨l, rfl, hl, hA, k2⟩ := hq
  refine n_op .no (q := 10) rfl (s_as rfl ?_)
  refine n_nil ?_
  have hm : min (max M 1) 1000 = M := by omega
  rw [hm] at hA
  repeat (first | refine w_seq ?_ | refine w_blk ?_ | refine z_seq ?_ | refine z_blk ?_ | refine w_skip ?_)
  refine w_reg 1 rfl rfl (j' := 1) ?_
  refine n_op .no (q := 0) rfl (s_as rfl ?_)
  refine n_nil ?_
  repeat (first | refine w_seq ?_ | refine w_blk ?_ | refine z_seq ?_ | refine z_blk ?_ | refine w_skip ?_)
  refine w_reg 1 rfl rfl (j' := 2) ?_
  refine n_op .no (q := 1) rfl (s_as rfl ?_)
  refine n_nil ?_
  repeat (first | refine w_seq ?_ | refine w_blk ?_ | refine z_seq ?_ | refine z_blk ?_ | refine w_skip ?_)
  refine w_reg 1 rfl rfl (j' := 3) ?_
  refine n_op .no (q := 2) rfl (s_as rfl ?_)
  refine n_nil ?_
  have hA0 : LogAt n1 (hid g2 (vIs (.slice none 0 0))) l (.slice none 0 0) (keepsL M [] 0) :=
    (LogAt.kp0 (n := n2) (g' := hid g2 (vIs (.slice none 0 0))) hA (fun x o hx ho _ => hid_some.2 ⟨(fun e => by cases e), ho⟩) hw2).up (by omega)
  refine z_seq ?_
  refine z_meet (β := Nat) (fun i => [(6, .pointer (some ⟨l, 0, none⟩)), (7, .int .i64 (i : Int))]) (fun i g' n' => ∃ p sl L, (∀ x, p x → x < n') ∧ LogAt n1 (hid g' p) l sl L ∧ L.last = (i : Int)) ?_ ?_
  · repeat (first | refine w_seq ?_ | refine w_blk ?_ | refine z_seq ?_ | refine z_blk ?_ | refine w_skip ?_)
    refine w_loop (β := Nat × Value) (fun x => [(0, .int .i64 M), (1, .slice a xs.length c), (6, .pointer (some ⟨l, 0, none⟩)), (7, .int .i64 (x.1 : Int)), (8, x.2), (9, .int .i64 (x.1 : Int))])
      (fun x g' n' => KeepI M xs g1 n1 l x.1 x.2 g' n') (fun x => 30 - x.1) (0, .slice none 0 0) ⟨rfl, rfl, rfl, rfl, rfl, rfl, trivial⟩
      ⟨by omega, by simp, k2.dn (by omega), [], 0, _, rfl, by simp, ⟨Nat.le_refl _, by simp; omega, .inl rfl⟩, SlOwn.nil _ _, (fun x hx => by cases hx), hA0⟩ ?_
    rintro ⟨i, cv⟩ f g3 n3 hw3 H
    simp only at H
    obtain ⟨hn3, hle, k3, ns, fr, sl, hns, hnp, hfr, hcv, hcf, hA3⟩ := H
    have hx3 := h1.kp0 (k3.dn (by omega)) hw1
    by_cases hi : i < xs.length ∧ i < 30
    · repeat (first | refine w_seq ?_ | refine w_blk ?_ | refine z_seq ?_ | refine z_blk ?_ | refine w_skip ?_)
      refine w_reg 8 rfl rfl (j' := 8) ?_
      refine n_op .no (q := 0) rfl (s_mv rfl ?_)
      refine n_op .no (q := 1) rfl (s_mv rfl ?_)
      refine n_op .no (q := 2) rfl (s_len rfl rfl un_102 rfl ?_)
      refine n_op .no (q := 3) rfl (s_bin rfl rfl rfl ?_)
      refine n_op .no (q := 4) rfl (s_mv rfl ?_)
      refine n_op (.yes rfl rfl (decide_eq_true (by omega))) (q := 5) rfl (s_mv rfl ?_)
      refine n_op (.yes rfl rfl (decide_eq_true (by omega))) (q := 6) rfl (s_bin rfl rfl rfl ?_)
      refine n_op .no (q := 7) rfl (s_pt rfl (decide_eq_true (by omega)) rfl ?_)
      refine n_nil ?_
      repeat (first | refine w_seq ?_ | refine w_blk ?_ | refine z_seq ?_ | refine z_blk ?_ | refine w_skip ?_)
      refine w_yes rfl (decide_eq_true (by omega)) ?_
      repeat (first | refine w_seq ?_ | refine w_blk ?_ | refine z_seq ?_ | refine z_blk ?_ | refine w_skip ?_)
      refine w_reg 3 rfl rfl (j' := 11) ?_
      refine n_op .no (q := 8) rfl (s_mv rfl ?_)
      first | refine n_op .no (q := 9) rfl (s_bin rfl rfl (bi_inc (by omega)) ?_) | refine n_op .no (q := 9) rfl (s_bin rfl rfl (bi_add rfl (by omega) (by omega)) ?_)
      refine n_op .no (q := 10) rfl (s_as rfl ?_)
      refine n_nil ?_
      obtain ⟨lx, ox, cx, clx, rox, q1, q2, q3⟩ := hx3.at hi.1
      obtain ⟨z, hz⟩ : ∃ z, xs[i]'hi.1 = z := ⟨_, rfl⟩
      rw [hz] at q3
      clear hz
      cases q1
      have hlt := hi.1
      have t1 := tmod_lt (a := z) (b := 4) (by decide)
      have t2 := tmod_nn (a := z.tmod 4 + 4) (b := 4) (by omega) (by decide)
      repeat (first | refine w_seq ?_ | refine w_blk ?_ | refine z_seq ?_ | refine z_blk ?_ | refine w_skip ?_)
      refine w_reg 9 rfl rfl (j' := 20) ?_
      refine n_op .no (q := 11) rfl (s_mv rfl ?_)
      refine n_op .no (q := 12) rfl (s_mv rfl ?_)
      refine n_op .no (q := 13) rfl (s_ia rfl rfl el_102 (by first | assumption | omega) ?_)
      refine n_op .no (q := 14) rfl (s_ld rfl (by repeat (first | exact gs_same _ _ _ | exact q2 | exact q3 | refine (gs_ne (by omega) _).trans ?_)) ag_3 (by first | exact rfl | exact q2 | exact q3) ?_)
      refine n_op .no (q := 15) rfl (s_bin rfl rfl rfl ?_)
      refine n_op .no (q := 16) rfl (s_bin rfl rfl (r := .int .i64 (z.tmod 4 + 4)) (by first | exact bi_add (by omega) (by omega) (by omega) | exact bi_sub (by omega) (by omega) (by omega)) ?_)
      refine n_op .no (q := 17) rfl (s_bin rfl rfl rfl ?_)
      refine n_op .no (q := 18) rfl (s_bin rfl rfl (r := .int .i64 (1 + (z.tmod 4 + 4).tmod 4)) (by first | exact bi_add (by omega) (by omega) (by omega) | exact bi_sub (by omega) (by omega) (by omega)) ?_)
      refine n_op .no (q := 19) rfl (s_as rfl ?_)
      refine n_nil ?_
      obtain ⟨m, hm4⟩ : ∃ m : Nat, 1 + (z.tmod 4 + 4).tmod 4 = (m : Int) := ⟨_, (Int.toNat_of_nonneg (by omega)).symm⟩
      rw [hm4]
      have hm5 : 1 ≤ m ∧ m ≤ 4 := by omega
      clear t1 t2 hm4 q3
      repeat (first | refine w_seq ?_ | refine w_blk ?_ | refine z_seq ?_ | refine z_blk ?_ | refine w_skip ?_)
      refine w_reg 1 rfl rfl (j' := 21) ?_
      refine n_op .no (q := 20) rfl (s_as rfl ?_)
      refine n_nil ?_
      repeat (first | refine w_seq ?_ | refine w_blk ?_ | refine z_seq ?_ | refine z_blk ?_ | refine w_skip ?_)
      refine w_reg 1 rfl rfl (j' := 22) ?_
      refine n_op .no (q := 21) rfl (s_as rfl ?_)
      refine n_nil ?_
      repeat (first | refine w_seq ?_ | refine w_blk ?_ | refine z_seq ?_ | refine z_blk ?_ | refine w_skip ?_)
      refine w_loop (β := Nat × Value) (fun x => [(0, .int .i64 M), (1, .slice (some ⟨lx, ox, none⟩) xs.length c), (6, .pointer (some ⟨l, 0, none⟩)), (7, .int .i64 ((i + 1 : Nat) : Int)), (8, cv), (9, .int .i64 (i : Int)), (10, .int .i64 (m : Int)), (11, x.2), (12, .int .i64 (x.1 : Int))])
        (fun x g' n' => x.1 ≤ m ∧ n3 ≤ n' ∧ EvsZ g' x.2 (batch ((i + 1 : Nat) : Int) x.1) ∧ (∀ y, vname x.2 = some y → n3 ≤ y) ∧ K0 g3 n3 g') (fun x => m - x.1) (0, .slice none 0 0) ⟨rfl, rfl, rfl, rfl, rfl, rfl, rfl, rfl, rfl, trivial⟩
        ⟨Nat.zero_le _, by omega, ⟨[], SlOwn.nil _ _, rfl⟩, (fun y hy => by cases hy), (by repeat (first | exact Kp.refl _ _ _ | refine Kp.new ?_ (by omega) _))⟩ ?_
      rintro ⟨k, ev⟩ f g4 n4 hw4 ⟨hkm, hn4, hE4, hf4, k4⟩
      simp only at hkm hE4 hf4
      repeat (first | refine w_seq ?_ | refine w_blk ?_ | refine z_seq ?_ | refine z_blk ?_ | refine w_skip ?_)
      refine w_reg 3 rfl rfl (j' := 3) ?_
      refine n_op .no (q := 0) rfl (s_mv rfl ?_)
      refine n_op .no (q := 1) rfl (s_mv rfl ?_)
      refine n_op .no (q := 2) rfl (s_bin rfl rfl rfl ?_)
      refine n_nil ?_
      repeat (first | refine w_seq ?_ | refine w_blk ?_ | refine z_seq ?_ | refine z_blk ?_ | refine w_skip ?_)
      refine w_if rfl (fun hb => ?_) (fun hb => ?_)
      · have hk : k < m := by simpa using hb
        repeat (first | refine w_seq ?_ | refine w_blk ?_ | refine z_seq ?_ | refine z_blk ?_ | refine w_skip ?_)
        refine w_reg 11 rfl rfl (j' := 14) ?_
        refine n_op .no (q := 3) rfl (s_mv rfl ?_)
        refine n_op .no (q := 4) rfl (s_mv rfl ?_)
        refine n_op .no (q := 5) rfl (s_mv rfl ?_)
        refine n_op .no (q := 6) rfl (s_bin rfl rfl (r := .int .i64 (97 + (k : Int))) (by first | exact bi_add (by omega) (by omega) (by omega) | exact bi_sub (by omega) (by omega) (by omega)) ?_)
        refine n_op .no (q := 7) rfl (s_i2b un_3 un_5 rfl ?_)
        refine n_op .no (q := 8) rfl (s_bs el_26 ez_26 rfl rfl rfl ?_)
        refine n_op .no (q := 9) rfl (s_b2s un_26 un_9 un_5 rfl (BytesNew.at (bytes_row (b := 0) (bs := [UInt8.ofNat (97 + k)]) (gs_same _ _ _) (u8c_one1 k (by omega)) (by omega))) fun tc => ?_)
        refine n_op .no (q := 10) rfl (s_bld pl_82 zl_82 rfl rfl rfl ?_)
        refine n_op .no (q := 11) rfl (s_bs el_65 ez_65 rfl rfl rfl ?_)
        obtain ⟨cs, hs, hR⟩ := id hE4
        rw [batch_len] at hs
        refine n_op .no (q := 12) rfl (s_app app65 rfl rfl (hs.kp0 (n := n4) (by repeat (first | exact Kp.refl _ _ _ | refine Kp.new ?_ (by omega) _)) hw4) (src_one (gs_same _ _ _) rfl) rfl (by omega) fun a5 c5 g5 tc5 wr5 hrow hgr => ?_)
        refine n_op .no (q := 13) rfl (s_as rfl ?_)
        refine n_nil ?_
        repeat (first | refine w_seq ?_ | refine w_blk ?_ | refine z_seq ?_ | refine z_blk ?_ | refine w_skip ?_)
        repeat (first | refine w_seq ?_ | refine w_blk ?_ | refine z_seq ?_ | refine z_blk ?_ | refine w_skip ?_)
        refine w_reg 3 rfl rfl (j' := 17) ?_
        refine n_op .no (q := 14) rfl (s_mv rfl ?_)
        first | refine n_op .no (q := 15) rfl (s_bin rfl rfl (bi_inc (by omega)) ?_) | refine n_op .no (q := 15) rfl (s_bin rfl rfl (bi_add rfl (by omega) (by omega)) ?_)
        refine n_op .no (q := 16) rfl (s_as rfl ?_)
        refine n_nil ?_
        have k5 : K0 g3 n3 g5 := hgr.kp (Kp.new (Kp.new k4 (by omega) _) (by omega) _) (by omega) fun y hy => .inl (hf4 y hy)
        refine z_round (k + 1, .slice a5 (k + 1) c5) ⟨rfl, rfl, rfl, rfl, rfl, rfl, rfl, rfl, rfl, trivial⟩ ⟨hk, by omega, ?_, ?_, k5⟩ (by simp only; omega)
        · simp only
          rw [batch_succ]
          refine ⟨cs ++ evtC ⟨((i + 1 : Nat) : Int), [UInt8.ofNat (97 + k)], [], false⟩ (.slice none 0 0), ?_, Rows.append hR (Rows.one rfl ⟨none, 0, rfl, ⟨rfl, rfl⟩, Nat.zero_le _⟩)⟩
          rw [List.length_append, batch_len]
          exact hrow
        · intro y hy
          rcases hgr.name with e | e | e
          · rw [e] at hy; cases hy
          · rw [e] at hy; exact hf4 y hy
          · rw [e] at hy; cases hy; omega
      refine w_exit rfl ?_
      have hkm : k = m := by simp at hb; omega
      subst hkm
      have hnk : 0 < k := by omega
      obtain ⟨f', hfr', hadd⟩ := keeps_add (c := k) (by omega) hfr (fun x hx => (hnp x hx).1) hnk
      rw [hns] at hadd
      have hmay : (keepsL M ns fr).may (batch ((i + 1 : Nat) : Int) k) := by have := keeps_may (most := M) (ns := ns) (f := fr) hnk; rw [hns] at this; exact this
      have hcn : ∀ x, vname cv = some x → x < n3 := fun x hx => hcv.lt hw3 hx
      have hcv4 := hcv.kp0 k4 hw3
      have hA4 : LogAt n1 (hid g4 (vIs cv)) l sl (keepsL M ns fr) := hA3.kp0 (n := n3) (K0.unhid fun x o hx hp ho => ⟨hp, k4 x o hx ho id⟩) hw3.unhid
      have hsl : ∀ x, vname sl = some x → x < n3 := fun x hx => hA3.evs.lt hw3.unhid hx
      have hE4' : EvsZ (hid g4 (vIs cv)) ev (batch ((i + 1 : Nat) : Int) k) := by
        obtain ⟨cs, hs, hR⟩ := hE4
        exact ⟨cs, hs.same fun x hx => hid_off fun e => by have := hf4 x hx; have := hcn x e; omega, hR⟩
      have hsum : (keepsL M ns fr).evs.length ≤ 12 := by
        have := hfr.fit
        show (evsB fr (ns.drop fr)).length ≤ 12
        rw [evsB_len]; omega
      obtain ⟨ae, ce, rfl⟩ := hE4.rd.len
      rw [batch_len] at *
      repeat (first | refine w_seq ?_ | refine w_blk ?_ | refine z_seq ?_ | refine z_blk ?_ | refine w_skip ?_)
      refine w_reg 4 rfl rfl (j' := 7) ?_
      refine n_op .no (q := 3) rfl (s_mv rfl ?_)
      refine n_op .no (q := 4) rfl (s_mv rfl ?_)
      refine n_call .no rfl rfl rfl ?_
      refine C.use ((C.frame (p := vIs cv) (fun x hx => by have := hcn x hx; omega) (log_add_yes hA4 (by omega) hE4'.rd (fun x hx e => by have := hf4 x hx; have := hsl x e; omega) (by rw [batch_len]; omega) (by show 0 ≤ M; omega) hmay))) fun v g5 n5 hw5 hn5 hq => ?_
      obtain ⟨⟨rfl, sl', hA5, hM5, k5⟩, hsame⟩ := hq
      refine n_op .no (q := 6) rfl (s_not rfl ?_)
      refine n_nil ?_
      repeat (first | refine w_seq ?_ | refine w_blk ?_ | refine z_seq ?_ | refine z_blk ?_ | refine w_skip ?_)
      refine w_no rfl (rfl) ?_
      rw [hadd] at hA5
      have k5' : K0 g4 n1 g5 := k5.logHid hsame (by omega) hA4.evs.from_ (by omega)
      have k6 : K0 g1 n1 g5 := fun x o hx ho hf => k5' x o hx (k4 x o (by omega) (k3 x o hx ho hf) id) id
      have hcv5 := hcv4.same hsame
      repeat (first | refine w_seq ?_ | refine w_blk ?_ | refine z_seq ?_ | refine z_blk ?_ | refine w_skip ?_)
      refine w_reg 5 rfl rfl (j' := 5) ?_
      refine n_op .no (q := 0) rfl (s_mv rfl ?_)
      refine n_op .no (q := 1) rfl (s_mv rfl ?_)
      refine n_op .no (q := 2) rfl (s_bs el_102 ez_102 rfl rfl rfl ?_)
      refine n_op .no (q := 3) rfl (s_app app102 rfl rfl (hcv5.kp0 (n := n5) (by repeat (first | exact Kp.refl _ _ _ | refine Kp.new ?_ (by omega) _)) hw5) (src_one (gs_same _ _ _) rfl) rfl (by omega) fun a6 c6 g6 tc6 wr6 hrow6 hgr6 => ?_)
      refine n_op .no (q := 4) rfl (s_as rfl ?_)
      refine n_nil ?_
      have hcn5 : ∀ x, vname cv = some x → x < n5 := fun x hx => by have := hcn x hx; omega
      have hcf6 : ∀ x, vname (.slice a6 (i + 1) c6) = some x → n1 ≤ x := fun x hx => by
        rcases hgr6.name with e | e | e
        · rw [e] at hx; cases hx
        · rw [e] at hx; exact hcf x hx
        · rw [e] at hx; cases hx; omega
      have hA6 : LogAt n1 (hid g6 (vIs (.slice a6 (i + 1) c6))) l sl' (keepsL M (ns ++ [k]) f') := hA5.kp0 (n := n5) (K0.unhid fun x o hx hp ho => ⟨fun e => by
        have e : vname (.slice a6 (i + 1) c6) = some x := e
        rcases hgr6.name with q | q | q
        · rw [q] at e; cases e
        · rw [q] at e; exact hp e
        · rw [q] at e; cases e; omega, (hgr6.same x (by omega) hp).trans ((gs_ne (by omega) _).trans ho)⟩) hw5.unhid
      have k7 : K0 g1 n1 g6 := fun x o hx ho hf => (hgr6.same x (by omega) (fun e => by have := hcf x e; omega)).trans ((gs_ne (by omega) _).trans (k6 x o hx ho hf))
      have hns' : (ns ++ [k]).length = i + 1 := by rw [List.length_append, hns]; rfl
      have hnp' : ∀ x ∈ ns ++ [k], 0 < x ∧ x ≤ 4 := fun x hx => by
        rcases List.mem_append.1 hx with hx | hx
        · exact hnp x hx
        · simp at hx; omega
      have hrow7 : SlOwn g6 1 (.slice a6 (i + 1) c6) (i + 1) ((ns ++ [k]).map fun x => .int .i64 ((x : Nat) : Int)) := by rw [List.map_append]; exact hrow6
      generalize ns ++ [k] = ns' at *
      clear hrow6 hadd hmay hsum hE4 hE4' hcv5 hcv4 hcv hfr hnp hA3 hA4 hsl hM5 k5 k5'
      repeat (first | refine w_seq ?_ | refine w_blk ?_ | refine z_seq ?_ | refine z_blk ?_ | refine w_skip ?_)
      refine w_wf fun hw6 => ?_
      repeat (first | refine w_seq ?_ | refine w_blk ?_ | refine z_seq ?_ | refine z_blk ?_ | refine w_skip ?_)
      refine w_reg 4 rfl rfl (j' := 9) ?_
      refine n_op .no (q := 5) rfl (s_mv rfl ?_)
      refine n_op .no (q := 6) rfl (s_len rfl rfl un_102 rfl ?_)
      refine n_op .no (q := 7) rfl (s_as rfl ?_)
      refine n_op .no (q := 8) rfl (s_as rfl ?_)
      refine n_nil ?_
      refine z_seq ?_
      refine w_seq ?_
      refine z_meet (β := Nat × Nat) (fun x => [(0, .int .i64 M), (1, .slice (some ⟨lx, ox, none⟩) xs.length c), (6, .pointer (some ⟨l, 0, none⟩)), (7, .int .i64 ((i + 1 : Nat) : Int)), (8, .slice a6 (i + 1) c6), (9, .int .i64 (i : Int)), (13, .int .i64 (x.2 : Int)), (14, .int .i64 (x.1 : Int))])
        (fun x g' n' => n5 + 5 ≤ n' ∧ K0 g6 (n5 + 5) g' ∧ x.2 = (ns'.drop x.1).sum ∧ KFr M ns' x.1) ?_ ?_
      · repeat (first | refine w_seq ?_ | refine w_blk ?_ | refine z_seq ?_ | refine z_blk ?_ | refine w_skip ?_)
        refine w_loop (β := Nat × Nat) (fun x => [(0, .int .i64 M), (1, .slice (some ⟨lx, ox, none⟩) xs.length c), (6, .pointer (some ⟨l, 0, none⟩)), (7, .int .i64 ((i + 1 : Nat) : Int)), (8, .slice a6 (i + 1) c6), (9, .int .i64 (i : Int)), (13, .int .i64 (x.2 : Int)), (14, .int .i64 (x.1 : Int))])
          (fun x g' n' => n5 + 5 ≤ n' ∧ K0 g6 (n5 + 5) g' ∧ x.2 = (ns'.drop x.1).sum ∧ x.1 ≤ i + 1 ∧ (x.2 : Int) ≤ M) (fun x => x.1) (i + 1, 0) ⟨rfl, rfl, rfl, rfl, rfl, rfl, rfl, rfl, trivial⟩
          ⟨by omega, (by repeat (first | exact Kp.refl _ _ _ | refine Kp.new ?_ (by omega) _)), by rw [← hns', List.drop_length]; rfl, Nat.le_refl _, by show ((0 : Nat) : Int) ≤ M; omega⟩ ?_
        rintro ⟨j, kept⟩ f g7 n7 hw7 ⟨hn7, k8, hkept, hj, hfit⟩
        simp only at hkept hj hfit
        by_cases h0 : 0 < j
        · obtain ⟨y, hy⟩ : ∃ y, ns'[j - 1]? = some y := ⟨_, List.getElem?_eq_getElem (by omega)⟩
          have hsum : (ns'.drop (j - 1)).sum = y + kept := by
            obtain ⟨hlt', hy'⟩ := List.getElem?_eq_some_iff.1 hy
            rw [List.drop_eq_getElem_cons hlt', hy', List.sum_cons, show j - 1 + 1 = j by omega, hkept]
          obtain ⟨lc, oc, cc, clc, roc, w1, w2, w3⟩ := ((hrow7.kp0 k8 hw6).slc).at1 (i := j - 1) (w := .int .i64 (y : Int)) (by omega) (by rw [List.getElem?_map, hy]; rfl)
          cases w1
          have hjl : j - 1 < i + 1 := by omega
          have hy4 : y ≤ 4 := by
            obtain ⟨hlt', hy'⟩ := List.getElem?_eq_some_iff.1 hy
            rw [← hy']; exact (hnp' _ (List.getElem_mem hlt')).2
          by_cases hc : ((kept + y : Nat) : Int) ≤ M
          · repeat (first | refine w_seq ?_ | refine w_blk ?_ | refine z_seq ?_ | refine z_blk ?_ | refine w_skip ?_)
            refine w_reg 13 rfl rfl (j' := 13) ?_
            refine n_op .no (q := 0) rfl (s_mv rfl ?_)
            refine n_op .no (q := 1) rfl (s_bin rfl rfl rfl ?_)
            refine n_op .no (q := 2) rfl (s_mv rfl ?_)
            refine n_op (.yes rfl rfl (decide_eq_true (by omega))) (q := 3) rfl (s_mv rfl ?_)
            refine n_op (.yes rfl rfl (decide_eq_true (by omega))) (q := 4) rfl (s_mv rfl ?_)
            refine n_op (.yes rfl rfl (decide_eq_true (by omega))) (q := 5) rfl (s_mv rfl ?_)
            first | refine n_op (.yes rfl rfl (decide_eq_true (by omega))) (q := 6) rfl (s_bin rfl rfl (bi_dec (by omega) (by omega)) ?_) | refine n_op (.yes rfl rfl (decide_eq_true (by omega))) (q := 6) rfl (s_bin rfl rfl (bi_sub rfl (by omega) (by omega)) ?_)
            refine n_op (.yes rfl rfl (decide_eq_true (by omega))) (q := 7) rfl (s_ia rfl rfl el_102 (by first | assumption | omega) ?_)
            refine n_op (.yes rfl rfl (decide_eq_true (by omega))) (q := 8) rfl (s_ld rfl (by repeat (first | exact gs_same _ _ _ | exact w2 | exact w3 | refine (gs_ne (by omega) _).trans ?_)) ag_3 (by first | exact rfl | exact w2 | exact w3) ?_)
            refine n_op (.yes rfl rfl (decide_eq_true (by omega))) (q := 9) rfl (s_bin rfl rfl (r := .int .i64 (((kept + y : Nat) : Int))) (by first | exact bi_add (by omega) (by omega) (by omega) | exact bi_sub (by omega) (by omega) (by omega)) ?_)
            refine n_op (.yes rfl rfl (decide_eq_true (by omega))) (q := 10) rfl (s_mv rfl ?_)
            refine n_op (.yes rfl rfl (decide_eq_true (by omega))) (q := 11) rfl (s_bin rfl rfl rfl ?_)
            refine n_op .no (q := 12) rfl (s_pt rfl (decide_eq_true (by omega)) rfl ?_)
            refine n_nil ?_
            repeat (first | refine w_seq ?_ | refine w_blk ?_ | refine z_seq ?_ | refine z_blk ?_ | refine w_skip ?_)
            refine w_yes rfl (decide_eq_true hc) ?_
            repeat (first | refine w_seq ?_ | refine w_blk ?_ | refine z_seq ?_ | refine z_blk ?_ | refine w_skip ?_)
            repeat (first | refine w_seq ?_ | refine w_blk ?_ | refine z_seq ?_ | refine z_blk ?_ | refine w_skip ?_)
            refine w_reg 3 rfl rfl (j' := 16) ?_
            refine n_op .no (q := 13) rfl (s_mv rfl ?_)
            first | refine n_op .no (q := 14) rfl (s_bin rfl rfl (bi_dec (by omega) (by omega)) ?_) | refine n_op .no (q := 14) rfl (s_bin rfl rfl (bi_sub rfl (by omega) (by omega)) ?_)
            refine n_op .no (q := 15) rfl (s_as rfl ?_)
            refine n_nil ?_
            repeat (first | refine w_seq ?_ | refine w_blk ?_ | refine z_seq ?_ | refine z_blk ?_ | refine w_skip ?_)
            refine w_reg 7 rfl rfl (j' := 23) ?_
            refine n_op .no (q := 16) rfl (s_mv rfl ?_)
            refine n_op .no (q := 17) rfl (s_mv rfl ?_)
            refine n_op .no (q := 18) rfl (s_mv rfl ?_)
            refine n_op .no (q := 19) rfl (s_ia rfl rfl el_102 (by first | assumption | omega) ?_)
            refine n_op .no (q := 20) rfl (s_ld rfl (by repeat (first | exact gs_same _ _ _ | exact w2 | exact w3 | refine (gs_ne (by omega) _).trans ?_)) ag_3 (by first | exact rfl | exact w2 | exact w3) ?_)
            refine n_op .no (q := 21) rfl (s_bin rfl rfl (r := .int .i64 (((kept + y : Nat) : Int))) (by first | exact bi_add (by omega) (by omega) (by omega) | exact bi_sub (by omega) (by omega) (by omega)) ?_)
            refine n_op .no (q := 22) rfl (s_as rfl ?_)
            refine n_nil ?_
            repeat (first | refine w_seq ?_ | refine w_blk ?_ | refine z_seq ?_ | refine z_blk ?_ | refine w_skip ?_)
            exact z_round (j - 1, kept + y) ⟨rfl, rfl, rfl, rfl, rfl, rfl, rfl, rfl, trivial⟩ ⟨by omega, k8, by show kept + y = (ns'.drop (j - 1)).sum; omega, by show j - 1 ≤ i + 1; omega, hc⟩ (by show j - 1 < j; omega)
          · repeat (first | refine w_seq ?_ | refine w_blk ?_ | refine z_seq ?_ | refine z_blk ?_ | refine w_skip ?_)
            refine w_reg 13 rfl rfl (j' := 13) ?_
            refine n_op .no (q := 0) rfl (s_mv rfl ?_)
            refine n_op .no (q := 1) rfl (s_bin rfl rfl rfl ?_)
            refine n_op .no (q := 2) rfl (s_mv rfl ?_)
            refine n_op (.yes rfl rfl (decide_eq_true (by omega))) (q := 3) rfl (s_mv rfl ?_)
            refine n_op (.yes rfl rfl (decide_eq_true (by omega))) (q := 4) rfl (s_mv rfl ?_)
            refine n_op (.yes rfl rfl (decide_eq_true (by omega))) (q := 5) rfl (s_mv rfl ?_)
            first | refine n_op (.yes rfl rfl (decide_eq_true (by omega))) (q := 6) rfl (s_bin rfl rfl (bi_dec (by omega) (by omega)) ?_) | refine n_op (.yes rfl rfl (decide_eq_true (by omega))) (q := 6) rfl (s_bin rfl rfl (bi_sub rfl (by omega) (by omega)) ?_)
            refine n_op (.yes rfl rfl (decide_eq_true (by omega))) (q := 7) rfl (s_ia rfl rfl el_102 (by first | assumption | omega) ?_)
            refine n_op (.yes rfl rfl (decide_eq_true (by omega))) (q := 8) rfl (s_ld rfl (by repeat (first | exact gs_same _ _ _ | exact w2 | exact w3 | refine (gs_ne (by omega) _).trans ?_)) ag_3 (by first | exact rfl | exact w2 | exact w3) ?_)
            refine n_op (.yes rfl rfl (decide_eq_true (by omega))) (q := 9) rfl (s_bin rfl rfl (r := .int .i64 (((kept + y : Nat) : Int))) (by first | exact bi_add (by omega) (by omega) (by omega) | exact bi_sub (by omega) (by omega) (by omega)) ?_)
            refine n_op (.yes rfl rfl (decide_eq_true (by omega))) (q := 10) rfl (s_mv rfl ?_)
            refine n_op (.yes rfl rfl (decide_eq_true (by omega))) (q := 11) rfl (s_bin rfl rfl rfl ?_)
            refine n_op .no (q := 12) rfl (s_pt rfl (decide_eq_true (by omega)) rfl ?_)
            refine n_nil ?_
            repeat (first | refine w_seq ?_ | refine w_blk ?_ | refine z_seq ?_ | refine z_blk ?_ | refine w_skip ?_)
            refine w_no rfl (decide_eq_false hc) ?_
            refine w_exit rfl ?_
            exact z_met (j, kept) ⟨rfl, rfl, rfl, rfl, rfl, rfl, rfl, rfl, trivial⟩ ⟨by omega, k8, hkept, ⟨by omega, by rw [← hkept]; exact hfit, .inr (by rw [hsum]; omega)⟩⟩
        · repeat (first | refine w_seq ?_ | refine w_blk ?_ | refine z_seq ?_ | refine z_blk ?_ | refine w_skip ?_)
          refine w_reg 13 rfl rfl (j' := 13) ?_
          refine n_op .no (q := 0) rfl (s_mv rfl ?_)
          refine n_op .no (q := 1) rfl (s_bin rfl rfl rfl ?_)
          refine n_op .no (q := 2) rfl (s_mv rfl ?_)
          refine n_sk rfl rfl (decide_eq_false (by omega)) ?_
          refine n_sk rfl rfl (decide_eq_false (by omega)) ?_
          refine n_sk rfl rfl (decide_eq_false (by omega)) ?_
          refine n_sk rfl rfl (decide_eq_false (by omega)) ?_
          refine n_sk rfl rfl (decide_eq_false (by omega)) ?_
          refine n_sk rfl rfl (decide_eq_false (by omega)) ?_
          refine n_sk rfl rfl (decide_eq_false (by omega)) ?_
          refine n_sk rfl rfl (decide_eq_false (by omega)) ?_
          refine n_sk rfl rfl (decide_eq_false (by omega)) ?_
          refine n_op .no (q := 12) rfl (s_pf rfl (decide_eq_false (by omega)) rfl ?_)
          refine n_nil ?_
          repeat (first | refine w_seq ?_ | refine w_blk ?_ | refine z_seq ?_ | refine z_blk ?_ | refine w_skip ?_)
          refine w_no rfl (rfl) ?_
          refine w_exit rfl ?_
          exact z_met (j, kept) ⟨rfl, rfl, rfl, rfl, rfl, rfl, rfl, rfl, trivial⟩ ⟨by omega, k8, hkept, ⟨by omega, by rw [← hkept]; exact hfit, .inl (by show j = 0; omega)⟩⟩
      rintro ⟨j, kept⟩ f g7 n7 hw7 ⟨hn7, k8, hkept, hfr⟩
      simp only at hkept hfr
      have ej := hfr.eq hfr'
      subst ej
      have hpn : ∀ x, vIs (.slice a6 (i + 1) c6) x → x < n5 + 5 := fun x hx => hrow7.lt hw6 hx
      have hA7 : LogAt n1 (hid g7 (vIs (.slice a6 (i + 1) c6))) l sl' (keepsL M ns' j) := hA6.kp0 (n := n5 + 5) (K0.unhid fun x o hx hp ho => ⟨hp, k8 x o hx ho id⟩) hw6.unhid
      have hlen : (keepsL M ns' j).evs.length < 2 ^ 40 := by
        have := hfr.fit
        show (evsB j (ns'.drop j)).length < 2 ^ 40
        rw [evsB_len]; omega
      repeat (first | refine w_seq ?_ | refine w_blk ?_ | refine z_seq ?_ | refine z_blk ?_ | refine w_skip ?_)
      refine w_reg 9 rfl rfl (j' := 9) ?_
      refine n_op .no (q := 0) rfl (s_mv rfl ?_)
      refine n_op .no (q := 1) rfl (s_mv rfl ?_)
      refine n_call .no rfl rfl rfl ?_
      refine C.use ((C.frame (p := vIs (.slice a6 (i + 1) c6)) (fun x hx => by have := hpn x hx; omega) (log_base hA7))) fun v g8 n8 hw8 hn8 hq => ?_
      obtain ⟨⟨rfl, k9⟩, hs9⟩ := hq
      have hA8 := hA7.kp0 (k9.dn (by omega)) hw7.unhid
      refine n_call .no rfl rfl rfl ?_
      refine C.use ((C.frame (p := vIs (.slice a6 (i + 1) c6)) (fun x hx => by have := hpn x hx; omega) (log_from (rev := (j : Int)) hA8 hlen))) fun v g9 n9 hw9 hn9 hq => ?_
      obtain ⟨⟨v9, rfl, hE9, k10⟩, hs10⟩ := hq
      rw [keeps_from hfr] at hE9 ⊢
      obtain ⟨a9, c9, rfl⟩ := hE9.lenE
      have hA9 := hA8.kp0 (k10.dn (by omega)) hw8.unhid
      refine n_op .no (q := 4) rfl (s_mv rfl ?_)
      refine n_op .no (q := 5) rfl (s_ext rfl rfl ?_)
      refine n_op .no (q := 6) rfl (s_ext rfl rfl ?_)
      refine n_op .no (q := 7) rfl (s_as rfl ?_)
      refine n_op .no (q := 8) rfl (s_as rfl ?_)
      refine n_nil ?_
      repeat (first | refine w_seq ?_ | refine w_blk ?_ | refine z_seq ?_ | refine z_blk ?_ | refine w_skip ?_)
      refine w_reg 14 rfl rfl (j' := 14) ?_
      refine n_op .no (q := 0) rfl (s_mv rfl ?_)
      refine n_call .no rfl rfl rfl ?_
      refine C.use ((C.frame (p := vIs (.slice a6 (i + 1) c6)) (fun x hx => by have := hpn x hx; omega) (log_base hA9))) fun v g10 n10 hw10 hn10 hq => ?_
      obtain ⟨⟨rfl, k11⟩, hs11⟩ := hq
      have hA10 := hA9.kp0 (k11.dn (by omega)) hw9.unhid
      refine n_op .no (q := 2) rfl (s_mv rfl ?_)
      refine n_op .no (q := 3) rfl (s_bin rfl rfl rfl ?_)
      refine n_op .no (q := 4) rfl (s_mv rfl ?_)
      refine n_op (.yes rfl rfl (bne_self_eq_false _)) (q := 5) rfl (s_mv rfl ?_)
      refine n_op (.yes rfl rfl (bne_self_eq_false _)) (q := 6) rfl (s_bin rfl rfl rfl ?_)
      refine n_op .no (q := 7) rfl (s_pf rfl (bne_self_eq_false _) rfl ?_)
      refine n_op .no (q := 8) rfl (s_mv rfl ?_)
      refine n_op (.yes rfl rfl (rfl)) (q := 9) rfl (s_mv rfl ?_)
      refine n_op (.yes rfl rfl (rfl)) (q := 10) rfl (s_len rfl rfl un_65 rfl ?_)
      refine n_op (.yes rfl rfl (rfl)) (q := 11) rfl (s_mv rfl ?_)
      refine n_op (.yes rfl rfl (rfl)) (q := 12) rfl (s_bin rfl rfl rfl ?_)
      refine n_op .no (q := 13) rfl (s_pf rfl (rfl) rfl ?_)
      refine n_nil ?_
      repeat (first | refine w_seq ?_ | refine w_blk ?_ | refine z_seq ?_ | refine z_blk ?_ | refine w_skip ?_)
      refine w_no rfl (by rw [evsB_len, ← hkept]; exact bne_self_eq_false _) ?_
      repeat (first | refine w_seq ?_ | refine w_blk ?_ | refine z_seq ?_ | refine z_blk ?_ | refine w_skip ?_)
      refine w_reg 10 rfl rfl (j' := 10) ?_
      refine n_op .no (q := 0) rfl (s_mv rfl ?_)
      refine n_op .no (q := 1) rfl (s_mv rfl ?_)
      refine n_call .no rfl rfl rfl ?_
      refine C.use ((C.frame (p := vIs (.slice a6 (i + 1) c6)) (fun x hx => by have := hpn x hx; omega) (log_base hA10))) fun v g11 n11 hw11 hn11 hq => ?_
      obtain ⟨⟨rfl, k12⟩, hs12⟩ := hq
      have hA11 := hA10.kp0 (k12.dn (by omega)) hw10.unhid
      have hbase : (keepsL M ns' j).base = (j : Int) := rfl
      have hjle : j ≤ i + 1 := by have := hfr.le; omega
      rw [hbase]
      refine n_op .no (q := 3) rfl (s_bin rfl rfl (r := .int .i64 ((j : Int) - 1)) (by first | exact bi_add (by omega) (by omega) (by omega) | exact bi_sub (by omega) (by omega) (by omega)) ?_)
      refine n_call .no rfl rfl rfl ?_
      refine C.use ((C.frame (p := vIs (.slice a6 (i + 1) c6)) (fun x hx => by have := hpn x hx; omega) (log_from (rev := (j : Int) - 1) hA11 hlen))) fun v g12 n12 hw12 hn12 hq => ?_
      obtain ⟨⟨v12, rfl, hE12, k13⟩, hs13⟩ := hq
      rw [keeps_before] at hE12 ⊢
      obtain ⟨a12, c12, rfl⟩ := hE12.lenE
      have hA12 := hA11.kp0 (k13.dn (by omega)) hw11.unhid
      refine n_op .no (q := 5) rfl (s_mv rfl ?_)
      refine n_op .no (q := 6) rfl (s_ext rfl rfl ?_)
      refine n_op .no (q := 7) rfl (s_ext rfl rfl ?_)
      refine n_op .no (q := 8) rfl (s_as rfl ?_)
      refine n_op .no (q := 9) rfl (s_as rfl ?_)
      refine n_nil ?_
      repeat (first | refine w_seq ?_ | refine w_blk ?_ | refine z_seq ?_ | refine z_blk ?_ | refine w_skip ?_)
      refine w_reg 2 rfl rfl (j' := 2) ?_
      refine n_op .no (q := 0) rfl (s_mv rfl ?_)
      refine n_op .no (q := 1) rfl (s_bin rfl rfl rfl ?_)
      refine n_nil ?_
      repeat (first | refine w_seq ?_ | refine w_blk ?_ | refine z_seq ?_ | refine z_blk ?_ | refine w_skip ?_)
      refine w_no rfl (rfl) ?_
      repeat (first | refine w_seq ?_ | refine w_blk ?_ | refine z_seq ?_ | refine z_blk ?_ | refine w_skip ?_)
      repeat (first | refine w_seq ?_ | refine w_blk ?_ | refine z_seq ?_ | refine z_blk ?_ | refine w_skip ?_)
      refine w_reg 3 rfl rfl (j' := 5) ?_
      refine n_op .no (q := 2) rfl (s_mv rfl ?_)
      first | refine n_op .no (q := 3) rfl (s_bin rfl rfl (bi_inc (by omega)) ?_) | refine n_op .no (q := 3) rfl (s_bin rfl rfl (bi_add rfl (by omega) (by omega)) ?_)
      refine n_op .no (q := 4) rfl (s_as rfl ?_)
      refine n_nil ?_
      have q1 := Kp.show0 (q := n7) k9 hs9 (by omega)
      have q2 := Kp.show0 (q := n7) k10 hs10 (by omega)
      have q3 := Kp.show0 (q := n7) k11 hs11 (by omega)
      have q4 := Kp.show0 (q := n7) k12 hs12 (by omega)
      have q5 := Kp.show0 (q := n7) k13 hs13 (by omega)
      have q6 : K0 g6 (n5 + 5) g12 := fun x o hx ho hf => q5 x o (by omega) (q4 x o (by omega) (q3 x o (by omega) (q2 x o (by omega) (q1 x o (by omega) (k8 x o hx ho hf) hf) hf) hf) hf) hf
      exact z_round (i + 1, .slice a6 (i + 1) c6) ⟨rfl, rfl, rfl, rfl, rfl, rfl, trivial⟩ ⟨by omega, by omega, fun x o hx ho hf => q6 x o (by omega) (k7 x o hx ho hf) hf, ns', j, sl', hns', hnp', hfr, hrow7.kp0 q6 hw6, hcf6, hA12⟩ (by show 30 - (i + 1) < 30 - i; omega)
    by_cases hi2 : i < xs.length
    · repeat (first | refine w_seq ?_ | refine w_blk ?_ | refine z_seq ?_ | refine z_blk ?_ | refine w_skip ?_)
      refine w_reg 8 rfl rfl (j' := 8) ?_
      refine n_op .no (q := 0) rfl (s_mv rfl ?_)
      refine n_op .no (q := 1) rfl (s_mv rfl ?_)
      refine n_op .no (q := 2) rfl (s_len rfl rfl un_102 rfl ?_)
      refine n_op .no (q := 3) rfl (s_bin rfl rfl rfl ?_)
      refine n_op .no (q := 4) rfl (s_mv rfl ?_)
      refine n_op (.yes rfl rfl (decide_eq_true (by omega))) (q := 5) rfl (s_mv rfl ?_)
      refine n_op (.yes rfl rfl (decide_eq_true (by omega))) (q := 6) rfl (s_bin rfl rfl rfl ?_)
      refine n_op .no (q := 7) rfl (s_pt rfl (decide_eq_true (by omega)) rfl ?_)
      refine n_nil ?_
      repeat (first | refine w_seq ?_ | refine w_blk ?_ | refine z_seq ?_ | refine z_blk ?_ | refine w_skip ?_)
      refine w_no rfl (decide_eq_false (by omega)) ?_
      refine w_exit rfl ?_
      exact z_met i ⟨rfl, rfl, trivial⟩ ⟨vIs cv, sl, keepsL M ns fr, fun x hx => by have := hcv.lt hw3 hx; omega, hA3, by show ((ns.length : Nat) : Int) = _; rw [hns]⟩
    · repeat (first | refine w_seq ?_ | refine w_blk ?_ | refine z_seq ?_ | refine z_blk ?_ | refine w_skip ?_)
      refine w_reg 8 rfl rfl (j' := 8) ?_
      refine n_op .no (q := 0) rfl (s_mv rfl ?_)
      refine n_op .no (q := 1) rfl (s_mv rfl ?_)
      refine n_op .no (q := 2) rfl (s_len rfl rfl un_102 rfl ?_)
      refine n_op .no (q := 3) rfl (s_bin rfl rfl rfl ?_)
      refine n_op .no (q := 4) rfl (s_mv rfl ?_)
      refine n_sk rfl rfl (decide_eq_false (by omega)) ?_
      refine n_sk rfl rfl (decide_eq_false (by omega)) ?_
      refine n_op .no (q := 7) rfl (s_pf rfl (decide_eq_false (by omega)) rfl ?_)
      refine n_nil ?_
      repeat (first | refine w_seq ?_ | refine w_blk ?_ | refine z_seq ?_ | refine z_blk ?_ | refine w_skip ?_)
      refine w_no rfl (rfl) ?_
      refine w_exit rfl ?_
      exact z_met i ⟨rfl, rfl, trivial⟩ ⟨vIs cv, sl, keepsL M ns fr, fun x hx => by have := hcv.lt hw3 hx; omega, hA3, by show ((ns.length : Nat) : Int) = _; rw [hns]⟩
  rintro i f g3 n3 hw3 ⟨p, sl, L, hp, hA3, hlast⟩
  repeat (first | refine w_seq ?_ | refine w_blk ?_ | refine z_seq ?_ | refine z_blk ?_ | refine w_skip ?_)
  refine w_reg 5 rfl rfl (j' := 5) ?_
  refine n_op .no (q := 0) rfl (s_mv rfl ?_)
  refine n_call .no rfl rfl rfl ?_
  refine C.use ((C.frame (p := p) (fun x hx => by have := hp x hx; omega) (log_last hA3))) fun v g4 n4 hw4 hn4 hq => ?_
  obtain ⟨⟨rfl, k4⟩, hs4⟩ := hq
  refine n_op .no (q := 2) rfl (s_mv rfl ?_)
  refine n_op .no (q := 3) rfl (s_bin rfl rfl rfl ?_)
  refine n_op .no (q := 4) rfl (s_as rfl ?_)
  refine n_nil ?_
  repeat (first | refine w_ret ?_ | refine w_seq ?_ | refine w_blk ?_ | refine z_seq ?_ | refine z_blk ?_ | refine w_skip ?_)
  refine z_r1 rfl rfl ?_
  rw [hlast]
  simp

end Go.Proofs.YtehmailaabjdjaaGreat
