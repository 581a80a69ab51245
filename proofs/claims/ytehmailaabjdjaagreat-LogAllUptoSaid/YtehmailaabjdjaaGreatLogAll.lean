/-
  LogAll answers true where the bytes that came in are not too long. No condition but that begun does.
-/
import Derived.Test.YtehmailaabjdjaaGreatRefs
import Derived.Test.YtehmailaabjdjaaGreatLogBad
open Go.Proofs
namespace Go.Proofs.YtehmailaabjdjaaGreat
set_option linter.unusedSimpArgs false
set_option linter.unusedVariables false
set_option maxRecDepth 100000

/-- The first of them. -/
theorem EvsRd.hi {g : Gm} {a : Option Addr} {c j : Nat} {es : List Evt} (h : EvsRd g (.slice a es.length c) es) (hj : j ≤ es.length) : EvsRd g (.slice a j c) (es.take j) := by
  obtain ⟨cs, ⟨h1, h2⟩, hR⟩ := h
  have hl : (es.take j).length = j := by rw [List.length_take]; omega
  refine ⟨cs.take (j * 4), ⟨by rw [List.length_take, hl]; omega, ?_⟩, hR.take j⟩
  rw [hl]
  rcases h2 with ⟨e, h2⟩ | ⟨e, h2⟩ | ⟨l, o, c', e, h3, h4⟩
  · have : j = 0 := by omega
    subst this
    injection e with e1 e2 e3
    subst e1; subst e3
    exact .inl ⟨rfl, rfl⟩
  · have : j = 0 := by omega
    subst this
    injection e with e1 e2 e3
    subst e1; subst e3
    exact .inr (.inl ⟨rfl, rfl⟩)
  · injection e with e1 e2 e3
    subst e1; subst e3
    refine .inr (.inr ⟨l, o, c, rfl, by omega, ?_⟩)
    rcases h4 with h4 | ⟨cl, ro, h4, h5, h6⟩
    · left; omega
    · refine .inr ⟨cl, ro, h4, by omega, ?_⟩
      rw [← h6, List.take_take, Nat.min_eq_left (by omega)]

section
variable {N : Nat} {f : Nat → Value} {s : Sls} {g : Gm} {n nm : Nat} {k : Sls → Gm → List Nat → List Nat → Prop} {d : Tmp} {ty : TypeId} {pos : String} {af : Array Edge} {gd : Option (Nat × Bool)}
theorem s_hiX {x hi : Operand} {a : Option Addr} {c j : Nat} {es : List Evt} (hx : ov N s x = some (.slice a es.length c)) (hb : EvsRd g (.slice a es.length c) es) (hj : ov N s hi = some (.int .i64 (j : Int))) (hjl : j ≤ es.length)
    (h : k ((d, .slice a j c) :: s) g [] []) : ST N f s g n nm ⟨some d, .slice 65 x none (some hi) none, ty, pos, af, gd⟩ k := by
  obtain ⟨cs, ⟨h1, ⟨e, h2⟩ | ⟨e, h2⟩ | ⟨l, o, c', e, h3, h4⟩⟩, hR⟩ := hb
  · have : j = 0 := by omega
    subst this
    injection e with e1 e2 e3
    subst e1; subst e3
    rw [h2] at hx
    exact s_slh0 un_65 sz_82 hx hj h
  · have : j = 0 := by omega
    subst this
    injection e with e1 e2 e3
    subst e1; subst e3
    rw [h2] at hx
    exact s_slhE un_65 sz_82 hx hj h
  · injection e with e1 e2 e3
    subst e1; subst e3
    exact s_slh un_65 sz_82 hx hj (by omega) h
end

/-- What is to be done with a log. -/
structure LOp where
  kind : Int
  es : List Evt
  rev : Int

def OpC (g : Gm) (c : List Value) (o : LOp) : Prop := ∃ w, c = [.int .i64 o.kind, w, .int .i64 o.rev] ∧ EvsRd g w o.es
def OpsRd (g : Gm) (v : Value) (os : List LOp) : Prop := ∃ cs, SlC g 3 v os.length cs ∧ Rows 3 (OpC g) cs os

theorem OpsRd.len {g : Gm} {v : Value} {os : List LOp} (h : OpsRd g v os) : ∃ a c, v = .slice a os.length c := by
  obtain ⟨cs, h1, _⟩ := h
  obtain ⟨a, c, h, _⟩ := h1.len
  exact ⟨a, c, h⟩
theorem OpsRd.kp0 {g g' : Gm} {n : Nat} {v : Value} {os : List LOp} (h : OpsRd g v os) (hk : K0 g n g') (hw : WF g n) : OpsRd g' v os := by
  obtain ⟨cs, h1, h2⟩ := h
  exact ⟨cs, h1.kp0 hk hw, h2.mono fun c x _ ⟨w, e, hx⟩ => ⟨w, e, hx.kp0 hk hw⟩⟩
/-- Where one lies. -/
theorem OpsRd.at {g : Gm} {v : Value} {os : List LOp} {i : Nat} (h : OpsRd g v os) (hi : i < os.length) : ∃ l o c cl ro w, v = .slice (some ⟨l, o, none⟩) os.length c ∧ g l = some (.cells cl 3 ro) ∧ o + i * 3 + 3 ≤ cl.length ∧ (cl.drop (o + i * 3)).take 3 = [.int .i64 os[i].kind, w, .int .i64 os[i].rev] ∧ EvsRd g w os[i].es := by
  obtain ⟨cs, h1, h2⟩ := h
  obtain ⟨l, o, c, cl, ro, e1, e2, e3, e4⟩ := h1.at hi
  obtain ⟨w, e5, e6⟩ := h2.get hi
  exact ⟨l, o, c, cl, ro, w, e1, e2, by omega, e4.trans e5, e6⟩

theorem Top.trim : ∀ {k : Nat} {L : Log}, Top L → Top (Log.trim k L)
  | 0, L, h => h
  | k + 1, L, h => by
    unfold Log.trim
    split
    · split
      · exact h
      · exact (h.cut _).trim
    · exact h
theorem Top.add {L : Log} {es : List Evt} (h : Top L) (hm : L.may es) : Top (L.add es) := (h.put hm).trim
theorem trim_len : ∀ (k : Nat) (L : Log), (Log.trim k L).evs.length ≤ L.evs.length ∧ (Log.trim k L).most = L.most
  | 0, L => ⟨Nat.le_refl _, rfl⟩
  | k + 1, L => by
    unfold Log.trim
    split
    · split
      · exact ⟨Nat.le_refl _, rfl⟩
      · rename_i e r he
        obtain ⟨h1, h2⟩ := trim_len k (L.cut e.rev)
        exact ⟨Nat.le_trans h1 (List.length_filter_le _ _), h2⟩
    · exact ⟨Nat.le_refl _, rfl⟩
theorem add_len (L : Log) (es : List Evt) : (L.add es).evs.length ≤ L.evs.length + es.length ∧ (L.add es).most = L.most := by
  obtain ⟨h1, h2⟩ := trim_len (L.evs.length + es.length) (L.put es)
  exact ⟨Nat.le_trans h1 (by show (L.evs ++ es).length ≤ _; rw [List.length_append]; omega), h2⟩

/-- Both logs hold the same, apart. -/
structure AllI (g1 : Gm) (n1 l lr i : Nat) (L : Log) (sl sr : Value) (g' : Gm) (n' : Nat) : Prop where
  nn : n1 ≤ n'
  kp : K0 g1 n1 g'
  lg : LogAt n1 g' l sl L
  rf : RefAt g' lr sr L
  tp : Top L
  most : 1 ≤ L.most
  sep : ∀ x, vname sl = some x → vname sr ≠ some x
  nel : vname sr ≠ some l
  srl : ∀ x, vname sr = some x → x < n'
  len : L.evs.length ≤ 6 * i

theorem AllI.kp0 {g1 : Gm} {n1 l lr i : Nat} {L : Log} {sl sr : Value} {g' g'' : Gm} {n' n'' : Nat} (H : AllI g1 n1 l lr i L sl sr g' n') (hk : K0 g' n' g'') (hw : WF g' n') (hn : n' ≤ n'') : AllI g1 n1 l lr i L sl sr g'' n'' :=
  ⟨Nat.le_trans H.nn hn, fun x o hx ho hf => hk x o (by have := H.nn; omega) (H.kp x o hx ho hf) id, H.lg.kp0 hk hw, H.rf.kp0 hk hw, H.tp, H.most, H.sep, H.nel, fun x hx => by have := H.srl x hx; omega, H.len⟩

theorem logAll_c (hB : BegunOk) {g : Gm} {n : Nat} {most from0 : Int} {v : Value} {os : List LOp} (h : OpsRd g v os) (hos : ∀ o ∈ os, o.es.length < 2 ^ 60) : C 16 #[.int .i64 most, v, .int .i64 from0] g n fun u g' n' => u = .bool true := by
  obtain ⟨a, c, rfl⟩ := h.len
  refine c_in3 Tryz.func16 rfl Tryz.ntmps16 rfl fun hw => ?_
  repeat (first | refine w_seq ?_ | refine w_blk ?_ | refine z_seq ?_ | refine z_blk ?_ | refine w_skip ?_)
  refine w_reg 1 rfl rfl (j' := 1) ?_
  refine n_op .no (q := 0) rfl (s_as rfl ?_)
  refine n_nil ?_
  repeat (first | refine w_seq ?_ | refine w_blk ?_ | refine z_seq ?_ | refine z_blk ?_ | refine w_skip ?_)
  refine w_reg 2 rfl rfl (j' := 3) ?_
  refine n_call .no rfl rfl rfl ?_
  refine C.use (hB _ _) fun v g1 n1 hw1 hn1 hq => ?_
  obtain ⟨rfl, rfl⟩ := hq
  refine n_op .no (q := 2) rfl (s_as rfl ?_)
  refine n_nil ?_
  repeat (first | refine w_seq ?_ | refine w_blk ?_ | refine z_seq ?_ | refine z_blk ?_ | refine w_skip ?_)
  refine w_reg 2 rfl rfl (j' := 2) ?_
  refine n_op .no (q := 0) rfl (s_mv rfl ?_)
  refine n_op .no (q := 1) rfl (s_not rfl ?_)
  refine n_nil ?_
  repeat (first | refine w_seq ?_ | refine w_blk ?_ | refine z_seq ?_ | refine z_blk ?_ | refine w_skip ?_)
  refine w_no rfl (rfl) ?_
  have h1 : OpsRd g1 (.slice a os.length c) os := h
  repeat (first | refine w_seq ?_ | refine w_blk ?_ | refine z_seq ?_ | refine z_blk ?_ | refine w_skip ?_)
  refine w_reg 6 rfl rfl (j' := 8) ?_
  refine n_op .no (q := 2) rfl (s_mv rfl ?_)
  refine n_call .no rfl rfl rfl ?_
  refine C.use (log_new g1 _ most) fun v g2 n2 hw2 hn2 hq => ?_
  obtain ⟨l, rfl, hl, hA, k2⟩ := hq
  refine n_op .no (q := 4) rfl (s_mv rfl ?_)
  refine n_call .no rfl rfl rfl ?_
  refine C.use (ref_new g2 _ most) fun v g3 n3 hw3 hn3 hq => ?_
  obtain ⟨lr, rfl, hlr, hR, k3⟩ := hq
  refine n_op .no (q := 6) rfl (s_as rfl ?_)
  refine n_op .no (q := 7) rfl (s_as rfl ?_)
  refine n_nil ?_
  have hll2 := hw2 _ _ hA.cell
  have hA3 := (hA.kp0 (k3.dn (by omega)) hw2).up (show n1 ≤ _ by omega)
  repeat (first | refine w_seq ?_ | refine w_blk ?_ | refine z_seq ?_ | refine z_blk ?_ | refine w_skip ?_)
  refine w_reg 1 rfl rfl (j' := 1) ?_
  refine n_op .no (q := 0) rfl (s_as rfl ?_)
  refine n_nil ?_
  refine z_seq ?_
  refine z_meet (β := Unit) (fun _ => []) (fun _ _ _ => True) ?_ ?_
  · repeat (first | refine w_seq ?_ | refine w_blk ?_ | refine z_seq ?_ | refine z_blk ?_ | refine w_skip ?_)
    refine w_loop (β := Nat) (fun i => [(1, .slice a os.length c), (2, .int .i64 from0), (8, .pointer (some ⟨l, 0, none⟩)), (9, .pointer (some ⟨lr, 0, none⟩)), (10, .int .i64 (i : Int))])
      (fun i g' n' => i ≤ 40 ∧ ∃ L sl sr, AllI g1 n1 l lr i L sl sr g' n') (fun i => 40 - i) 0 ⟨rfl, rfl, rfl, rfl, rfl, trivial⟩
      ⟨by omega, _, _, _, ⟨by omega, fun x o hx ho hf => k3 x o (by omega) (k2 x o (by omega) ho hf) id, hA3, hR, ⟨List.Pairwise.nil, fun e he => by cases he⟩, by show 1 ≤ min (max most 1) 1000; omega, (fun x hx => by cases hx), (fun e => by cases e), (fun x hx => by cases hx), Nat.le_refl _⟩⟩ ?_
    rintro i f g4 n4 hw4 ⟨hi40, L, sl, sr, H⟩
    by_cases c1 : i < os.length
    · by_cases c2 : i < 40
      · repeat (first | refine w_seq ?_ | refine w_blk ?_ | refine z_seq ?_ | refine z_blk ?_ | refine w_skip ?_)
        refine w_reg 8 rfl rfl (j' := 8) ?_
        refine n_op .no (q := 0) rfl (s_mv rfl ?_)
        refine n_op .no (q := 1) rfl (s_mv rfl ?_)
        refine n_op .no (q := 2) rfl (s_len rfl rfl un_94 rfl ?_)
        refine n_op .no (q := 3) rfl (s_bin rfl rfl rfl ?_)
        refine n_op .no (q := 4) rfl (s_mv rfl ?_)
        refine n_op (.yes rfl rfl (decide_eq_true (by omega))) (q := 5) rfl (s_mv rfl ?_)
        refine n_op (.yes rfl rfl (decide_eq_true (by omega))) (q := 6) rfl (s_bin rfl rfl rfl ?_)
        refine n_op .no (q := 7) rfl (s_pt rfl (decide_eq_true (by omega)) rfl ?_)
        refine n_nil ?_
        repeat (first | refine w_seq ?_ | refine w_blk ?_ | refine z_seq ?_ | refine z_blk ?_ | refine w_skip ?_)
        refine w_yes rfl (decide_eq_true (by omega)) ?_
        obtain ⟨lx, ox, cx, clx, rox, w, q1, q21, q3, q4, q51⟩ := h1.at c1
        have q2 := H.kp.at0 hw1 q21
        have q5 := q51.kp0 H.kp hw1
        obtain ⟨op, hop⟩ : ∃ op, os[i]'c1 = op := ⟨_, rfl⟩
        have hopl : op.es.length < 2 ^ 60 := by rw [← hop]; exact hos _ (List.getElem_mem c1)
        rw [hop] at q4 q5 q51
        cases q1
        obtain ⟨aw, cw, rfl⟩ := q5.len
        repeat (first | refine w_seq ?_ | refine w_blk ?_ | refine z_seq ?_ | refine z_blk ?_ | refine w_skip ?_)
        refine w_reg 6 rfl rfl (j' := 14) ?_
        refine n_op .no (q := 8) rfl (s_mv rfl ?_)
        refine n_op .no (q := 9) rfl (s_mv rfl ?_)
        refine n_op .no (q := 10) rfl (s_ia rfl rfl el_94 (by first | assumption | omega) ?_)
        refine n_op .no (q := 11) rfl (s_lda rfl (by repeat (first | exact gs_same _ _ _ | exact q2 | exact q4 | refine (gs_ne (by omega) _).trans ?_)) ag_97 sz_97 (by first | exact Nat.le_of_ble_eq_true rfl | assumption | omega) (by first | exact q2 | exact q4 | exact rfl) ?_)
        refine n_op .no (q := 12) rfl (s_al zl_97 ?_)
        refine n_op .no (q := 13) rfl (s_stw rfl rfl sz_97 rfl (by repeat (first | exact gs_same _ _ _ | exact q2 | exact q4 | refine (gs_ne (by omega) _).trans ?_)) (by exact rfl) rfl ?_)
        refine n_nil ?_
        repeat (first | refine w_seq ?_ | refine w_blk ?_ | refine z_seq ?_ | refine z_blk ?_ | refine w_skip ?_)
        refine w_reg 9 rfl rfl (j' := 23) ?_
        first | refine n_op .no (q := 14) rfl (s_fa0 rfl fo_97_1 ?_) | refine n_op .no (q := 14) rfl (s_fa rfl fo_97_1 ?_)
        refine n_op .no (q := 15) rfl (s_ld rfl (by repeat (first | exact gs_same _ _ _ | refine (gs_ne (by omega) _).trans ?_)) ag_65 (by first | exact rfl) ?_)
        first | refine n_op .no (q := 16) rfl (s_fa0 rfl fo_97_1 ?_) | refine n_op .no (q := 16) rfl (s_fa rfl fo_97_1 ?_)
        refine n_op .no (q := 17) rfl (s_ld rfl (by repeat (first | exact gs_same _ _ _ | refine (gs_ne (by omega) _).trans ?_)) ag_65 (by first | exact rfl) ?_)
        refine n_op .no (q := 18) rfl (s_len rfl rfl un_65 rfl ?_)
        refine n_op .no (q := 19) rfl (s_min rfl rfl (c := ((min op.es.length 6 : Nat) : Int)) (by omega) ?_)
        refine n_op .no (q := 20) rfl (s_hiX rfl (q5.kp0 (n := n4) (by repeat (first | exact Kp.refl _ _ _ | refine Kp.new ?_ (by omega) _)) hw4) rfl (Nat.min_le_left _ _) ?_)
        first | refine n_op .no (q := 21) rfl (s_fa0 rfl fo_97_1 ?_) | refine n_op .no (q := 21) rfl (s_fa rfl fo_97_1 ?_)
        refine n_op .no (q := 22) rfl (s_st rfl rfl sz_65 (by repeat (first | exact gs_same _ _ _ | refine (gs_ne (by omega) _).trans ?_)) rfl rfl (by exact rfl) ?_)
        refine n_nil ?_
        repeat (first | refine w_seq ?_ | refine w_blk ?_ | refine z_seq ?_ | refine z_blk ?_ | refine w_skip ?_)
        refine w_gen fun g9 n9 hg9 hn9 hwg9 => ?_
        have k9 : K0 g4 n4 g9 := by rw [hg9]; exact (by repeat (first | exact Kp.refl _ _ _ | refine Kp.new ?_ (by omega) _))
        have hc9 : g9 (n4 + 12) = some (.cells [.int .i64 op.kind, .slice aw (min op.es.length 6) cw, .int .i64 op.rev] 0 false) := by rw [hg9]; exact gs_same _ _ _
        have hv9 := (q5.kp0 k9 hw4).hi (Nat.min_le_left op.es.length 6)
        have hfl : (op.es.take (min op.es.length 6)).length = min op.es.length 6 := by rw [List.length_take]; omega
        have hlen6 : min op.es.length 6 ≤ 6 := Nat.min_le_right _ _
        generalize op.es.take (min op.es.length 6) = fs at *
        rw [← hfl] at hc9 hv9 hlen6
        have hnew : 0 < fs.length → ∀ x, vname (.slice aw fs.length cw) = some x → x < n1 := fun h0 x hx => by
          have h0' : 0 < op.es.length := by omega
          obtain ⟨l2, o2, c2, cl2, ro2, p2, q2', y1, y2, y3, y4⟩ := q51.at0 h0'
          cases y1
          cases hx
          exact hw1 _ _ y3
        have H9 := H.kp0 (n'' := n9) k9 hw4 (by omega)
        have hq9 : n4 + 12 < n9 := by omega
        have hsl9 : ∀ x, vname sl = some x → x < n4 := fun x hx => H.lg.evs.lt hw4 hx
        generalize hqq : n4 + 12 = q at *
        have hll4 := hw4 _ _ H.lg.cell
        have hlr4 := hw4 _ _ H.rf.cell
        have hnlr : vname sl ≠ some lr := H9.lg.evs.nv H9.rf.cell (by decide)
        repeat (first | refine w_seq ?_ | refine w_blk ?_ | refine z_seq ?_ | refine z_blk ?_ | refine w_skip ?_)
        refine w_reg 3 rfl rfl (j' := 3) ?_
        first | refine n_op .no (q := 0) rfl (s_fa0 rfl fo_97_0 ?_) | refine n_op .no (q := 0) rfl (s_fa rfl fo_97_0 ?_)
        refine n_op .no (q := 1) rfl (s_ld rfl (by repeat (first | exact gs_same _ _ _ | exact hc9 | refine (gs_ne (by omega) _).trans ?_)) ag_3 (by first | exact rfl | exact hc9) ?_)
        refine n_op .no (q := 2) rfl (s_bin rfl rfl rfl ?_)
        refine n_nil ?_
        refine z_seq ?_
        refine z_meet (β := Unit) (fun _ => [(1, .slice (some ⟨lx, ox, none⟩) os.length c), (2, .int .i64 from0), (8, .pointer (some ⟨l, 0, none⟩)), (9, .pointer (some ⟨lr, 0, none⟩)), (10, .int .i64 (i : Int)), (11, .pointer (some ⟨q, 0, none⟩))])
          (fun _ g' n' => n9 ≤ n' ∧ g' q = some (.cells [.int .i64 op.kind, .slice aw fs.length cw, .int .i64 op.rev] 0 false) ∧ ∃ L sl sr, AllI g1 n1 l lr (i + 1) L sl sr g' n') ?_ ?_
        · by_cases hk : op.kind = 0
          · repeat (first | refine w_seq ?_ | refine w_blk ?_ | refine z_seq ?_ | refine z_blk ?_ | refine w_skip ?_)
            refine w_yes rfl (beq_iff_eq.2 hk) ?_
            by_cases hm : L.may fs
            · have h0 : 0 < fs.length := by obtain ⟨⟨e, r, he, _⟩, _⟩ := hm; rw [he]; simp
              have hln := H.len
              repeat (first | refine w_seq ?_ | refine w_blk ?_ | refine z_seq ?_ | refine z_blk ?_ | refine w_skip ?_)
              refine w_drw (T6 16 11) [(0, []), (1, []), (2, []), (4, [2]), (5, [2]), (6, [2]), (3, [6]), (7, []), (8, [])] 9 (by kernel_rfl) rfl rfl (j' := 12) ?_
              refine d_op rfl rfl .no (q := 3) rfl (s_mv rfl ⟨⟨rfl, rfl⟩, ?_⟩)
              first | refine d_op rfl rfl .no (q := 4) rfl (s_fa0 rfl fo_97_1 ⟨⟨rfl, rfl⟩, ?_⟩) | refine d_op rfl rfl .no (q := 4) rfl (s_fa rfl fo_97_1 ⟨⟨rfl, rfl⟩, ?_⟩)
              refine d_tc rfl rfl rfl .no (q := 5) rfl (s_ld rfl (by repeat (first | exact gs_same _ _ _ | exact hc9 | refine (gs_ne (by omega) _).trans ?_)) ag_65 (by first | exact rfl | exact hc9) ⟨clash_nil, ?_⟩)
              refine d_op rfl rfl .no (q := 7) rfl (s_mv rfl ⟨⟨rfl, rfl⟩, ?_⟩)
              first | refine d_op rfl rfl .no (q := 8) rfl (s_fa0 rfl fo_97_1 ⟨⟨rfl, rfl⟩, ?_⟩) | refine d_op rfl rfl .no (q := 8) rfl (s_fa rfl fo_97_1 ⟨⟨rfl, rfl⟩, ?_⟩)
              refine d_tc rfl rfl rfl .no (q := 9) rfl (s_ld rfl (by repeat (first | exact gs_same _ _ _ | exact hc9 | refine (gs_ne (by omega) _).trans ?_)) ag_65 (by first | exact rfl | exact hc9) ⟨clash_rd rfl, ?_⟩)
              refine d_call rfl .no rfl rfl rfl (call_rd rfl) ?_
              refine C.use (log_add_yes H9.lg (by have := H.nn; omega) hv9 (fun x hx e => by have := hnew h0 x hx; have := H9.lg.evs.from_ x e; omega) (by omega) (by have := H.most; omega) hm) fun v g6 n6 hw6 hn6 hq => ?_
              obtain ⟨rfl, sl', hA6, hM6, k6⟩ := hq
              refine ⟨?_, ?_⟩
              · have hc6 : g6 q = some (.cells [.int .i64 op.kind, .slice aw fs.length cw, .int .i64 op.rev] 0 false) := k6 q _ (by omega) hc9 fun h => by
                  rcases h.1 with e | e
                  · omega
                  · have := hsl9 q e; omega
                exact ⟨⟨hc6.trans hc9.symm, trivial⟩, trivial, trivial⟩
              have hc6 : g6 q = some (.cells [.int .i64 op.kind, .slice aw fs.length cw, .int .i64 op.rev] 0 false) := k6 q _ (by omega) hc9 fun h => by
                rcases h.1 with e | e
                · omega
                · have := hsl9 q e; omega
              have hR6 : RefAt g6 lr sr L := H9.rf.kp (k6.dn (by omega)) hwg9 (FL.nob _ _) (fun o hf => hf.1.elim (fun e => by omega) (fun e => hnlr e)) (fun x o hx _ hf => hf.1.elim (fun e => H9.nel (by rw [hx, e])) (fun e => H9.sep x e hx))
              have hv6 : EvsRd g6 (.slice aw fs.length cw) fs := hv9.kp (k6.dn (by omega)) hwg9 (FL.nob _ _) (fun x o hx _ hf => by
                have := hnew h0 x hx
                rcases hf.1 with e | e
                · omega
                · have := H9.lg.evs.from_ x e; have := H9.nn; omega)
              refine d_call rfl .no rfl rfl rfl call_nil ?_
              refine C.use (ref_add_yes hR6 H9.tp hv6 (by omega) (by have := H.most; omega) hm) fun v g7 n7 hw7 hn7 hq => ?_
              obtain ⟨rfl, sr', hR7, hsr7, k7⟩ := hq
              refine ⟨kept_nil, ?_⟩
              refine d_op rfl rfl .no (q := 11) rfl (s_bin rfl rfl (bi_d un_4 rfl) ⟨⟨rfl, rfl⟩, ?_⟩)
              refine d_nil ?_
              repeat (first | refine w_seq ?_ | refine w_blk ?_ | refine z_seq ?_ | refine z_blk ?_ | refine w_skip ?_)
              refine w_no rfl (rfl) ?_
              have hal := add_len L fs
              have hc7 := k7 q _ (by omega) hc6 fun h => by have := h.1; omega
              have hnn9 := H9.nn
              have hlr9 := hw6 _ _ hR6.cell
              have hnl6 : vname sl' ≠ some lr := hA6.evs.nv hR6.cell (by decide)
              repeat (first | refine w_seq ?_ | refine w_blk ?_ | refine z_seq ?_ | refine z_blk ?_ | refine w_skip ?_)
              refine z_met () ⟨rfl, rfl, rfl, rfl, rfl, rfl, trivial⟩ ⟨by omega, hc7, L.add fs, sl', sr', ⟨by omega, ?_, ?_, hR7, H9.tp.add hm, by rw [hal.2]; exact H9.most, ?_, ?_, ?_, by omega⟩⟩
              · intro x o hx ho hf
                refine k7 x o (by omega) (k6 x o (by omega) (H9.kp x o hx ho hf) fun h => ?_) fun h => ?_
                · rcases h.1 with e | e
                  · omega
                  · have := H9.lg.evs.from_ x e; omega
                · have := h.1; omega
              · exact hA6.kp (F := FR lr) (n := n6) (k7.dn (by omega)) hw6 (fun x cl ro _ h => h.2 rfl) (fun o h => by have := h.1; omega) fun x o hx _ h => hnl6 (by rw [hx, h.1])
              · intro x hx e
                have h1 := hA6.evs.lt hw6 hx
                have h2 := hsr7 x e
                omega
              · intro e
                have h2 := hsr7 l e
                omega
              · intro x hx
                have h2 := hsr7 x hx
                omega
            · have hln := H.len
              repeat (first | refine w_seq ?_ | refine w_blk ?_ | refine z_seq ?_ | refine z_blk ?_ | refine w_skip ?_)
              refine w_drw (T6 16 11) [(0, []), (1, []), (2, []), (4, [2]), (5, [2]), (6, [2]), (3, [6]), (7, []), (8, [])] 9 (by kernel_rfl) rfl rfl (j' := 12) ?_
              refine d_op rfl rfl .no (q := 3) rfl (s_mv rfl ⟨⟨rfl, rfl⟩, ?_⟩)
              first | refine d_op rfl rfl .no (q := 4) rfl (s_fa0 rfl fo_97_1 ⟨⟨rfl, rfl⟩, ?_⟩) | refine d_op rfl rfl .no (q := 4) rfl (s_fa rfl fo_97_1 ⟨⟨rfl, rfl⟩, ?_⟩)
              refine d_tc rfl rfl rfl .no (q := 5) rfl (s_ld rfl (by repeat (first | exact gs_same _ _ _ | exact hc9 | refine (gs_ne (by omega) _).trans ?_)) ag_65 (by first | exact rfl | exact hc9) ⟨clash_nil, ?_⟩)
              refine d_op rfl rfl .no (q := 7) rfl (s_mv rfl ⟨⟨rfl, rfl⟩, ?_⟩)
              first | refine d_op rfl rfl .no (q := 8) rfl (s_fa0 rfl fo_97_1 ⟨⟨rfl, rfl⟩, ?_⟩) | refine d_op rfl rfl .no (q := 8) rfl (s_fa rfl fo_97_1 ⟨⟨rfl, rfl⟩, ?_⟩)
              refine d_tc rfl rfl rfl .no (q := 9) rfl (s_ld rfl (by repeat (first | exact gs_same _ _ _ | exact hc9 | refine (gs_ne (by omega) _).trans ?_)) ag_65 (by first | exact rfl | exact hc9) ⟨clash_rd rfl, ?_⟩)
              refine d_call rfl .no rfl rfl rfl (call_rd rfl) ?_
              refine C.use (log_add_no H9.lg hv9 (by omega) hm) fun v g6 n6 hw6 hn6 hq => ?_
              obtain ⟨rfl, k6⟩ := hq
              refine ⟨?_, ?_⟩
              · have hc6 := k6.lt (by omega) hc9
                exact ⟨⟨hc6.trans hc9.symm, trivial⟩, trivial, trivial⟩
              have hc6 := k6.lt (by omega) hc9
              have H6 := H9.kp0 (n'' := n6) (k6.dn (by omega)) hwg9 (by omega)
              refine d_call rfl .no rfl rfl rfl call_nil ?_
              refine C.use (ref_add_no H6.rf (hv9.kp0 (k6.dn (by omega)) hwg9) (by omega) hm) fun v g7 n7 hw7 hn7 hq => ?_
              obtain ⟨rfl, k7⟩ := hq
              refine ⟨kept_nil, ?_⟩
              have hc7 := k7.lt (by omega) hc6
              have H7 := H6.kp0 (n'' := n7) (k7.dn (by omega)) hw6 (by omega)
              refine d_op rfl rfl .no (q := 11) rfl (s_bin rfl rfl (bi_d un_4 rfl) ⟨⟨rfl, rfl⟩, ?_⟩)
              refine d_nil ?_
              repeat (first | refine w_seq ?_ | refine w_blk ?_ | refine z_seq ?_ | refine z_blk ?_ | refine w_skip ?_)
              refine w_no rfl (rfl) ?_
              repeat (first | refine w_seq ?_ | refine w_blk ?_ | refine z_seq ?_ | refine z_blk ?_ | refine w_skip ?_)
              exact z_met () ⟨rfl, rfl, rfl, rfl, rfl, rfl, trivial⟩ ⟨by omega, hc7, L, sl, sr, { H7 with nn := (by have := H7.nn; omega), srl := (fun x hx => by have := H7.srl x hx; omega), len := (by have := H7.len; omega) }⟩
          · repeat (first | refine w_seq ?_ | refine w_blk ?_ | refine z_seq ?_ | refine z_blk ?_ | refine w_skip ?_)
            refine w_no rfl (beq_eq_false_iff_ne.2 hk) ?_
            have hln := H.len
            repeat (first | refine w_seq ?_ | refine w_blk ?_ | refine z_seq ?_ | refine z_blk ?_ | refine w_skip ?_)
            refine w_reg 4 rfl rfl (j' := 7) ?_
            refine n_op .no (q := 3) rfl (s_mv rfl ?_)
            first | refine n_op .no (q := 4) rfl (s_fa0 rfl fo_97_2 ?_) | refine n_op .no (q := 4) rfl (s_fa rfl fo_97_2 ?_)
            refine n_op .no (q := 5) rfl (s_ld rfl (by repeat (first | exact gs_same _ _ _ | exact hc9 | refine (gs_ne (by omega) _).trans ?_)) ag_2 (by first | exact rfl | exact hc9) ?_)
            refine n_call .no rfl rfl rfl ?_
            refine C.use (log_cut H9.lg (by omega)) fun v g6 n6 hw6 hn6 hq => ?_
            obtain ⟨sl', hA6, hs6, k6⟩ := hq
            have hc6 : g6 q = some (.cells [.int .i64 op.kind, .slice aw fs.length cw, .int .i64 op.rev] 0 false) := k6 q _ (by omega) hc9 fun h => by
              rcases h.1 with e | e
              · omega
              · have := hsl9 q e; omega
            have hR6 : RefAt g6 lr sr L := H9.rf.kp (k6.dn (by omega)) hwg9 (FL.nob _ _) (fun o hf => hf.1.elim (fun e => by omega) (fun e => hnlr e)) (fun x o hx _ hf => hf.1.elim (fun e => H9.nel (by rw [hx, e])) (fun e => H9.sep x e hx))
            refine n_nil ?_
            repeat (first | refine w_seq ?_ | refine w_blk ?_ | refine z_seq ?_ | refine z_blk ?_ | refine w_skip ?_)
            refine w_reg 4 rfl rfl (j' := 4) ?_
            refine n_op .no (q := 0) rfl (s_mv rfl ?_)
            first | refine n_op .no (q := 1) rfl (s_fa0 rfl fo_97_2 ?_) | refine n_op .no (q := 1) rfl (s_fa rfl fo_97_2 ?_)
            refine n_op .no (q := 2) rfl (s_ld rfl (by repeat (first | exact gs_same _ _ _ | exact hc6 | refine (gs_ne (by omega) _).trans ?_)) ag_2 (by first | exact rfl | exact hc6) ?_)
            refine n_call .no rfl rfl rfl ?_
            refine C.use (ref_cut hR6 H9.tp) fun v g7 n7 hw7 hn7 hq => ?_
            obtain ⟨rfl, sr', hR7, hs7, k7⟩ := hq
            have hc7 := k7 q _ (by omega) hc6 fun h => by have := h.1; omega
            have hnn9 := H9.nn
            have hnl6 : vname sl' ≠ some lr := hA6.evs.nv hR6.cell (by decide)
            have hcl : (L.cut op.rev).evs.length ≤ L.evs.length := List.length_filter_le _ _
            refine n_nil ?_
            repeat (first | refine w_seq ?_ | refine w_blk ?_ | refine z_seq ?_ | refine z_blk ?_ | refine w_skip ?_)
            refine z_met () ⟨rfl, rfl, rfl, rfl, rfl, rfl, trivial⟩ ⟨by omega, hc7, L.cut op.rev, sl', sr', ⟨by omega, ?_, ?_, hR7, H9.tp.cut _, H9.most, ?_, ?_, ?_, by omega⟩⟩
            · intro x o hx ho hf
              refine k7 x o (by omega) (k6 x o (by omega) (H9.kp x o hx ho hf) fun h => ?_) fun h => ?_
              · rcases h.1 with e | e
                · omega
                · have := H9.lg.evs.from_ x e; omega
              · have := h.1; omega
            · exact hA6.kp (F := FR lr) (n := n6) (k7.dn (by omega)) hw6 (fun x cl ro _ h => h.2 rfl) (fun o h => by have := h.1; omega) fun x o hx _ h => hnl6 (by rw [hx, h.1])
            · intro x hx e
              exact H9.sep x (by rw [← hs6]; exact hx) (by rw [← hs7]; exact e)
            · intro e
              exact H9.nel (by rw [← hs7]; exact e)
            · intro x hx
              have := H9.srl x (by rw [← hs7]; exact hx)
              omega
        rintro _ f gA nA hwA ⟨hnA, hcA, L2, sl2, sr2, HA⟩
        have hcr := HA.rf.cell
        have hlrA := hwA _ _ hcr
        have hlnA := HA.len
        repeat (first | refine w_seq ?_ | refine w_blk ?_ | refine z_seq ?_ | refine z_blk ?_ | refine w_skip ?_)
        refine w_drw (T6 16 15) [(0, []), (2, []), (3, []), (4, []), (5, []), (1, [5]), (6, []), (7, []), (8, []), (10, []), (11, []), (12, []), (13, []), (9, [13]), (14, []), (15, [])] 16 (by kernel_rfl) rfl rfl (j' := 16) ?_
        refine d_op rfl rfl .no (q := 0) rfl (s_mv rfl ⟨⟨rfl, rfl⟩, ?_⟩)
        refine d_op rfl rfl .no (q := 2) rfl (s_mv rfl ⟨⟨rfl, rfl⟩, ?_⟩)
        refine d_op rfl rfl .no (q := 3) rfl (s_nil rfl ⟨⟨rfl, rfl⟩, ?_⟩)
        first | refine d_op rfl rfl .no (q := 4) rfl (s_fa0 rfl fo_100_2 ⟨⟨rfl, rfl⟩, ?_⟩) | refine d_op rfl rfl .no (q := 4) rfl (s_fa rfl fo_100_2 ⟨⟨rfl, rfl⟩, ?_⟩)
        refine d_tc rfl rfl rfl .no (q := 5) rfl (s_ld rfl (by repeat (first | exact gs_same _ _ _ | exact hcr | refine (gs_ne (by omega) _).trans ?_)) ag_2 (by first | exact rfl | exact hcr) ⟨clash_nil, ?_⟩)
        refine d_call rfl .no rfl rfl rfl (call_rd rfl) ?_
        refine C.use (log_base HA.lg) fun v g11 n11 hw11 hn11 hq => ?_
        obtain ⟨rfl, k11⟩ := hq
        refine ⟨?_, ?_⟩
        · exact ⟨⟨kept1 k11 (by omega) hcr, trivial⟩, trivial⟩
        have H11 := HA.kp0 (n'' := n11) (k11.dn (by omega)) hwA (by omega)
        have hcr11 := H11.rf.cell
        have hc11 := k11.lt (by omega) hcA
        refine d_op rfl rfl .no (q := 6) rfl (s_bin rfl rfl rfl ⟨⟨rfl, rfl⟩, ?_⟩)
        refine d_op rfl rfl .no (q := 7) rfl (s_mv rfl ⟨⟨rfl, rfl⟩, ?_⟩)
        refine d_op rfl rfl (.yes rfl rfl (bne_self_eq_false _)) (q := 8) rfl (s_mv rfl ⟨⟨rfl, rfl⟩, ?_⟩)
        refine d_op rfl rfl (.yes rfl rfl (bne_self_eq_false _)) (q := 10) rfl (s_mv rfl ⟨⟨rfl, rfl⟩, ?_⟩)
        refine d_op rfl rfl (.yes rfl rfl (bne_self_eq_false _)) (q := 11) rfl (s_nil rfl ⟨⟨rfl, rfl⟩, ?_⟩)
        first | refine d_op rfl rfl (.yes rfl rfl (bne_self_eq_false _)) (q := 12) rfl (s_fa0 rfl fo_100_3 ⟨⟨rfl, rfl⟩, ?_⟩) | refine d_op rfl rfl (.yes rfl rfl (bne_self_eq_false _)) (q := 12) rfl (s_fa rfl fo_100_3 ⟨⟨rfl, rfl⟩, ?_⟩)
        refine d_tc rfl rfl rfl (.yes rfl rfl (bne_self_eq_false _)) (q := 13) rfl (s_ld rfl (by repeat (first | exact gs_same _ _ _ | exact hcr11 | refine (gs_ne (by omega) _).trans ?_)) ag_2 (by first | exact rfl | exact hcr11) ⟨clash_nil, ?_⟩)
        refine d_call rfl (.yes rfl rfl (bne_self_eq_false _)) rfl rfl rfl (call_rd rfl) ?_
        refine C.use (log_last H11.lg) fun v g12 n12 hw12 hn12 hq => ?_
        obtain ⟨rfl, k12⟩ := hq
        refine ⟨?_, ?_⟩
        · exact ⟨⟨kept1 k12 (by omega) hcr11, trivial⟩, trivial, trivial⟩
        have H12 := H11.kp0 (n'' := n12) (k12.dn (by omega)) hw11 (by omega)
        have hcr12 := H12.rf.cell
        have hc12 := k12.lt (by omega) hc11
        refine d_op rfl rfl (.yes rfl rfl (bne_self_eq_false _)) (q := 14) rfl (s_bin rfl rfl rfl ⟨⟨rfl, rfl⟩, ?_⟩)
        refine d_op rfl rfl .no (q := 15) rfl (s_pf rfl (bne_self_eq_false _) rfl ⟨⟨rfl, rfl⟩, ?_⟩)
        refine d_nil ?_
        repeat (first | refine w_seq ?_ | refine w_blk ?_ | refine z_seq ?_ | refine z_blk ?_ | refine w_skip ?_)
        refine w_no rfl (bne_self_eq_false _) ?_
        have hqlr : q ≠ lr := by omega
        repeat (first | refine w_seq ?_ | refine w_blk ?_ | refine z_seq ?_ | refine z_blk ?_ | refine w_skip ?_)
        refine w_drw (T6 16 17) [(0, []), (1, []), (2, []), (3, [2]), (4, [2]), (5, [2]), (6, [2]), (7, [2, 6]), (8, [2, 6]), (9, [2, 6]), (10, [2, 6]), (13, [2, 6, 10]), (11, []), (12, [])] 14 (by kernel_rfl) rfl rfl (j' := 14) ?_
        refine d_op rfl rfl .no (q := 0) rfl (s_mv rfl ⟨⟨rfl, rfl⟩, ?_⟩)
        first | refine d_op rfl rfl .no (q := 1) rfl (s_fa0 rfl fo_97_2 ⟨⟨rfl, rfl⟩, ?_⟩) | refine d_op rfl rfl .no (q := 1) rfl (s_fa rfl fo_97_2 ⟨⟨rfl, rfl⟩, ?_⟩)
        refine d_tc rfl rfl rfl .no (q := 2) rfl (s_ld rfl (by repeat (first | exact gs_same _ _ _ | exact hc12 | exact hcr12 | refine (gs_ne (by omega) _).trans ?_)) ag_2 (by first | exact rfl | exact hc12 | exact hcr12) ⟨clash_nil, ?_⟩)
        refine d_op rfl rfl .no (q := 3) rfl (s_mv rfl ⟨⟨rfl, rfl⟩, ?_⟩)
        refine d_op rfl rfl .no (q := 4) rfl (s_nil rfl ⟨⟨rfl, rfl⟩, ?_⟩)
        first | refine d_op rfl rfl .no (q := 5) rfl (s_fa0 rfl fo_100_2 ⟨⟨rfl, rfl⟩, ?_⟩) | refine d_op rfl rfl .no (q := 5) rfl (s_fa rfl fo_100_2 ⟨⟨rfl, rfl⟩, ?_⟩)
        refine d_tc rfl rfl rfl .no (q := 6) rfl (s_ld rfl (by repeat (first | exact gs_same _ _ _ | exact hc12 | exact hcr12 | refine (gs_ne (by omega) _).trans ?_)) ag_2 (by first | exact rfl | exact hc12 | exact hcr12) ⟨clash_rd rfl, ?_⟩)
        refine d_op rfl rfl .no (q := 7) rfl (s_mv rfl ⟨⟨rfl, rfl⟩, ?_⟩)
        refine d_op rfl rfl .no (q := 8) rfl (s_nil rfl ⟨⟨rfl, rfl⟩, ?_⟩)
        first | refine d_op rfl rfl .no (q := 9) rfl (s_fa0 rfl fo_100_3 ⟨⟨rfl, rfl⟩, ?_⟩) | refine d_op rfl rfl .no (q := 9) rfl (s_fa rfl fo_100_3 ⟨⟨rfl, rfl⟩, ?_⟩)
        refine d_tc rfl rfl rfl .no (q := 10) rfl (s_ld rfl (by repeat (first | exact gs_same _ _ _ | exact hc12 | exact hcr12 | refine (gs_ne (by omega) _).trans ?_)) ag_2 (by first | exact rfl | exact hc12 | exact hcr12) ⟨clash_rd rfl, ?_⟩)
        refine d_op rfl rfl .no (q := 13) rfl (s_mv rfl ⟨⟨rfl, rfl⟩, ?_⟩)
        refine d_al rfl rfl rfl .no (q := 11) rfl (s_bs el_91 ez_91 rfl rfl rfl ?_)
        refine d_tc rfl rfl rfl .no (q := 12) rfl (s_len rfl rfl un_91 rfl ⟨clash_nil, ?_⟩)
        refine d_nil ?_
        repeat (first | refine w_seq ?_ | refine w_blk ?_ | refine z_seq ?_ | refine z_blk ?_ | refine w_skip ?_)
        refine w_gen fun g13 n13 hg13 hn13 hwg13 => ?_
        have k13 : K0 g12 n12 g13 := by rw [hg13]; exact (by repeat (first | exact Kp.refl _ _ _ | refine Kp.new ?_ (by omega) _))
        have hrow : g13 (n12 + 11) = some (.cells [.int .i64 from0, .int .i64 op.rev, .int .i64 L2.base, .int .i64 L2.last] 1 false) := by rw [hg13]; exact gs_same _ _ _
        have H13 := H12.kp0 (n'' := n13) k13 hw12 (by omega)
        have hrr : n12 + 11 < n13 := by omega
        clear hg13
        generalize n12 + 11 = rr at *
        refine w_loop (β := Nat) (fun j => [(1, .slice (some ⟨lx, ox, none⟩) os.length c), (2, .int .i64 from0), (8, .pointer (some ⟨l, 0, none⟩)), (9, .pointer (some ⟨lr, 0, none⟩)), (10, .int .i64 (i : Int)), (94, .slice (some ⟨rr, 0, none⟩) 4 4), (95, .int .i64 ((4 : Nat) : Int)), (96, .int .i64 (j : Int))])
          (fun j g' n' => j ≤ 4 ∧ rr < n' ∧ AllI g1 n1 l lr (i + 1) L2 sl2 sr2 g' n' ∧ g' rr = some (.cells [.int .i64 from0, .int .i64 op.rev, .int .i64 L2.base, .int .i64 L2.last] 1 false)) (fun j => 4 - j) 0 ⟨rfl, rfl, rfl, rfl, rfl, rfl, rfl, rfl, trivial⟩
          ⟨by omega, by omega, H13, hrow⟩ ?_
        rintro j f g14 n14 hw14 ⟨hj, hr14, H14, hrow14⟩
        repeat (first | refine w_seq ?_ | refine w_blk ?_ | refine z_seq ?_ | refine z_blk ?_ | refine w_skip ?_)
        refine w_reg 1 rfl rfl (j' := 1) ?_
        refine n_op .no (q := 0) rfl (s_bin rfl rfl rfl ?_)
        refine n_nil ?_
        repeat (first | refine w_seq ?_ | refine w_blk ?_ | refine z_seq ?_ | refine z_blk ?_ | refine w_skip ?_)
        refine w_if rfl (fun hj2 => ?_) (fun hj2 => ?_)
        · have hj4 : j < 4 := by
            have : (j : Int) < ((4 : Nat) : Int) := of_decide_eq_true hj2
            omega
          obtain ⟨z, hz⟩ : ∃ z : Int, ([.int .i64 from0, .int .i64 op.rev, .int .i64 L2.base, .int .i64 L2.last] : List Value)[0 + j * 1]? = some (.int .i64 z) := by
            rcases j with _ | _ | _ | _ | j
            · exact ⟨_, rfl⟩
            · exact ⟨_, rfl⟩
            · exact ⟨_, rfl⟩
            · exact ⟨_, rfl⟩
            · omega
          repeat (first | refine w_seq ?_ | refine w_blk ?_ | refine z_seq ?_ | refine z_blk ?_ | refine w_skip ?_)
          refine w_reg 3 rfl rfl (j' := 4) ?_
          refine n_op .no (q := 1) rfl (s_ia rfl rfl el_91 (by first | assumption | omega) ?_)
          refine n_op .no (q := 2) rfl (s_ld rfl (by repeat (first | exact gs_same _ _ _ | exact hrow14 | exact hz | refine (gs_ne (by omega) _).trans ?_)) ag_2 (by first | exact rfl | exact hrow14 | exact hz) ?_)
          refine n_op .no (q := 3) rfl (s_as rfl ?_)
          refine n_nil ?_
          repeat (first | refine w_seq ?_ | refine w_blk ?_ | refine z_seq ?_ | refine z_blk ?_ | refine w_skip ?_)
          refine w_reg 8 rfl rfl (j' := 12) ?_
          refine n_op .no (q := 4) rfl (s_mv rfl ?_)
          refine n_op .no (q := 5) rfl (s_mv rfl ?_)
          refine n_call .no rfl rfl rfl ?_
          refine C.use (log_from (rev := z) H14.lg (by have := H14.len; omega)) fun v g15 n15 hw15 hn15 hq => ?_
          obtain ⟨v15, rfl, hE15, k15⟩ := hq
          obtain ⟨a15, c15, rfl⟩ := hE15.lenE
          have H15 := H14.kp0 (n'' := n15) (k15.dn (by omega)) hw14 (by omega)
          have hrow15 := k15.lt (by omega) hrow14
          refine n_op .no (q := 7) rfl (s_mv rfl ?_)
          refine n_op .no (q := 8) rfl (s_ext rfl rfl ?_)
          refine n_op .no (q := 9) rfl (s_ext rfl rfl ?_)
          refine n_op .no (q := 10) rfl (s_as rfl ?_)
          refine n_op .no (q := 11) rfl (s_as rfl ?_)
          refine n_nil ?_
          repeat (first | refine w_seq ?_ | refine w_blk ?_ | refine z_seq ?_ | refine z_blk ?_ | refine w_skip ?_)
          refine w_reg 8 rfl rfl (j' := 8) ?_
          refine n_op .no (q := 0) rfl (s_mv rfl ?_)
          refine n_op .no (q := 1) rfl (s_mv rfl ?_)
          refine n_call .no rfl rfl rfl ?_
          refine C.use (ref_from (rev := z) H15.rf (by have := H15.len; omega)) fun v g16 n16 hw16 hn16 hq => ?_
          obtain ⟨v16, rfl, hE16, hf16, k16⟩ := hq
          have H16 := H15.kp0 (n'' := n16) (k16.dn (by omega)) hw15 (by omega)
          have hrow16 := k16.lt (by omega) hrow15
          refine n_op .no (q := 3) rfl (s_mv rfl ?_)
          refine n_op .no (q := 4) rfl (s_ext rfl rfl ?_)
          refine n_op .no (q := 5) rfl (s_ext rfl rfl ?_)
          refine n_op .no (q := 6) rfl (s_as rfl ?_)
          refine n_op .no (q := 7) rfl (s_as rfl ?_)
          refine n_nil ?_
          repeat (first | refine w_seq ?_ | refine w_blk ?_ | refine z_seq ?_ | refine z_blk ?_ | refine w_skip ?_)
          refine w_reg 9 rfl rfl (j' := 9) ?_
          refine n_op .no (q := 0) rfl (s_mv rfl ?_)
          refine n_op .no (q := 1) rfl (s_mv rfl ?_)
          refine n_op .no (q := 2) rfl (s_bin rfl rfl rfl ?_)
          refine n_op .no (q := 3) rfl (s_mv rfl ?_)
          refine n_op (.yes rfl rfl (bne_self_eq_false _)) (q := 4) rfl (s_mv rfl ?_)
          refine n_op (.yes rfl rfl (bne_self_eq_false _)) (q := 5) rfl (s_mv rfl ?_)
          refine n_call (.yes rfl rfl (bne_self_eq_false _)) rfl rfl rfl ?_
          have hfl : (L2.from_ z).1.length < 2 ^ 40 := by
            have := H14.len
            have h2 : (L2.from_ z).1.length ≤ L2.evs.length := by
              unfold Log.from_
              split
              · exact Nat.zero_le _
              · split
                · exact Nat.zero_le _
                · exact List.length_filter_le _ _
            omega
          refine C.use (eqEvents_c ((hE15.rd).kp0 (k16.dn (by omega)) hw15) hE16.rd hfl) fun v g17 n17 hw17 hn17 hq => ?_
          obtain ⟨⟨rr2, rfl, hrr2⟩, k17⟩ := hq
          obtain rfl : rr2 = true := hrr2.2 rfl
          have H17 := H16.kp0 (n'' := n17) (k17.dn (by omega)) hw16 (by omega)
          have hrow17 := k17.lt (by omega) hrow16
          refine n_op (.yes rfl rfl (bne_self_eq_false _)) (q := 7) rfl (s_not rfl ?_)
          refine n_op .no (q := 8) rfl (s_pf rfl (bne_self_eq_false _) rfl ?_)
          refine n_nil ?_
          repeat (first | refine w_seq ?_ | refine w_blk ?_ | refine z_seq ?_ | refine z_blk ?_ | refine w_skip ?_)
          refine w_no rfl (rfl) ?_
          repeat (first | refine w_seq ?_ | refine w_blk ?_ | refine z_seq ?_ | refine z_blk ?_ | refine w_skip ?_)
          repeat (first | refine w_seq ?_ | refine w_blk ?_ | refine z_seq ?_ | refine z_blk ?_ | refine w_skip ?_)
          refine w_reg 2 rfl rfl (j' := 2) ?_
          first | refine n_op .no (q := 0) rfl (s_bin rfl rfl (bi_inc (by omega)) ?_) | refine n_op .no (q := 0) rfl (s_bin rfl rfl (bi_add rfl (by omega) (by omega)) ?_)
          refine n_op .no (q := 1) rfl (s_mv rfl ?_)
          refine n_nil ?_
          exact z_round (j + 1) ⟨rfl, rfl, rfl, rfl, rfl, rfl, rfl, rfl, trivial⟩ ⟨by omega, by omega, { H17 with nn := (by have := H17.nn; omega), srl := (fun x hx => by have := H17.srl x hx; omega) }, hrow17⟩ (by omega)
        refine w_exit rfl ?_
        repeat (first | refine w_seq ?_ | refine w_blk ?_ | refine z_seq ?_ | refine z_blk ?_ | refine w_skip ?_)
        repeat (first | refine w_seq ?_ | refine w_blk ?_ | refine z_seq ?_ | refine z_blk ?_ | refine w_skip ?_)
        refine w_reg 3 rfl rfl (j' := 4) ?_
        refine n_op .no (q := 1) rfl (s_mv rfl ?_)
        first | refine n_op .no (q := 2) rfl (s_bin rfl rfl (bi_inc (by omega)) ?_) | refine n_op .no (q := 2) rfl (s_bin rfl rfl (bi_add rfl (by omega) (by omega)) ?_)
        refine n_op .no (q := 3) rfl (s_as rfl ?_)
        refine n_nil ?_
        exact z_round (i + 1) ⟨rfl, rfl, rfl, rfl, rfl, trivial⟩ ⟨by omega, L2, sl2, sr2, { H14 with nn := (by have := H14.nn; omega), srl := (fun x hx => by have := H14.srl x hx; omega) }⟩ (by omega)
      · repeat (first | refine w_seq ?_ | refine w_blk ?_ | refine z_seq ?_ | refine z_blk ?_ | refine w_skip ?_)
        refine w_reg 8 rfl rfl (j' := 8) ?_
        refine n_op .no (q := 0) rfl (s_mv rfl ?_)
        refine n_op .no (q := 1) rfl (s_mv rfl ?_)
        refine n_op .no (q := 2) rfl (s_len rfl rfl un_94 rfl ?_)
        refine n_op .no (q := 3) rfl (s_bin rfl rfl rfl ?_)
        refine n_op .no (q := 4) rfl (s_mv rfl ?_)
        refine n_op (.yes rfl rfl (decide_eq_true (by omega))) (q := 5) rfl (s_mv rfl ?_)
        refine n_op (.yes rfl rfl (decide_eq_true (by omega))) (q := 6) rfl (s_bin rfl rfl rfl ?_)
        refine n_op .no (q := 7) rfl (s_pt rfl (decide_eq_true (by omega)) rfl ?_)
        refine n_nil ?_
        repeat (first | refine w_seq ?_ | refine w_blk ?_ | refine z_seq ?_ | refine z_blk ?_ | refine w_skip ?_)
        refine w_no rfl (decide_eq_false (by omega)) ?_
        refine w_exit rfl ?_
        exact z_met () trivial trivial
    · repeat (first | refine w_seq ?_ | refine w_blk ?_ | refine z_seq ?_ | refine z_blk ?_ | refine w_skip ?_)
      refine w_reg 8 rfl rfl (j' := 8) ?_
      refine n_op .no (q := 0) rfl (s_mv rfl ?_)
      refine n_op .no (q := 1) rfl (s_mv rfl ?_)
      refine n_op .no (q := 2) rfl (s_len rfl rfl un_94 rfl ?_)
      refine n_op .no (q := 3) rfl (s_bin rfl rfl rfl ?_)
      refine n_op .no (q := 4) rfl (s_mv rfl ?_)
      refine n_sk rfl rfl (decide_eq_false (by omega)) ?_
      refine n_sk rfl rfl (decide_eq_false (by omega)) ?_
      refine n_op .no (q := 7) rfl (s_pf rfl (decide_eq_false (by omega)) rfl ?_)
      refine n_nil ?_
      repeat (first | refine w_seq ?_ | refine w_blk ?_ | refine z_seq ?_ | refine z_blk ?_ | refine w_skip ?_)
      refine w_no rfl (rfl) ?_
      refine w_exit rfl ?_
      exact z_met () trivial trivial
  rintro _ f g5 n5 hw5 _
  repeat (first | refine w_seq ?_ | refine w_blk ?_ | refine z_seq ?_ | refine z_blk ?_ | refine w_skip ?_)
  refine w_reg 1 rfl rfl (j' := 1) ?_
  refine n_op .no (q := 0) rfl (s_as rfl ?_)
  refine n_nil ?_
  repeat (first | refine w_ret ?_ | refine w_seq ?_ | refine w_blk ?_ | refine z_seq ?_ | refine z_blk ?_ | refine w_skip ?_)
  refine z_r1 rfl rfl ?_
  rfl

end Go.Proofs.YtehmailaabjdjaaGreat
