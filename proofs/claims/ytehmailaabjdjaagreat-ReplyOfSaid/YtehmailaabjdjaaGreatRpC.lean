/-
  ReplyOf answers true. No condition but that begun does.
-/
import Derived.Test.YtehmailaabjdjaaGreatRpB
import Derived.Test.YtehmailaabjdjaaGreatRsX
open Go.Proofs
namespace Go.Proofs.YtehmailaabjdjaaGreat
set_option linter.unusedSimpArgs false
set_option linter.unusedVariables false
set_option maxRecDepth 100000

def CalsRd (g : Gm) (v : Value) (xs : List Cal) : Prop := ∃ cs, SlC g 7 v xs.length cs ∧ Rows 7 (fun c x => ∃ gv wv, c = calC x gv wv ∧ CalAt g x gv wv) cs xs
theorem CalsRd.len {g : Gm} {v : Value} {xs : List Cal} (h : CalsRd g v xs) : ∃ a c, v = .slice a xs.length c := by
 obtain ⟨cs, h1, _⟩ := h
 obtain ⟨a, c, h, _⟩ := h1.len
 exact ⟨a, c, h⟩
theorem CalsRd.at {g : Gm} {v : Value} {xs : List Cal} {i : Nat} (h : CalsRd g v xs) (hi : i < xs.length) : ∃ l o c cl ro gv wv, v = .slice (some ⟨l, o, none⟩) xs.length c ∧ g l = some (.cells cl 7 ro) ∧ o + i * 7 + 7 ≤ cl.length ∧ (cl.drop (o + i * 7)).take 7 = calC xs[i] gv wv ∧ CalAt g xs[i] gv wv := by
 obtain ⟨cs, h1, h2⟩ := h
 obtain ⟨l, o, c, cl, ro, rfl, hc, h3, h4, h5⟩ := h1.pos (by omega)
 have h6 := h2.get hi
 rw [← take_part h5 (show i * 7 + 7 ≤ xs.length * 7 by omega)] at h6
 obtain ⟨gv, wv, h7, h8⟩ := h6
 exact ⟨l, o, c, cl, ro, gv, wv, rfl, h3, by omega, h7, h8⟩
def Cal.cutC (x : Cal) : Cal := { x with gs := x.gs.take 25, ws := x.ws.take 70 }

def Sto.rd (S : Sto) (t : Int) : Sto := { S with reads := t }
theorem puts_rd (t r : Int) : ∀ (ws : List Wr) (T : Sto), ws.foldl (Sto.put1 r) (T.rd t) = (ws.foldl (Sto.put1 r) T).rd t
 | [], T => rfl
 | w :: ws, T => puts_rd t r ws (T.put1 r w)
theorem txn_rd (S : Sto) (t : Int) (gs : List Gd) (ws : List Wr) : (S.rd t).txn gs ws = ((S.txn gs ws).1.rd t, (S.txn gs ws).2) := by
 have e : (S.rd t).can gs ws = S.can gs ws := rfl
 by_cases h : S.can gs ws = 0
 ·have h1 : S.txn gs ws = ({ ws.foldl (Sto.put1 (S.rev + 1)) { S with rev := S.rev + 1, writes := S.writes + 1 } with log := S.log.add (ws.map (evtW (S.rev + 1))) }, S.rev + 1, 0) := if_pos h
  have h2 : (S.rd t).txn gs ws = ({ ws.foldl (Sto.put1 (S.rev + 1)) (({ S with rev := S.rev + 1, writes := S.writes + 1 } : Sto).rd t) with log := S.log.add (ws.map (evtW (S.rev + 1))) }, S.rev + 1, 0) := if_pos h
  rw [h1, h2, puts_rd]
  rfl
 ·have h1 : S.txn gs ws = ({ S with writes := S.writes + 1 }, 0, S.can gs ws) := if_neg h
  have h2 : (S.rd t).txn gs ws = (({ S with writes := S.writes + 1 } : Sto).rd t, 0, S.can gs ws) := if_neg h
  rw [h1, h2]

theorem fromLen (L : Log) (r : Int) : (L.from_ r).1.length ≤ L.evs.length := by
 unfold Log.from_
 split
 ·simp
 ·split
  ·simp
  ·exact List.length_filter_le _ _
theorem Hist.aft {S : Sto} {all : List Evt} (h : Hist S all) (x : Cal) : ∃ all', Hist (S.aft x) all' := by
 by_cases hm : x.may
 ·by_cases hk : x.kind = 4
  ·rw [aft_txn hm hk]
   obtain ⟨es, hh, _⟩ := h.txn x.gs x.ws
   exact ⟨_, hh⟩
  ·rw [aft_read hm hk]; exact ⟨_, h.read⟩
 ·rw [aft_form hm]; exact ⟨_, h⟩

structure WantI (g1 : Gm) (n1 b s m1 m2 l r me lr q10 q11 : Nat) (S T : Sto) (sl : Value) (y : Cal) (A : Ans) (gv wv ev vv lv rsl : Value) (L : List SEnt) (g : Gm) (n : Nat) : Prop where
 k : K0 g1 n1 g
 c10 : g q10 = some (.cells (calC y gv wv) 0 false)
 cal : CalAt g y gv wv
 c11 : g q11 = some (.cells (ansC A ev vv) 0 false)
 en : EntsRd g ev A.ents
 evs : EvsRd g vv A.evs
 two : Two b s m1 m2 l r me lr S T sl lv rsl L g n
 ap : SlApart sl vv

section
variable {g1 g g' : Gm} {n1 n n' b s m1 m2 l r me lr q10 q11 : Nat} {S T : Sto} {sl gv wv ev vv lv rsl : Value} {y : Cal} {A : Ans} {L : List SEnt}
theorem wantI' (hk : K0 g1 n1 g) (c10 : g q10 = some (.cells (calC y gv wv) 0 false)) (cal : CalAt g y gv wv) (hT : Two b s m1 m2 l r me lr S T sl lv rsl L g n) (kA : Kp (FC q11) g n g') (hw : WF g n) (hn : n ≤ n') (h1 : n1 ≤ q11 ∧ n1 ≤ n) (h2 : q10 ≠ q11) (h3 : s ≠ q11 ∧ l ≠ q11 ∧ r ≠ q11 ∧ lr ≠ q11)
  (c11 : g' q11 = some (.cells (ansC A ev vv) 0 false)) (en : EntsRd g' ev A.ents) (evs : EvsRd g' vv A.evs) (ap : SlApart sl vv) : WantI g1 n1 b s m1 m2 l r me lr q10 q11 S T sl y A gv wv ev vv lv rsl L g' n' :=
 ⟨hk.hi kA h1.2 h1.1, kA.at hw c10 (fun hf => h2 hf.1), ⟨cal.gs.kk kA hw (FC.no3 _), cal.ws.kk kA hw (FC.no3 _) (FC.nob _)⟩, c11, en, evs, ⟨hT.st.fc kA hw h3.1 h3.2.1, hT.rs.fc kA hw h3.2.2.1 h3.2.2.2, hT.sep, fun x hx => Nat.lt_of_lt_of_le (hT.lt x hx) hn⟩, ap⟩
theorem wantI (hk : K0 g1 n1 g) (c10 : g q10 = some (.cells (calC y gv wv) 0 false)) (cal : CalAt g y gv wv) (hT : Two b s m1 m2 l r me lr S T sl lv rsl L g n) (kA : Kp (FC q11) g n g') (hw : WF g n) (hn : n ≤ n') (h1 : n1 ≤ q11 ∧ n1 ≤ n) (h2 : q10 ≠ q11) (h3 : s ≠ q11 ∧ l ≠ q11 ∧ r ≠ q11 ∧ lr ≠ q11)
  (c11 : g' q11 = some (.cells (ansC A ev vv) 0 false)) (en : EntsRd g ev A.ents) (evs : EvsRd g vv A.evs) (ap : SlApart sl vv) : WantI g1 n1 b s m1 m2 l r me lr q10 q11 S T sl y A gv wv ev vv lv rsl L g' n' :=
 wantI' hk c10 cal hT kA hw hn h1 h2 h3 c11 (en.kk kA hw (FC.no3 _) (FC.nob _)) (evs.kv kA hw (FC.nob _) (fun x c ro _ hf => by obtain ⟨_, c', q, e⟩ := hf; cases e)) ap
end

theorem replyOf_c (hB : BegunOk) {g : Gm} {n : Nat} {v w : Value} {xs : List SOp} {cs : List Cal} (h : SopsRd g v xs) (h' : CalsRd g w cs) : C 6 #[v, w] g n fun u g' n' => u = .bool true := by
 obtain ⟨a, c, rfl⟩ := h.len
 obtain ⟨a', c', rfl⟩ := h'.len
 refine c_in2 Tryz.func6 rfl Tryz.ntmps6 rfl fun hw => (Na (w_reg 1 rfl rfl (j' := 1) (nA rfl (n_nil (Nc (Na (w_reg 2 rfl rfl (j' := 3) (n_call .no rfl rfl rfl (C.use (hB _ _) fun v g1 n1 hw1 hn1 hq => ?_)))))))))
 obtain ⟨rfl, rfl⟩ := hq
 refine nA rfl (n_nil (Nc (Na (Na (w_reg 2 rfl rfl (j' := 2) (nM rfl (nO (s_not rfl (n_nil (Nc (w_no rfl (rfl) ?_)))))))))))
 have h1 : SopsRd g1 (.slice a xs.length c) xs := h
 have h1' : CalsRd g1 (.slice a' cs.length c') cs := h'
 refine Ne (Nc (Na (w_reg 4 rfl rfl (j' := 6) (n_call .no rfl rfl rfl (C.use (st_newB _ _) fun v g2 n2 hw2 hn2 hq => ?_)))))
 obtain ⟨s, m1, m2, l, rfl, hS2, hb2, k2⟩ := hq
 refine n_call .no rfl rfl rfl (C.use (rs_new _ _) fun v g3 n3 hw3 hn3 hq => ?_)
 obtain ⟨r, me, lr, rfl, hb3, hR3, k3⟩ := hq
 refine nA rfl (nA rfl (n_nil ?_))
 have hal2 := hS2.alive hw2
 have ha : Apt s m1 m2 l r me lr := ⟨by omega, by omega⟩
 have hT3 : Two n1 s m1 m2 l r me lr Sto.new Sto.new (.slice none 0 0) (.slice none 0 0) (.slice none 0 0) [] g3 n3 := ⟨(hS2.kp0 (k3.dn (by omega)) hw2).up (by omega), hR3, (fun x hx => by cases hx), (fun x hx => by cases hx)⟩
 have hq : n1 ≤ s ∧ n1 ≤ m1 ∧ n1 ≤ m2 ∧ n1 ≤ l := by omega
 have hqr : n1 ≤ r ∧ n1 ≤ me ∧ n1 ≤ lr := by omega
 have w3 : K0 g1 n1 g3 := (k2.dn (m := n1) (by omega)).trans0 (k3.dn (m := n1) (by omega)) (Nat.le_refl _)
 clear k2 k3 hS2 hR3
 refine Nc (Na (Na (w_reg 1 rfl rfl (j' := 1) (nA rfl (n_nil ?_)))))
 refine z_seq ?_
 refine z_meet (β := Unit) (fun _ => [(0, .slice a xs.length c), (1, .slice a' cs.length c'), (6, .pointer (some ⟨s, 0, none⟩)), (7, .pointer (some ⟨r, 0, none⟩))])
  (fun _ g' n' => n3 ≤ n' ∧ K0 g1 n1 g' ∧ ∃ S sl lv rsl L all, S.Inv 30 ∧ Hist S all ∧ Two n1 s m1 m2 l r me lr S S sl lv rsl L g' n') ?_ ?_
 ·repeat first | refine Na ?_ | refine Nb ?_ | refine Nc ?_ | refine Nd ?_ | refine Ne ?_
  refine w_loop (β := Nat) (fun i => [(0, .slice a xs.length c), (1, .slice a' cs.length c'), (6, .pointer (some ⟨s, 0, none⟩)), (7, .pointer (some ⟨r, 0, none⟩)), (8, .int .i64 (i : Int))])
   (fun i g' n' => i ≤ xs.length ∧ i ≤ 15 ∧ n3 ≤ n' ∧ K0 g1 n1 g' ∧ ∃ S sl lv rsl L all, S.Inv i ∧ Hist S all ∧ Two n1 s m1 m2 l r me lr S S sl lv rsl L g' n') (fun i => 15 - i) 0 ⟨rfl, rfl, rfl, rfl, rfl, trivial⟩
   ⟨by simp, by simp, by omega, w3, _, _, _, _, _, _, Sto.Inv.new, Hist.new, hT3.up (by omega)⟩ ?_
  rintro i f gL nL hwL ⟨hi, hi15, hnL, wL, S, sl, lv, rsl, L, all, hinv, hhist, hT⟩
  by_cases e1 : i < xs.length
  rotate_left
  ·repeat first | refine Na ?_ | refine Nb ?_ | refine Nc ?_ | refine Nd ?_ | refine Ne ?_
   refine w_reg 8 rfl rfl (j' := 8) (nM rfl (nM rfl (nO (s_len rfl rfl un_44 rfl (nO (s_bin rfl rfl rfl (nM rfl (n_sk rfl rfl (decide_eq_false (by omega)) (n_sk rfl rfl (decide_eq_false (by omega)) (nO (s_pf rfl (decide_eq_false (by omega)) rfl (n_nil (Nc (w_no rfl (rfl) ?_))))))))))))))
   refine w_exit rfl ?_
   exact z_met () ⟨rfl, rfl, rfl, rfl, trivial⟩ ⟨by omega, wL, _, _, _, _, _, _, hinv.up (by omega), hhist, hT.up (by omega)⟩
  by_cases e2 : i < 15
  rotate_left
  ·repeat first | refine Na ?_ | refine Nb ?_ | refine Nc ?_ | refine Nd ?_ | refine Ne ?_
   refine w_reg 8 rfl rfl (j' := 8) (nM rfl (nM rfl (nO (s_len rfl rfl un_44 rfl (nO (s_bin rfl rfl rfl (nM rfl (nG rfl rfl (decide_eq_true (by omega)) rfl (nY rfl rfl (decide_eq_true (by omega)) (s_bin rfl rfl rfl (nO (s_pt rfl (decide_eq_true (by omega)) rfl (n_nil (Nc (w_no rfl (decide_eq_false (by omega)) ?_)))))))))))))))
   refine w_exit rfl ?_
   exact z_met () ⟨rfl, rfl, rfl, rfl, trivial⟩ ⟨by omega, wL, _, _, _, _, _, _, hinv.up (by omega), hhist, hT.up (by omega)⟩
  repeat first | refine Na ?_ | refine Nb ?_ | refine Nc ?_ | refine Nd ?_ | refine Ne ?_
  refine w_reg 8 rfl rfl (j' := 8) (nM rfl (nM rfl (nO (s_len rfl rfl un_44 rfl (nO (s_bin rfl rfl rfl (nM rfl (nG rfl rfl (decide_eq_true (by omega)) rfl (nY rfl rfl (decide_eq_true (by omega)) (s_bin rfl rfl rfl (nO (s_pt rfl (decide_eq_true (by omega)) rfl (n_nil (Nc (w_yes rfl (decide_eq_true (by omega)) ?_)))))))))))))))
  obtain ⟨l3, o3, c3, cl3, ro3, gv3, wv3, x1, x20, x3, x4, x5, x6, x70, x80⟩ := h1.at e1
  cases x1
  generalize xs[i] = op at *
  have x2 := wL.at0 hw1 x20
  have x7 := x70.kp0 wL hw1
  have x8 := x80.kp0 wL hw1
  refine Ne (Nc (Na (Nb (Na (w_reg 8 rfl rfl (j' := 16) (nM rfl (nM rfl (nM rfl (nO (s_ia rfl rfl el_44 (by first | assumption | omega) (nO (s_fa rfl fo_47_1 (nO (sLa rfl ag_42 sz_42 ?_))))))))))))))
  refine n_call .no rfl rfl rfl (C.use (cut_c x7 x8) fun v g4 n4 hw4 hn4 hq => ?_)
  obtain ⟨v4, w4, rfl, hg4, hw4', k4⟩ := hq
  have k4' := k4.dn (m := nL) (by omega)
  have hT4 := hT.kp0 (n' := n4) k4' hwL (by omega)
  refine n_call .no rfl rfl rfl (C.use (st_txn_i hT4.st hinv (by omega) (by omega) hg4 hw4') fun v g5 n5 hw5 hn5 hq => ?_)
  obtain ⟨sl5, hu5, hS5, hM5, k5⟩ := hq
  have hT5 := hT4.fs k5 hw4 ha hS5 hM5 (n' := n5) (by omega)
  have w5 : K0 g1 n1 g5 := (wL.trans0 (k4'.dn (m := n1) (by omega)) (Nat.le_refl _)).trans0 (hT4.lowS hq (Nat.le_refl _) (by omega) k5) (Nat.le_refl _)
  have x25 := w5.at0 hw1 x20
  have x75 := x70.kp0 w5 hw1
  have x85 := x80.kp0 w5 hw1
  refine n_nil (Nc (w_reg 8 rfl rfl (j' := 8) (nM rfl (nM rfl (nM rfl (nO (s_ia rfl rfl el_44 (by first | assumption | omega) (nO (s_fa rfl fo_47_1 (nO (sLa rfl ag_42 sz_42 ?_)))))))))))
  refine n_call .no rfl rfl rfl (C.use (cut_c x75 x85) fun v g6 n6 hw6 hn6 hq => ?_)
  obtain ⟨v6, w6, rfl, hg6, hw6', k6⟩ := hq
  have k6' := k6.dn (m := n5) (by omega)
  have hT6 := hT5.kp0 (n' := n6) k6' hw5 (by omega)
  have hLl := hT6.len hinv
  refine n_call .no rfl rfl rfl (C.use (rtxn_c hT6.rs hhist.top (by have := hinv.writes; omega) (by have := hinv.rev; omega) hinv.last (by have := hinv.len; omega) (by rw [hinv.most]; decide) (by omega) hg6 hw6' (by rw [List.length_take]; omega) (by rw [List.length_take]; omega) hT6.lt) fun v g7 n7 hw7 hn7 hq => ?_)
  obtain ⟨lv7, rsl7, L7, hu7, hR7, ⟨hM7, hlt7⟩, k7⟩ := hq
  have hT7 := hT6.fq k7 hw6 ha hR7 hM7 hlt7
  have w7 : K0 g1 n1 g7 := (w5.trans0 (k6'.dn (m := n1) (by omega)) (Nat.le_refl _)).trans0 (FQ.low hqr (by omega) k7) (Nat.le_refl _)
  obtain ⟨es, hh, _⟩ := hhist.txn (op.gs.take 25) (op.ws.take 70)
  refine n_nil ?_
  repeat first | refine Na ?_ | refine Nb ?_ | refine Nc ?_ | refine Nd ?_ | refine Ne ?_
  repeat first | refine Na ?_ | refine Nb ?_ | refine Nc ?_ | refine Nd ?_ | refine Ne ?_
  refine w_reg 3 rfl rfl (j' := 3) (nM rfl (nO (s_bin rfl rfl (by first | exact bi_inc (by omega) | exact bi_add rfl (by omega) (by omega)) ?_)))
  refine nA rfl (n_nil ?_)
  exact z_round (i + 1) ⟨rfl, rfl, rfl, rfl, rfl, trivial⟩ ⟨e1, e2, by omega, w7, _, _, _, _, _, _, hinv.txn, hh, hT7.up (by omega)⟩ (by omega)
 clear w3 hT3
 rintro _ f g8 n8 hw8 ⟨hn8, w8, S, sl, lv, rsl, L, all, hinv, hhist, hT⟩
 refine w_seq ?_
 repeat first | refine Na ?_ | refine Nb ?_ | refine Nc ?_ | refine Nd ?_ | refine Ne ?_
 refine w_reg 1 rfl rfl (j' := 1) (nA rfl (n_nil ?_))
 refine z_seq ?_
 refine z_meet (β := Unit) (fun _ => [(6, .pointer (some ⟨s, 0, none⟩)), (7, .pointer (some ⟨r, 0, none⟩))])
  (fun _ g' n' => n8 ≤ n' ∧ ∃ (S : Sto) (sl lv rsl : Value) (L : List SEnt) (t : Int), S.Inv 60 ∧ Two n1 s m1 m2 l r me lr S (S.rd t) sl lv rsl L g' n') ?_ ?_
 ·repeat first | refine Na ?_ | refine Nb ?_ | refine Nc ?_ | refine Nd ?_ | refine Ne ?_
  refine w_loop (β := Nat) (fun i => [(1, .slice a' cs.length c'), (6, .pointer (some ⟨s, 0, none⟩)), (7, .pointer (some ⟨r, 0, none⟩)), (9, .int .i64 (i : Int))])
   (fun i g' n' => i ≤ cs.length ∧ i ≤ 25 ∧ n8 ≤ n' ∧ K0 g1 n1 g' ∧ ∃ (S : Sto) (sl lv rsl : Value) (L : List SEnt) (all : List Evt) (t : Int), S.Inv (30 + i) ∧ Hist S all ∧ (0 ≤ t ∧ t ≤ 30 + i) ∧ Two n1 s m1 m2 l r me lr S (S.rd t) sl lv rsl L g' n') (fun i => 25 - i) 0 ⟨rfl, rfl, rfl, rfl, trivial⟩
   ⟨by simp, by simp, by omega, w8, S, sl, lv, rsl, L, all, S.reads, hinv, hhist, ⟨hinv.reads.1, by have := hinv.reads; omega⟩, hT.up (by omega)⟩ ?_
  clear hinv hhist hT w8
  rintro i f gL nL hwL ⟨hi, hi25, hnL, wL, S, sl, lv, rsl, L, all, t, hinv, hhist, ht, hT⟩
  by_cases e1 : i < cs.length
  rotate_left
  ·repeat first | refine Na ?_ | refine Nb ?_ | refine Nc ?_ | refine Nd ?_ | refine Ne ?_
   refine w_reg 8 rfl rfl (j' := 8) (nM rfl (nM rfl (nO (s_len rfl rfl un_62 rfl (nO (s_bin rfl rfl rfl (nM rfl (n_sk rfl rfl (decide_eq_false (by omega)) (n_sk rfl rfl (decide_eq_false (by omega)) (nO (s_pf rfl (decide_eq_false (by omega)) rfl (n_nil (Nc (w_no rfl (rfl) ?_))))))))))))))
   refine w_exit rfl ?_
   exact z_met () ⟨rfl, rfl, trivial⟩ ⟨by omega, _, _, _, _, _, _, hinv.up (by omega), hT.up (by omega)⟩
  by_cases e2 : i < 25
  rotate_left
  ·repeat first | refine Na ?_ | refine Nb ?_ | refine Nc ?_ | refine Nd ?_ | refine Ne ?_
   refine w_reg 8 rfl rfl (j' := 8) (nM rfl (nM rfl (nO (s_len rfl rfl un_62 rfl (nO (s_bin rfl rfl rfl (nM rfl (nG rfl rfl (decide_eq_true (by omega)) rfl (nY rfl rfl (decide_eq_true (by omega)) (s_bin rfl rfl rfl (nO (s_pt rfl (decide_eq_true (by omega)) rfl (n_nil (Nc (w_no rfl (decide_eq_false (by omega)) ?_)))))))))))))))
   refine w_exit rfl ?_
   exact z_met () ⟨rfl, rfl, trivial⟩ ⟨by omega, _, _, _, _, _, _, hinv.up (by omega), hT.up (by omega)⟩
  repeat first | refine Na ?_ | refine Nb ?_ | refine Nc ?_ | refine Nd ?_ | refine Ne ?_
  refine w_reg 8 rfl rfl (j' := 8) (nM rfl (nM rfl (nO (s_len rfl rfl un_62 rfl (nO (s_bin rfl rfl rfl (nM rfl (nG rfl rfl (decide_eq_true (by omega)) rfl (nY rfl rfl (decide_eq_true (by omega)) (s_bin rfl rfl rfl (nO (s_pt rfl (decide_eq_true (by omega)) rfl (n_nil (Nc (w_yes rfl (decide_eq_true (by omega)) ?_)))))))))))))))
  obtain ⟨lx, ox, cx, clx, rox, gv, wv, q1, q20, q3, q4, q50⟩ := h1'.at e1
  cases q1
  have q2 := wL.at0 hw1 q20
  have q5 := q50.kp0 wL hw1
  obtain ⟨b1, d1, rfl⟩ := q5.gs.len
  obtain ⟨b2, d2, rfl⟩ := q5.ws.len
  generalize cs[i] = x at *
  have halL := hT.st.alive hwL
  have hlrL := hT.rs.alive hwL
  refine Ne (Nc (Na (Nb (Na (w_reg 6 rfl rfl (j' := 14) (nM rfl (nM rfl (nO (s_ia rfl rfl el_62 (by first | assumption | omega) (nO (sLa rfl ag_55 sz_55 ?_)))))))))))
  refine n_op .no (q := 12) rfl (s_al zl_55 (nO (sSw rfl rfl sz_55 rfl rfl ?_)))
  refine n_nil (Nc (Na (w_reg 5 rfl rfl (j' := 19) (nO (s_fa0 rfl fo_55_5 (nO (sLf rfl ag_42 sz_42 ?_)))))))
  refine n_call .no rfl rfl rfl (C.use (cut_c (q5.gs.kp0 (n := nL) (by repeat (first | exact Kp.refl _ _ _ | refine Kp.new ?_ (by omega) _)) hwL) (q5.ws.kp0 (n := nL) (by repeat (first | exact Kp.refl _ _ _ | refine Kp.new ?_ (by omega) _)) hwL)) fun v g4 n4 hw4 hn4 hq => ?_)
  obtain ⟨gv', wv', rfl, hG, hW, k4⟩ := hq
  obtain ⟨ag, cg, rfl⟩ := hG.len
  obtain ⟨aw, cw, rfl⟩ := hW.len
  refine nO (s_fa0 rfl fo_55_5 (nO (s_sta rfl rfl sz_42 rfl (by repeat first | exact gS | refine Kp.lt k4 (by omega) ?_ | refine gN (by omega) ?_) (by first | exact Nat.le_of_ble_eq_true rfl | assumption | omega) rfl ?_)))
  refine n_nil ?_
  repeat first | refine Na ?_ | refine Nb ?_ | refine Nc ?_ | refine Nd ?_ | refine Ne ?_
  refine w_gen fun g5 n5 hg5 hn5 hwg5 => ?_
  have c4 : g4 (nL + 12) = some (.cells (calC x (.slice b1 x.gs.length d1) (.slice b2 x.ws.length d2)) 0 false) := k4.lt (by omega) (gs_same _ _ _)
  have c5 : g5 (nL + 12) = some (.cells (calC x.cutC (.slice ag x.cutC.gs.length cg) (.slice aw x.cutC.ws.length cw)) 0 false) := by rw [hg5]; exact gs_same _ _ _
  have kz : Kp (FC (nL + 12)) g4 n4 g5 := by rw [hg5]; exact Kp.set (Kp.refl _ _ _) (FC.of c4) _
  have k5 : K0 gL nL g5 := by rw [hg5]; exact Kp.new (Kp.trans0 (n' := nL) (by repeat (first | exact Kp.refl _ _ _ | refine Kp.new ?_ (by omega) _)) (k4.dn (by omega)) (by omega)) (by omega) _
  have hC : CalAt g5 x.cutC (.slice ag x.cutC.gs.length cg) (.slice aw x.cutC.ws.length cw) := ⟨hG.kk kz hw4 (FC.no3 _), hW.kk kz hw4 (FC.no3 _) (FC.nob _)⟩
  have hl1 : x.cutC.gs.length ≤ 25 := by show (x.gs.take 25).length ≤ 25; rw [List.length_take]; omega
  have hl2 : x.cutC.ws.length ≤ 70 := by show (x.ws.take 70).length ≤ 70; rw [List.length_take]; omega
  have hT5 := hT.kp0 (n' := n5) k5 hwL (by omega)
  have w5 : K0 g1 n1 g5 := wL.trans0 (k5.dn (m := n1) (by omega)) (Nat.le_refl _)
  have hq10 : nL + 12 < n5 := by omega
  generalize x.cutC = y at *
  obtain ⟨q10, hqq⟩ : ∃ q, q = nL + 12 := ⟨_, rfl⟩
  rw [← hqq] at c5 ⊢
  have hq10' : nL ≤ q10 ∧ q10 < n5 := by omega
  clear hg5 kz k4 hG hW c4 q4 q5 hT wL k5
  repeat first | refine Na ?_ | refine Nb ?_ | refine Nc ?_ | refine Nd ?_ | refine Ne ?_
  refine w_reg 9 rfl rfl (j' := 9) (nO (s_fa0 rfl fo_55_0 (nO (sL rfl ag_3 ?_))))
  refine nO (s_fa0 rfl fo_55_1 (nO (sL rfl ag_2 ?_)))
  refine nO (s_fa0 rfl fo_55_2 (nO (sL rfl ag_3 ?_)))
  refine nO (s_bld pl_67 zl_67 rfl rfl rfl (n_op .no (q := 7) rfl (s_al zl_67 (nO (sSw rfl rfl sz_67 rfl rfl ?_)))))
  refine n_nil ?_
  refine z_seq ?_
  refine w_seq ?_
  refine w_gen fun g6 n6 hg6 hn6 hwg6 => ?_
  have k6 : K0 g5 n5 g6 := by rw [hg6]; exact (by repeat (first | exact Kp.refl _ _ _ | refine Kp.new ?_ (by omega) _))
  obtain ⟨q11, hqq1⟩ : ∃ q, q = n5 + 7 := ⟨_, rfl⟩
  have c116 : g6 q11 = some (.cells (ansC ⟨y.from_, y.id, y.kind, 0, 0, [], []⟩ (.slice none 0 0) (.slice none 0 0)) 0 false) := by rw [hg6, hqq1]; exact gs_same _ _ _
  rw [← hqq1]
  have hT6 := hT5.kp0 (n' := n6) k6 hwg5 (by omega)
  have c6 := k6.at0 hwg5 c5
  have hC6 := hC.kp0 k6 hwg5
  have w6 : K0 g1 n1 g6 := w5.trans0 (k6.dn (m := n1) (by omega)) (Nat.le_refl _)
  have hq11 : q10 < q11 ∧ q11 < n6 := by omega
  have hal : s < q10 ∧ l < q10 ∧ r < q10 ∧ lr < q10 ∧ me < q10 ∧ m1 < q10 ∧ m2 < q10 := by omega
  clear hg6 hT5 c5 hC w5 k6
  have hn40 : y.gs.length < 2 ^ 40 ∧ y.ws.length < 2 ^ 40 := by omega
  have hLl := hT6.len (N := 30 + i) (by exact ⟨hinv.rev, ⟨ht.1, by have := ht.2; show t ≤ _; omega⟩, hinv.writes, hinv.last, hinv.most, hinv.len, hinv.nlen, hinv.now⟩)
  have hli : S.list = L := hT6.rs.rl.list
  refine z_meet (β := Unit) (fun _ => [(1, .slice (some ⟨lx, ox, none⟩) cs.length c'), (6, .pointer (some ⟨s, 0, none⟩)), (7, .pointer (some ⟨r, 0, none⟩)), (9, .int .i64 (i : Int)), (10, .pointer (some ⟨q10, 0, none⟩)), (11, .pointer (some ⟨q11, 0, none⟩))])
   (fun _ g' n' => n6 ≤ n' ∧ ∃ (gv wv ev vv lv rsl : Value) (L : List SEnt) (t' : Int), (0 ≤ t' ∧ t' ≤ 30 + i + 1) ∧ WantI g1 n1 n1 s m1 m2 l r me lr q10 q11 S ((S.aft y).rd t') sl y { S.ans y with rev := 0 } gv wv ev vv lv rsl L g' n') ?_ ?_
  ·repeat first | refine Na ?_ | refine Nb ?_ | refine Nc ?_ | refine Nd ?_ | refine Ne ?_
   refine w_reg 4 rfl rfl (j' := 4) (nO (sLf rfl ag_55 sz_55 ?_))
   refine n_call .no rfl rfl rfl (C.use (may37_c hC6 hn40) fun v g7 n7 hw7 hn7 hq => ?_)
   obtain ⟨⟨rb, rfl, hr⟩, k7⟩ := hq
   have k7' := k7.dn (m := n6) (by omega)
   have c107 := k7'.at0 hwg6 c6
   have c117 := k7'.at0 hwg6 c116
   have hC7 := hC6.kp0 k7' hwg6
   have hT7 := hT6.kp0 (n' := n7) k7' hwg6 (by omega)
   have w7 : K0 g1 n1 g7 := w6.trans0 (k7'.dn (m := n1) (by omega)) (Nat.le_refl _)
   clear c6 c116 hC6 hT6 k7 w6
   refine nO (s_not rfl (nA rfl (n_nil ?_)))
   by_cases hm : y.may
   rotate_left
   ·have : rb = false := by
     cases rb with
     | false => rfl
     | true => exact absurd (hr.1 rfl) hm
    subst this
    refine Nc (w_yes rfl (rfl) (w_reg 2 rfl rfl (j' := 2) (nO (s_fa0 rfl fo_67_3 (nO (sS rfl rfl sz_32 rfl rfl ?_))))))
    refine n_nil ?_
    repeat first | refine Na ?_ | refine Nb ?_ | refine Nc ?_ | refine Nd ?_ | refine Ne ?_
    refine z_gen fun gA hgA => ?_
    have kA : Kp (FC q11) g7 n7 gA := by rw [hgA]; exact Kp.set (by repeat (first | exact Kp.refl _ _ _ | refine Kp.new ?_ (by omega) _)) (FC.of c117) _
    refine z_met () ⟨rfl, rfl, rfl, rfl, rfl, rfl, trivial⟩ ⟨by omega, _, _, .slice none 0 0, .slice none 0 0, lv, rsl, L, t, ⟨ht.1, by omega⟩, wantI w7 c107 hC7 (by rw [aft_form hm]; exact hT7) kA hw7 (by omega) (by omega) (by omega) (by omega) ?_ ?_ ?_ (fun x hx => by cases hx)⟩
    ·rw [ans_form hm, hgA]; exact gs_same _ _ _
    ·rw [ans_form hm]; exact EntsRd.nil _
    ·rw [ans_form hm]; exact EvsRd.nil _
   obtain rfl : rb = true := hr.2 hm
   have hkk := ((may_flat y).1 hm).2.1
   refine Nc (w_no rfl (rfl) (Na (w_reg 4 rfl rfl (j' := 4) (nO (s_fa0 rfl fo_55_2 (nO (sL rfl ag_3 ?_)))))))
   refine nO (s_bin rfl rfl rfl (nA rfl (n_nil ?_)))
   by_cases d1 : y.kind = 1
   ·refine Nc (w_yes rfl (beq_iff_eq.2 d1) (Na (w_reg 10 rfl rfl (j' := 14) (nM rfl (nO (s_fa0 rfl fo_55_3 (nO (sL rfl ag_9 ?_))))))))
    refine n_call .no rfl rfl rfl (C.useG (rget_c (k := y.key) hT7.rs (show 0 ≤ t ∧ t < 4611686018427387904 by omega) (by omega)) fun v g9 n9 hw9 hn9 hx9 hq => ?_)
    obtain ⟨c9, e9, ok9, rfl, hE9, hf9, hR9, k9⟩ := hq
    obtain ⟨a9, p9, rfl, hB9, hl9⟩ := hE9
    have k9' := k9.dn (m := n7) (by omega)
    have c109 := k9'.at hw7 c107 (fun hf => by have := hf.1; omega)
    have c119 := k9'.at hw7 c117 (fun hf => by have := hf.1; omega)
    have hT9 := hT7.fcr (T' := S.rd (t + 1)) k9' hw7 ha hR9 (n' := n9) (by omega)
    have hT9' : Two n1 s m1 m2 l r me lr S ((S.aft y).rd (t + 1)) sl lv rsl L g9 n9 := by rw [aft_read hm (by omega)]; exact hT9
    have hC9 : CalAt g9 y _ _ := ⟨hC7.gs.kk k9' hw7 (FC.no3 _), hC7.ws.kk k9' hw7 (FC.no3 _) (FC.nob _)⟩
    have w9 : K0 g1 n1 g9 := w7.trans0 (StAt.lowC hqr.1 (by omega) k9') (Nat.le_refl _)
    have z9 : g9 (n7 + 11) = none := hx9 _ (by omega) (hw7.none (by omega))
    refine nM rfl (nO (s_ext rfl rfl (nO (s_ext rfl rfl (n_op .no (q := 11) rfl (s_al zl_28 (nO (sSw rfl rfl sz_28 rfl rfl ?_))))))))
    refine nA rfl (n_nil (Nc (Na (w_reg 1 rfl rfl (j' := 1) (nM rfl (n_nil ?_))))))
    rcases hf9 with ⟨hf, rfl⟩ | ⟨hf, rfl, rfl⟩
    ·have hA := ans_get (S := S) hm d1 hf
     refine Nc (w_yes rfl (rfl) (w_reg 4 rfl rfl (j' := 5) (nO (sLf rfl ag_28 sz_28 ?_))))
     refine n_op .no (q := 2) rfl (s_bs el_48 ez_48 rfl rfl rfl (nO (s_fa0 rfl fo_67_5 (nO (sS rfl rfl sz_48 rfl rfl ?_)))))
     refine n_nil ?_
     repeat first | refine Na ?_ | refine Nb ?_ | refine Nc ?_ | refine Nd ?_ | refine Ne ?_
     refine z_gen fun gA hgA => ?_
     have kA : Kp (FC q11) g9 n9 gA := by rw [hgA]; exact Kp.set (Kp.new (Kp.add (Kp.add (Kp.refl _ _ _) z9 _) z9 _) (by omega) _) (FC.of c119) _
     have hrA : gA (n9 + 2) = some (.cells (entC e9 (.slice a9 e9.val.length p9)) 3 false) := by rw [hgA]; exact (by repeat first | exact gS | refine gN (by omega) ?_)
     refine z_met () ⟨rfl, rfl, rfl, rfl, rfl, rfl, trivial⟩ ⟨by omega, _, _, .slice (some ⟨n9 + 2, 0, none⟩) 1 1, .slice none 0 0, lv, rsl, L, t + 1, by omega, wantI' w9 c109 hC9 hT9' kA hw9 (by omega) (by omega) (by omega) (by omega) ?_ ?_ ?_ (fun x hx => by cases hx)⟩
     ·rw [hA, hgA]; exact gs_same _ _ _
     ·rw [hA]; exact ents_one hrA (hB9.kp kA hw9 (FC.nob _)) hl9
     ·rw [hA]; exact EvsRd.nil _
    ·have hA := ans_none (S := S) hm d1 hf
     refine Nc (w_no rfl (rfl) (w_reg 2 rfl rfl (j' := 3) (nO (s_fa0 rfl fo_67_3 (nO (sS rfl rfl sz_32 rfl rfl ?_))))))
     refine n_nil ?_
     repeat first | refine Na ?_ | refine Nb ?_ | refine Nc ?_ | refine Nd ?_ | refine Ne ?_
     refine z_gen fun gA hgA => ?_
     have kA : Kp (FC q11) g9 n9 gA := by rw [hgA]; exact Kp.set (Kp.add (Kp.add (Kp.refl _ _ _) z9 _) z9 _) (FC.of c119) _
     refine z_met () ⟨rfl, rfl, rfl, rfl, rfl, rfl, trivial⟩ ⟨by omega, _, _, .slice none 0 0, .slice none 0 0, lv, rsl, L, t + 1, by omega, wantI w9 c109 hC9 hT9' kA hw9 (by omega) (by omega) (by omega) (by omega) ?_ ?_ ?_ (fun x hx => by cases hx)⟩
     ·rw [hA, hgA]; exact gs_same _ _ _
     ·rw [hA]; exact EntsRd.nil _
     ·rw [hA]; exact EvsRd.nil _
   have hrc7 := hT7.rs.cell
   refine Nc (w_no rfl (beq_eq_false_iff_ne.2 d1) (Na (w_reg 4 rfl rfl (j' := 8) (nO (s_fa0 rfl fo_55_2 (nO (sL rfl ag_3 ?_)))))))
   refine nO (s_bin rfl rfl rfl (nA rfl (n_nil ?_)))
   by_cases d2 : y.kind = 2
   ·have hA := ans_list (S := S) hm d2
    have hen := hT7.rs.ents
    obtain ⟨al, cl', rfl⟩ := hen.len
    refine Nc (w_yes rfl (beq_iff_eq.2 d2) (w_reg 6 rfl rfl (j' := 14) (nM rfl (nN rfl (nO (s_fa0 rfl fo_72_1 (nO (sL rfl ag_48 ?_))))))))
    refine nO (s_fa0 rfl fo_67_5 (nO (sS rfl rfl sz_48 rfl rfl ?_)))
    refine n_nil ?_
    repeat first | refine Na ?_ | refine Nb ?_ | refine Nc ?_ | refine Nd ?_ | refine Ne ?_
    refine z_gen fun gA hgA => ?_
    have kA : Kp (FC q11) g7 n7 gA := by rw [hgA]; exact Kp.set (by repeat (first | exact Kp.refl _ _ _ | refine Kp.new ?_ (by omega) _)) (FC.of c117) _
    refine z_met () ⟨rfl, rfl, rfl, rfl, rfl, rfl, trivial⟩ ⟨by omega, _, _, .slice al L.length cl', .slice none 0 0, _, rsl, L, t, ⟨ht.1, by omega⟩, wantI w7 c107 hC7 (by rw [aft_read hm (by omega)]; exact hT7) kA hw7 (by omega) (by omega) (by omega) (by omega) ?_ ?_ ?_ (fun x hx => by cases hx)⟩
    ·rw [hA, hgA]; exact gs_same _ _ _
    ·rw [hA]
     show EntsRd g7 _ S.list
     rw [hli]; exact hen
    ·rw [hA]; exact EvsRd.nil _
   refine Nc (w_no rfl (beq_eq_false_iff_ne.2 d2) (Na (w_reg 4 rfl rfl (j' := 12) (nO (s_fa0 rfl fo_55_2 (nO (sL rfl ag_3 ?_)))))))
   refine nO (s_bin rfl rfl rfl (nA rfl (n_nil ?_)))
   by_cases d3 : y.kind = 3
   ·have hA := ans_watch (S := S) hm d3
    refine Nc (w_yes rfl (beq_iff_eq.2 d3) (w_drw (T6 6 27) [(0, []), (1, []), (2, []), (3, []), (4, [3]), (5, [3]), (6, []), (7, []), (8, []), (9, []), (10, []), (11, []), (12, []), (13, [])] 14 (by kernel_rfl) rfl rfl (j' := 26) (dM rfl rfl (dO rfl rfl (s_nil rfl ⟨⟨rfl, rfl⟩, (dO rfl rfl (s_fa0 rfl fo_72_3 ⟨⟨rfl, rfl⟩, (dT rfl rfl rfl (sL rfl ag_70 ⟨clash_nil, ?_⟩))⟩))⟩)))))
    refine dO rfl rfl (s_fa0 rfl fo_55_4 ⟨⟨rfl, rfl⟩, (dT rfl rfl rfl (sL rfl ag_2 ⟨clash_rd rfl, ?_⟩))⟩)
    refine d_call rfl .no rfl rfl rfl call_nil (C.use (ref_from (rev := y.rev) hT7.rs.log (by have := hinv.len; show S.log.evs.length < _; omega)) fun v g9 n9 hw9 hn9 hq => ?_)
    obtain ⟨v9, rfl, hE9, hv9, k9⟩ := hq
    refine ⟨kept_nil, ?_⟩
    have k9' := k9.dn (m := n7) (by omega)
    have c109 := k9'.at0 hw7 c107
    have c119 := k9'.at0 hw7 c117
    have hT9 := hT7.kp0 k9' hw7 (n' := n9) (by omega)
    have hC9 := hC7.kp0 k9' hw7
    have w9 : K0 g1 n1 g9 := w7.trans0 (k9'.dn (m := n1) (by omega)) (Nat.le_refl _)
    obtain ⟨a9, q9, rfl⟩ := hE9.rd.len
    refine dM rfl rfl (dO rfl rfl (s_ext rfl rfl ⟨⟨rfl, rfl⟩, (dO rfl rfl (s_ext rfl rfl ⟨⟨rfl, rfl⟩, (dO rfl rfl (s_fa0 rfl fo_67_6 ⟨⟨rfl, rfl⟩, (dT rfl rfl rfl (sS rfl rfl sz_65 rfl rfl ⟨clash_nil, ?_⟩))⟩))⟩))⟩))
    refine dO rfl rfl (s_fa0 rfl fo_67_3 ⟨⟨rfl, rfl⟩, (dT rfl rfl rfl (sS rfl rfl sz_32 rfl rfl ⟨clash_nil, ?_⟩))⟩)
    refine d_nil ?_
    repeat first | refine Na ?_ | refine Nb ?_ | refine Nc ?_ | refine Nd ?_ | refine Ne ?_
    refine z_gen fun gA hgA => ?_
    have kA : Kp (FC q11) g9 n9 gA := by rw [hgA]; exact Kp.set (Kp.set (Kp.refl _ _ _) (FC.of c119) _) (FC.of c119) _
    refine z_met () ⟨rfl, rfl, rfl, rfl, rfl, rfl, trivial⟩ ⟨by omega, _, _, .slice none 0 0, .slice a9 (S.log.from_ y.rev).1.length q9, lv, rsl, L, t, ⟨ht.1, by omega⟩, wantI w9 c109 hC9 (by rw [aft_read hm (by omega)]; exact hT9) kA hw9 (by omega) (by omega) (by omega) (by omega) ?_ ?_ ?_ (fun x hx e => by have := hv9 x hx; have := hT7.st.slt hw7 x e; omega)⟩
    ·rw [hA, hgA]; exact gs_same _ _ _
    ·rw [hA]; exact EntsRd.nil _
    ·rw [hA]; exact hE9.rd
   have d4 : y.kind = 4 := by omega
   have hA := ans_txn (S := S) hm d4
   refine Nc (w_no rfl (beq_eq_false_iff_ne.2 d3) (w_reg 9 rfl rfl (j' := 21) (nM rfl (nO (s_fa0 rfl fo_55_5 (nO (sLf rfl ag_42 sz_42 ?_)))))))
   refine n_call .no rfl rfl rfl (C.use (rtxn_c hT7.rs (show Top S.log from hhist.top) (show 0 ≤ S.writes ∧ S.writes < 4611686018427387904 by have := hinv.writes; omega) (show 0 ≤ S.rev ∧ S.rev < 4611686018427387904 by have := hinv.rev; omega) hinv.last (show S.log.evs.length < 2 ^ 30 by have := hinv.len; omega) (show 0 ≤ S.log.most by rw [hinv.most]; decide) (by omega) hC7.gs hC7.ws (by omega) (by omega) (hT7.up (by omega)).lt) fun v g9 n9 hw9 hn9 hq => ?_)
   obtain ⟨lv9, rsl9, L9, hu9, hR9, ⟨hM9, hlt9⟩, k9⟩ := hq
   rw [txn_rd] at hu9 hR9
   subst hu9
   have k9' := k9.dn (m := n7) (by omega)
   have c109 := k9'.at hw7 c107 (FQ.no0 (by omega) (by omega))
   have c119 := k9'.at hw7 c117 (FQ.no0 (by omega) (by omega))
   have hT9 := hT7.fq k9' hw7 ha hR9 (by first | exact hM9 | (rcases hM9 with e | e; exact .inl e; exact .inr fun x hx => by have := e x hx; omega)) hlt9
   have hC9 : CalAt g9 y _ _ := ⟨hC7.gs.kk k9' hw7 (FQ.no3 _ _ _), hC7.ws.kk k9' hw7 (FQ.no3 _ _ _) (FQ.nob _ _ _)⟩
   have w9 : K0 g1 n1 g9 := w7.trans0 (FQ.low hqr (by omega) k9') (Nat.le_refl _)
   refine nM rfl (nO (s_ext rfl rfl (nO (s_ext rfl rfl (nO (s_fa0 rfl fo_67_3 (nO (sS rfl rfl sz_32 rfl rfl ?_))))))))
   refine n_nil ?_
   repeat first | refine Na ?_ | refine Nb ?_ | refine Nc ?_ | refine Nd ?_ | refine Ne ?_
   refine z_gen fun gA hgA => ?_
   have kA : Kp (FC q11) g9 n9 gA := by rw [hgA]; exact Kp.set (by repeat (first | exact Kp.refl _ _ _ | refine Kp.new ?_ (by omega) _)) (FC.of c119) _
   refine z_met () ⟨rfl, rfl, rfl, rfl, rfl, rfl, trivial⟩ ⟨by omega, _, _, .slice none 0 0, .slice none 0 0, lv9, rsl9, L9, t, ⟨ht.1, by omega⟩, wantI w9 c109 hC9 (by rw [aft_txn hm d4]; exact hT9) kA hw9 (by omega) (by omega) (by omega) (by omega) ?_ ?_ ?_ (fun x hx => by cases hx)⟩
   ·rw [hA, hgA]; exact gs_same _ _ _
   ·rw [hA]; exact EntsRd.nil _
   ·rw [hA]; exact EvsRd.nil _
  clear hT6 hC6 c6 c116 w6 hLl hli
  rintro _ f gB nB hwB ⟨hnB, gvB, wvB, evB, vvB, lvB, rslB, LB, tB, htB, ⟨w9, c109, hC9, c119, hE9, hV9, hT9, hap⟩⟩
  obtain ⟨ae, ce, rfl⟩ := hE9.len
  obtain ⟨av, cv, rfl⟩ := hV9.len
  refine w_seq ?_
  refine z_meet (β := Unit) (fun _ => [(1, .slice (some ⟨lx, ox, none⟩) cs.length c'), (6, .pointer (some ⟨s, 0, none⟩)), (7, .pointer (some ⟨r, 0, none⟩)), (9, .int .i64 (i : Int)), (10, .pointer (some ⟨q10, 0, none⟩)), (11, .pointer (some ⟨q11, 0, none⟩))])
   (fun _ g' n' => nB ≤ n' ∧ WantI g1 n1 n1 s m1 m2 l r me lr q10 q11 S ((S.aft y).rd tB) sl y (S.ans y) gvB wvB (.slice ae (S.ans y).ents.length ce) (.slice av (S.ans y).evs.length cv) lvB rslB LB g' n') ?_ ?_
  ·obtain ⟨xa, xb, rfl⟩ := hC9.gs.len
   obtain ⟨ya, yb, rfl⟩ := hC9.ws.len
   repeat first | refine Na ?_ | refine Nb ?_ | refine Nc ?_ | refine Nd ?_ | refine Ne ?_
   refine w_reg 2 rfl rfl (j' := 2) (nO (sLf rfl ag_55 sz_55 ?_))
   refine n_call .no rfl rfl rfl (C.use (may37_c hC9 hn40) fun v g12 n12 hw12 hn12 hq => ?_)
   obtain ⟨⟨rb, rfl, hr⟩, k12⟩ := hq
   have k12' := k12.dn (m := nB) (by omega)
   have c1012 := k12'.at0 hwB c109
   have c1112 := k12'.at0 hwB c119
   have hC12 := hC9.kp0 k12' hwB
   have hT12 := hT9.kp0 (n' := n12) k12' hwB (by omega)
   have w12 : K0 g1 n1 g12 := w9.trans0 (k12'.dn (m := n1) (by omega)) (Nat.le_refl _)
   have hE12 := hE9.kp0 k12' hwB
   have hV12 := hV9.kp0 k12' hwB
   refine n_nil ?_
   by_cases hm : y.may
   rotate_left
   ·have : rb = false := by
     cases rb with
     | false => rfl
     | true => exact absurd (hr.1 rfl) hm
    subst this
    refine Nc (w_no rfl (rfl) ?_)
    repeat first | refine Na ?_ | refine Nb ?_ | refine Nc ?_ | refine Nd ?_ | refine Ne ?_
    have e : ({ S.ans y with rev := 0 } : Ans) = S.ans y := by rw [ans_form hm]
    exact z_met () ⟨rfl, rfl, rfl, rfl, rfl, rfl, trivial⟩ ⟨by omega, ⟨w12, c1012, hC12, by rw [e] at c1112; exact c1112, hE12, hV12, hT12, hap⟩⟩
   obtain rfl : rb = true := hr.2 hm
   have hrc := hT12.rs.cell
   refine Nc (w_yes rfl (rfl) (w_reg 6 rfl rfl (j' := 6) (nM rfl (nN rfl (nO (s_fa0 rfl fo_72_0 (nO (sL rfl ag_2 ?_))))))))
   refine nO (s_fa0 rfl fo_67_4 (nO (sS rfl rfl sz_2 rfl rfl ?_)))
   refine n_nil ?_
   repeat first | refine Na ?_ | refine Nb ?_ | refine Nc ?_ | refine Nd ?_ | refine Ne ?_
   refine z_gen fun gA hgA => ?_
   have kA : Kp (FC q11) g12 n12 gA := by rw [hgA]; exact Kp.set (by repeat (first | exact Kp.refl _ _ _ | refine Kp.new ?_ (by omega) _)) (FC.of c1112) _
   refine z_met () ⟨rfl, rfl, rfl, rfl, rfl, rfl, trivial⟩ ⟨by omega, wantI w12 c1012 hC12 hT12 kA hw12 (by omega) (by omega) (by omega) (by omega) ?_ hE12 hV12 hap⟩
   rw [hgA]
   refine (gs_same _ _ _).trans ?_
   show some (AObj.cells (ansC { S.ans y with rev := (S.aft y).rev } _ _) 0 false) = _
   rw [← ans_rev hm]
  clear hT9 hC9 c109 c119 w9 hE9 hV9
  rintro _ f gD nD hwD ⟨hnD, ⟨w9, c109, hC9, c119, hE9, hV9, hT9, hap⟩⟩
  obtain ⟨xa, xb, rfl⟩ := hC9.gs.len
  obtain ⟨ya, yb, rfl⟩ := hC9.ws.len
  obtain ⟨all', hh⟩ := hhist.aft y
  have hLD := hT9.rs.rl
  have hbe : (S.ans y).ents.length < 2 ^ 40 ∧ (S.ans y).evs.length < 2 ^ 40 := by
   have h1 := hinv.list_len
   have h2 := fromLen S.log y.rev
   have h3 := hinv.len
   by_cases hm : y.may
   ·have hkk := ((may_flat y).1 hm).2.1
    have : y.kind = 1 ∨ y.kind = 2 ∨ y.kind = 3 ∨ y.kind = 4 := by omega
    rcases this with e | e | e | e
    ·cases hf : findK y.key S.now with
     | none => rw [ans_none hm e hf]; exact ⟨by simp, by simp⟩
     | some q => rw [ans_get hm e hf]; exact ⟨by simp, by simp⟩
    ·rw [ans_list hm e]; exact ⟨by simp only; omega, by simp⟩
    ·rw [ans_watch hm e]; exact ⟨by simp, by simp only; omega⟩
    ·rw [ans_txn hm e]; exact ⟨by simp, by simp⟩
   ·rw [ans_form hm]; exact ⟨by simp, by simp⟩
  repeat first | refine Na ?_ | refine Nb ?_ | refine Nc ?_ | refine Nd ?_ | refine Ne ?_
  refine w_drw (T6 6 30) [(0, []), (1, []), (3, [1]), (2, [3]), (4, []), (5, [])] 6 (by kernel_rfl) rfl rfl (j' := 6) (dM rfl rfl (dT rfl rfl rfl (sLf rfl ag_55 sz_55 ⟨clash_nil, ?_⟩)))
  refine dT rfl rfl rfl (sLf rfl ag_67 sz_67 ⟨clash_rd rfl, ?_⟩)
  refine d_call rfl .no rfl rfl rfl (call_rd rfl) (C.use (of_c hT9.st hinv (by omega) (by omega) hC9 hn40) fun v g14 n14 hw14 hn14 hq => ?_)
  obtain ⟨sl14, ev14, vv14, rfl, hE14, hV14, hS14, hM14, k14⟩ := hq
  refine ⟨?_, ?_⟩
  ·have q := ((k14.dn (m := nD) (by omega)).at hwD c119 (FS.no0 (by omega) (by omega))).trans c119.symm
   repeat' (first | exact trivial | exact q | apply And.intro)
  have k14' := k14.dn (m := nD) (by omega)
  have hM14' : Mvd nD sl sl14 := by
   rcases hM14 with e | e
   ·exact .inl e
   ·exact .inr fun x hx => by have := e x hx; omega
  have hT14 := hT9.fs k14' hwD ha hS14 hM14' (n' := n14) (by omega)
  have w14 : K0 g1 n1 g14 := w9.trans0 (hT9.lowS hq (Nat.le_refl _) (by omega) k14') (Nat.le_refl _)
  have hE9' := hE9.kk k14' hwD (FS.no3 _ _ _ _ _) (FS.nob _ _ _ _ _)
  have hV9' := hV9.kv k14' hwD (FS.nob _ _ _ _ _) (fun x c ro hx hf => by
   rcases hf with ⟨_, _, _, e⟩ | ⟨_, _, _, e⟩ | ⟨e, _⟩
   ·cases e
   ·cases e
   ·exact hap x hx e)
  refine d_call rfl .no rfl rfl rfl call_nil (C.use (sameAnswer_c hE14 hV14 hE9' hV9' hbe) fun v g15 n15 hw15 hn15 hq => ?_)
  obtain ⟨⟨b, rfl, hb15⟩, k15⟩ := hq
  refine ⟨kept_nil, ?_⟩
  obtain rfl : b = true := hb15.2 rfl
  refine dO rfl rfl (s_not rfl ⟨⟨rfl, rfl⟩, (d_nil (Nc (w_no rfl (rfl) ?_)))⟩)
  repeat first | refine Na ?_ | refine Nb ?_ | refine Nc ?_ | refine Nd ?_ | refine Ne ?_
  repeat first | refine Na ?_ | refine Nb ?_ | refine Nc ?_ | refine Nd ?_ | refine Ne ?_
  refine w_reg 3 rfl rfl (j' := 3) (nM rfl (nO (s_bin rfl rfl (by first | exact bi_inc (by omega) | exact bi_add rfl (by omega) (by omega)) ?_)))
  refine nA rfl (n_nil ?_)
  exact z_round (i + 1) ⟨rfl, rfl, rfl, rfl, trivial⟩ ⟨e1, e2, by omega, w14.trans0 (k15.dn (m := n1) (by omega)) (Nat.le_refl _), _, _, _, _, _, all', tB, (hinv.aft y).up (by omega), hh, ⟨htB.1, by omega⟩, hT14.kp0 (k15.dn (by omega)) hw14 (by omega)⟩ (by omega)
 rintro _ f g40 n40 hw40 ⟨hn40, S, sl, lv, rsl, L, t, hinv, hT⟩
 have hrc := hT.rs.cell
 have hli : S.list = L := hT.rs.rl.list
 have hll := hinv.list_len
 rw [hli] at hll
 repeat first | refine Na ?_ | refine Nb ?_ | refine Nc ?_ | refine Nd ?_ | refine Ne ?_
 refine w_drw (T6 6 32) [(0, []), (2, []), (3, []), (4, []), (5, []), (1, [5]), (6, []), (7, [])] 8 (by kernel_rfl) rfl rfl (j' := 8) (dM rfl rfl (dM rfl rfl (dO rfl rfl (s_nil rfl ⟨⟨rfl, rfl⟩, (dO rfl rfl (s_fa0 rfl fo_72_1 ⟨⟨rfl, rfl⟩, (dT rfl rfl rfl (sL rfl ag_48 ⟨clash_nil, ?_⟩))⟩))⟩))))
 refine d_call rfl .no rfl rfl rfl (call_rd rfl) (C.use (st_list_i hT.st hinv (by omega)) fun v g41 n41 hw41 hn41 hq => ?_)
 obtain ⟨hE41, hS41, k41⟩ := hq
 refine ⟨?_, ?_⟩
 ·have q := ((k41.dn (m := n40) (by omega)).at hw40 hrc (fun hf => ha.c.1 hf.1)).trans hrc.symm
  repeat' (first | exact trivial | exact q | apply And.intro)
 rw [hli] at hE41
 have hR41 := hT.rs.fc (k41.dn (m := n40) (by omega)) hw40 ha.c.1 ha.c.2.2.1
 refine d_call rfl .no rfl rfl rfl call_nil (C.use (eqEntries_c hE41.rd hR41.ents (by omega)) fun v g42 n42 hw42 hn42 hq => ?_)
 obtain ⟨⟨b, rfl, hb42⟩, k42⟩ := hq
 refine ⟨kept_nil, ?_⟩
 obtain rfl : b = true := hb42.2 rfl
 refine dO rfl rfl (s_as rfl ⟨⟨rfl, rfl⟩, (d_nil (Nc (Nf (z_r1 rfl rfl ?_))))⟩)
 rfl

end Go.Proofs.YtehmailaabjdjaaGreat
