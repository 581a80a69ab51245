/-
  The reference's store in memory: NewStore, place, key, holds, Get, by contract. No condition. / The reference's store: key, may, holds, Get, by contract. No condition. / The reference's store: Get and Txn, by contract. No condition. / A store and the reference's beside each other: what one does leaves the other. No condition.
-/
import Derived.Test.YtehmailaabjdjaaGreatCaX
import Derived.Test.YtehmailaabjdjaaGreatRefs
section
open Go.Proofs
namespace Go.Proofs.YtehmailaabjdjaaGreat
set_option linter.unusedSimpArgs false
set_option linter.unusedVariables false
set_option maxRecDepth 100000

structure RsAt (g : Gm) (r me lr : Nat) (lv sl : Value) (S : Sto) (L : List SEnt) : Prop where
 cell : g r = some (.cells [.int .i64 S.rev, lv, .map (some me), .pointer (some ⟨lr, 0, none⟩), .int .i64 S.reads, .int .i64 S.writes] 0 false)
 ents : EntsRd g lv L
 ever : MapAt g (fun v z => v = .int .i64 z) me S.last
 log : RefAt g lr sl S.log
 rl : RL L S.now

def FQ (r me lr : Nat) (x : Nat) (o : AObj) : Prop := ((x = r ∨ x = lr) ∧ ∃ c ro, o = .cells c 0 ro) ∨ (x = me ∧ ∃ es c, o = .map es c)
section
variable {F : Nat → AObj → Prop} {g g' : Gm} {n r me lr : Nat} {lv sl : Value} {S : Sto} {L : List SEnt}
theorem FQ.nob (r me lr : Nat) : NoB (FQ r me lr) := fun x cl ro h => by
 rcases h with ⟨_, c, q, e⟩ | ⟨_, c, q, e⟩ <;> cases e
theorem FQ.no3 (r me lr : Nat) (x : Nat) (c : List Value) (ro : Bool) : ¬ FQ r me lr x (.cells c 3 ro) := fun h => by
 rcases h with ⟨_, c, q, e⟩ | ⟨_, c, q, e⟩ <;> cases e
theorem FQ.no4 (r me lr : Nat) (x : Nat) (c : List Value) (ro : Bool) : ¬ FQ r me lr x (.cells c 4 ro) := fun h => by
 rcases h with ⟨_, c, q, e⟩ | ⟨_, c, q, e⟩ <;> cases e
theorem FQ.no0 {x : Nat} {c : List Value} {ro : Bool} (h1 : x ≠ r) (h2 : x ≠ lr) : ¬ FQ r me lr x (.cells c 0 ro) := fun h => by
 rcases h with ⟨e | e, _⟩ | ⟨_, c, q, e⟩
 ·exact h1 e
 ·exact h2 e
 ·cases e
theorem FQ.noM {x : Nat} {es : List MapEntry} {c : Nat} (h1 : x ≠ me) : ¬ FQ r me lr x (.map es c) := fun h => by
 rcases h with ⟨_, c, q, e⟩ | ⟨e, _⟩
 ·cases e
 ·exact h1 e
theorem RsAt.kk (h : RsAt g r me lr lv sl S L) (hk : Kp F g n g') (hw : WF g n) (hb : NoB F) (h3 : ∀ x c ro, ¬ F x (.cells c 3 ro)) (hr : ∀ c, ¬ F r (.cells c 0 false)) (hl : ∀ c, ¬ F lr (.cells c 0 false)) (hm : ∀ es c, ¬ F me (.map es c)) (hs : ∀ x c ro, vname sl = some x → ¬ F x (.cells c 4 ro)) : RsAt g' r me lr lv sl S L :=
 ⟨hk.at hw h.cell (hr _), h.ents.kk hk hw h3 hb, h.ever.kp hk hw hm (fun _ _ e => e), ⟨hk.at hw h.log.cell (hl _), h.log.evs.kv hk hw hb hs, h.log.ne⟩, h.rl⟩
theorem RsAt.kp0 (h : RsAt g r me lr lv sl S L) (hk : K0 g n g') (hw : WF g n) : RsAt g' r me lr lv sl S L :=
 h.kk hk hw NoB.z (fun _ _ _ h => h) (fun _ h => h) (fun _ h => h) (fun _ _ h => h) (fun _ _ _ _ h => h)
theorem RsAt.nl (h : RsAt g r me lr lv sl S L) : r ≠ lr := fun e => by
 have h1 := h.cell
 rw [e, h.log.cell] at h1
 have h2 := congrArg (fun o : Option AObj => match o with | some (.cells c _ _) => c.length | _ => 0) h1
 simp [refC] at h2
theorem RsAt.nm (h : RsAt g r me lr lv sl S L) : r ≠ me := fun e => by
 have h1 := h.cell
 obtain ⟨es, c, h2, _⟩ := h.ever
 rw [e, h2] at h1; cases h1
theorem RsAt.lm (h : RsAt g r me lr lv sl S L) : lr ≠ me := fun e => by
 have h1 := h.log.cell
 obtain ⟨es, c, h2, _⟩ := h.ever
 rw [e, h2] at h1; cases h1

theorem rs_new (g : Gm) (n : Nat) : C 35 #[] g n fun u g' n' => ∃ r me lr, u = .pointer (some ⟨r, 0, none⟩) ∧ (n ≤ r ∧ n ≤ me ∧ n ≤ lr) ∧ RsAt g' r me lr (.slice none 0 0) (.slice none 0 0) Sto.new [] ∧ K0 g n g' := by
 refine c_in0 Tryz.func35 rfl Tryz.ntmps35 fun hw => (Na (w_reg 1 rfl rfl (j' := 1) (nA rfl (n_nil (Nc (Na (w_reg 5 rfl rfl (j' := 6) (n_op .no (q := 1) rfl (s_mm (n_call .no rfl rfl rfl (C.useG (ref_new _ _ _) fun v g2 n2 hw2 hn2 hx2 hq => ?_)))))))))))
 obtain ⟨lr, rfl, hlr, hL, k2⟩ := hq
 refine nO (s_bld pl_72 zl_72 rfl rfl rfl (n_op .no (q := 4) rfl (s_boxa rfl (nA rfl (n_nil ?_)))))
 repeat first | refine Na ?_ | refine Nb ?_ | refine Nc ?_ | refine Nd ?_ | refine Ne ?_
 refine w_gen fun g3 n3 hg3 hn3 hwg3 => ?_
 have z : g2 (n + 4) = none := hx2 _ (by omega) (by rw [gs_ne (by omega)]; exact hw.none (by omega))
 have k3 : K0 g2 n2 g3 := by rw [hg3]; exact Kp.add (Kp.refl _ _ _) z _
 have c3 : g3 (n + 4) = some (.cells [.int .i64 0, .slice none 0 0, .map (some (n + 1)), .pointer (some ⟨lr, 0, none⟩), .int .i64 0, .int .i64 0] 0 false) := by rw [hg3]; exact gs_same _ _ _
 have m3 : g3 (n + 1) = some (.map [] 0) := k3.at0 hw2 (k2.lt (by omega) (gs_same _ _ _))
 have h3 := hL.kp0 k3 hw2
 clear hg3
 repeat first | refine Nf ?_ | refine Na ?_ | refine Nb ?_ | refine Nc ?_ | refine Nd ?_ | refine Ne ?_
 refine z_r1 rfl rfl ?_
 have kk : K0 g n g3 := (Kp.trans0 (n' := n + 1 + 1) (Kp.new (Kp.refl _ _ _) (by omega) _) (k2.dn (by omega)) (by omega)).trans0 (k3.dn (m := n) (by omega)) (Nat.le_refl _)
 exact ⟨n + 4, n + 1, lr, rfl, ⟨by omega, by omega, by omega⟩, ⟨c3, EntsRd.nil _, ⟨[], 0, m3, MapKept.stamped_empty 0, trivial⟩, h3, RL.nil⟩, kk⟩

structure PlaceP (L : List SEnt) (k : Bs) (p : Nat) (ok : Bool) : Prop where
 le : p ≤ L.length
 front : L.take p = L.filter (fun x => decide (x.key < k))
 yes : ok = true → ∃ hp : p < L.length, findL k L = some L[p] ∧ L.drop (p + 1) = L.filter (fun x => decide (k < x.key))
 no : ok = false → findL k L = none ∧ L.drop p = L.filter (fun x => decide (k < x.key))
theorem filter_all {p : SEnt → Bool} {L : List SEnt} (h : ∀ x ∈ L, p x = true) : L.filter p = L := List.filter_eq_self.2 h
theorem filter_none {p : SEnt → Bool} {L : List SEnt} (h : ∀ x ∈ L, p x = false) : L.filter p = [] := by
 rw [List.filter_eq_nil_iff]
 intro a ha q
 rw [h a ha] at q; cases q
theorem placeP {L : List SEnt} {k : Bs} {p : Nat} (hs : Srtd L) (hp : p ≤ L.length) (h1 : ∀ j, (h : j < L.length) → j < p → L[j].key < k) (h2 : ∀ h : p < L.length, ¬ L[p].key < k) : PlaceP L k p (decide (∃ h : p < L.length, L[p].key = k)) := by
 have ef : ∀ x ∈ L.take p, x.key < k := fun x hx => by
  obtain ⟨j, hj, rfl⟩ := List.mem_iff_getElem.1 hx
  rw [List.length_take] at hj
  rw [List.getElem_take]
  exact h1 j (by omega) (by omega)
 have hsplit := List.pairwise_append.1 (show (L.take p ++ L.drop p).Pairwise fun a b => a.key < b.key by rw [List.take_append_drop]; exact hs)
 have eb : ∀ x ∈ L.drop p, ¬ x.key < k := fun x hx => by
  by_cases hlt : p < L.length
  ·rw [List.drop_eq_getElem_cons hlt] at hx
   rcases List.mem_cons.1 hx with rfl | hx
   ·exact h2 hlt
   ·have hs2 := hsplit.2.1
    rw [List.drop_eq_getElem_cons hlt, List.pairwise_cons] at hs2
    exact fun q => h2 hlt (lt_tr (hs2.1 x hx) q)
  ·rw [List.drop_of_length_le (by omega)] at hx; cases hx
 have hL : L = L.take p ++ L.drop p := (List.take_append_drop p L).symm
 have hfr : L.take p = L.filter (fun x => decide (x.key < k)) := by
  conv => rhs; rw [hL, List.filter_append]
  rw [filter_all fun x hx => decide_eq_true (ef x hx), filter_none fun x hx => decide_eq_false (eb x hx), List.append_nil]
 have hbk : L.filter (fun x => decide (k < x.key)) = (L.drop p).filter (fun x => decide (k < x.key)) := by
  conv => lhs; rw [hL, List.filter_append]
  rw [filter_none (L := L.take p) fun x hx => decide_eq_false fun q => lt_irr _ (lt_tr q (ef x hx)), List.nil_append]
 refine ⟨hp, hfr, fun h => ?_, fun h => ?_⟩
 ·obtain ⟨hlt, he⟩ := of_decide_eq_true h
  have hs2 := hsplit.2.1
  rw [List.drop_eq_getElem_cons hlt, List.pairwise_cons] at hs2
  refine ⟨hlt, ?_, ?_⟩
  ·rw [← he]; exact findL_mem hs (List.getElem_mem hlt)
  ·rw [hbk, List.drop_eq_getElem_cons hlt, List.filter_cons_of_neg (by rw [he]; exact fun q => lt_irr _ (of_decide_eq_true q))]
   exact (filter_all fun x hx => decide_eq_true (by rw [← he]; exact hs2.1 x hx)).symm
 ·have hne := of_decide_eq_false h
  have hgt : ∀ x ∈ L.drop p, k < x.key := fun x hx => by
   refine lt_or (eb x hx) fun e => ?_
   by_cases hlt : p < L.length
   ·rw [List.drop_eq_getElem_cons hlt] at hx
    rcases List.mem_cons.1 hx with rfl | hx
    ·exact hne ⟨hlt, e⟩
    ·have hs2 := hsplit.2.1
     rw [List.drop_eq_getElem_cons hlt, List.pairwise_cons] at hs2
     exact h2 hlt (by rw [← e]; exact hs2.1 x hx)
   ·rw [List.drop_of_length_le (by omega)] at hx; cases hx
  refine ⟨findL_none fun x hx e => ?_, ?_⟩
  ·rw [hL] at hx
   rcases List.mem_append.1 hx with hx | hx
   ·exact lt_ne (ef x hx) e
   ·exact lt_ne' (hgt x hx) e
  ·rw [hbk, filter_all fun x hx => decide_eq_true (hgt x hx)]

theorem place_c {k : Bs} (h : RsAt g r me lr lv sl S L) (hn40 : L.length ≤ 2 ^ 40) : C 83 #[.pointer (some ⟨r, 0, none⟩), .string (str k)] g n fun u g' n' => ∃ (p : Nat) (ok : Bool), u = .tuple #[.int .i64 (p : Int), .bool ok] ∧ PlaceP L k p ok ∧ K0 g n g' := by
 obtain ⟨a, c, rfl⟩ := h.ents.len
 have hc := h.cell
 refine c_in2 Tryz.func83 rfl Tryz.ntmps83 rfl fun hw => ?_
 have hsn := hw _ _ hc
 refine Na (w_reg 2 rfl rfl (j' := 2) (nA rfl (nA rfl (n_nil (Nc (Na (w_reg 1 rfl rfl (j' := 3) (nA rfl (n_nil ?_)))))))))
 refine z_seq ?_
 refine w_seq ?_
 refine z_meet (β := Nat) (fun i => [(0, .pointer (some ⟨r, 0, none⟩)), (1, .string (str k)), (6, .int .i64 (i : Int))])
  (fun i g' n' => n ≤ n' ∧ K0 g n g' ∧ i ≤ L.length ∧ (∀ j, (h : j < L.length) → j < i → L[j].key < k) ∧ ∀ h : i < L.length, ¬ L[i].key < k) ?_ ?_
 ·repeat first | refine Na ?_ | refine Nb ?_ | refine Nc ?_ | refine Nd ?_ | refine Ne ?_
  refine w_loop (β := Nat) (fun i => [(0, .pointer (some ⟨r, 0, none⟩)), (1, .string (str k)), (6, .int .i64 (i : Int))])
   (fun i g' n' => n ≤ n' ∧ K0 g n g' ∧ i ≤ L.length ∧ ∀ j, (h : j < L.length) → j < i → L[j].key < k) (fun i => L.length - i) 0 ⟨rfl, rfl, rfl, trivial⟩ ⟨by omega, (by repeat (first | exact Kp.refl _ _ _ | refine Kp.new ?_ (by omega) _)), by omega, fun j _ h => absurd h (by omega)⟩ ?_
  rintro i f gL nL hwL ⟨hnL, kL, hi, hb⟩
  have cL := kL.at0 hw hc
  by_cases hlt : i < L.length
  ·obtain ⟨l3, o3, c3, cl3, ro3, a3, p3, x1, x2, x3, x4, x5, x6, x7, x8⟩ := (h.ents.kp0 kL hw).at hlt
   cases x1
   by_cases hk : L[i].key < k
   ·repeat first | refine Na ?_ | refine Nb ?_ | refine Nc ?_ | refine Nd ?_ | refine Ne ?_
    refine w_reg 19 rfl rfl (j' := 19) (nM rfl (nM rfl (nN rfl (nO (s_fa0 rfl fo_72_1 (nO (sL rfl ag_48 ?_)))))))
    refine nO (s_len rfl rfl un_48 rfl (nO (s_bin rfl rfl rfl (nM rfl (nG rfl rfl (decide_eq_true (by omega)) rfl (nY rfl rfl (decide_eq_true (by omega)) (s_nil rfl (nY rfl rfl (decide_eq_true (by omega)) (s_fa0 rfl fo_72_1 (nY rfl rfl (decide_eq_true (by omega)) (sL rfl ag_48 ?_)))))))))))
    refine nG rfl rfl (decide_eq_true (by omega)) rfl (nY rfl rfl (decide_eq_true (by omega)) (s_ia rfl rfl el_48 (by first | assumption | omega) (nY rfl rfl (decide_eq_true (by omega)) (s_fa rfl fo_28_0 (nY rfl rfl (decide_eq_true (by omega)) (sL rfl ag_9 ?_))))))
    refine nG rfl rfl (decide_eq_true (by omega)) rfl (nY rfl rfl (decide_eq_true (by omega)) (s_bin rfl rfl rfl (nO (s_pt rfl (decide_eq_true (by omega)) rfl (n_nil (Nc (w_yes rfl (by rw [str_lt]; exact decide_eq_true hk) (Ne (Nc (Nb (w_reg 3 rfl rfl (j' := 22) (nM rfl (nO (s_bin rfl rfl (by first | exact bi_inc (by omega) | exact bi_add rfl (by omega) (by omega)) ?_))))))))))))))
    refine nA rfl (n_nil ?_)
    repeat first | refine Na ?_ | refine Nb ?_ | refine Nc ?_ | refine Nd ?_ | refine Ne ?_
    exact z_round (i + 1) ⟨rfl, rfl, rfl, trivial⟩ ⟨by omega, kL, hlt, fun j hj hji => by
     by_cases e : j = i
     ·subst e; exact hk
     ·exact hb j hj (by omega)⟩ (by omega)
   ·repeat first | refine Na ?_ | refine Nb ?_ | refine Nc ?_ | refine Nd ?_ | refine Ne ?_
    refine w_reg 19 rfl rfl (j' := 19) (nM rfl (nM rfl (nN rfl (nO (s_fa0 rfl fo_72_1 (nO (sL rfl ag_48 ?_)))))))
    refine nO (s_len rfl rfl un_48 rfl (nO (s_bin rfl rfl rfl (nM rfl (nG rfl rfl (decide_eq_true (by omega)) rfl (nY rfl rfl (decide_eq_true (by omega)) (s_nil rfl (nY rfl rfl (decide_eq_true (by omega)) (s_fa0 rfl fo_72_1 (nY rfl rfl (decide_eq_true (by omega)) (sL rfl ag_48 ?_)))))))))))
    refine nG rfl rfl (decide_eq_true (by omega)) rfl (nY rfl rfl (decide_eq_true (by omega)) (s_ia rfl rfl el_48 (by first | assumption | omega) (nY rfl rfl (decide_eq_true (by omega)) (s_fa rfl fo_28_0 (nY rfl rfl (decide_eq_true (by omega)) (sL rfl ag_9 ?_))))))
    refine nG rfl rfl (decide_eq_true (by omega)) rfl (nY rfl rfl (decide_eq_true (by omega)) (s_bin rfl rfl rfl (nO (s_pt rfl (decide_eq_true (by omega)) rfl (n_nil (Nc (w_no rfl (by rw [str_lt]; exact decide_eq_false hk) ?_)))))))
    refine w_exit rfl ?_
    exact z_met i ⟨rfl, rfl, rfl, trivial⟩ ⟨by omega, kL, hi, hb, fun _ => hk⟩
  ·repeat first | refine Na ?_ | refine Nb ?_ | refine Nc ?_ | refine Nd ?_ | refine Ne ?_
   refine w_reg 19 rfl rfl (j' := 19) (nM rfl (nM rfl (nN rfl (nO (s_fa0 rfl fo_72_1 (nO (sL rfl ag_48 ?_)))))))
   refine nO (s_len rfl rfl un_48 rfl (nO (s_bin rfl rfl rfl (nM rfl (nSk rfl rfl (decide_eq_false (by omega)) rfl 9 rfl (nO (s_pf rfl (decide_eq_false (by omega)) rfl (n_nil (Nc (w_no rfl (rfl) ?_))))))))))
   refine w_exit rfl ?_
   exact z_met i ⟨rfl, rfl, rfl, trivial⟩ ⟨by omega, kL, hi, hb, fun h => absurd h hlt⟩
 rintro i f gL nL hwL ⟨hnL, kL, hi, hb, hn⟩
 have cL := kL.at0 hw hc
 have hP := placeP h.rl.srt hi hb hn
 by_cases hlt : i < L.length
 ·obtain ⟨l3, o3, c3, cl3, ro3, a3, p3, x1, x2, x3, x4, x5, x6, x7, x8⟩ := (h.ents.kp0 kL hw).at hlt
  cases x1
  repeat first | refine Na ?_ | refine Nb ?_ | refine Nc ?_ | refine Nd ?_ | refine Ne ?_
  refine w_drw (T6 83 4) [(0, []), (1, []), (2, []), (3, []), (4, []), (5, []), (6, []), (7, []), (8, []), (9, []), (10, []), (11, []), (12, []), (13, [12]), (14, []), (15, []), (16, []), (17, [12, 16]), (18, []), (19, []), (20, [12, 16]), (21, [])] 22 (by kernel_rfl) rfl rfl (j' := 22) (dM rfl rfl (dM rfl rfl (dM rfl rfl (dO rfl rfl (s_nil rfl ⟨⟨rfl, rfl⟩, (dO rfl rfl (s_fa0 rfl fo_72_1 ⟨⟨rfl, rfl⟩, (dT rfl rfl rfl (sL rfl ag_48 ⟨clash_nil, ?_⟩))⟩))⟩)))))
  refine dT rfl rfl rfl (s_len rfl rfl un_48 rfl ⟨clash_nil, (dO rfl rfl (s_bin rfl rfl rfl ⟨⟨rfl, rfl⟩, (dM rfl rfl (d_op rfl rfl (.yes rfl rfl (decide_eq_true (by omega))) (q := 9) rfl (s_mv rfl ⟨⟨rfl, rfl⟩, (d_op rfl rfl (.yes rfl rfl (decide_eq_true (by omega))) (q := 10) rfl (s_nil rfl ⟨⟨rfl, rfl⟩, (d_op rfl rfl (.yes rfl rfl (decide_eq_true (by omega))) (q := 11) rfl (s_fa0 rfl fo_72_1 ⟨⟨rfl, rfl⟩, (d_tc rfl rfl rfl (.yes rfl rfl (decide_eq_true (by omega))) (q := 12) rfl (sL rfl ag_48 ⟨clash_nil, ?_⟩))⟩))⟩))⟩)))⟩))⟩)
  refine d_op rfl rfl (.yes rfl rfl (decide_eq_true (by omega))) (q := 13) rfl (s_mv rfl ⟨⟨rfl, rfl⟩, (d_op rfl rfl (.yes rfl rfl (decide_eq_true (by omega))) (q := 14) rfl (s_ia rfl rfl el_48 (by first | assumption | omega) ⟨⟨rfl, rfl⟩, (d_op rfl rfl (.yes rfl rfl (decide_eq_true (by omega))) (q := 15) rfl (s_fa rfl fo_28_0 ⟨⟨rfl, rfl⟩, (d_tc rfl rfl rfl (.yes rfl rfl (decide_eq_true (by omega))) (q := 16) rfl (sL rfl ag_9 ⟨clash_nil, ?_⟩))⟩))⟩))⟩)
  refine d_op rfl rfl (.yes rfl rfl (decide_eq_true (by omega))) (q := 17) rfl (s_mv rfl ⟨⟨rfl, rfl⟩, (d_op rfl rfl (.yes rfl rfl (decide_eq_true (by omega))) (q := 18) rfl (s_bin rfl rfl rfl ⟨⟨rfl, rfl⟩, (dO rfl rfl (s_pt rfl (decide_eq_true (by omega)) rfl ⟨⟨rfl, rfl⟩, (dO rfl rfl (s_as rfl ⟨⟨rfl, rfl⟩, (dO rfl rfl (s_as rfl ⟨⟨rfl, rfl⟩, (d_nil (Nc (Nf (z_r2 rfl rfl rfl ?_))))⟩))⟩))⟩))⟩))⟩)
  refine ⟨i, _, rfl, ?_, kL⟩
  rw [str_eq]
  have e : decide (L[i].key = k) = decide (∃ h : i < L.length, L[i].key = k) := decide_eq_decide.2 ⟨fun q => ⟨hlt, q⟩, fun ⟨_, q⟩ => q⟩
  rw [e]; exact hP
 ·repeat first | refine Na ?_ | refine Nb ?_ | refine Nc ?_ | refine Nd ?_ | refine Ne ?_
  refine w_drw (T6 83 4) [(0, []), (1, []), (2, []), (3, []), (4, []), (5, []), (6, []), (7, []), (8, []), (9, []), (10, []), (11, []), (12, []), (13, [12]), (14, []), (15, []), (16, []), (17, [12, 16]), (18, []), (19, []), (20, [12, 16]), (21, [])] 22 (by kernel_rfl) rfl rfl (j' := 22) (dM rfl rfl (dM rfl rfl (dM rfl rfl (dO rfl rfl (s_nil rfl ⟨⟨rfl, rfl⟩, (dO rfl rfl (s_fa0 rfl fo_72_1 ⟨⟨rfl, rfl⟩, (dT rfl rfl rfl (sL rfl ag_48 ⟨clash_nil, ?_⟩))⟩))⟩)))))
  refine dT rfl rfl rfl (s_len rfl rfl un_48 rfl ⟨clash_nil, (dO rfl rfl (s_bin rfl rfl rfl ⟨⟨rfl, rfl⟩, (dM rfl rfl (d_sk rfl rfl rfl (decide_eq_false (by omega)) (d_sk rfl rfl rfl (decide_eq_false (by omega)) (d_sk rfl rfl rfl (decide_eq_false (by omega)) (d_sk rfl rfl rfl (decide_eq_false (by omega)) (d_sk rfl rfl rfl (decide_eq_false (by omega)) (d_sk rfl rfl rfl (decide_eq_false (by omega)) (d_sk rfl rfl rfl (decide_eq_false (by omega)) (d_sk rfl rfl rfl (decide_eq_false (by omega)) (d_sk rfl rfl rfl (decide_eq_false (by omega)) (d_sk rfl rfl rfl (decide_eq_false (by omega)) (dO rfl rfl (s_pf rfl (decide_eq_false (by omega)) rfl ⟨⟨rfl, rfl⟩, (dO rfl rfl (s_as rfl ⟨⟨rfl, rfl⟩, (dO rfl rfl (s_as rfl ⟨⟨rfl, rfl⟩, (d_nil (Nc (Nf (z_r2 rfl rfl rfl ?_))))⟩))⟩))⟩)))))))))))))⟩))⟩)
  refine ⟨i, _, rfl, ?_, kL⟩
  have e : false = decide (∃ h : i < L.length, L[i].key = k) := (decide_eq_false fun ⟨q, _⟩ => hlt q).symm
  rw [e]; exact hP
end

end Go.Proofs.YtehmailaabjdjaaGreat
end

section
open Go.Proofs
namespace Go.Proofs.YtehmailaabjdjaaGreat
set_option linter.unusedSimpArgs false
set_option linter.unusedVariables false
set_option maxRecDepth 100000

theorem take3 {cl : List Value} {p : Nat} {a b c : Value} (h : (cl.drop p).take 3 = [a, b, c]) : cl[p]? = some a ∧ cl[p + 1]? = some b ∧ cl[p + 2]? = some c := by
 refine ⟨?_, ?_, ?_⟩
 ·have := congrArg (fun x => x[0]?) h
  simpa [List.getElem?_take, List.getElem?_drop] using this
 ·have := congrArg (fun x => x[1]?) h
  simpa [List.getElem?_take, List.getElem?_drop] using this
 ·have := congrArg (fun x => x[2]?) h
  simpa [List.getElem?_take, List.getElem?_drop] using this

section
variable {g : Gm} {n r me lr : Nat} {lv sl : Value} {S : Sto} {L : List SEnt}

theorem key111_c (k : List UInt8) : C 111 #[.string (str k)] g n fun u g' n' => (∃ r, u = .bool r ∧ (r = true ↔ keyOk k)) ∧ K0 g n g' := by
 have hk := str_size k
 refine c_in1 Tryz.func111 rfl Tryz.ntmps111 rfl fun hw => (Na (w_reg 1 rfl rfl (j' := 1) (nA rfl (n_nil ?_))))
 by_cases h1 : 1 ≤ k.length
 ·refine Nc (Na (w_reg 9 rfl rfl (j' := 10) (nM rfl (nO (s_len rfl rfl un_9 rfl (nO (s_bin rfl rfl rfl (nM rfl (nG rfl rfl (decide_eq_true (by omega)) rfl (nY rfl rfl (decide_eq_true (by omega)) (s_len rfl rfl un_9 rfl (nY rfl rfl (decide_eq_true (by omega)) (s_bin rfl rfl rfl (nO (s_pt rfl (decide_eq_true (by omega)) rfl (nA rfl (n_nil (Nc (Nf (z_r1 rfl rfl ?_))))))))))))))))))))
  exact ⟨⟨_, rfl, by simp only [decide_eq_true_eq, keyOk]; omega⟩, (by repeat (first | exact Kp.refl _ _ _ | refine Kp.new ?_ (by omega) _))⟩
 ·refine Nc (Na (w_reg 9 rfl rfl (j' := 10) (nM rfl (nO (s_len rfl rfl un_9 rfl (nO (s_bin rfl rfl rfl (nM rfl (nSk rfl rfl (decide_eq_false (by omega)) rfl 2 rfl (nO (s_pf rfl (decide_eq_false (by omega)) rfl (nA rfl (n_nil (Nc (Nf (z_r1 rfl rfl ?_))))))))))))))))
  exact ⟨⟨_, rfl, by simp [keyOk]; omega⟩, (by repeat (first | exact Kp.refl _ _ _ | refine Kp.new ?_ (by omega) _))⟩

theorem may81_c {gv wv : Value} {gs : List Gd} {ws : List Wr} (h1 : GdsRd g gv gs) (h2 : WrsRd g wv ws) (hlg : gs.length ≤ 2 ^ 40) (hlw : ws.length ≤ 2 ^ 40) :
  C 81 #[.agg [gv, wv].toArray] g n fun u g' n' => (∃ r, u = .bool r ∧ (r = true ↔ txnMay gs ws)) ∧ K0 g n g' := by
 obtain ⟨a1, c1, rfl⟩ := h1.len
 obtain ⟨a2, c2, rfl⟩ := h2.len
 refine c_in1 Tryz.func81 rfl Tryz.ntmps81 rfl fun hw => (Na (w_reg 2 rfl rfl (j' := 2) (n_op .no (q := 0) rfl (s_boxa rfl (nA rfl (n_nil (Nc (Na (Na (w_reg 4 rfl rfl (j' := 6) (nO (s_fa0 rfl fo_42_0 (nO (sL rfl ag_37 ?_))))))))))))))
 refine nO (s_len rfl rfl un_37 rfl (nM rfl (n_nil ?_)))
 refine z_seq ?_
 refine z_meet (β := Unit) (fun _ => [(1, .pointer (some ⟨n, 0, none⟩))]) (fun _ g' n' => n + 1 ≤ n' ∧ K0 g n g' ∧ g' n = some (.cells [.slice a1 gs.length c1, .slice a2 ws.length c2] 0 false) ∧ ∀ x ∈ gs, keyOk x.key ∧ 0 ≤ x.rev) ?_ ?_
 ·repeat first | refine Na ?_ | refine Nb ?_ | refine Nc ?_ | refine Nd ?_ | refine Ne ?_
  refine w_loop (β := Nat) (fun i => [(1, .pointer (some ⟨n, 0, none⟩)), (9, .int .i64 gs.length), (10, .int .i64 i)])
   (fun i g' n' => i ≤ gs.length ∧ n + 1 ≤ n' ∧ K0 g n g' ∧ g' n = some (.cells [.slice a1 gs.length c1, .slice a2 ws.length c2] 0 false) ∧ ∀ j, (h : j < gs.length) → j < i → keyOk gs[j].key ∧ 0 ≤ gs[j].rev) (fun i => gs.length - i) 0 ⟨rfl, rfl, rfl, trivial⟩ ⟨by omega, by omega, (by repeat (first | exact Kp.refl _ _ _ | refine Kp.new ?_ (by omega) _)), gs_same _ _ _, fun j _ h => absurd h (by omega)⟩ ?_
  rintro i f gL nL hwL ⟨hi, hnL, kL, hcell, ht⟩
  repeat first | refine Na ?_ | refine Nb ?_ | refine Nc ?_ | refine Nd ?_ | refine Ne ?_
  refine w_reg 1 rfl rfl (j' := 1) (nO (s_bin rfl rfl rfl (n_nil (Nc (Na (w_if rfl (fun hb => ?_) (fun hb => ?_)))))))
  ·have hi : i < gs.length := by have := of_decide_eq_true hb; omega
   obtain ⟨l3, o3, c3, cl3, ro3, x1, x2, x0, x5⟩ := (h1.kp0 kL hw).at hi
   cases x1
   obtain ⟨y0, y1, _⟩ := take3 x5
   repeat first | refine Na ?_ | refine Nb ?_ | refine Nc ?_ | refine Nd ?_ | refine Ne ?_
   refine w_reg 2 rfl rfl (j' := 3) (nM rfl (nA rfl (n_nil (Nc (Na (w_reg 17 rfl rfl (j' := 20) (nO (s_fa0 rfl fo_42_0 (nO (sL rfl ag_37 ?_))))))))))
   refine nM rfl (nO (s_ia rfl rfl el_37 (by first | assumption | omega) (nO (s_fa rfl fo_36_0 (nO (sL rfl ag_9 ?_))))))
   refine n_call .no rfl rfl rfl (C.use (key111_c _) fun v g2 n2 hw2 hn2 hq => ?_)
   obtain ⟨⟨r, rfl, hr⟩, k2⟩ := hq
   have k2' := k2.dn (m := nL) (by omega)
   have cell2 := k2'.at0 hwL hcell
   have x22 := k2'.at0 hwL x2
   by_cases e1 : keyOk gs[i].key
   ·obtain rfl : r = true := hr.2 e1
    by_cases e2 : 0 ≤ gs[i].rev
    ·refine nO (s_not rfl (nM rfl (nY rfl rfl (rfl) (s_fa0 rfl fo_42_0 (nY rfl rfl (rfl) (sL rfl ag_37 ?_))))))
     refine nG rfl rfl (rfl) rfl (nY rfl rfl (rfl) (s_ia rfl rfl el_37 (by first | assumption | omega) (nY rfl rfl (rfl) (s_fa rfl fo_36_1 (nY rfl rfl (rfl) (sL rfl ag_2 ?_))))))
     refine nY rfl rfl (rfl) (s_bin rfl rfl rfl (nO (s_pf rfl (rfl) rfl (n_nil (Nc (w_no rfl (decide_eq_false (by omega)) ?_))))))
     repeat first | refine Na ?_ | refine Nb ?_ | refine Nc ?_ | refine Nd ?_ | refine Ne ?_
     repeat first | refine Na ?_ | refine Nb ?_ | refine Nc ?_ | refine Nd ?_ | refine Ne ?_
     refine w_reg 2 rfl rfl (j' := 2) (nO (s_bin rfl rfl (by first | exact bi_inc (by omega) | exact bi_add rfl (by omega) (by omega)) ?_))
     refine nM rfl (n_nil ?_)
     exact z_round (i + 1) ⟨rfl, rfl, rfl, trivial⟩ ⟨hi, by omega, kL.trans0 k2' (by omega), cell2, fun j hj hlt => by
      by_cases e : j = i
      ·subst e; exact ⟨e1, e2⟩
      ·exact ht j hj (by omega)⟩ (by omega)
    ·refine nO (s_not rfl (nM rfl (nY rfl rfl (rfl) (s_fa0 rfl fo_42_0 (nY rfl rfl (rfl) (sL rfl ag_37 ?_))))))
     refine nG rfl rfl (rfl) rfl (nY rfl rfl (rfl) (s_ia rfl rfl el_37 (by first | assumption | omega) (nY rfl rfl (rfl) (s_fa rfl fo_36_1 (nY rfl rfl (rfl) (sL rfl ag_2 ?_))))))
     refine nY rfl rfl (rfl) (s_bin rfl rfl rfl (nO (s_pf rfl (rfl) rfl (n_nil (Nc (w_yes rfl (decide_eq_true (by omega)) (Na (w_reg 1 rfl rfl (j' := 1) (nA rfl (n_nil (Nc (Nf (z_r1 rfl rfl ?_)))))))))))))
     exact ⟨⟨_, rfl, ⟨fun h => (by cases h), fun h => absurd (h.2.2.2.1 _ (List.getElem_mem hi)).2 e2⟩⟩, kL.trans0 k2' (by omega)⟩
   ·have : r = false := by
     cases r with
     | false => rfl
     | true => exact absurd (hr.1 rfl) e1
    subst this
    refine nO (s_not rfl (nM rfl (nSk rfl rfl (rfl) rfl 6 rfl (nO (s_pt rfl (rfl) rfl (n_nil (Nc (w_yes rfl (rfl) (Na (w_reg 1 rfl rfl (j' := 1) (nA rfl (n_nil (Nc (Nf (z_r1 rfl rfl ?_)))))))))))))))
    exact ⟨⟨_, rfl, ⟨fun h => (by cases h), fun h => absurd (h.2.2.2.1 _ (List.getElem_mem hi)).1 e1⟩⟩, kL.trans0 k2' (by omega)⟩
  ·refine w_exit rfl ?_
   have : i = gs.length := by have := of_decide_eq_false hb; omega
   subst this
   exact z_met () ⟨rfl, trivial⟩ ⟨by omega, kL, hcell, fun x hx => by
    obtain ⟨j, hj, rfl⟩ := List.mem_iff_getElem.1 hx
    exact ht j hj hj⟩
 rintro _ f g5 n5 hw5 ⟨hn5, k5, hcell, hg⟩
 refine w_seq ?_
 refine z_meet (β := Unit) (fun _ => [(1, .pointer (some ⟨n, 0, none⟩))]) (fun _ g' n' => n + 1 ≤ n' ∧ K0 g n g' ∧ g' n = some (.cells [.slice a1 gs.length c1, .slice a2 ws.length c2] 0 false) ∧ (∀ x ∈ ws, x.ok) ∧ (ws.map Wr.key).Nodup) ?_ ?_
 ·repeat first | refine Na ?_ | refine Nb ?_ | refine Nc ?_ | refine Nd ?_ | refine Ne ?_
  refine w_reg 4 rfl rfl (j' := 4) (nO (s_fa0 rfl fo_42_1 (nO (sL rfl ag_40 ?_))))
  refine nO (s_len rfl rfl un_40 rfl (nM rfl (n_nil ?_)))
  repeat first | refine Na ?_ | refine Nb ?_ | refine Nc ?_ | refine Nd ?_ | refine Ne ?_
  refine w_loop (β := Nat) (fun i => [(1, .pointer (some ⟨n, 0, none⟩)), (33, .int .i64 ws.length), (34, .int .i64 i)])
   (fun i g' n' => i ≤ ws.length ∧ n + 1 ≤ n' ∧ K0 g n g' ∧ g' n = some (.cells [.slice a1 gs.length c1, .slice a2 ws.length c2] 0 false) ∧ (∀ j, (h : j < ws.length) → j < i → ws[j].ok) ∧ ((ws.take i).map Wr.key).Nodup) (fun i => ws.length - i) 0 ⟨rfl, rfl, rfl, trivial⟩ ⟨by omega, by omega, k5, hcell, (fun j _ h => absurd h (by omega)), by simp⟩ ?_
  rintro i f gL nL hwL ⟨hi, hnL, kL, hcell, ht, hnd⟩
  repeat first | refine Na ?_ | refine Nb ?_ | refine Nc ?_ | refine Nd ?_ | refine Ne ?_
  refine w_reg 1 rfl rfl (j' := 1) (nO (s_bin rfl rfl rfl (n_nil (Nc (Na (w_if rfl (fun hb => ?_) (fun hb => ?_)))))))
  ·have hi : i < ws.length := by have := of_decide_eq_true hb; omega
   obtain ⟨l3, o3, c3, cl3, ro3, p3, q3, x1, x2, x0, x5, x6⟩ := (h2.kp0 kL hw).at hi
   cases x1
   repeat first | refine Na ?_ | refine Nb ?_ | refine Nc ?_ | refine Nd ?_ | refine Ne ?_
   refine w_reg 2 rfl rfl (j' := 3) (nM rfl (nA rfl (n_nil (Nc (Na (w_reg 7 rfl rfl (j' := 10) (nO (s_fa0 rfl fo_42_1 (nO (sL rfl ag_40 ?_))))))))))
   refine nM rfl (nO (s_ia rfl rfl el_40 (by first | assumption | omega) (nO (sLa rfl ag_39 sz_39 ?_))))
   refine n_op .no (q := 8) rfl (s_al zl_39 (nO (sSw rfl rfl sz_39 rfl rfl ?_)))
   refine n_nil ?_
   have hfail : ¬ ws[i].ok → ¬ txnMay gs ws := fun h q => h (q.2.2.2.2.1 _ (List.getElem_mem hi))
   refine z_seq ?_
   refine w_seq ?_
   refine z_meet (β := Unit) (fun _ => [(1, .pointer (some ⟨n, 0, none⟩)), (4, .int .i64 i), (5, .pointer (some ⟨nL + 8, 0, none⟩)), (33, .int .i64 ws.length), (34, .int .i64 i)])
    (fun _ g' n' => nL + 9 ≤ n' ∧ K0 gL nL g' ∧ g' (nL + 8) = some (.cells (wrC ws[i] (.slice p3 ws[i].val.length q3)) 0 false) ∧ ws[i].ok) ?_ ?_
   ·repeat first | refine Na ?_ | refine Nb ?_ | refine Nc ?_ | refine Nd ?_ | refine Ne ?_
    refine w_gen fun g6 n6 hg6 hn6 hwg6 => ?_
    have k6 : K0 gL nL g6 := by rw [hg6]; exact (by repeat (first | exact Kp.refl _ _ _ | refine Kp.new ?_ (by omega) _))
    have c6 : g6 (nL + 8) = some (.cells (wrC ws[i] (.slice p3 ws[i].val.length q3)) 0 false) := by rw [hg6]; exact gs_same _ _ _
    clear hg6
    repeat first | refine Na ?_ | refine Nb ?_ | refine Nc ?_ | refine Nd ?_ | refine Ne ?_
    refine w_reg 20 rfl rfl (j' := 20) (nO (s_fa0 rfl fo_39_0 (nO (sL rfl ag_9 ?_))))
    refine n_call .no rfl rfl rfl (C.use (key111_c _) fun v g7 n7 hw7 hn7 hq => ?_)
    obtain ⟨⟨r, rfl, hr⟩, k7⟩ := hq
    have k7' := k7.dn (m := n6) (by omega)
    have c7 := k7'.at0 hwg6 c6
    have k67 : K0 gL nL g7 := k6.trans0 k7' (by omega)
    have kg7 : K0 g n g7 := kL.trans0 k67 (by omega)
    have cell7 := k67.at0 hwL hcell
    by_cases e1 : keyOk ws[i].key
    rotate_left
    ·have : r = false := by
      cases r with
      | false => rfl
      | true => exact absurd (hr.1 rfl) e1
     subst this
     refine nO (s_not rfl (nM rfl (nSk rfl rfl (rfl) rfl 2 rfl (n_skU rfl rfl (n_skU rfl rfl (n_skU rfl rfl (n_skU rfl rfl (n_sk rfl rfl (rfl) (nO (s_pt rfl (rfl) rfl (nM rfl (nSk rfl rfl (rfl) rfl 3 rfl (nO (s_pt rfl (rfl) rfl (n_nil (Nc (w_yes rfl (rfl) (Na (w_reg 1 rfl rfl (j' := 1) (nA rfl (n_nil (Nc (Nf (z_r1 rfl rfl ?_))))))))))))))))))))))))
     exact ⟨⟨_, rfl, ⟨fun h => (by cases h), fun h => absurd h (hfail fun q => e1 q.1)⟩⟩, kg7⟩
    obtain rfl : r = true := hr.2 e1
    by_cases e2 : ws[i].gone = true ∧ 0 < ws[i].val.length
    ·refine nO (s_not rfl (nM rfl (nY rfl rfl (rfl) (s_fa0 rfl fo_39_2 (nY rfl rfl (rfl) (sL rfl ag_4 ?_))))))
     refine nG rfl rfl (rfl) rfl (nY rfl rfl (e2.1) (s_fa0 rfl fo_39_1 (nY rfl rfl (e2.1) (sL rfl ag_26 ?_))))
     refine nY rfl rfl (e2.1) (s_len rfl rfl un_26 rfl (nY rfl rfl (e2.1) (s_bin rfl rfl rfl (nY rfl rfl (rfl) (s_pt rfl (e2.1) rfl (nO (s_pf rfl (rfl) rfl (nM rfl (nSk rfl rfl (decide_eq_true (by omega)) rfl 3 rfl (nO (s_pt rfl (decide_eq_true (by omega)) rfl (n_nil (Nc (w_yes rfl (rfl) (Na (w_reg 1 rfl rfl (j' := 1) (nA rfl (n_nil (Nc (Nf (z_r1 rfl rfl ?_)))))))))))))))))))))
     exact ⟨⟨_, rfl, ⟨fun h => (by cases h), fun h => absurd h (hfail fun q => q.2.1 e2)⟩⟩, kg7⟩
    have e3 : ws[i].gone = true → ws[i].val.length = 0 := fun q => Nat.eq_zero_of_not_pos fun z => e2 ⟨q, z⟩
    by_cases e4 : ws[i].val.length ≤ 4000
    rotate_left
    ·have hgo : ws[i].gone = false := by
      cases q : ws[i].gone with
      | false => rfl
      | true => have := e3 q; omega
     refine nO (s_not rfl (nM rfl (nY rfl rfl (rfl) (s_fa0 rfl fo_39_2 (nY rfl rfl (rfl) (sL rfl ag_4 ?_))))))
     refine nG rfl rfl (rfl) rfl (nSk rfl rfl (hgo) rfl 3 rfl (nY rfl rfl (rfl) (s_pf rfl (hgo) rfl (nO (s_pf rfl (rfl) rfl (nM rfl (nY rfl rfl (rfl) (s_fa0 rfl fo_39_1 (nY rfl rfl (rfl) (sL rfl ag_26 ?_))))))))))
     refine nY rfl rfl (rfl) (s_len rfl rfl un_26 rfl (nY rfl rfl (rfl) (s_bin rfl rfl rfl (nO (s_pf rfl (rfl) rfl (n_nil (Nc (w_yes rfl (decide_eq_true (by omega)) (Na (w_reg 1 rfl rfl (j' := 1) (nA rfl (n_nil (Nc (Nf (z_r1 rfl rfl ?_)))))))))))))))
     exact ⟨⟨_, rfl, ⟨fun h => (by cases h), fun h => absurd h (hfail fun q => e4 q.2.2)⟩⟩, kg7⟩
    have hok : ws[i].ok := ⟨e1, e2, e4⟩
    rcases hgo : ws[i].gone with _ | _
    ·refine nO (s_not rfl (nM rfl (nY rfl rfl (rfl) (s_fa0 rfl fo_39_2 (nY rfl rfl (rfl) (sL rfl ag_4 ?_))))))
     refine nG rfl rfl (rfl) rfl (nSk rfl rfl (hgo) rfl 3 rfl (nY rfl rfl (rfl) (s_pf rfl (hgo) rfl (nO (s_pf rfl (rfl) rfl (nM rfl (nY rfl rfl (rfl) (s_fa0 rfl fo_39_1 (nY rfl rfl (rfl) (sL rfl ag_26 ?_))))))))))
     refine nY rfl rfl (rfl) (s_len rfl rfl un_26 rfl (nY rfl rfl (rfl) (s_bin rfl rfl rfl (nO (s_pf rfl (rfl) rfl (n_nil (Nc (w_no rfl (decide_eq_false (by omega)) ?_))))))))
     repeat first | refine Na ?_ | refine Nb ?_ | refine Nc ?_ | refine Nd ?_ | refine Ne ?_
     exact z_met () ⟨rfl, rfl, rfl, rfl, rfl, trivial⟩ ⟨by omega, k67, c7, hok⟩
    ·have e5 := e3 hgo
     refine nO (s_not rfl (nM rfl (nY rfl rfl (rfl) (s_fa0 rfl fo_39_2 (nY rfl rfl (rfl) (sL rfl ag_4 ?_))))))
     refine nG rfl rfl (rfl) rfl (nY rfl rfl (hgo) (s_fa0 rfl fo_39_1 (nY rfl rfl (hgo) (sL rfl ag_26 ?_))))
     refine nY rfl rfl (hgo) (s_len rfl rfl un_26 rfl (nY rfl rfl (hgo) (s_bin rfl rfl rfl (nY rfl rfl (rfl) (s_pt rfl (hgo) rfl (nO (s_pf rfl (rfl) rfl (nM rfl (nY rfl rfl (decide_eq_false (by omega)) (s_fa0 rfl fo_39_1 (nY rfl rfl (decide_eq_false (by omega)) (sL rfl ag_26 ?_))))))))))))
     refine nY rfl rfl (decide_eq_false (by omega)) (s_len rfl rfl un_26 rfl (nY rfl rfl (decide_eq_false (by omega)) (s_bin rfl rfl rfl (nO (s_pf rfl (decide_eq_false (by omega)) rfl (n_nil (Nc (w_no rfl (decide_eq_false (by omega)) ?_))))))))
     repeat first | refine Na ?_ | refine Nb ?_ | refine Nc ?_ | refine Nd ?_ | refine Ne ?_
     exact z_met () ⟨rfl, rfl, rfl, rfl, rfl, trivial⟩ ⟨by omega, k67, c7, hok⟩
   rintro _ f g6 n6 hw6 ⟨hn6, k6, c6, hok⟩
   have kg6 : K0 g n g6 := kL.trans0 k6 (by omega)
   have hcell6 := k6.at0 hwL hcell
   repeat first | refine Na ?_ | refine Nb ?_ | refine Nc ?_ | refine Nd ?_ | refine Ne ?_
   refine w_reg 1 rfl rfl (j' := 1) (nA rfl (n_nil ?_))
   repeat first | refine Na ?_ | refine Nb ?_ | refine Nc ?_ | refine Nd ?_ | refine Ne ?_
   refine w_loop (β := Nat) (fun j => [(1, .pointer (some ⟨n, 0, none⟩)), (4, .int .i64 i), (5, .pointer (some ⟨nL + 8, 0, none⟩)), (6, .int .i64 j), (33, .int .i64 ws.length), (34, .int .i64 i)])
    (fun j g' n' => j ≤ i ∧ n6 ≤ n' ∧ K0 g6 n6 g' ∧ ws[i].key ∉ (ws.take j).map Wr.key) (fun j => i - j) 0 ⟨rfl, rfl, rfl, rfl, rfl, rfl, trivial⟩ ⟨by omega, by omega, Kp.refl _ _ _, by simp⟩ ?_
   rintro j f g9 n9 hw9 ⟨hj, hn9, k9, hno⟩
   have k69 : K0 g n g9 := kg6.trans0 k9 (by omega)
   have hcell9 := k9.at0 hw6 hcell6
   have c9 := k9.at0 hw6 c6
   repeat first | refine Na ?_ | refine Nb ?_ | refine Nc ?_ | refine Nd ?_ | refine Ne ?_
   refine w_reg 3 rfl rfl (j' := 3) (nM rfl (nM rfl (nO (s_bin rfl rfl rfl (n_nil (Nc (w_if rfl (fun hb2 => ?_) (fun hb2 => ?_))))))))
   ·have hji : j < i := by have := of_decide_eq_true hb2; omega
    obtain ⟨l4, o4, c4, cl4, ro4, p4, q4, z1, z2, z0, z5, z6⟩ := (h2.kp0 k69 hw).at (show j < ws.length by omega)
    cases z1
    obtain ⟨y0, _, _⟩ := take3 z5
    by_cases hkk : ws[j].key = ws[i].key
    ·repeat first | refine Na ?_ | refine Nb ?_ | refine Nc ?_ | refine Nd ?_ | refine Ne ?_
     refine w_drw (T6 81 16) [(0, []), (1, []), (2, [1]), (3, []), (4, []), (5, []), (6, [1, 5]), (7, [1, 5]), (8, [])] 9 (by kernel_rfl) rfl rfl (j' := 12) (dO rfl rfl (s_fa0 rfl fo_42_1 ⟨⟨rfl, rfl⟩, (dT rfl rfl rfl (sL rfl ag_40 ⟨clash_nil, ?_⟩))⟩))
     refine dM rfl rfl (dO rfl rfl (s_ia rfl rfl el_40 (by first | assumption | omega) ⟨⟨rfl, rfl⟩, (dO rfl rfl (s_fa rfl fo_39_0 ⟨⟨rfl, rfl⟩, (dT rfl rfl rfl (sL rfl ag_9 ⟨clash_nil, ?_⟩))⟩))⟩))
     refine dO rfl rfl (s_fa0 rfl fo_39_0 ⟨⟨rfl, rfl⟩, (dT rfl rfl rfl (sL rfl ag_9 ⟨clash_rd rfl, ?_⟩))⟩)
     refine dO rfl rfl (s_bin rfl rfl rfl ⟨⟨rfl, rfl⟩, (d_nil (Nc (w_yes rfl (by rw [str_eq]; exact decide_eq_true hkk) (Na (w_reg 1 rfl rfl (j' := 13) (nA rfl (n_nil (Nc (Nf (z_r1 rfl rfl ?_))))))))))⟩)
     refine ⟨⟨_, rfl, ⟨fun h => (by cases h), fun h => ?_⟩⟩, k69⟩
     exact absurd (List.mem_map.2 ⟨ws[j], List.mem_take_iff_getElem.2 ⟨j, by omega, rfl⟩, hkk⟩) (nodup_take hi h.2.2.2.2.2)
    ·repeat first | refine Na ?_ | refine Nb ?_ | refine Nc ?_ | refine Nd ?_ | refine Ne ?_
     refine w_drw (T6 81 16) [(0, []), (1, []), (2, [1]), (3, []), (4, []), (5, []), (6, [1, 5]), (7, [1, 5]), (8, [])] 9 (by kernel_rfl) rfl rfl (j' := 12) (dO rfl rfl (s_fa0 rfl fo_42_1 ⟨⟨rfl, rfl⟩, (dT rfl rfl rfl (sL rfl ag_40 ⟨clash_nil, ?_⟩))⟩))
     refine dM rfl rfl (dO rfl rfl (s_ia rfl rfl el_40 (by first | assumption | omega) ⟨⟨rfl, rfl⟩, (dO rfl rfl (s_fa rfl fo_39_0 ⟨⟨rfl, rfl⟩, (dT rfl rfl rfl (sL rfl ag_9 ⟨clash_nil, ?_⟩))⟩))⟩))
     refine dO rfl rfl (s_fa0 rfl fo_39_0 ⟨⟨rfl, rfl⟩, (dT rfl rfl rfl (sL rfl ag_9 ⟨clash_rd rfl, ?_⟩))⟩)
     refine dO rfl rfl (s_bin rfl rfl rfl ⟨⟨rfl, rfl⟩, (d_nil (Nc (w_no rfl (by rw [str_eq]; exact decide_eq_false hkk) ?_)))⟩)
     repeat first | refine Na ?_ | refine Nb ?_ | refine Nc ?_ | refine Nd ?_ | refine Ne ?_
     repeat first | refine Na ?_ | refine Nb ?_ | refine Nc ?_ | refine Nd ?_ | refine Ne ?_
     refine w_reg 3 rfl rfl (j' := 15) (nM rfl (nO (s_bin rfl rfl (by first | exact bi_inc (by omega) | exact bi_add rfl (by omega) (by omega)) ?_)))
     refine nA rfl (n_nil ?_)
     repeat first | refine Na ?_ | refine Nb ?_ | refine Nc ?_ | refine Nd ?_ | refine Ne ?_
     refine z_round (j + 1) ⟨rfl, rfl, rfl, rfl, rfl, rfl, trivial⟩ ⟨hji, by omega, k9, ?_⟩ (by omega)
     rw [List.take_succ_eq_append_getElem (show j < ws.length by omega), List.map_append, List.mem_append, not_or]
     exact ⟨hno, by simpa using fun q => hkk q.symm⟩
   ·have hji : j = i := by have := of_decide_eq_false hb2; omega
    subst hji
    refine w_exit rfl ?_
    repeat first | refine Na ?_ | refine Nb ?_ | refine Nc ?_ | refine Nd ?_ | refine Ne ?_
    repeat first | refine Na ?_ | refine Nb ?_ | refine Nc ?_ | refine Nd ?_ | refine Ne ?_
    refine w_reg 2 rfl rfl (j' := 5) (nO (s_bin rfl rfl (by first | exact bi_inc (by omega) | exact bi_add rfl (by omega) (by omega)) ?_))
    refine nM rfl (n_nil ?_)
    repeat first | refine Na ?_ | refine Nb ?_ | refine Nc ?_ | refine Nd ?_ | refine Ne ?_
    exact z_round (j + 1) ⟨rfl, rfl, rfl, trivial⟩ ⟨hi, by omega, k69, hcell9, (fun q hq hlt => by
     by_cases e : q = j
     ·subst e; exact hok
     ·exact ht q hq (by omega)), take_nodup hi hnd hno⟩ (by omega)
  ·refine w_exit rfl ?_
   have : i = ws.length := by have := of_decide_eq_false hb; omega
   subst this
   exact z_met () ⟨rfl, trivial⟩ ⟨by omega, kL, hcell, fun x hx => by
    obtain ⟨j, hj, rfl⟩ := List.mem_iff_getElem.1 hx
    exact ht j hj hj, by simpa using hnd⟩
 rintro _ f g8 n8 hw8 ⟨hn8, k8, hcell, hok, hnd⟩
 by_cases d1 : gs.length ≤ 20
 rotate_left
 ·repeat first | refine Na ?_ | refine Nb ?_ | refine Nc ?_ | refine Nd ?_ | refine Ne ?_
  refine w_reg 17 rfl rfl (j' := 17) (nO (s_fa0 rfl fo_42_0 (nO (sL rfl ag_37 ?_))))
  refine nO (s_len rfl rfl un_37 rfl (nO (s_bin rfl rfl rfl (nM rfl (nSk rfl rfl (decide_eq_false (by omega)) rfl 3 rfl (nO (s_pf rfl (decide_eq_false (by omega)) rfl (nM rfl (nSk rfl rfl (rfl) rfl 3 rfl (nO (s_pf rfl (rfl) rfl (nA rfl (n_nil (Nc (Nf (z_r1 rfl rfl ?_))))))))))))))))
  exact ⟨⟨_, rfl, ⟨fun h => (by cases h), fun h => absurd h.1 d1⟩⟩, k8⟩
 by_cases d0 : 1 ≤ ws.length
 rotate_left
 ·repeat first | refine Na ?_ | refine Nb ?_ | refine Nc ?_ | refine Nd ?_ | refine Ne ?_
  refine w_reg 17 rfl rfl (j' := 17) (nO (s_fa0 rfl fo_42_0 (nO (sL rfl ag_37 ?_))))
  refine nO (s_len rfl rfl un_37 rfl (nO (s_bin rfl rfl rfl (nM rfl (nY rfl rfl (decide_eq_true (by omega)) (s_fa0 rfl fo_42_1 (nY rfl rfl (decide_eq_true (by omega)) (sL rfl ag_40 ?_))))))))
  refine nY rfl rfl (decide_eq_true (by omega)) (s_len rfl rfl un_40 rfl (nY rfl rfl (decide_eq_true (by omega)) (s_bin rfl rfl rfl (nO (s_pt rfl (decide_eq_true (by omega)) rfl (nM rfl (nSk rfl rfl (decide_eq_false (by omega)) rfl 3 rfl (nO (s_pf rfl (decide_eq_false (by omega)) rfl (nA rfl (n_nil (Nc (Nf (z_r1 rfl rfl ?_))))))))))))))
  exact ⟨⟨_, rfl, ⟨fun h => (by cases h), fun h => absurd h.2.1 d0⟩⟩, k8⟩
 repeat first | refine Na ?_ | refine Nb ?_ | refine Nc ?_ | refine Nd ?_ | refine Ne ?_
 refine w_reg 17 rfl rfl (j' := 17) (nO (s_fa0 rfl fo_42_0 (nO (sL rfl ag_37 ?_))))
 refine nO (s_len rfl rfl un_37 rfl (nO (s_bin rfl rfl rfl (nM rfl (nY rfl rfl (decide_eq_true (by omega)) (s_fa0 rfl fo_42_1 (nY rfl rfl (decide_eq_true (by omega)) (sL rfl ag_40 ?_))))))))
 refine nY rfl rfl (decide_eq_true (by omega)) (s_len rfl rfl un_40 rfl (nY rfl rfl (decide_eq_true (by omega)) (s_bin rfl rfl rfl (nO (s_pt rfl (decide_eq_true (by omega)) rfl (nM rfl (nY rfl rfl (decide_eq_true (by omega)) (s_fa0 rfl fo_42_1 (nY rfl rfl (decide_eq_true (by omega)) (sL rfl ag_40 ?_))))))))))
 refine nY rfl rfl (decide_eq_true (by omega)) (s_len rfl rfl un_40 rfl (nY rfl rfl (decide_eq_true (by omega)) (s_bin rfl rfl rfl (nO (s_pt rfl (decide_eq_true (by omega)) rfl (nA rfl (n_nil (Nc (Nf (z_r1 rfl rfl ?_))))))))))
 exact ⟨⟨_, rfl, ⟨fun h => ⟨d1, d0, by have := of_decide_eq_true h; omega, hg, hok, hnd⟩, fun h => decide_eq_true (by have := h.2.2.1; omega)⟩⟩, k8⟩

theorem holds_not {x : Gd} (hu : ¬ x.under = true) : S.holds x ↔ ((findK x.key S.now).map SEnt.rev).getD 0 = x.rev := by
 unfold Sto.holds
 rw [if_neg hu]

theorem holds82_c {x : Gd} (h : RsAt g r me lr lv sl S L) (hn40 : L.length ≤ 2 ^ 40) : C 82 #[.pointer (some ⟨r, 0, none⟩), .agg [.string (str x.key), .int .i64 x.rev, .bool x.under].toArray] g n fun u g' n' => (∃ b, u = .bool b ∧ (b = true ↔ S.holds x)) ∧ K0 g n g' := by
 obtain ⟨a, c, rfl⟩ := h.ents.len
 have hc := h.cell
 refine c_in2 Tryz.func82 rfl Tryz.ntmps82 rfl fun hw => ?_
 have hrn := hw _ _ hc
 refine Na (w_reg 2 rfl rfl (j' := 2) (n_op .no (q := 0) rfl (s_boxa rfl (nA rfl (n_nil (Nc (Na (Na (w_reg 2 rfl rfl (j' := 4) (nO (s_fa0 rfl fo_36_2 (nO (sL rfl ag_4 ?_)))))))))))))
 refine n_nil ?_
 by_cases hu : x.under = true
 rotate_left
 ·have hu' : x.under = false := by simpa using hu
  refine Nc (w_no rfl (hu') ?_)
  repeat first | refine Na ?_ | refine Nb ?_ | refine Nc ?_ | refine Nd ?_ | refine Ne ?_
  repeat first | refine Na ?_ | refine Nb ?_ | refine Nc ?_ | refine Nd ?_ | refine Ne ?_
  refine w_reg 9 rfl rfl (j' := 13) (nM rfl (nO (s_fa0 rfl fo_36_0 (nO (sL rfl ag_9 ?_)))))
  refine n_call .no rfl rfl rfl (C.use (place_c (k := x.key) (h.kp0 (n := n) (by repeat (first | exact Kp.refl _ _ _ | refine Kp.new ?_ (by omega) _)) hw) hn40) fun v g2 n2 hw2 hn2 hq => ?_)
  obtain ⟨p, ok, rfl, hP, k2⟩ := hq
  have k2' : K0 g n g2 := Kp.trans0 (n' := n) (by repeat (first | exact Kp.refl _ _ _ | refine Kp.new ?_ (by omega) _)) (k2.dn (by omega)) (by omega)
  have c2 := k2'.at0 hw hc
  have b2 : g2 n = some (.cells [.string (str x.key), .int .i64 x.rev, .bool x.under] 0 false) := k2.lt (by omega) (gs_same _ _ _)
  have h2 := h.kp0 k2' hw
  refine nM rfl (nO (s_ext rfl rfl (nO (s_ext rfl rfl (nA rfl (nA rfl (n_nil ?_)))))))
  rcases ok with _ | _
  ·obtain ⟨hf, _⟩ := hP.no rfl
   rw [h.rl.find] at hf
   refine Nc (Na (w_drw (T6 82 9) [(0, []), (1, []), (2, []), (3, []), (4, []), (5, []), (6, [5]), (7, []), (8, []), (9, []), (10, [5, 9]), (11, [5, 9]), (12, []), (13, []), (14, []), (15, []), (16, []), (17, []), (18, []), (19, []), (20, []), (21, []), (22, []), (23, [])] 24 (by kernel_rfl) rfl rfl (j' := 24) (dM rfl rfl (dM rfl rfl (d_sk rfl rfl rfl (rfl) (d_sk rfl rfl rfl (rfl) (d_sk rfl rfl rfl (rfl) (d_sk rfl rfl rfl (rfl) (d_sk rfl rfl rfl (rfl) (d_sk rfl rfl rfl (rfl) (d_sk rfl rfl rfl (rfl) (d_sk rfl rfl rfl (rfl) (d_sk rfl rfl rfl (rfl) (d_sk rfl rfl rfl (rfl) (d_sk rfl rfl rfl (rfl) (dO rfl rfl (s_pf rfl (rfl) rfl ⟨⟨rfl, rfl⟩, (dM rfl rfl (d_op rfl rfl (.yes rfl rfl (rfl)) (q := 15) rfl (s_mv rfl ⟨⟨rfl, rfl⟩, (d_op rfl rfl (.yes rfl rfl (rfl)) (q := 16) rfl (s_not rfl ⟨⟨rfl, rfl⟩, (d_op rfl rfl (.yes rfl rfl (rfl)) (q := 17) rfl (s_mv rfl ⟨⟨rfl, rfl⟩, (d_op rfl rfl (.yes rfl rfl (rfl)) (q := 18) rfl (s_fa0 rfl fo_36_1 ⟨⟨rfl, rfl⟩, (d_tc rfl rfl rfl (.yes rfl rfl (rfl)) (q := 19) rfl (sL rfl ag_2 ⟨clash_nil, ?_⟩))⟩))⟩))⟩))⟩)))⟩)))))))))))))))))
   refine d_op rfl rfl (.yes rfl rfl (rfl)) (q := 20) rfl (s_bin rfl rfl rfl ⟨⟨rfl, rfl⟩, (d_op rfl rfl (.yes rfl rfl (rfl)) (q := 21) rfl (s_pt rfl (rfl) rfl ⟨⟨rfl, rfl⟩, (dO rfl rfl (s_pf rfl (rfl) rfl ⟨⟨rfl, rfl⟩, (dO rfl rfl (s_as rfl ⟨⟨rfl, rfl⟩, (d_nil (Nc (Nf (z_r1 rfl rfl ?_))))⟩))⟩))⟩))⟩)
   refine ⟨⟨_, rfl, ?_⟩, k2'⟩
   rw [holds_not hu, hf, beq_iff_eq]
   exact ⟨fun q => q.symm, fun q => q.symm⟩
  ·obtain ⟨hp, hf, _⟩ := hP.yes rfl
   rw [h.rl.find] at hf
   obtain ⟨l3, o3, c3, cl3, ro3, a3, p3, x1, x2, x3, x4, x5, x6, x7, x8⟩ := h2.ents.at hp
   cases x1
   by_cases hr : L[p].rev = x.rev
   ·refine Nc (Na (w_drw (T6 82 9) [(0, []), (1, []), (2, []), (3, []), (4, []), (5, []), (6, [5]), (7, []), (8, []), (9, []), (10, [5, 9]), (11, [5, 9]), (12, []), (13, []), (14, []), (15, []), (16, []), (17, []), (18, []), (19, []), (20, []), (21, []), (22, []), (23, [])] 24 (by kernel_rfl) rfl rfl (j' := 24) (dM rfl rfl (dM rfl rfl (d_op rfl rfl (.yes rfl rfl (rfl)) (q := 2) rfl (s_mv rfl ⟨⟨rfl, rfl⟩, (d_op rfl rfl (.yes rfl rfl (rfl)) (q := 3) rfl (s_nil rfl ⟨⟨rfl, rfl⟩, (d_op rfl rfl (.yes rfl rfl (rfl)) (q := 4) rfl (s_fa0 rfl fo_72_1 ⟨⟨rfl, rfl⟩, (d_tc rfl rfl rfl (.yes rfl rfl (rfl)) (q := 5) rfl (sL rfl ag_48 ⟨clash_nil, ?_⟩))⟩))⟩))⟩))))))
    refine d_op rfl rfl (.yes rfl rfl (rfl)) (q := 6) rfl (s_mv rfl ⟨⟨rfl, rfl⟩, (d_op rfl rfl (.yes rfl rfl (rfl)) (q := 7) rfl (s_ia rfl rfl el_48 (by first | assumption | omega) ⟨⟨rfl, rfl⟩, (d_op rfl rfl (.yes rfl rfl (rfl)) (q := 8) rfl (s_fa rfl fo_28_1 ⟨⟨rfl, rfl⟩, (d_tc rfl rfl rfl (.yes rfl rfl (rfl)) (q := 9) rfl (sL rfl ag_2 ⟨clash_nil, ?_⟩))⟩))⟩))⟩)
    refine d_op rfl rfl (.yes rfl rfl (rfl)) (q := 10) rfl (s_fa0 rfl fo_36_1 ⟨⟨rfl, rfl⟩, (d_tc rfl rfl rfl (.yes rfl rfl (rfl)) (q := 11) rfl (sL rfl ag_2 ⟨clash_rd rfl, ?_⟩))⟩)
    refine d_op rfl rfl (.yes rfl rfl (rfl)) (q := 12) rfl (s_bin rfl rfl rfl ⟨⟨rfl, rfl⟩, (dO rfl rfl (s_pt rfl (rfl) rfl ⟨⟨rfl, rfl⟩, (dM rfl rfl (d_sk rfl rfl rfl (beq_iff_eq.2 hr) (d_sk rfl rfl rfl (beq_iff_eq.2 hr) (d_sk rfl rfl rfl (beq_iff_eq.2 hr) (d_skU rfl rfl rfl (d_skU rfl rfl rfl (d_skU rfl rfl rfl (d_sk rfl rfl rfl (beq_iff_eq.2 hr) (dO rfl rfl (s_pt rfl (beq_iff_eq.2 hr) rfl ⟨⟨rfl, rfl⟩, (dO rfl rfl (s_as rfl ⟨⟨rfl, rfl⟩, (d_nil (Nc (Nf (z_r1 rfl rfl ?_))))⟩))⟩))))))))))⟩))⟩)
    refine ⟨⟨_, rfl, ?_⟩, k2'⟩
    rw [holds_not hu, hf]
    exact ⟨fun _ => hr, fun _ => rfl⟩
   ·refine Nc (Na (w_drw (T6 82 9) [(0, []), (1, []), (2, []), (3, []), (4, []), (5, []), (6, [5]), (7, []), (8, []), (9, []), (10, [5, 9]), (11, [5, 9]), (12, []), (13, []), (14, []), (15, []), (16, []), (17, []), (18, []), (19, []), (20, []), (21, []), (22, []), (23, [])] 24 (by kernel_rfl) rfl rfl (j' := 24) (dM rfl rfl (dM rfl rfl (d_op rfl rfl (.yes rfl rfl (rfl)) (q := 2) rfl (s_mv rfl ⟨⟨rfl, rfl⟩, (d_op rfl rfl (.yes rfl rfl (rfl)) (q := 3) rfl (s_nil rfl ⟨⟨rfl, rfl⟩, (d_op rfl rfl (.yes rfl rfl (rfl)) (q := 4) rfl (s_fa0 rfl fo_72_1 ⟨⟨rfl, rfl⟩, (d_tc rfl rfl rfl (.yes rfl rfl (rfl)) (q := 5) rfl (sL rfl ag_48 ⟨clash_nil, ?_⟩))⟩))⟩))⟩))))))
    refine d_op rfl rfl (.yes rfl rfl (rfl)) (q := 6) rfl (s_mv rfl ⟨⟨rfl, rfl⟩, (d_op rfl rfl (.yes rfl rfl (rfl)) (q := 7) rfl (s_ia rfl rfl el_48 (by first | assumption | omega) ⟨⟨rfl, rfl⟩, (d_op rfl rfl (.yes rfl rfl (rfl)) (q := 8) rfl (s_fa rfl fo_28_1 ⟨⟨rfl, rfl⟩, (d_tc rfl rfl rfl (.yes rfl rfl (rfl)) (q := 9) rfl (sL rfl ag_2 ⟨clash_nil, ?_⟩))⟩))⟩))⟩)
    refine d_op rfl rfl (.yes rfl rfl (rfl)) (q := 10) rfl (s_fa0 rfl fo_36_1 ⟨⟨rfl, rfl⟩, (d_tc rfl rfl rfl (.yes rfl rfl (rfl)) (q := 11) rfl (sL rfl ag_2 ⟨clash_rd rfl, ?_⟩))⟩)
    refine d_op rfl rfl (.yes rfl rfl (rfl)) (q := 12) rfl (s_bin rfl rfl rfl ⟨⟨rfl, rfl⟩, (dO rfl rfl (s_pt rfl (rfl) rfl ⟨⟨rfl, rfl⟩, (dM rfl rfl (d_op rfl rfl (.yes rfl rfl (beq_eq_false_iff_ne.2 hr)) (q := 15) rfl (s_mv rfl ⟨⟨rfl, rfl⟩, (d_op rfl rfl (.yes rfl rfl (beq_eq_false_iff_ne.2 hr)) (q := 16) rfl (s_not rfl ⟨⟨rfl, rfl⟩, (d_op rfl rfl (.yes rfl rfl (beq_eq_false_iff_ne.2 hr)) (q := 17) rfl (s_mv rfl ⟨⟨rfl, rfl⟩, (d_sk rfl rfl rfl (rfl) (d_sk rfl rfl rfl (rfl) (d_sk rfl rfl rfl (rfl) (d_op rfl rfl (.yes rfl rfl (beq_eq_false_iff_ne.2 hr)) (q := 21) rfl (s_pf rfl (rfl) rfl ⟨⟨rfl, rfl⟩, (dO rfl rfl (s_pf rfl (beq_eq_false_iff_ne.2 hr) rfl ⟨⟨rfl, rfl⟩, (dO rfl rfl (s_as rfl ⟨⟨rfl, rfl⟩, (d_nil (Nc (Nf (z_r1 rfl rfl ?_))))⟩))⟩))⟩)))))⟩))⟩))⟩)))⟩))⟩)
    refine ⟨⟨_, rfl, ?_⟩, k2'⟩
    rw [holds_not hu, hf]
    exact ⟨fun q => (by cases q), fun q => absurd q hr⟩
 ·refine Nc (w_yes rfl (hu) ?_)
  obtain ⟨es, clock, hm, hst, hes⟩ := h.ever
  have hmn := hw _ _ hm
  refine Na (Na (w_reg 5 rfl rfl (j' := 9) (nM rfl (nN rfl (nO (s_fa0 rfl fo_72_2 (nO (sL rfl ag_69 ?_))))))))
  refine n_range (q := 8) rfl un_69 rfl (by repeat first | exact gS | exact hm | refine gN (by omega) ?_) (n_nil ?_)
  repeat first | refine Na ?_ | refine Nb ?_ | refine Nc ?_ | refine Nd ?_ | refine Ne ?_
  refine w_loop (β := List Nat) (fun _ => [(3, .pointer (some ⟨n, 0, none⟩)), (15, .pointer (some ⟨n + 8, 0, none⟩))])
   (fun seen g' n' => n + 9 ≤ n' ∧ K0 g n g' ∧ g' n = some (.cells [.string (str x.key), .int .i64 x.rev, .bool x.under] 0 false) ∧ g' (n + 8) = some (.mapIter (some me) clock seen clock) ∧ ∀ e ∈ es, e.born ∈ seen → ∀ p : Bs × Int, e.key = .string (str p.1) → e.val = .int .i64 p.2 → x.rev < p.2 → ¬ x.key <+: p.1) (toCome es) [] ⟨rfl, rfl, trivial⟩ ⟨by omega, (by repeat (first | exact Kp.refl _ _ _ | refine Kp.new ?_ (by omega) _)), (by repeat first | exact gS | refine gN (by omega) ?_), gs_same _ _ _, fun e _ h => by cases h⟩ ?_
  rintro seen f gL nL hwL ⟨hnL, kL, cL, iL, hall⟩
  have mL := kL.at0 hw hm
  have hmL := hwL _ _ mL
  have hm9 : me ≠ n + 8 := by omega
  repeat first | refine Na ?_ | refine Nb ?_ | refine Nc ?_ | refine Nd ?_ | refine Ne ?_
  refine w_reg 2 rfl rfl (j' := 2) (n_next (q := 0) rfl rfl iL mL (fun e he => hst.1 e (by simpa using he)) (Nat.le_refl _) (fun hno => ?_) (fun e he hns => ?_))
  ·refine nO (s_ext rfl rfl (n_nil (Nc (Na (w_no rfl (rfl) ?_)))))
   refine w_exit rfl ?_
   repeat first | refine Na ?_ | refine Nb ?_ | refine Nc ?_ | refine Nd ?_ | refine Ne ?_
   refine w_reg 1 rfl rfl (j' := 3) (nA rfl (n_nil (Nc (Nf (z_r1 rfl rfl ?_)))))
   refine ⟨⟨_, rfl, fun _ => ?_, fun _ => rfl⟩, kL⟩
   unfold Sto.holds
   rw [if_pos hu]
   intro p hp hlt
   obtain ⟨e, he, e1, e2⟩ := (EsR.mem hes).2 p hp
   exact hall e he (hno e he) p e1 e2 hlt
  ·have hnew : ∀ e' ∈ es, e'.born ∈ seen ++ [e.born] → e'.born ∈ seen ∨ e' = e := fun e' he' hb => by
    rcases List.mem_append.1 hb with hb | hb
    ·exact .inl hb
    ·exact .inr (born_inj hst.2.1 he' he (List.mem_singleton.1 hb))
   have hlt2 := toCome_lt he hns
   obtain ⟨p, hp, e1, e2⟩ := (EsR.mem hes).1 e he
   obtain ⟨ek, ev, eb⟩ := e
   simp only at e1 e2
   subst e1 e2
   have kI : K0 g n (gset gL (n + 8) (.mapIter (some me) clock (seen ++ [eb]) clock)) := Kp.new kL (by omega) _
   have hall2 : (x.rev < p.2 → ¬ x.key <+: p.1) → ∀ e' ∈ es, e'.born ∈ seen ++ [eb] → ∀ p : Bs × Int, e'.key = .string (str p.1) → e'.val = .int .i64 p.2 → x.rev < p.2 → ¬ x.key <+: p.1 := fun hq e' he' hb p' k1 k2 hl => by
    rcases hnew e' he' hb with hb | rfl
    ·exact hall e' he' hb p' k1 k2 hl
    ·simp only [Value.string.injEq, Value.int.injEq, true_and] at k1 k2
     have := str_inj k1
     rw [← this]
     exact hq (by rw [k2]; exact hl)
   have hs1 : (str x.key).size = x.key.length := str_size x.key
   have hs2 : (str p.1).size = p.1.length := str_size p.1
   refine nO (s_ext rfl rfl (n_nil (Nc (Na (w_yes rfl (rfl) (Ne (Nc (Nb (Na (w_reg 5 rfl rfl (j' := 7) (n_entry (q := 2) rfl (e := ⟨.string (str p.1), .int .i64 p.2, eb⟩) rfl (gs_same _ _ _) ((gs_ne hm9 _).trans mL) he hst.2.1 (nO (s_ext rfl rfl (nO (s_ext rfl rfl (nA rfl (nA rfl (n_nil ?_))))))))))))))))))
   by_cases hle : x.key.length ≤ p.1.length
   rotate_left
   ·refine Nc (Na (w_drw (T6 82 5) [(0, []), (1, []), (2, [1]), (3, [1]), (4, [1]), (5, []), (6, []), (7, []), (8, []), (9, []), (10, []), (11, []), (12, [9, 10, 11]), (13, [9, 10, 11]), (14, []), (15, []), (16, []), (17, []), (18, []), (19, []), (20, []), (21, [])] 22 (by kernel_rfl) rfl rfl (j' := 29) (dM rfl rfl (dT rfl rfl rfl (s_len rfl rfl un_9 rfl ⟨clash_nil, (dO rfl rfl (s_fa0 rfl fo_36_0 ⟨⟨rfl, rfl⟩, (dT rfl rfl rfl (sL rfl ag_9 ⟨clash_rd rfl, ?_⟩))⟩))⟩)))))
    refine dT rfl rfl rfl (s_len rfl rfl un_9 rfl ⟨clash_rd rfl, (dO rfl rfl (s_bin rfl rfl rfl ⟨⟨rfl, rfl⟩, (dM rfl rfl (d_sk rfl rfl rfl (decide_eq_false (by omega)) (d_sk rfl rfl rfl (decide_eq_false (by omega)) (d_sk rfl rfl rfl (decide_eq_false (by omega)) (d_sk rfl rfl rfl (decide_eq_false (by omega)) (d_sk rfl rfl rfl (decide_eq_false (by omega)) (d_sk rfl rfl rfl (decide_eq_false (by omega)) (d_sk rfl rfl rfl (decide_eq_false (by omega)) (d_sk rfl rfl rfl (decide_eq_false (by omega)) (dO rfl rfl (s_pf rfl (decide_eq_false (by omega)) rfl ⟨⟨rfl, rfl⟩, (dM rfl rfl (d_sk rfl rfl rfl (rfl) (d_sk rfl rfl rfl (rfl) (d_sk rfl rfl rfl (rfl) (d_sk rfl rfl rfl (rfl) (dO rfl rfl (s_pf rfl (rfl) rfl ⟨⟨rfl, rfl⟩, (d_nil (Nc (w_no rfl (rfl) ?_)))⟩)))))))⟩)))))))))))⟩))⟩)
    repeat first | refine Na ?_ | refine Nb ?_ | refine Nc ?_ | refine Nd ?_ | refine Ne ?_
    exact z_round (seen ++ [eb]) ⟨rfl, rfl, trivial⟩ ⟨by omega, kI, (gs_ne (by omega) _).trans cL, gs_same _ _ _, hall2 fun _ q => hle q.length_le⟩ hlt2
   by_cases hpx : p.1.take x.key.length = x.key
   rotate_left
   ·have hd : ((str (p.1.take (str x.key).size)).toList == (str x.key).toList) = false := by rw [str_eq, hs1]; exact decide_eq_false hpx
    refine Nc (Na (w_drw (T6 82 5) [(0, []), (1, []), (2, [1]), (3, [1]), (4, [1]), (5, []), (6, []), (7, []), (8, []), (9, []), (10, []), (11, []), (12, [9, 10, 11]), (13, [9, 10, 11]), (14, []), (15, []), (16, []), (17, []), (18, []), (19, []), (20, []), (21, [])] 22 (by kernel_rfl) rfl rfl (j' := 29) (dM rfl rfl (dT rfl rfl rfl (s_len rfl rfl un_9 rfl ⟨clash_nil, (dO rfl rfl (s_fa0 rfl fo_36_0 ⟨⟨rfl, rfl⟩, (dT rfl rfl rfl (sL rfl ag_9 ⟨clash_rd rfl, ?_⟩))⟩))⟩)))))
    refine dT rfl rfl rfl (s_len rfl rfl un_9 rfl ⟨clash_rd rfl, (dO rfl rfl (s_bin rfl rfl rfl ⟨⟨rfl, rfl⟩, (dM rfl rfl (d_op rfl rfl (.yes rfl rfl (decide_eq_true (by omega))) (q := 14) rfl (s_mv rfl ⟨⟨rfl, rfl⟩, (d_op rfl rfl (.yes rfl rfl (decide_eq_true (by omega))) (q := 15) rfl (s_fa0 rfl fo_36_0 ⟨⟨rfl, rfl⟩, (d_tc rfl rfl rfl (.yes rfl rfl (decide_eq_true (by omega))) (q := 16) rfl (sL rfl ag_9 ⟨clash_nil, ?_⟩))⟩))⟩)))⟩))⟩)
    refine d_tc rfl rfl rfl (.yes rfl rfl (decide_eq_true (by omega))) (q := 17) rfl (s_len rfl rfl un_9 rfl ⟨clash_nil, (d_tc rfl rfl rfl (.yes rfl rfl (decide_eq_true (by omega))) (q := 18) rfl (s_hiS rfl rfl (by omega) ⟨clash_nil, (d_op rfl rfl (.yes rfl rfl (decide_eq_true (by omega))) (q := 19) rfl (s_fa0 rfl fo_36_0 ⟨⟨rfl, rfl⟩, (d_tc rfl rfl rfl (.yes rfl rfl (decide_eq_true (by omega))) (q := 20) rfl (sL rfl ag_9 ⟨clash_rd rfl, ?_⟩))⟩))⟩))⟩)
    refine d_op rfl rfl (.yes rfl rfl (decide_eq_true (by omega))) (q := 21) rfl (s_bin rfl rfl rfl ⟨⟨rfl, rfl⟩, (dO rfl rfl (s_pt rfl (decide_eq_true (by omega)) rfl ⟨⟨rfl, rfl⟩, (dM rfl rfl (d_sk rfl rfl rfl (hd) (d_sk rfl rfl rfl (hd) (d_sk rfl rfl rfl (hd) (d_sk rfl rfl rfl (hd) (dO rfl rfl (s_pf rfl (hd) rfl ⟨⟨rfl, rfl⟩, (d_nil (Nc (w_no rfl (rfl) ?_)))⟩)))))))⟩))⟩)
    repeat first | refine Na ?_ | refine Nb ?_ | refine Nc ?_ | refine Nd ?_ | refine Ne ?_
    exact z_round (seen ++ [eb]) ⟨rfl, rfl, trivial⟩ ⟨by omega, kI, (gs_ne (by omega) _).trans cL, gs_same _ _ _, hall2 fun _ q => hpx (List.prefix_iff_eq_take.1 q).symm⟩ hlt2
   have hd : ((str (p.1.take (str x.key).size)).toList == (str x.key).toList) = true := by rw [str_eq, hs1]; exact decide_eq_true hpx
   by_cases hlt : x.rev < p.2
   ·refine Nc (Na (w_drw (T6 82 5) [(0, []), (1, []), (2, [1]), (3, [1]), (4, [1]), (5, []), (6, []), (7, []), (8, []), (9, []), (10, []), (11, []), (12, [9, 10, 11]), (13, [9, 10, 11]), (14, []), (15, []), (16, []), (17, []), (18, []), (19, []), (20, []), (21, [])] 22 (by kernel_rfl) rfl rfl (j' := 29) (dM rfl rfl (dT rfl rfl rfl (s_len rfl rfl un_9 rfl ⟨clash_nil, (dO rfl rfl (s_fa0 rfl fo_36_0 ⟨⟨rfl, rfl⟩, (dT rfl rfl rfl (sL rfl ag_9 ⟨clash_rd rfl, ?_⟩))⟩))⟩)))))
    refine dT rfl rfl rfl (s_len rfl rfl un_9 rfl ⟨clash_rd rfl, (dO rfl rfl (s_bin rfl rfl rfl ⟨⟨rfl, rfl⟩, (dM rfl rfl (d_op rfl rfl (.yes rfl rfl (decide_eq_true (by omega))) (q := 14) rfl (s_mv rfl ⟨⟨rfl, rfl⟩, (d_op rfl rfl (.yes rfl rfl (decide_eq_true (by omega))) (q := 15) rfl (s_fa0 rfl fo_36_0 ⟨⟨rfl, rfl⟩, (d_tc rfl rfl rfl (.yes rfl rfl (decide_eq_true (by omega))) (q := 16) rfl (sL rfl ag_9 ⟨clash_nil, ?_⟩))⟩))⟩)))⟩))⟩)
    refine d_tc rfl rfl rfl (.yes rfl rfl (decide_eq_true (by omega))) (q := 17) rfl (s_len rfl rfl un_9 rfl ⟨clash_nil, (d_tc rfl rfl rfl (.yes rfl rfl (decide_eq_true (by omega))) (q := 18) rfl (s_hiS rfl rfl (by omega) ⟨clash_nil, (d_op rfl rfl (.yes rfl rfl (decide_eq_true (by omega))) (q := 19) rfl (s_fa0 rfl fo_36_0 ⟨⟨rfl, rfl⟩, (d_tc rfl rfl rfl (.yes rfl rfl (decide_eq_true (by omega))) (q := 20) rfl (sL rfl ag_9 ⟨clash_rd rfl, ?_⟩))⟩))⟩))⟩)
    refine d_op rfl rfl (.yes rfl rfl (decide_eq_true (by omega))) (q := 21) rfl (s_bin rfl rfl rfl ⟨⟨rfl, rfl⟩, (dO rfl rfl (s_pt rfl (decide_eq_true (by omega)) rfl ⟨⟨rfl, rfl⟩, (dM rfl rfl (d_op rfl rfl (.yes rfl rfl (hd)) (q := 24) rfl (s_mv rfl ⟨⟨rfl, rfl⟩, (d_op rfl rfl (.yes rfl rfl (hd)) (q := 25) rfl (s_fa0 rfl fo_36_1 ⟨⟨rfl, rfl⟩, (d_tc rfl rfl rfl (.yes rfl rfl (hd)) (q := 26) rfl (sL rfl ag_2 ⟨clash_nil, ?_⟩))⟩))⟩)))⟩))⟩)
    refine d_op rfl rfl (.yes rfl rfl (hd)) (q := 27) rfl (s_bin rfl rfl rfl ⟨⟨rfl, rfl⟩, (dO rfl rfl (s_pt rfl (hd) rfl ⟨⟨rfl, rfl⟩, (d_nil (Nc (w_yes rfl (decide_eq_true hlt) (Na (w_reg 1 rfl rfl (j' := 30) (nA rfl (n_nil (Nc (Nf (z_r1 rfl rfl ?_))))))))))⟩))⟩)
    refine ⟨⟨_, rfl, ⟨fun h => (by cases h), fun h => ?_⟩⟩, kI⟩
    unfold Sto.holds at h
    rw [if_pos hu] at h
    exact absurd (List.prefix_iff_eq_take.2 hpx.symm) (h p hp hlt)
   ·refine Nc (Na (w_drw (T6 82 5) [(0, []), (1, []), (2, [1]), (3, [1]), (4, [1]), (5, []), (6, []), (7, []), (8, []), (9, []), (10, []), (11, []), (12, [9, 10, 11]), (13, [9, 10, 11]), (14, []), (15, []), (16, []), (17, []), (18, []), (19, []), (20, []), (21, [])] 22 (by kernel_rfl) rfl rfl (j' := 29) (dM rfl rfl (dT rfl rfl rfl (s_len rfl rfl un_9 rfl ⟨clash_nil, (dO rfl rfl (s_fa0 rfl fo_36_0 ⟨⟨rfl, rfl⟩, (dT rfl rfl rfl (sL rfl ag_9 ⟨clash_rd rfl, ?_⟩))⟩))⟩)))))
    refine dT rfl rfl rfl (s_len rfl rfl un_9 rfl ⟨clash_rd rfl, (dO rfl rfl (s_bin rfl rfl rfl ⟨⟨rfl, rfl⟩, (dM rfl rfl (d_op rfl rfl (.yes rfl rfl (decide_eq_true (by omega))) (q := 14) rfl (s_mv rfl ⟨⟨rfl, rfl⟩, (d_op rfl rfl (.yes rfl rfl (decide_eq_true (by omega))) (q := 15) rfl (s_fa0 rfl fo_36_0 ⟨⟨rfl, rfl⟩, (d_tc rfl rfl rfl (.yes rfl rfl (decide_eq_true (by omega))) (q := 16) rfl (sL rfl ag_9 ⟨clash_nil, ?_⟩))⟩))⟩)))⟩))⟩)
    refine d_tc rfl rfl rfl (.yes rfl rfl (decide_eq_true (by omega))) (q := 17) rfl (s_len rfl rfl un_9 rfl ⟨clash_nil, (d_tc rfl rfl rfl (.yes rfl rfl (decide_eq_true (by omega))) (q := 18) rfl (s_hiS rfl rfl (by omega) ⟨clash_nil, (d_op rfl rfl (.yes rfl rfl (decide_eq_true (by omega))) (q := 19) rfl (s_fa0 rfl fo_36_0 ⟨⟨rfl, rfl⟩, (d_tc rfl rfl rfl (.yes rfl rfl (decide_eq_true (by omega))) (q := 20) rfl (sL rfl ag_9 ⟨clash_rd rfl, ?_⟩))⟩))⟩))⟩)
    refine d_op rfl rfl (.yes rfl rfl (decide_eq_true (by omega))) (q := 21) rfl (s_bin rfl rfl rfl ⟨⟨rfl, rfl⟩, (dO rfl rfl (s_pt rfl (decide_eq_true (by omega)) rfl ⟨⟨rfl, rfl⟩, (dM rfl rfl (d_op rfl rfl (.yes rfl rfl (hd)) (q := 24) rfl (s_mv rfl ⟨⟨rfl, rfl⟩, (d_op rfl rfl (.yes rfl rfl (hd)) (q := 25) rfl (s_fa0 rfl fo_36_1 ⟨⟨rfl, rfl⟩, (d_tc rfl rfl rfl (.yes rfl rfl (hd)) (q := 26) rfl (sL rfl ag_2 ⟨clash_nil, ?_⟩))⟩))⟩)))⟩))⟩)
    refine d_op rfl rfl (.yes rfl rfl (hd)) (q := 27) rfl (s_bin rfl rfl rfl ⟨⟨rfl, rfl⟩, (dO rfl rfl (s_pt rfl (hd) rfl ⟨⟨rfl, rfl⟩, (d_nil (Nc (w_no rfl (decide_eq_false hlt) ?_)))⟩))⟩)
    repeat first | refine Na ?_ | refine Nb ?_ | refine Nc ?_ | refine Nd ?_ | refine Ne ?_
    exact z_round (seen ++ [eb]) ⟨rfl, rfl, trivial⟩ ⟨by omega, kI, (gs_ne (by omega) _).trans cL, gs_same _ _ _, hall2 fun q => absurd q hlt⟩ hlt2

theorem RsAt.put {S' : Sto} (h : RsAt g r me lr lv sl S L) (hw : WF g n) (h1 : S'.now = S.now) (h2 : S'.last = S.last) (h3 : S'.log = S.log) :
  RsAt (gset g r (.cells [.int .i64 S'.rev, lv, .map (some me), .pointer (some ⟨lr, 0, none⟩), .int .i64 S'.reads, .int .i64 S'.writes] 0 false)) r me lr lv sl S' L := by
 have hk : ∀ o, Kp (FC r) g n (gset g r o) := fun o => Kp.set (Kp.refl _ _ _) (FC.of h.cell) o
 refine ⟨gs_same _ _ _, h.ents.kk (hk _) hw (FC.no3 _) (FC.nob _), ?_, ?_, by rw [h1]; exact h.rl⟩
 ·rw [h2]; exact h.ever.kp (hk _) hw (fun es c hf => by obtain ⟨_, c', q, e⟩ := hf; cases e) (fun v a e => e)
 ·rw [h3]
  exact ⟨(gs_ne h.nl.symm _).trans h.log.cell, h.log.evs.kv (hk _) hw (FC.nob _) (fun x c ro _ hf => by obtain ⟨_, c', q, e⟩ := hf; cases e), h.log.ne⟩

end

end Go.Proofs.YtehmailaabjdjaaGreat
end

section
open Go.Proofs
namespace Go.Proofs.YtehmailaabjdjaaGreat
set_option linter.unusedSimpArgs false
set_option linter.unusedVariables false
set_option maxRecDepth 100000

theorem vname_bd (v : Value) : ∃ q, ∀ y, vname v = some y → y < q := by
 cases h : vname v with
 | none => exact ⟨0, fun y hy => by cases hy⟩
 | some x => exact ⟨x + 1, fun y hy => by cases hy; omega⟩
theorem WF.but {g g' : Gm} {n nm : Nat} (h : WF g n) (hs : ∀ l, l ≠ nm → g' l = g l) (hn : n ≤ nm) : WF g' (nm + 1) := fun l o hl => by
 by_cases e : l = nm
 ·omega
 ·rw [hs l e] at hl
  have := h l o hl
  omega
theorem WF.of_gs {g : Gm} {x n : Nat} {o : AObj} (h : WF (gset g x o) n) : WF g n := fun l p hl => by
 by_cases e : l = x
 ·subst e; exact h _ _ (gs_same _ _ _)
 ·exact h l p ((gs_ne e _).trans hl)
theorem ents_plain {B : Value → List UInt8 → Prop} : ∀ {es : List SEnt} {cs : List Value}, Rows 3 (EnC B) cs es → plainL oneCell cs = true
 | [], cs, h => by
  have h : cs = [] := h
  subst h; rfl
 | x :: es, cs, h => by
  obtain ⟨c, d, rfl, _, h3, h4⟩ := h
  obtain ⟨a, p, rfl, _⟩ := h3
  exact plainL_app' rfl (ents_plain h4)

section
variable {g g' : Gm} {n r me lr : Nat} {lv sl : Value} {S : Sto} {L : List SEnt}

theorem off_fq {v : Value} {es : List Evt} (h : EvsW g v es) : Off (FQ r me lr) g v := fun x o hv ho hf => by
 obtain ⟨cs, ⟨_, ⟨rfl, _⟩ | ⟨l', o', c, cl, rfl, _, h4, _⟩⟩, _⟩ := h
 ·cases hv
 ·simp only [vname, Option.some.injEq] at hv
  subst hv
  rw [h4] at ho; cases ho
  exact FQ.no4 _ _ _ _ _ _ hf
theorem FC.fq (hk : Kp (FC r) g n g') : Kp (FQ r me lr) g n g' := hk.mono fun x o _ _ hf => .inl ⟨.inl hf.1, hf.2⟩

theorem RsAt.setL {lv' : Value} {L' : List SEnt} {now' : List (Bs × SEnt)} (h : RsAt g r me lr lv sl S L) (hw : WF g n) (hN : EntsRd g lv' L') (hrl : RL L' now') :
  RsAt (gset g r (.cells [.int .i64 S.rev, lv', .map (some me), .pointer (some ⟨lr, 0, none⟩), .int .i64 S.reads, .int .i64 S.writes] 0 false)) r me lr lv' sl { S with now := now' } L' := by
 have hk : ∀ o, Kp (FC r) g n (gset g r o) := fun o => Kp.set (Kp.refl _ _ _) (FC.of h.cell) o
 exact ⟨gs_same _ _ _, hN.kk (hk _) hw (FC.no3 _) (FC.nob _), h.ever.kp (hk _) hw (fun es c hf => by obtain ⟨_, c', q, e⟩ := hf; cases e) (fun v a e => e),
  ⟨(gs_ne h.nl.symm _).trans h.log.cell, h.log.evs.kv (hk _) hw (FC.nob _) (fun x c ro _ hf => by obtain ⟨_, c', q, e⟩ := hf; cases e), h.log.ne⟩, hrl⟩
theorem RsAt.setEver {o : AObj} {x : List (Bs × Int)} (h : RsAt g r me lr lv sl S L) (hw : WF g n) (ho : ∀ g' : Gm, g' me = some o → MapAt g' (fun v (z : Int) => v = .int .i64 z) me x) : RsAt (gset g me o) r me lr lv sl { S with last := x } L ∧ Kp (FQ r me lr) g n (gset g me o) := by
 obtain ⟨es, c, hm, _⟩ := h.ever
 have hk : Kp (fun x o => x = me ∧ ∃ es c, o = AObj.map es c) g n (gset g me o) := Kp.set (Kp.refl _ _ _) (fun o ho => ⟨rfl, es, c, Option.some.inj (ho.symm.trans hm)⟩) o
 have nob : NoB (fun x o => x = me ∧ ∃ es c, o = AObj.map es c) := fun x cl ro hf => by obtain ⟨_, _, _, e⟩ := hf; cases e
 exact ⟨⟨(gs_ne h.nm _).trans h.cell, h.ents.kk hk hw (fun x c ro hf => by obtain ⟨_, _, _, e⟩ := hf; cases e) nob, ho _ (gs_same _ _ _),
  ⟨(gs_ne h.lm _).trans h.log.cell, h.log.evs.kv hk hw nob (fun x c ro _ hf => by obtain ⟨_, _, _, e⟩ := hf; cases e), h.log.ne⟩, h.rl⟩, hk.mono fun x o _ _ hf => .inr hf⟩
theorem FR.fc (h : RsAt g r me lr lv sl S L) (hk : Kp (FR lr) g n g') : Kp (FC lr) g n g' := hk.mono fun x o _ ho hf => by
 obtain ⟨rfl, _⟩ := hf
 rw [h.log.cell] at ho
 exact ⟨rfl, _, _, (Option.some.inj ho).symm⟩
theorem FC.fq' (hk : Kp (FC lr) g n g') : Kp (FQ r me lr) g n g' := hk.mono fun x o _ _ hf => .inl ⟨.inr hf.1, hf.2⟩
theorem RsAt.setLog {sl' : Value} {G : Log} (h : RsAt g r me lr lv sl S L) (hw : WF g n) (hk : Kp (FC lr) g n g') (hA : RefAt g' lr sl' G) : RsAt g' r me lr lv sl' { S with log := G } L :=
 ⟨hk.at hw h.cell (fun hf => h.nl hf.1), h.ents.kk hk hw (FC.no3 _) (FC.nob _), h.ever.kp hk hw (fun es c hf => by obtain ⟨_, c', q, e⟩ := hf; cases e) (fun v a e => e), hA, h.rl⟩

theorem rget_c {k : Bs} (h : RsAt g r me lr lv sl S L) (hr : 0 ≤ S.reads ∧ S.reads < 4611686018427387904) (hn40 : L.length ≤ 2 ^ 40) :
  C 38 #[.pointer (some ⟨r, 0, none⟩), .string (str k)] g n fun u g' n' => ∃ c e ok, u = .tuple #[.agg c.toArray, .bool ok] ∧ EnC (BytesAt g') c e ∧ (findK k S.now = some e ∧ ok = true ∨ findK k S.now = none ∧ e = SEnt.zero ∧ ok = false) ∧
   RsAt g' r me lr lv sl { S with reads := S.reads + 1 } L ∧ Kp (FC r) g n g' := by
 have hc := h.cell
 refine c_in2 Tryz.func38 rfl Tryz.ntmps38 rfl fun hw => ?_
 have hrn := hw _ _ hc
 have hln := hw _ _ h.log.cell
 refine Na (w_reg 2 rfl rfl (j' := 2) (n_op .no (q := 0) rfl (s_al zl_28 (nA rfl (n_nil (Nc (Na (w_reg 8 rfl rfl (j' := 10) (nM rfl (nN rfl (nO (s_fa0 rfl fo_72_4 (nO (sL rfl ag_2 ?_))))))))))))))
 refine nO (s_bin rfl rfl (r := .int .i64 (S.reads + 1)) (by first | exact bi_add (by omega) (by omega) (by omega) | exact bi_add rfl (by omega) (by omega)) ?_)
 refine nN rfl (nO (s_fa0 rfl fo_72_4 (nO (sS rfl rfl sz_2 rfl rfl ?_))))
 refine n_nil ?_
 repeat first | refine Na ?_ | refine Nb ?_ | refine Nc ?_ | refine Nd ?_ | refine Ne ?_
 refine w_gen fun g2 n2 hg2 hn2 hwg2 => ?_
 have h2 : RsAt g2 r me lr lv sl { S with reads := S.reads + 1 } L := by
  rw [hg2]
  exact (h.kp0 (n := n) (by repeat (first | exact Kp.refl _ _ _ | refine Kp.new ?_ (by omega) _)) hw).put (hw.gs (x := n + 0) (n' := n + 1) (by omega) (by omega) _) (S' := { S with reads := S.reads + 1 }) rfl rfl rfl
 have k2 : Kp (FC r) g n g2 := by rw [hg2]; exact Kp.set (Kp.new (Kp.refl _ _ _) (by omega) _) (FC.of hc) _
 have b2 : g2 n = some (.cells [.string .empty, .int .i64 0, .slice none 0 0] 0 false) := by rw [hg2]; exact (gs_ne (by omega) _).trans (gs_same _ _ _)
 clear hg2
 repeat first | refine Na ?_ | refine Nb ?_ | refine Nc ?_ | refine Nd ?_ | refine Ne ?_
 refine w_reg 8 rfl rfl (j' := 8) (nM rfl (nM rfl (n_call .no rfl rfl rfl (C.use (place_c (k := k) h2 hn40) fun v g3 n3 hw3 hn3 hq => ?_))))
 obtain ⟨p, ok, rfl, hP, k3⟩ := hq
 refine nM rfl (nO (s_ext rfl rfl (nO (s_ext rfl rfl (nA rfl (nA rfl (n_nil ?_)))))))
 have k3' := k3.dn (m := n2) (by omega)
 have h3 := h2.kp0 k3' hwg2
 have b3 := k3'.at0 hwg2 b2
 have hnn := hw3 _ _ b3
 have k33 : Kp (FC r) g n g3 := k2.trans0 k3' (by omega)
 have hc3 := h3.cell
 refine Nc (Na (w_reg 1 rfl rfl (j' := 1) (nM rfl (n_nil ?_))))
 rcases ok with _ | _
 ·obtain ⟨hf, _⟩ := hP.no rfl
  rw [h.rl.find] at hf
  refine Nc (w_no rfl (rfl) ?_)
  repeat first | refine Na ?_ | refine Nb ?_ | refine Nc ?_ | refine Nd ?_ | refine Ne ?_
  repeat first | refine Na ?_ | refine Nb ?_ | refine Nc ?_ | refine Nd ?_ | refine Ne ?_
  refine w_reg 3 rfl rfl (j' := 4) (nO (s_bld pl_28 zl_28 rfl rfl rfl (nO (sSw rfl rfl sz_28 rfl rfl ?_))))
  refine nA rfl (n_nil (Nc (Nf (z_rc1 rfl rfl rfl (by repeat first | exact gS | refine gN (by omega) ?_) ag_28 sz_28 (by exact rfl) (by exact Nat.le_of_ble_eq_true rfl) ?_))))
  have k4 : ∀ o, Kp (FC n) g3 n3 (gset g3 n o) := fun o => Kp.set (Kp.refl _ _ _) (FC.of b3) _
  exact ⟨entC SEnt.zero (.slice none 0 0), SEnt.zero, false, rfl, ⟨none, 0, rfl, SlC.nil _ _, by decide⟩, .inr ⟨hf, rfl, rfl⟩, h3.kk (k4 _) hw3 (FC.nob _) (FC.no3 _) (fun c hf => by have := hf.1; omega) (fun c hf => by have := hf.1; omega) (fun es c hf => by obtain ⟨_, c', q, e⟩ := hf; cases e) (fun x c ro _ hf => by obtain ⟨_, c', q, e⟩ := hf; cases e), k33.set (fun o ho => absurd (hw _ _ ho) (by omega)) _⟩
 ·obtain ⟨hp, hf, _⟩ := hP.yes rfl
  rw [h.rl.find] at hf
  obtain ⟨l4, o4, c4, cl4, ro4, a4, p4, x1, x2, x3, x4, x5, x6, x7, x8⟩ := h3.ents.at hp
  cases x1
  refine Nc (w_yes rfl (rfl) (Na (w_reg 9 rfl rfl (j' := 10) (nM rfl (nN rfl (nO (s_fa0 rfl fo_72_1 (nO (sL rfl ag_48 ?_)))))))))
  refine nM rfl (nO (s_ia rfl rfl el_48 (by first | assumption | omega) (nO (sLa rfl ag_28 sz_28 ?_))))
  refine nO (sSw rfl rfl sz_28 rfl rfl ?_)
  refine nA rfl (n_nil (Nc (Nf (z_rc1 rfl rfl rfl (by repeat first | exact gS | refine gN (by omega) ?_) ag_28 sz_28 (by exact rfl) (by exact Nat.le_of_ble_eq_true rfl) ?_))))
  have k4 : ∀ o, Kp (FC n) g3 n3 (gset g3 n o) := fun o => Kp.set (Kp.refl _ _ _) (FC.of b3) _
  exact ⟨_, L[p], true, rfl, ⟨a4, p4, rfl, x7.kp (k4 _) hw3 (FC.nob _), x8⟩, .inl ⟨hf, rfl⟩, h3.kk (k4 _) hw3 (FC.nob _) (FC.no3 _) (fun c hf => by have := hf.1; omega) (fun c hf => by have := hf.1; omega) (fun es c hf => by obtain ⟨_, c', q, e⟩ := hf; cases e) (fun x c ro _ hf => by obtain ⟨_, c', q, e⟩ := hf; cases e), k33.set (fun o ho => absurd (hw _ _ ho) (by omega)) _⟩

theorem rtxn_c {gv wv : Value} {gs : List Gd} {ws : List Wr} (h : RsAt g r me lr lv sl S L) (hT : Top S.log) (hwr : 0 ≤ S.writes ∧ S.writes < 4611686018427387904) (hrv : 0 ≤ S.rev ∧ S.rev < 4611686018427387904) (hla : S.log.last ≤ S.rev) (hlen : S.log.evs.length < 2 ^ 30) (hmo : 0 ≤ S.log.most) (hLl : L.length ≤ 2 ^ 30)
  (h1 : GdsRd g gv gs) (h2 : WrsRd g wv ws) (hlg : gs.length ≤ 2 ^ 40) (hlw : ws.length ≤ 2 ^ 40) (hsl : ∀ x, vname sl = some x → x < n) :
  C 36 #[.pointer (some ⟨r, 0, none⟩), .agg [gv, wv].toArray] g n fun u g' n' => ∃ lv' sl' L', u = .tuple #[.int .i64 (S.txn gs ws).2.1, .int .i64 (S.txn gs ws).2.2] ∧ RsAt g' r me lr lv' sl' (S.txn gs ws).1 L' ∧ (Mvd n sl sl' ∧ ∀ x, vname sl' = some x → x < n') ∧ Kp (FQ r me lr) g n g' := by
 obtain ⟨a1, c1, rfl⟩ := h1.len
 obtain ⟨a2, c2, rfl⟩ := h2.len
 have hc := h.cell
 refine c_in2 Tryz.func36 rfl Tryz.ntmps36 rfl fun hw => ?_
 have hrn := hw _ _ hc
 have hln := hw _ _ h.log.cell
 refine Na (w_reg 3 rfl rfl (j' := 3) (n_op .no (q := 0) rfl (s_boxa rfl (nA rfl (nA rfl (n_nil (Nc (Na (w_reg 8 rfl rfl (j' := 11) (nM rfl (nN rfl (nO (s_fa0 rfl fo_72_5 (nO (sL rfl ag_2 ?_)))))))))))))))
 refine nO (s_bin rfl rfl (r := .int .i64 (S.writes + 1)) (by first | exact bi_add (by omega) (by omega) (by omega) | exact bi_add rfl (by omega) (by omega)) ?_)
 refine nN rfl (nO (s_fa0 rfl fo_72_5 (nO (sS rfl rfl sz_2 rfl rfl ?_))))
 refine n_nil ?_
 repeat first | refine Na ?_ | refine Nb ?_ | refine Nc ?_ | refine Nd ?_ | refine Ne ?_
 refine w_gen fun g2 n2 hg2 hn2 hwg2 => ?_
 have h2' : RsAt g2 r me lr lv sl { S with writes := S.writes + 1 } L := by
  rw [hg2]
  exact (h.kp0 (n := n) (by repeat (first | exact Kp.refl _ _ _ | refine Kp.new ?_ (by omega) _)) hw).put (hw.gs (x := n + 0) (n' := n + 1) (by omega) (by omega) _) (S' := { S with writes := S.writes + 1 }) rfl rfl rfl
 have k2 : Kp (FC r) g n g2 := by rw [hg2]; exact Kp.set (Kp.new (Kp.refl _ _ _) (by omega) _) (FC.of hc) _
 have b2 : g2 n = some (.cells [.slice a1 gs.length c1, .slice a2 ws.length c2] 0 false) := by rw [hg2]; exact (gs_ne (by omega) _).trans (gs_same _ _ _)
 have hG2 := h1.kk k2 hw (FC.no3 _)
 have hW2 := h2.kk k2 hw (FC.no3 _) (FC.nob _)
 clear hg2
 repeat first | refine Na ?_ | refine Nb ?_ | refine Nc ?_ | refine Nd ?_ | refine Ne ?_
 refine w_reg 3 rfl rfl (j' := 3) (nO (sLf rfl ag_42 sz_42 ?_))
 refine n_call .no rfl rfl rfl (C.use (may81_c hG2 hW2 hlg hlw) fun v g3 n3 hw3 hn3 hq => ?_)
 obtain ⟨⟨b, rfl, hb⟩, k3⟩ := hq
 refine nO (s_not rfl (n_nil ?_))
 have k3' := k3.dn (m := n2) (by omega)
 have h3 := h2'.kp0 k3' hwg2
 have b3 := k3'.at0 hwg2 b2
 have k33 : Kp (FC r) g n g3 := k2.trans0 k3' (by omega)
 have hG3 := hG2.kp0 k3' hwg2
 have hW3 := hW2.kp0 k3' hwg2
 have hno : ∀ {c : Int}, S.can gs ws = c → c ≠ 0 → S.txn gs ws = ({ S with writes := S.writes + 1 }, 0, c) := fun {c} e hz => by
  rw [Sto.txn_no (by rw [e]; exact hz), e]
 clear h2' k2 hG2 hW2 k3 k3'
 by_cases hm : txnMay gs ws
 rotate_left
 ·have : b = false := by
   cases b with
   | false => rfl
   | true => exact absurd (hb.1 rfl) hm
  subst this
  refine Nc (w_yes rfl (rfl) (Na (w_reg 2 rfl rfl (j' := 2) (nA rfl (nA rfl (n_nil (Nc (Nf (z_r2 rfl rfl rfl ?_)))))))))
  rw [hno (can_form hm) (by decide)]
  exact ⟨lv, sl, L, rfl, h3, ⟨Mvd.refl _ _, fun x hx => by have := hsl x hx; omega⟩, FC.fq k33⟩
 obtain rfl : b = true := hb.2 hm
 refine Nc (w_no rfl (rfl) (Ne (Nc (Na (Na (w_reg 4 rfl rfl (j' := 4) (nO (s_fa0 rfl fo_42_0 (nO (sL rfl ag_37 ?_))))))))))
 refine nO (s_len rfl rfl un_37 rfl (nM rfl (n_nil ?_)))
 refine z_seq ?_
 refine z_meet (β := Unit) (fun _ => [(0, .pointer (some ⟨r, 0, none⟩)), (3, .pointer (some ⟨n, 0, none⟩))]) (fun _ g' n' => n3 ≤ n' ∧ K0 g3 n3 g' ∧ ∀ x ∈ gs, S.holds x) ?_ ?_
 ·repeat first | refine Na ?_ | refine Nb ?_ | refine Nc ?_ | refine Nd ?_ | refine Ne ?_
  refine w_loop (β := Nat) (fun i => [(0, .pointer (some ⟨r, 0, none⟩)), (3, .pointer (some ⟨n, 0, none⟩)), (29, .int .i64 gs.length), (30, .int .i64 i)])
   (fun i g' n' => i ≤ gs.length ∧ n3 ≤ n' ∧ K0 g3 n3 g' ∧ ∀ j, (q : j < gs.length) → j < i → S.holds gs[j]) (fun i => gs.length - i) 0 ⟨rfl, rfl, rfl, rfl, trivial⟩ ⟨by omega, by omega, (by repeat (first | exact Kp.refl _ _ _ | refine Kp.new ?_ (by omega) _)), fun j _ q => absurd q (by omega)⟩ ?_
  rintro i f gL nL hwL ⟨hi, hnL, kL, ht⟩
  repeat first | refine Na ?_ | refine Nb ?_ | refine Nc ?_ | refine Nd ?_ | refine Ne ?_
  refine w_reg 1 rfl rfl (j' := 1) (nO (s_bin rfl rfl rfl (n_nil (Nc (Na (w_if rfl (fun hb1 => ?_) (fun hb1 => ?_)))))))
  ·have hi : i < gs.length := by simpa using hb1
   obtain ⟨l4, o4, c4, cl4, ro4, x1, x2, x0, x5⟩ := (hG3.kp0 kL hw3).at hi
   cases x1
   have bL := kL.at0 hw3 b3
   repeat first | refine Na ?_ | refine Nb ?_ | refine Nc ?_ | refine Nd ?_ | refine Ne ?_
   refine w_reg 2 rfl rfl (j' := 3) (nM rfl (nA rfl (n_nil (Nc (Na (w_reg 8 rfl rfl (j' := 11) (nM rfl (nO (s_fa0 rfl fo_42_0 (nO (sL rfl ag_37 ?_)))))))))))
   refine nM rfl (nO (s_ia rfl rfl el_37 (by first | assumption | omega) (nO (sLa rfl ag_36 sz_36 ?_))))
   refine n_call .no rfl rfl rfl (C.use (holds82_c (x := gs[i]) (h3.kp0 kL hw3) (by omega)) fun v g5 n5 hw5 hn5 hq => ?_)
   obtain ⟨⟨b, rfl, hh⟩, k5⟩ := hq
   have k5' : K0 g3 n3 g5 := kL.trans0 (k5.dn (m := nL) (by omega)) (by omega)
   refine nO (s_not rfl (n_nil ?_))
   by_cases hho : S.holds gs[i]
   ·obtain rfl : b = true := hh.2 hho
    refine Nc (w_no rfl (rfl) ?_)
    repeat first | refine Na ?_ | refine Nb ?_ | refine Nc ?_ | refine Nd ?_ | refine Ne ?_
    repeat first | refine Na ?_ | refine Nb ?_ | refine Nc ?_ | refine Nd ?_ | refine Ne ?_
    refine w_reg 2 rfl rfl (j' := 2) (nO (s_bin rfl rfl (by first | exact bi_inc (by omega) | exact bi_add rfl (by omega) (by omega)) ?_))
    refine nM rfl (n_nil ?_)
    exact z_round (i + 1) ⟨rfl, rfl, rfl, rfl, trivial⟩ ⟨hi, by omega, k5', fun j hj hji => by
     by_cases e : j = i
     ·subst e; exact hho
     ·exact ht j hj (by omega)⟩ (by omega)
   ·have : b = false := by
     cases b with
     | false => rfl
     | true => exact absurd (hh.1 rfl) hho
    subst this
    refine Nc (w_yes rfl (rfl) (Na (w_reg 2 rfl rfl (j' := 2) (nA rfl (nA rfl (n_nil (Nc (Nf (z_r2 rfl rfl rfl ?_)))))))))
    rw [hno (can_guard hm ⟨_, List.getElem_mem hi, hho⟩) (by decide)]
    exact ⟨lv, sl, L, rfl, h3.kp0 k5' hw3, ⟨Mvd.refl _ _, fun x hx => by have := hsl x hx; omega⟩, FC.fq (k33.trans0 k5' (by omega))⟩
  ·refine w_exit rfl ?_
   have : i = gs.length := by simp at hb1; omega
   subst this
   exact z_met () ⟨rfl, rfl, trivial⟩ ⟨by omega, kL, fun x hx => by
    obtain ⟨j, hj, rfl⟩ := List.mem_iff_getElem.1 hx
    exact ht j hj hj⟩
 rintro _ f g4 n4 hw4 ⟨hn4, k4, hho⟩
 have b4 := k4.at0 hw3 b3
 have h4 := h3.kp0 k4 hw3
 have hW4 := hW3.kp0 k4 hw3
 have k44 : Kp (FC r) g n g4 := k33.trans0 k4 (by omega)
 clear h3 hW3 hG3 b3 k33 k4
 refine w_seq ?_
 repeat first | refine Na ?_ | refine Nb ?_ | refine Nc ?_ | refine Nd ?_ | refine Ne ?_
 refine w_reg 4 rfl rfl (j' := 4) (nO (s_fa0 rfl fo_42_1 (nO (sL rfl ag_40 ?_))))
 refine nO (s_len rfl rfl un_40 rfl (nM rfl (n_nil ?_)))
 refine z_seq ?_
 refine z_meet (β := Unit) (fun _ => [(0, .pointer (some ⟨r, 0, none⟩)), (3, .pointer (some ⟨n, 0, none⟩))]) (fun _ g' n' => n4 ≤ n' ∧ K0 g4 n4 g' ∧ ∀ w ∈ ws, w.gone = true → findK w.key S.now ≠ none) ?_ ?_
 ·repeat first | refine Na ?_ | refine Nb ?_ | refine Nc ?_ | refine Nd ?_ | refine Ne ?_
  refine w_loop (β := Nat) (fun i => [(0, .pointer (some ⟨r, 0, none⟩)), (3, .pointer (some ⟨n, 0, none⟩)), (44, .int .i64 ws.length), (45, .int .i64 i)])
   (fun i g' n' => i ≤ ws.length ∧ n4 ≤ n' ∧ K0 g4 n4 g' ∧ ∀ j, (q : j < ws.length) → j < i → ws[j].gone = true → findK ws[j].key S.now ≠ none) (fun i => ws.length - i) 0 ⟨rfl, rfl, rfl, rfl, trivial⟩ ⟨by omega, by omega, (by repeat (first | exact Kp.refl _ _ _ | refine Kp.new ?_ (by omega) _)), fun j _ q => absurd q (by omega)⟩ ?_
  rintro i f gL nL hwL ⟨hi, hnL, kL, ht⟩
  repeat first | refine Na ?_ | refine Nb ?_ | refine Nc ?_ | refine Nd ?_ | refine Ne ?_
  refine w_reg 1 rfl rfl (j' := 1) (nO (s_bin rfl rfl rfl (n_nil (Nc (Na (w_if rfl (fun hb1 => ?_) (fun hb1 => ?_)))))))
  ·have hi : i < ws.length := by simpa using hb1
   obtain ⟨l5, o5, c5, cl5, ro5, p5, q5, x1, x2, x0, x5, x6⟩ := (hW4.kp0 kL hw4).at hi
   cases x1
   obtain ⟨y0, y1, y2⟩ := take3 x5
   have bL := kL.at0 hw4 b4
   have y0' : cl5[o5 + i * 3 + 0]? = some (.string (str ws[i].key)) := y0
   repeat first | refine Na ?_ | refine Nb ?_ | refine Nc ?_ | refine Nd ?_ | refine Ne ?_
   refine w_reg 2 rfl rfl (j' := 3) (nM rfl (nA rfl (n_nil (Nc (Na (w_reg 13 rfl rfl (j' := 16) (nM rfl (nO (s_fa0 rfl fo_42_1 (nO (sL rfl ag_40 ?_)))))))))))
   refine nM rfl (nO (s_ia rfl rfl el_40 (by first | assumption | omega) (nO (s_fa rfl fo_39_0 (nO (sL rfl ag_9 ?_))))))
   refine n_call .no rfl rfl rfl (C.use (place_c (k := ws[i].key) (h4.kp0 kL hw4) (by omega)) fun v g5 n5 hw5 hn5 hq => ?_)
   obtain ⟨p, ok, rfl, hP, k5⟩ := hq
   have k55 := k5.dn (m := nL) (by omega)
   have k5' : K0 g4 n4 g5 := kL.trans0 k55 (by omega)
   have bL5 := k55.at0 hwL bL
   have x25 := k55.at0 hwL x2
   refine nM rfl (nO (s_ext rfl rfl (nO (s_ext rfl rfl (nA rfl (nA rfl (n_nil ?_)))))))
   by_cases hgo : ws[i].gone = true
   ·rcases ok with _ | _
    ·obtain ⟨hf, _⟩ := hP.no rfl
     rw [h4.rl.find] at hf
     have hf : findK ws[i].key S.now = none := hf
     refine Nc (Na (w_reg 10 rfl rfl (j' := 10) (nO (s_fa0 rfl fo_42_1 (nO (sL rfl ag_40 ?_))))))
     refine nM rfl (nO (s_ia rfl rfl el_40 (by first | assumption | omega) (nO (s_fa rfl fo_39_2 (nO (sL rfl ag_4 ?_))))))
     refine nM rfl (nG rfl rfl (hgo) rfl (nY rfl rfl (hgo) (s_not rfl (nO (s_pt rfl (hgo) rfl (n_nil (Nc (w_yes rfl (rfl) (Na (w_reg 2 rfl rfl (j' := 12) (nA rfl (nA rfl (n_nil (Nc (Nf (z_r2 rfl rfl rfl ?_))))))))))))))))
     rw [hno (can_none hm hho ⟨_, List.getElem_mem hi, hgo, hf⟩) (by decide)]
     exact ⟨lv, sl, L, rfl, h4.kp0 k5' hw4, ⟨Mvd.refl _ _, fun x hx => by have := hsl x hx; omega⟩, FC.fq (k44.trans0 k5' (by omega))⟩
    ·obtain ⟨hp, hf, _⟩ := hP.yes rfl
     rw [h4.rl.find] at hf
     have hf : findK ws[i].key S.now = some L[p] := hf
     refine Nc (Na (w_reg 10 rfl rfl (j' := 10) (nO (s_fa0 rfl fo_42_1 (nO (sL rfl ag_40 ?_))))))
     refine nM rfl (nO (s_ia rfl rfl el_40 (by first | assumption | omega) (nO (s_fa rfl fo_39_2 (nO (sL rfl ag_4 ?_))))))
     refine nM rfl (nG rfl rfl (hgo) rfl (nY rfl rfl (hgo) (s_not rfl (nO (s_pt rfl (hgo) rfl (n_nil (Nc (w_no rfl (rfl) ?_))))))))
     repeat first | refine Na ?_ | refine Nb ?_ | refine Nc ?_ | refine Nd ?_ | refine Ne ?_
     repeat first | refine Na ?_ | refine Nb ?_ | refine Nc ?_ | refine Nd ?_ | refine Ne ?_
     refine w_reg 2 rfl rfl (j' := 12) (nO (s_bin rfl rfl (by first | exact bi_inc (by omega) | exact bi_add rfl (by omega) (by omega)) ?_))
     refine nM rfl (n_nil ?_)
     exact z_round (i + 1) ⟨rfl, rfl, rfl, rfl, trivial⟩ ⟨hi, by omega, k5', fun j hj hji => by
      by_cases e : j = i
      ·subst e; exact fun _ q => by rw [hf] at q; cases q
      ·exact ht j hj (by omega)⟩ (by omega)
   ·have hgo' : ws[i].gone = false := by simpa using hgo
    refine Nc (Na (w_reg 10 rfl rfl (j' := 10) (nO (s_fa0 rfl fo_42_1 (nO (sL rfl ag_40 ?_))))))
    refine nM rfl (nO (s_ia rfl rfl el_40 (by first | assumption | omega) (nO (s_fa rfl fo_39_2 (nO (sL rfl ag_4 ?_))))))
    refine nM rfl (n_sk rfl rfl (hgo') (n_sk rfl rfl (hgo') (nO (s_pf rfl (hgo') rfl (n_nil (Nc (w_no rfl (rfl) ?_)))))))
    repeat first | refine Na ?_ | refine Nb ?_ | refine Nc ?_ | refine Nd ?_ | refine Ne ?_
    repeat first | refine Na ?_ | refine Nb ?_ | refine Nc ?_ | refine Nd ?_ | refine Ne ?_
    refine w_reg 2 rfl rfl (j' := 12) (nO (s_bin rfl rfl (by first | exact bi_inc (by omega) | exact bi_add rfl (by omega) (by omega)) ?_))
    refine nM rfl (n_nil ?_)
    exact z_round (i + 1) ⟨rfl, rfl, rfl, rfl, trivial⟩ ⟨hi, by omega, k5', fun j hj hji => by
     by_cases e : j = i
     ·subst e; exact fun q => absurd q hgo
     ·exact ht j hj (by omega)⟩ (by omega)
  ·refine w_exit rfl ?_
   have : i = ws.length := by simp at hb1; omega
   subst this
   exact z_met () ⟨rfl, rfl, trivial⟩ ⟨by omega, kL, fun x hx => by
    obtain ⟨j, hj, rfl⟩ := List.mem_iff_getElem.1 hx
    exact ht j hj hj⟩
 rintro _ f g5 n5 hw5 ⟨hn5, k5, hgn⟩
 have b5 := k5.at0 hw4 b4
 have h5 := h4.kp0 k5 hw4
 have hW5 := hW4.kp0 k5 hw4
 have k55 : Kp (FC r) g n g5 := k44.trans0 k5 (by omega)
 clear h4 hW4 b4 k44 k5
 have h0 : S.can gs ws = 0 := can_ok hm hho hgn
 have hlw' := hm.2.2.1
 have hc5 := h5.cell
 have hrn5 := hw5 _ _ hc5
 repeat first | refine Na ?_ | refine Nb ?_ | refine Nc ?_ | refine Nd ?_ | refine Ne ?_
 refine w_reg 8 rfl rfl (j' := 8) (nM rfl (nN rfl (nO (s_fa0 rfl fo_72_0 (nO (sL rfl ag_2 ?_))))))
 refine nO (s_bin rfl rfl (r := .int .i64 (S.rev + 1)) (by first | exact bi_add (by omega) (by omega) (by omega) | exact bi_add rfl (by omega) (by omega)) ?_)
 refine nN rfl (nO (s_fa0 rfl fo_72_0 (nO (sS rfl rfl sz_2 rfl rfl ?_))))
 refine n_nil ?_
 repeat first | refine Na ?_ | refine Nb ?_ | refine Nc ?_ | refine Nd ?_ | refine Ne ?_
 refine w_gen fun g6 n6 hg6 hn6 hwg6 => ?_
 obtain ⟨T0, hT0⟩ : ∃ T0 : Sto, T0 = { S with rev := S.rev + 1, writes := S.writes + 1 } := ⟨_, rfl⟩
 obtain ⟨rv, hrv'⟩ : ∃ rv : Int, rv = S.rev + 1 := ⟨_, rfl⟩
 have h6 : RsAt g6 r me lr lv sl T0 L := by rw [hg6, hT0]; exact h5.put hw5 (S' := { S with rev := S.rev + 1, writes := S.writes + 1 }) rfl rfl rfl
 have k56 : Kp (FC r) g5 n5 g6 := by rw [hg6]; exact Kp.set (Kp.refl _ _ _) (FC.of hc5) _
 have k6 : Kp (FC r) g n g6 := k55.tr' k56 (by omega)
 have b6 : g6 n = some (.cells [.slice a1 gs.length c1, .slice a2 ws.length c2] 0 false) := k56.at hw5 b5 (fun hf => by have := hf.1; omega)
 have hW6 := hW5.kk k56 hw5 (FC.no3 _) (FC.nob _)
 have hT0r : T0.rev = rv := by rw [hT0, hrv']
 clear hg6 h5 hc5 hW5 b5 k55 k56 hno
 have hnn6 := hwg6 _ _ b6
 repeat first | refine Na ?_ | refine Nb ?_ | refine Nc ?_ | refine Nd ?_ | refine Ne ?_
 refine w_reg 1 rfl rfl (j' := 1) (nA rfl (n_nil ?_))
 refine z_seq ?_
 refine w_seq ?_
 repeat first | refine Na ?_ | refine Nb ?_ | refine Nc ?_ | refine Nd ?_ | refine Ne ?_
 refine w_reg 4 rfl rfl (j' := 5) (nO (s_fa0 rfl fo_42_1 (nO (sL rfl ag_40 ?_))))
 refine nO (s_len rfl rfl un_40 rfl (nM rfl (n_nil ?_)))
 refine z_seq ?_
 refine z_meet (β := Value × Value) (fun x => [(0, .pointer (some ⟨r, 0, none⟩)), (10, x.2)])
  (fun x g' n' => n6 ≤ n' ∧ (∃ L', RsAt g' r me lr x.1 sl (ws.foldl (Sto.put1 rv) T0) L') ∧ Kp (FQ r me lr) g6 n6 g' ∧ EvsW g' x.2 (ws.map (evtW rv))) ?_ ?_
 ·repeat first | refine Na ?_ | refine Nb ?_ | refine Nc ?_ | refine Nd ?_ | refine Ne ?_
  refine w_loop (β := Nat × Value × Value) (fun x => [(0, .pointer (some ⟨r, 0, none⟩)), (3, .pointer (some ⟨n, 0, none⟩)), (10, x.2.2), (79, .int .i64 ws.length), (80, .int .i64 x.1)])
   (fun x g' n' => x.1 ≤ ws.length ∧ n6 ≤ n' ∧ (∃ L', RsAt g' r me lr x.2.1 sl ((ws.take x.1).foldl (Sto.put1 rv) T0) L' ∧ L'.length ≤ L.length + x.1) ∧ Kp (FQ r me lr) g6 n6 g' ∧ EvsW g' x.2.2 ((ws.take x.1).map (evtW rv)) ∧ (∀ y, vname x.2.2 = some y → n6 ≤ y)) (fun x => ws.length - x.1) (0, lv, .slice none 0 0) ⟨rfl, rfl, rfl, rfl, rfl, trivial⟩
   ⟨by simp, by omega, ⟨L, h6, by omega⟩, Kp.refl _ _ _, EvsW.nil _, (fun y hy => by cases hy)⟩ ?_
  rintro ⟨i, lvi, ve⟩ f gL nL hwL ⟨hi, hnL, ⟨L', hA, hL'l⟩, kL, hE, hve⟩
  simp only at hi hA hL'l hE hve
  repeat first | refine Na ?_ | refine Nb ?_ | refine Nc ?_ | refine Nd ?_ | refine Ne ?_
  refine w_reg 1 rfl rfl (j' := 1) (nO (s_bin rfl rfl rfl (n_nil (Nc (Na (w_if rfl (fun hb1 => ?_) (fun hb1 => ?_)))))))
  ·have hi : i < ws.length := by simpa using hb1
   have hWL := hW6.kk kL hwg6 (FQ.no3 _ _ _) (FQ.nob _ _ _)
   obtain ⟨l3, o3, c3, cl3, ro3, p3, q3, x1, x2, x0, x5, x6⟩ := hWL.at hi
   cases x1
   have hx2 := hwL _ _ x2
   obtain ⟨w, hwi⟩ : ∃ w, w = ws[i] := ⟨_, rfl⟩
   have hwok : w.ok := by rw [hwi]; exact hm.2.2.2.2.1 _ (List.getElem_mem hi)
   rw [← hwi] at x5 x6
   have hwlen : w.val.length ≤ 4000 := hwok.2.2
   obtain ⟨T, hTT⟩ : ∃ T, T = (ws.take i).foldl (Sto.put1 rv) T0 := ⟨_, rfl⟩
   have hTr : T.rev = rv := by rw [hTT, (puts_same rv _ _).1, hT0r]
   rw [← hTT] at hA
   have bL := kL.at hwg6 b6 (FQ.no0 (by omega) (by omega))
   repeat first | refine Na ?_ | refine Nb ?_ | refine Nc ?_ | refine Nd ?_ | refine Ne ?_
   refine w_reg 2 rfl rfl (j' := 3) (nM rfl (nA rfl (n_nil (Nc (Na (w_reg 7 rfl rfl (j' := 10) (nO (s_fa0 rfl fo_42_1 (nO (sL rfl ag_40 ?_))))))))))
   refine nM rfl (nO (s_ia rfl rfl el_40 (by first | assumption | omega) (nO (sLa rfl ag_39 sz_39 ?_))))
   refine n_op .no (q := 8) rfl (s_al zl_39 (nO (sSw rfl rfl sz_39 rfl rfl ?_)))
   refine n_nil ?_
   repeat first | refine Na ?_ | refine Nb ?_ | refine Nc ?_ | refine Nd ?_ | refine Ne ?_
   refine w_gen fun g7 n7 hg7 hn7 hwg7 => ?_
   have k7 : K0 gL nL g7 := by rw [hg7]; exact (by repeat (first | exact Kp.refl _ _ _ | refine Kp.new ?_ (by omega) _))
   have c7 : g7 (nL + 8) = some (.cells (wrC w (.slice p3 w.val.length q3)) 0 false) := by rw [hg7]; exact gs_same _ _ _
   clear hg7
   have h7 := hA.kp0 k7 hwL
   have hE7 := hE.kp0 k7 hwL
   have x67 := x6.kp0 k7 hwL
   repeat first | refine Na ?_ | refine Nb ?_ | refine Nc ?_ | refine Nd ?_ | refine Ne ?_
   refine w_reg 9 rfl rfl (j' := 9) (nM rfl (nO (s_fa0 rfl fo_39_0 (nO (sL rfl ag_9 ?_)))))
   refine n_call .no rfl rfl rfl (C.use (place_c (k := w.key) h7 (by omega)) fun v g8 n8 hw8 hn8 hq => ?_)
   obtain ⟨p, ok, rfl, hP, k8⟩ := hq
   have k8' := k8.dn (m := n7) (by omega)
   have h8 := h7.kp0 k8' hwg7
   have c8 := k8'.at0 hwg7 c7
   have hE8 := hE7.kp0 k8' hwg7
   have x68 := x67.kp0 k8' hwg7
   have k78 : K0 gL nL g8 := k7.trans0 k8' (by omega)
   have hc8 := h8.cell
   rw [hTr] at hc8
   clear h7 c7 hE7 x67 k7 k8 k8' hA x2 x5 x6 hWL bL
   refine nM rfl (nO (s_ext rfl rfl (nO (s_ext rfl rfl (nA rfl (nA rfl (n_nil ?_)))))))
   obtain ⟨csL, hsL, hRL⟩ := id h8.ents
   obtain ⟨q8, hq8⟩ := vname_bd lvi
   refine Nc (Na (w_reg 7 rfl rfl (j' := 7) (nM rfl (nN rfl (nO (s_fa0 rfl fo_72_1 (nO (sL rfl ag_48 ?_))))))))
   refine nM rfl (n_op .no (q := 5) rfl (s_loC (q := q8) un_48 sz_28 rfl hsL rfl hP.le hq8 fun aR cR tcR htcR hsR hnR => (nA rfl (n_nil ?_))))
   refine z_seq ?_
   refine w_seq ?_
   refine z_meet (β := Value) (fun x => [(0, .pointer (some ⟨r, 0, none⟩)), (3, .pointer (some ⟨n, 0, none⟩)), (10, ve), (12, .pointer (some ⟨nL + 8, 0, none⟩)), (13, .int .i64 p), (15, x), (79, .int .i64 ws.length), (80, .int .i64 i)])
    (fun x g' n' => n8 ≤ n' ∧ K0 g8 n8 g' ∧ EntsRd g' x (L'.filter fun y => decide (w.key < y.key))) ?_ ?_
   ·repeat first | refine Na ?_ | refine Nb ?_ | refine Nc ?_ | refine Nd ?_ | refine Ne ?_
    refine w_reg 1 rfl rfl (j' := 8) (nM rfl (n_nil ?_))
    rcases ok with _ | _
    ·refine Nc (w_no rfl (rfl) ?_)
     repeat first | refine Na ?_ | refine Nb ?_ | refine Nc ?_ | refine Nd ?_ | refine Ne ?_
     refine z_met (.slice aR (L'.length - p) cR) ⟨rfl, rfl, rfl, rfl, rfl, rfl, rfl, rfl, trivial⟩ ⟨by omega, (by repeat (first | exact Kp.refl _ _ _ | refine Kp.new ?_ (by omega) _)), ?_⟩
     rw [← (hP.no rfl).2]
     exact ⟨_, by rw [List.length_drop]; exact hsR, Rows.drop p hRL⟩
    ·obtain ⟨hp, hf, hd⟩ := hP.yes rfl
     refine Nc (w_yes rfl (rfl) (w_reg 8 rfl rfl (j' := 16) (nM rfl (nN rfl (nO (s_fa0 rfl fo_72_1 (nO (sL rfl ag_48 ?_))))))))
     refine nM rfl (nO (s_bin rfl rfl (by first | exact bi_inc (by omega) | exact bi_add rfl (by omega) (by omega)) ?_))
     refine n_op .no (q := 14) rfl (s_loC (j := p + 1) (q := q8) un_48 sz_28 rfl hsL rfl hp hq8 fun aQ cQ tcQ htcQ hsQ hnQ => (nA rfl (n_nil ?_)))
     repeat first | refine Na ?_ | refine Nb ?_ | refine Nc ?_ | refine Nd ?_ | refine Ne ?_
     refine z_met (.slice aQ (L'.length - (p + 1)) cQ) ⟨rfl, rfl, rfl, rfl, rfl, rfl, rfl, rfl, trivial⟩ ⟨by omega, (by repeat (first | exact Kp.refl _ _ _ | refine Kp.new ?_ (by omega) _)), ?_⟩
     rw [← hd]
     exact ⟨_, by rw [List.length_drop]; exact hsQ, Rows.drop (p + 1) hRL⟩
   rintro vR f g9 n9 hw9 ⟨hn9, k9, hRest⟩
   have h9 := h8.kp0 k9 hw8
   have c9 := k9.at0 hw8 c8
   have hc9 := k9.at0 hw8 hc8
   have hE9 := hE8.kp0 k9 hw8
   have x69 := x68.kp0 k9 hw8
   have k79 : K0 gL nL g9 := k78.trans0 k9 (by omega)
   clear h8 c8 hc8 hE8 x68 k78 hsL hRL hsR hnR
   obtain ⟨csL, hsL, hRL⟩ := id h9.ents
   repeat first | refine Na ?_ | refine Nb ?_ | refine Nc ?_ | refine Nd ?_ | refine Ne ?_
   refine w_reg 8 rfl rfl (j' := 8) (nM rfl (nN rfl (nO (s_fa0 rfl fo_72_1 (nO (sL rfl ag_48 ?_))))))
   refine nM rfl (n_op .no (q := 5) rfl (s_hiC un_48 sz_28 rfl hsL rfl hP.le fun aA cA hsA hnA => (n_op .no (q := 6) rfl (s_app0 app48 rfl rfl hsA.src (by have := hP.le; omega) fun a10 c10 g10 tc10 wr10 hwr10 hB hgB hnB => (nA rfl (n_nil ?_))))))
   have k10 : K0 g9 n9 g10 := fun x o hx ho _ => by rw [hgB x (by omega)]; exact ho
   have hA10 : EntsW g10 (.slice a10 p c10) (L'.take p) := ⟨_, by rw [List.length_take_of_le hP.le]; exact hB, (Rows.take p hRL).mono fun c x _ hx => hx.mono fun _ _ k => k.kp0 k10 hw9⟩
   have hn10 : ∀ y, vname (.slice a10 p c10) = some y → n9 ≤ y := fun y hy => by have := hnB y hy; omega
   repeat first | refine Na ?_ | refine Nb ?_ | refine Nc ?_ | refine Nd ?_ | refine Ne ?_
   refine w_gen fun g11 n11 hg11 hn11 hwg11 => ?_
   rw [← hg11] at k10 hA10
   clear hg11 hgB hnB hB hsA hnA hwr10
   have c11 := k10.at0 hw9 c9
   have hc11 := k10.at0 hw9 hc9
   have x611 := x69.kp0 k10 hw9
   repeat first | refine Na ?_ | refine Nb ?_ | refine Nc ?_ | refine Nd ?_ | refine Ne ?_
   refine w_reg 3 rfl rfl (j' := 3) (nO (s_fa0 rfl fo_39_2 (nO (sL rfl ag_4 ?_))))
   refine nO (s_not rfl (n_nil ?_))
   refine z_seq ?_
   refine z_meet (β := Value) (fun x => [(0, .pointer (some ⟨r, 0, none⟩)), (3, .pointer (some ⟨n, 0, none⟩)), (10, ve), (12, .pointer (some ⟨nL + 8, 0, none⟩)), (15, vR), (16, x), (79, .int .i64 ws.length), (80, .int .i64 i)])
    (fun x g' n' => n11 ≤ n' ∧ K0 g9 n9 g' ∧ EntsW g' x (L'.take p ++ if w.gone = true then [] else [(⟨w.key, rv, w.val⟩ : SEnt)]) ∧ (∀ y, vname x = some y → n9 ≤ y)) ?_ ?_
   ·rcases hgo : w.gone with _ | _
    ·repeat first | refine Na ?_ | refine Nb ?_ | refine Nc ?_ | refine Nd ?_ | refine Ne ?_
     refine w_yes rfl (rfl) ?_
     repeat first | refine Na ?_ | refine Nb ?_ | refine Nc ?_ | refine Nd ?_ | refine Ne ?_
     refine w_drw (T6 36 29) [(0, []), (1, []), (2, []), (3, [2]), (4, [2]), (5, [2]), (6, [2]), (7, [2, 6]), (8, [2, 6]), (9, [2, 6]), (10, []), (11, []), (12, []), (13, [])] 14 (by kernel_rfl) rfl rfl (j' := 17) (dM rfl rfl (dO rfl rfl (s_fa0 rfl fo_39_0 ⟨⟨rfl, rfl⟩, (dT rfl rfl rfl (sL rfl ag_9 ⟨clash_nil, ?_⟩))⟩)))
     refine dM rfl rfl (dO rfl rfl (s_nil rfl ⟨⟨rfl, rfl⟩, (dO rfl rfl (s_fa0 rfl fo_72_0 ⟨⟨rfl, rfl⟩, (dT rfl rfl rfl (sL rfl ag_2 ⟨clash_rd rfl, ?_⟩))⟩))⟩))
     refine dO rfl rfl (s_fa0 rfl fo_39_1 ⟨⟨rfl, rfl⟩, (dT rfl rfl rfl (sL rfl ag_26 ⟨clash_rd rfl, ?_⟩))⟩)
     refine d_tc rfl rfl rfl .no (q := 12) rfl (s_app0 app26 rfl rfl (SlC.src x611) (by omega) fun a12 c12 g12 tc12 wr12 hwr12 hV hgV hnV => ⟨(by (rcases hwr12 with rfl | rfl) <;> simp only [clashS, memN, cases2, neAll, ne1, if_true, if_false, Nat.reduceEqDiff, reduceIte, and_true, true_and] <;> omega), ?_⟩)
     have k12 : K0 g11 n11 g12 := fun x o hx ho _ => by rw [hgV x (by omega)]; exact ho
     obtain ⟨csA, hsA, hRA⟩ := id hA10
     have hlA : (L'.take p).length ≤ L'.length := by rw [List.length_take]; omega
     refine dO rfl rfl (s_bld pl_28 zl_28 rfl rfl rfl ⟨⟨rfl, rfl⟩, (d_al rfl rfl rfl .no (q := 14) rfl (s_bs el_48 ez_48 rfl rfl rfl (d_tc rfl rfl rfl .no (q := 15) rfl (s_app app48 rfl rfl (hsA.kp0 (n := n11) (Kp.new k12 (by omega) _) hwg11) (src_one (gs_same _ _ _) rfl) rfl (by omega) fun a13 c13 g13 tc13 wr13 hrow hgr => ⟨clash_nil, (dO rfl rfl (s_as rfl ⟨⟨rfl, rfl⟩, (d_nil ?_)⟩))⟩))))⟩)
     repeat first | refine Na ?_ | refine Nb ?_ | refine Nc ?_ | refine Nd ?_ | refine Ne ?_
     have kA : Kp (FN (.slice a10 p c10)) g11 n11 g13 := hgr.kp (Kp.new k12.z (by omega) _) (by omega) fun y hy => .inr (hA10.fn hy)
     have kB : K0 g9 n9 g13 := hgr.kp (Kp.new (k10.trans0 (k12.dn (m := n11) (by omega)) (by omega)) (by omega) _) (by omega) fun y hy => .inl (hn10 y hy)
     have w12 : WF g12 (n11 + 12 + 1) := WF.but hwg11 hgV (by omega)
     have kV : Kp (FN (.slice a10 p c10)) g12 (n11 + 12 + 1) g13 := hgr.kp (Kp.new (Kp.refl _ _ _) (by omega) _) (by omega) fun y hy => .inr fun o ho => hA10.fn hy o (by rw [← hgV y (by have := hsA.lt hwg11 hy; omega)]; exact ho)
     refine z_met (.slice a13 ((L'.take p).length + 1) c13) ⟨rfl, rfl, rfl, rfl, rfl, rfl, rfl, rfl, trivial⟩ ⟨by omega, kB, ?_, hgr.from_ hn10 (by omega)⟩
     exact EntsW.app hRA hwg11 kA (FN.nob _) ⟨a12, c12, rfl, BytesAt.kp hV.slc kV w12 (FN.nob _), hwlen⟩ hrow
    ·repeat first | refine Na ?_ | refine Nb ?_ | refine Nc ?_ | refine Nd ?_ | refine Ne ?_
     refine w_no rfl (rfl) ?_
     repeat first | refine Na ?_ | refine Nb ?_ | refine Nc ?_ | refine Nd ?_ | refine Ne ?_
     refine z_met (.slice a10 p c10) ⟨rfl, rfl, rfl, rfl, rfl, rfl, rfl, rfl, trivial⟩ ⟨by omega, k10, ?_, hn10⟩
     show EntsW g11 _ (L'.take p ++ [])
     rw [List.append_nil]; exact hA10
   rintro vA f g14 n14 hw14 ⟨hn14, k14, hA14, hnA⟩
   have h14 := h9.kp0 k14 hw9
   have hc14 := k14.at0 hw9 hc9
   have hRest14 := hRest.kp0 k14 hw9
   obtain ⟨csA, hsA, hRA⟩ := id hA14
   obtain ⟨csR, hsR, hRR⟩ := id hRest14
   have hlA : (L'.take p ++ if w.gone = true then [] else [(⟨w.key, rv, w.val⟩ : SEnt)]).length ≤ L'.length + 1 := by
    rw [List.length_append, List.length_take]
    split <;> simp <;> omega
   have hlR : (L'.filter fun y => decide (w.key < y.key)).length ≤ L'.length := List.length_filter_le _ _
   have hlay := layL_le h9.rl.srt (e := ⟨w.key, rv, w.val⟩) (gone := w.gone)
   have elay : layL L' ⟨w.key, rv, w.val⟩ w.gone = (L'.take p ++ if w.gone = true then [] else [(⟨w.key, rv, w.val⟩ : SEnt)]) ++ L'.filter fun y => decide (w.key < y.key) := by
    unfold layL
    rw [hP.front]
   repeat first | refine Na ?_ | refine Nb ?_ | refine Nc ?_ | refine Nd ?_ | refine Ne ?_
   refine w_reg 7 rfl rfl (j' := 7) (nM rfl (nM rfl (nM rfl (n_op .no (q := 3) rfl (s_app app48 rfl rfl hsA hsR.src (ents_plain hRR) (by omega) fun a15 c15 g15 tc15 wr15 hrow hgr => ?_)))))
   have kA : Kp (FN vA) g14 n14 g15 := hgr.kp (Kp.refl _ _ _) (by omega) fun y hy => .inr (hA14.fn hy)
   have k15 : K0 g9 n9 g15 := hgr.kp k14 (by omega) fun y hy => .inl (hnA y hy)
   have hc15 := k15.at0 hw9 hc9
   have hN15 : EntsRd g15 (.slice a15 ((L'.take p ++ if w.gone = true then [] else [(⟨w.key, rv, w.val⟩ : SEnt)]).length + (L'.filter fun y => decide (w.key < y.key)).length) c15) (layL L' ⟨w.key, rv, w.val⟩ w.gone) := by
    rw [elay]
    refine ⟨csA ++ csR, ?_, Rows.append (hRA.mono fun c x _ hx => hx.mono fun _ _ k => k.kp kA hw14 (FN.nob _)) (hRR.mono fun c x _ hx => hx.mono fun _ _ k => k.kp kA hw14 (FN.nob _))⟩
    have e1 : ((L'.take p ++ if w.gone = true then [] else [(⟨w.key, rv, w.val⟩ : SEnt)]) ++ L'.filter fun y => decide (w.key < y.key)).length = (L'.take p ++ if w.gone = true then [] else [(⟨w.key, rv, w.val⟩ : SEnt)]).length + (L'.filter fun y => decide (w.key < y.key)).length := List.length_append
    rw [e1]; exact hrow.slc
   have h15 := h9.kp0 k15 hw9
   refine nN rfl (nO (s_fa0 rfl fo_72_1 (nO (sS rfl rfl sz_48 rfl rfl ?_))))
   refine n_nil ?_
   repeat first | refine Na ?_ | refine Nb ?_ | refine Nc ?_ | refine Nd ?_ | refine Ne ?_
   refine w_gen fun g16 n16 hg16 hn16 hwg16 => ?_
   obtain ⟨lvN, hlvN⟩ : ∃ x, x = Value.slice a15 ((L'.take p ++ if w.gone = true then [] else [(⟨w.key, rv, w.val⟩ : SEnt)]).length + (L'.filter fun y => decide (w.key < y.key)).length) c15 := ⟨_, rfl⟩
   rw [← hlvN] at hN15 hg16
   have hw15 : WF g15 n16 := WF.of_gs (hg16 ▸ hwg16)
   obtain ⟨T1, hT1⟩ : ∃ T1 : Sto, T1 = { T with now := if w.gone = true then delK w.key T.now else setK w.key ⟨w.key, rv, w.val⟩ T.now } := ⟨_, rfl⟩
   have hT1r : T1.rev = rv := by rw [hT1]; exact hTr
   have h16 : RsAt g16 r me lr lvN sl T1 (layL L' ⟨w.key, rv, w.val⟩ w.gone) := by
    rw [hg16, hT1]
    clear hT0r
    subst hTr
    exact h15.setL hw15 hN15 (h15.rl.lay ⟨w.key, T.rev, w.val⟩ w.gone)
   have k16 : Kp (FQ r me lr) g9 n9 g16 := FC.fq (by rw [hg16]; exact Kp.set k15.z (FC.of hc9) _)
   have c16 := k16.at hw9 c9 (FQ.no0 (by omega) (by omega))
   have hE16 := hE9.kp k16 hw9 (FQ.nob _ _ _) (off_fq hE9)
   have x616 := x69.kp k16 hw9 (FQ.nob _ _ _)
   have hc16 := h16.cell
   rw [hT1r] at hc16
   have kP16 : Kp (FQ r me lr) g6 n6 g16 := (kL.trans0 k79 (by omega)).tr' k16 (by omega)
   clear hg16 hw15 h15 h14 hc14 hN15 hrow hgr kA hRA hRR hsA hsR hRest14 hA14 hRest x611 c11 hc11 hA10 x69 hE9 hc9 c9 h9 csL hsL hRL k15 hc15 k10 k14 hnA hn10
   repeat first | refine Na ?_ | refine Nb ?_ | refine Nc ?_ | refine Nd ?_ | refine Ne ?_
   refine w_drw (T6 36 31) [(0, []), (1, []), (2, []), (3, []), (4, [3]), (5, [3]), (6, [3, 5]), (7, [3, 5]), (8, [3, 5]), (9, [3, 5]), (10, [])] 11 (by kernel_rfl) rfl rfl (j' := 11) (dM rfl rfl (dO rfl rfl (s_nil rfl ⟨⟨rfl, rfl⟩, (dO rfl rfl (s_fa0 rfl fo_72_2 ⟨⟨rfl, rfl⟩, (dT rfl rfl rfl (sL rfl ag_69 ⟨clash_nil, ?_⟩))⟩))⟩)))
   refine dO rfl rfl (s_fa0 rfl fo_39_0 ⟨⟨rfl, rfl⟩, (dT rfl rfl rfl (sL rfl ag_9 ⟨clash_rd rfl, ?_⟩))⟩)
   refine dM rfl rfl (dO rfl rfl (s_nil rfl ⟨⟨rfl, rfl⟩, (dO rfl rfl (s_fa0 rfl fo_72_0 ⟨⟨rfl, rfl⟩, (dT rfl rfl rfl (sL rfl ag_2 ⟨clash_rd rfl, ?_⟩))⟩))⟩))
   refine d_tc rfl rfl rfl .no (q := 10) rfl (s_mset (a := rv) un_69 un_9 rfl rfl rfl rfl h16.ever fun o ho hoo => ⟨clash_nil, ?_⟩)
   obtain ⟨h17, k17⟩ := h16.setEver hwg16 ho
   refine d_nil ?_
   repeat first | refine Na ?_ | refine Nb ?_ | refine Nc ?_ | refine Nd ?_ | refine Ne ?_
   refine w_gen fun g18 n18 hg18 hn18 hwg18 => ?_
   rw [← hg18] at h17 k17
   have c18 := k17.at hwg16 c16 (FQ.no0 (by omega) (by omega))
   have hE18 := hE16.kp k17 hwg16 (FQ.nob _ _ _) (off_fq hE16)
   have x618 := x616.kp k17 hwg16 (FQ.nob _ _ _)
   have kP18 : Kp (FQ r me lr) g6 n6 g18 := kP16.tr' k17 (by omega)
   obtain ⟨T', hT'⟩ : ∃ T', T' = T.put1 rv w := ⟨_, rfl⟩
   have h18 : RsAt g18 r me lr lvN sl T' (layL L' ⟨w.key, rv, w.val⟩ w.gone) := by rw [hT']; rw [hT1] at h17; exact h17
   have hTr' : T'.rev = rv := by rw [hT', put1_rev, hTr]
   have hc18 := h18.cell
   rw [hTr'] at hc18
   clear hg18 ho hoo h17 k17 h16 hc16 c16 hE16 x616 kP16 k16
   obtain ⟨csE, hsE, hRE⟩ := id hE18
   rw [List.length_map, List.length_take_of_le (by omega)] at hsE
   repeat first | refine Na ?_ | refine Nb ?_ | refine Nc ?_ | refine Nd ?_ | refine Ne ?_
   refine w_drw (T6 36 32) [(0, []), (1, []), (2, []), (3, []), (4, []), (5, [4]), (6, [4]), (7, [4, 6]), (8, [4, 6]), (9, [4, 6]), (10, [4, 6, 8, 9]), (11, [4, 6, 8, 9]), (12, []), (13, []), (14, []), (15, [])] 16 (by kernel_rfl) rfl rfl (j' := 16) (dM rfl rfl (dM rfl rfl (dO rfl rfl (s_nil rfl ⟨⟨rfl, rfl⟩, (dO rfl rfl (s_fa0 rfl fo_72_0 ⟨⟨rfl, rfl⟩, (dT rfl rfl rfl (sL rfl ag_2 ⟨clash_nil, ?_⟩))⟩))⟩))))
   refine dO rfl rfl (s_fa0 rfl fo_39_0 ⟨⟨rfl, rfl⟩, (dT rfl rfl rfl (sL rfl ag_9 ⟨clash_rd rfl, ?_⟩))⟩)
   refine dO rfl rfl (s_fa0 rfl fo_39_1 ⟨⟨rfl, rfl⟩, (dT rfl rfl rfl (sL rfl ag_26 ⟨clash_rd rfl, ?_⟩))⟩)
   refine d_tc rfl rfl rfl .no (q := 9) rfl (s_app0 app26 rfl rfl (SlC.src x618) (by omega) fun a19 c19 g19 tc19 wr19 hwr19 hV hgV hnV => ⟨(by (rcases hwr19 with rfl | rfl) <;> simp only [clashS, memN, cases2, neAll, ne1, if_true, if_false, Nat.reduceEqDiff, reduceIte, and_true, true_and] <;> omega), ?_⟩)
   have k19 : K0 g18 n18 g19 := fun x o hx ho _ => by rw [hgV x (by omega)]; exact ho
   have c19' := k19.at0 hwg18 c18
   have w19 : WF g19 (n18 + 9 + 1) := WF.but hwg18 hgV (by omega)
   refine dO rfl rfl (s_fa0 rfl fo_39_2 ⟨⟨rfl, rfl⟩, (dT rfl rfl rfl (sL rfl ag_4 ⟨(by (rcases hwr19 with rfl | rfl) <;> simp only [clashS, memN, cases2, neAll, ne1, if_true, if_false, Nat.reduceEqDiff, reduceIte, and_true, true_and] <;> omega), ?_⟩))⟩)
   refine dO rfl rfl (s_bld pl_82 zl_82 rfl rfl rfl ⟨⟨rfl, rfl⟩, (d_al rfl rfl rfl .no (q := 13) rfl (s_bs el_65 ez_65 rfl rfl rfl (d_tc rfl rfl rfl .no (q := 14) rfl (s_app app65 rfl rfl (hsE.kp0 (n := n18) (Kp.new k19 (by omega) _) hwg18) (src_one (gs_same _ _ _) rfl) rfl (by omega) fun a20 c20 g20 tc20 wr20 hrow20 hgr20 => ⟨clash_nil, (dO rfl rfl (s_as rfl ⟨⟨rfl, rfl⟩, (d_nil ?_)⟩))⟩))))⟩)
   repeat first | refine Na ?_ | refine Nb ?_ | refine Nc ?_ | refine Nd ?_ | refine Ne ?_
   repeat first | refine Na ?_ | refine Nb ?_ | refine Nc ?_ | refine Nd ?_ | refine Ne ?_
   refine w_reg 2 rfl rfl (j' := 18) (nO (s_bin rfl rfl (by first | exact bi_inc (by omega) | exact bi_add rfl (by omega) (by omega)) ?_))
   refine nM rfl (n_nil ?_)
   have kE : Kp (FVs ve) g18 n18 g20 := hgr20.kp (Kp.new k19.z (by omega) _) (by omega) fun y hy => .inr (hE18.fvs hy)
   have kV : Kp (FVs ve) g19 (n18 + 9 + 1) g20 := hgr20.kp (Kp.new (Kp.refl _ _ _) (by omega) _) (by omega) fun y hy => .inr fun o ho => hE18.fvs hy o (by rw [← hgV y (by have := hsE.lt hwg18 hy; omega)]; exact ho)
   have kT : Kp (FQ r me lr) g6 n6 g20 := hgr20.kp (Kp.new (kP18.trans0 k19 (by omega)) (by omega) _) (by omega) fun y hy => .inl (hve y hy)
   have h20 : RsAt g20 r me lr lvN sl T' (layL L' ⟨w.key, rv, w.val⟩ w.gone) := h18.kk kE hwg18 (FVs.nob _) (fun x c ro hf => by obtain ⟨_, c', q, e⟩ := hf; cases e) (fun c hf => by obtain ⟨_, c', q, e⟩ := hf; cases e) (fun c hf => by obtain ⟨_, c', q, e⟩ := hf; cases e) (fun es c hf => by obtain ⟨_, c', q, e⟩ := hf; cases e) (fun x c ro hx hf => by have := hve _ hf.1; have := hsl _ hx; omega)
   refine z_round (i + 1, lvN, .slice a20 (i + 1) c20) ⟨rfl, rfl, rfl, rfl, rfl, trivial⟩ ⟨hi, by omega, ⟨layL L' ⟨w.key, rv, w.val⟩ w.gone, ?_, ?_⟩, kT, ?_, hgr20.from_ hve (by omega)⟩ (by simp only; omega)
   ·simp only
    rw [List.take_succ_eq_append_getElem hi, List.foldl_append, ← hTT, ← hwi]
    show RsAt g20 r me lr lvN sl (T.put1 rv w) _
    rw [← hT']; exact h20
   ·simp only; omega
   ·simp only
    rw [List.take_succ_eq_append_getElem hi, List.map_append, ← hwi]
    refine ⟨csE ++ evtC (evtW rv w) (.slice a19 w.val.length c19), ?_, Rows.append (hRE.mono fun c x _ hx => hx.mono fun _ _ k => k.kp kE hwg18 (FVs.nob _)) (Rows.one rfl ⟨a19, c19, rfl, BytesAt.kp hV.slc kV w19 (FVs.nob _), (show w.val.length ≤ _ by omega)⟩)⟩
    rw [List.length_append, List.length_map, List.length_take_of_le (by omega)]
    exact hrow20
  ·refine w_exit rfl ?_
   have hin : i = ws.length := by simp at hb1; omega
   subst hin
   rw [List.take_length] at hA hE
   exact z_met (lvi, ve) ⟨rfl, rfl, trivial⟩ ⟨by omega, ⟨L', hA⟩, kL, hE⟩
 rintro ⟨lv7, ve⟩ f g7 n7 hw7 ⟨hn7, ⟨L', hA⟩, k7, hE⟩
 simp only at hA hE
 have hTr : (ws.foldl (Sto.put1 rv) T0).rev = rv := by rw [(puts_same rv _ _).1, hT0r]
 have hTl : (ws.foldl (Sto.put1 rv) T0).log = S.log := by rw [(puts_same rv _ _).2.1, hT0]
 have hLl := hA.log
 rw [hTl] at hLl
 have hc7 := hA.cell
 rw [hTr] at hc7
 repeat first | refine Na ?_ | refine Nb ?_ | refine Nc ?_ | refine Nd ?_ | refine Ne ?_
 refine w_reg 6 rfl rfl (j' := 6) (nM rfl (nN rfl (nO (s_fa0 rfl fo_72_3 (nO (sL rfl ag_70 ?_))))))
 refine nM rfl (n_call .no rfl rfl rfl (C.use (ref_add_yes hLl hT hE.rd (by rw [List.length_map]; omega) hmo (txn_may hrv' hla hm.2.1)) fun v g8 n8 hw8 hn8 hq => ?_))
 obtain ⟨rfl, sl', hA8, hn8', k8⟩ := hq
 refine n_nil ?_
 have k8' := FR.fc hA (k8.dn (m := n7) (by omega))
 have h8 := hA.setLog hw7 k8' hA8
 have hc8 := h8.cell
 rw [show ({ ws.foldl (Sto.put1 rv) T0 with log := S.log.add (ws.map (evtW rv)) } : Sto).rev = rv from hTr] at hc8
 refine Nc (Na (w_reg 6 rfl rfl (j' := 6) (nM rfl (nN rfl (nO (s_fa0 rfl fo_72_0 (nO (sL rfl ag_2 ?_))))))))
 refine nA rfl (nA rfl (n_nil (Nc (Nf (z_r2 rfl rfl rfl ?_)))))
 have e : S.txn gs ws = ({ ws.foldl (Sto.put1 rv) T0 with log := S.log.add (ws.map (evtW rv)) }, rv, 0) := by rw [Sto.txn, if_pos h0, hT0, hrv']
 rw [e]
 exact ⟨lv7, sl', L', rfl, h8, ⟨.inr fun x hx => by have := (hn8' x hx).1; omega, fun x hx => by have := (hn8' x hx).2; omega⟩, ((FC.fq k6).tr' k7 (by omega)).tr' (FC.fq' k8') (by omega)⟩
end

end Go.Proofs.YtehmailaabjdjaaGreat
end

section
open Go.Proofs
namespace Go.Proofs.YtehmailaabjdjaaGreat
set_option linter.unusedSimpArgs false
set_option linter.unusedVariables false
set_option maxRecDepth 100000

theorem Hist.top {S : Sto} {all : List Evt} (h : Hist S all) : Top S.log := by
 have hl := h.log
 refine ⟨?_, fun e he => ?_⟩
 ·rw [hl.evs]; exact List.Pairwise.filter _ hl.asc
 ·rw [hl.evs] at he
  exact hl.top e (List.mem_filter.1 he).1
theorem SopsRd.all {g : Gm} {v : Value} {xs : List SOp} {i : Nat} (h : SopsRd g v xs) (hi : i < xs.length) : ∃ l o c cl ro a1 c1 a2 c2, v = .slice (some ⟨l, o, none⟩) xs.length c ∧ g l = some (.cells cl 4 ro) ∧ o + i * 4 + 4 ≤ cl.length ∧
  (cl.drop (o + i * 4)).take 4 = [.int .i64 xs[i].kind, .slice a1 xs[i].gs.length c1, .slice a2 xs[i].ws.length c2, .int .i64 xs[i].rev] ∧ GdsRd g (.slice a1 xs[i].gs.length c1) xs[i].gs ∧ WrsRd g (.slice a2 xs[i].ws.length c2) xs[i].ws := by
 obtain ⟨cs, h1, h2⟩ := h
 obtain ⟨l, o, c, cl, ro, rfl, hc, h3, h4, h5⟩ := h1.pos (by omega)
 have h6 := h2.get hi
 rw [← take_part h5 (show i * 4 + 4 ≤ xs.length * 4 by omega)] at h6
 obtain ⟨gv, wv, h7, h8, h9⟩ := h6
 obtain ⟨a1, c1, rfl⟩ := h8.len
 obtain ⟨a2, c2, rfl⟩ := h9.len
 exact ⟨l, o, c, cl, ro, a1, c1, a2, c2, rfl, h3, by omega, h7, h8, h9⟩

structure Apt (s m1 m2 l r me lr : Nat) : Prop where
 c : r ≠ s ∧ r ≠ l ∧ lr ≠ s ∧ lr ≠ l
 m : me ≠ m1 ∧ me ≠ m2
section
variable {g g' : Gm} {n n' b q s m1 m2 l r me lr : Nat} {sl sl' lv lv' rsl rsl' : Value} {S S' T T' : Sto} {L L' : List SEnt}
theorem StAt.alive (h : StAt b g s m1 m2 l sl S) (hw : WF g n) : s < n ∧ m1 < n ∧ m2 < n ∧ l < n := by
 obtain ⟨_, _, h1, _⟩ := h.now
 obtain ⟨_, _, h2, _⟩ := h.last
 exact ⟨hw _ _ h.cell, hw _ _ h1, hw _ _ h2, hw _ _ h.log.cell⟩
theorem RsAt.alive (h : RsAt g r me lr lv sl S L) (hw : WF g n) : r < n ∧ me < n ∧ lr < n := by
 obtain ⟨_, _, h1, _⟩ := h.ever
 exact ⟨hw _ _ h.cell, hw _ _ h1, hw _ _ h.log.cell⟩
theorem RsAt.fs (h : RsAt g r me lr lv rsl T L) (hk : Kp (FS s m1 m2 l sl) g n g') (hw : WF g n) (ha : Apt s m1 m2 l r me lr) (hs : SlApart sl rsl) : RsAt g' r me lr lv rsl T L := by
 obtain ⟨⟨a1, a2, a3, a4⟩, b1, b2⟩ := ha
 refine h.kk hk hw (FS.nob _ _ _ _ _) (FS.no3 _ _ _ _ _) (fun c => FS.no0 a1 a2) (fun c => FS.no0 a3 a4) (fun es c hf => ?_) (fun x c ro hx hf => ?_)
 ·rcases hf with ⟨_, _, _, e⟩ | ⟨e | e, _⟩ | ⟨_, _, _, e⟩
  ·cases e
  ·exact b1 e
  ·exact b2 e
  ·cases e
 ·rcases hf with ⟨_, _, _, e⟩ | ⟨_, _, _, e⟩ | ⟨e, _⟩
  ·cases e
  ·cases e
  ·exact hs x hx e
theorem RsAt.fc {x : Nat} (h : RsAt g r me lr lv rsl T L) (hk : Kp (FC x) g n g') (hw : WF g n) (hr : r ≠ x) (hl : lr ≠ x) : RsAt g' r me lr lv rsl T L :=
 h.kk hk hw (FC.nob _) (FC.no3 _) (fun c hf => hr hf.1) (fun c hf => hl hf.1) (fun es c hf => by obtain ⟨_, c', q, e⟩ := hf; cases e) (fun x c ro _ hf => by obtain ⟨_, c', q, e⟩ := hf; cases e)
theorem StAt.fq (h : StAt b g s m1 m2 l sl S) (hk : Kp (FQ r me lr) g n g') (hw : WF g n) (ha : Apt s m1 m2 l r me lr) : StAt b g' s m1 m2 l sl S := by
 obtain ⟨⟨a1, a2, a3, a4⟩, b1, b2⟩ := ha
 refine h.kp hk hw (fun x cl ro _ => FQ.nob _ _ _ x cl ro) (fun c => FQ.no0 a1.symm a3.symm) (fun es c => FQ.noM b1.symm) (fun es c => FQ.noM b2.symm) (fun c => FQ.no0 a2.symm a4.symm) (fun x o hx ho hf => ?_)
 obtain ⟨⟨cs, ⟨_, ⟨rfl, _⟩ | ⟨l', o', c, cl, rfl, _, h4, _⟩⟩, _⟩, _⟩ := h.log.evs
 ·cases hx
 ·simp only [vname, Option.some.injEq] at hx
  subst hx
  rw [h4] at ho; cases ho
  exact FQ.no4 _ _ _ _ _ _ hf
theorem FQ.low (hq : q ≤ r ∧ q ≤ me ∧ q ≤ lr) (hn : q ≤ n) (hk : Kp (FQ r me lr) g n g') : K0 g q g' := fun x o hx ho _ =>
 hk x o (by omega) ho fun hf => by
  rcases hf with ⟨e | e, _⟩ | ⟨e, _⟩ <;> omega

structure Two (b s m1 m2 l r me lr : Nat) (S T : Sto) (sl lv rsl : Value) (L : List SEnt) (g : Gm) (n : Nat) : Prop where
 st : StAt b g s m1 m2 l sl S
 rs : RsAt g r me lr lv rsl T L
 sep : SlApart sl rsl
 lt : ∀ x, vname rsl = some x → x < n
theorem Two.kp0 (h : Two b s m1 m2 l r me lr S T sl lv rsl L g n) (hk : K0 g n g') (hw : WF g n) (hn : n ≤ n') : Two b s m1 m2 l r me lr S T sl lv rsl L g' n' :=
 ⟨h.st.kp0 hk hw, h.rs.kp0 hk hw, h.sep, fun x hx => Nat.lt_of_lt_of_le (h.lt x hx) hn⟩
theorem Two.up (h : Two b s m1 m2 l r me lr S T sl lv rsl L g n) (hn : n ≤ n') : Two b s m1 m2 l r me lr S T sl lv rsl L g n' := ⟨h.st, h.rs, h.sep, fun x hx => Nat.lt_of_lt_of_le (h.lt x hx) hn⟩
theorem Two.fs (h : Two b s m1 m2 l r me lr S T sl lv rsl L g n) (hk : Kp (FS s m1 m2 l sl) g n g') (hw : WF g n) (ha : Apt s m1 m2 l r me lr) (hS : StAt b g' s m1 m2 l sl' S') (hm : Mvd n sl sl') (hn : n ≤ n') : Two b s m1 m2 l r me lr S' T sl' lv rsl L g' n' :=
 ⟨hS, h.rs.fs hk hw ha h.sep, h.sep.mvd hm h.lt, fun x hx => Nat.lt_of_lt_of_le (h.lt x hx) hn⟩
theorem Two.fc (h : Two b s m1 m2 l r me lr S T sl lv rsl L g n) (hk : Kp (FC s) g n g') (hw : WF g n) (ha : Apt s m1 m2 l r me lr) (hS : StAt b g' s m1 m2 l sl S') (hn : n ≤ n') : Two b s m1 m2 l r me lr S' T sl lv rsl L g' n' :=
 ⟨hS, h.rs.fc hk hw ha.c.1 ha.c.2.2.1, h.sep, fun x hx => Nat.lt_of_lt_of_le (h.lt x hx) hn⟩
theorem Two.fcr (h : Two b s m1 m2 l r me lr S T sl lv rsl L g n) (hk : Kp (FC r) g n g') (hw : WF g n) (ha : Apt s m1 m2 l r me lr) (hR : RsAt g' r me lr lv rsl T' L) (hn : n ≤ n') : Two b s m1 m2 l r me lr S T' sl lv rsl L g' n' :=
 ⟨h.st.fc hk hw ha.c.1.symm ha.c.2.1.symm, hR, h.sep, fun x hx => Nat.lt_of_lt_of_le (h.lt x hx) hn⟩
theorem Two.fq (h : Two b s m1 m2 l r me lr S T sl lv rsl L g n) (hk : Kp (FQ r me lr) g n g') (hw : WF g n) (ha : Apt s m1 m2 l r me lr) (hR : RsAt g' r me lr lv' rsl' T' L') (hm : Mvd n rsl rsl') (hl : ∀ x, vname rsl' = some x → x < n') : Two b s m1 m2 l r me lr S T' sl lv' rsl' L' g' n' :=
 ⟨h.st.fq hk hw ha, hR, (h.sep.sym.mvd hm (h.st.slt hw)).sym, hl⟩
theorem Two.lowS (h : Two b s m1 m2 l r me lr S T sl lv rsl L g n) (hq : q ≤ s ∧ q ≤ m1 ∧ q ≤ m2 ∧ q ≤ l) (hb : q ≤ b) (hn : q ≤ n) (hk : Kp (FS s m1 m2 l sl) g n g') : K0 g q g' := h.st.low hq hb hn hk
theorem Two.len (h : Two b s m1 m2 l r me lr S T sl lv rsl L g n) {N : Nat} (hi : T.Inv N) : L.length ≤ 64 * N := by
 have := hi.list_len
 rw [h.rs.rl.list] at this
 exact this
end

end Go.Proofs.YtehmailaabjdjaaGreat
end
