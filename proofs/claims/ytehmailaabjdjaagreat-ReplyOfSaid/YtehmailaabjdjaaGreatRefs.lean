/-
  the reference's log: NewLog, drop, Cut, by contract. No condition. / the reference's log: Cut, From, by contract. No condition. / the reference's log: Add, by contract. No condition.
-/
import Derived.Test.YtehmailaabjdjaaGreatLogX
section
open Go.Proofs
namespace Go.Proofs.YtehmailaabjdjaaGreat
set_option linter.unusedSimpArgs false
set_option linter.unusedVariables false
set_option maxRecDepth 100000

def refC (sl : Value) (L : Log) : AObj := .cells [.int .i64 L.most, sl, .int .i64 L.base, .int .i64 L.last] 0 false

structure RefAt (g : Gm) (l : Nat) (sl : Value) (L : Log) : Prop where
 cell : g l = some (refC sl L)
 evs : EvsRd g sl L.evs
 ne : vname sl ≠ some l

def FR (l : Nat) (x : Nat) (o : AObj) : Prop := x = l ∧ nb o
theorem FR.nob (l : Nat) : NoB (FR l) := fun x cl ro h => h.2 rfl

structure Top (L : Log) : Prop where
 asc : Asc L.evs
 top : ∀ e ∈ L.evs, e.rev ≤ L.last

theorem EvsRd.tail {g : Gm} {v : Value} {e : Evt} {es : List Evt} (h : EvsRd g v (e :: es)) : ∃ r o c cl ro, v = .slice (some ⟨r, o, none⟩) (es.length + 1) c ∧ es.length + 1 ≤ c ∧ g r = some (.cells cl 4 ro) ∧ EvsRd g (.slice (some ⟨r, o + 1 * 4, none⟩) (es.length + 1 - 1) (c - 1)) es := by
 obtain ⟨cs, h1, h2⟩ := h
 obtain ⟨r, o, c, cl, ro, rfl, hc, h3, h4, h5⟩ := h1.pos (Nat.succ_pos _)
 have hR := h2.drop 1
 simp only [List.drop_succ_cons, List.drop_zero] at hR
 simp only [List.length_cons] at *
 have hlen := h1.1
 refine ⟨r, o, c, cl, ro, rfl, hc, h3, cs.drop (1 * 4), ⟨by rw [List.length_drop]; omega, .inr (.inr ⟨r, o + 1 * 4, c - 1, by rw [Nat.add_sub_cancel], by omega, .inr ⟨cl, ro, h3, by omega, ?_⟩⟩)⟩, hR⟩
 rw [← h5, List.drop_take, List.drop_drop]
 congr 1
 omega

def Log.drop (L : Log) (rev : Int) : Log := { L with evs := after rev L.evs, base := max L.base rev }

theorem after_stop {r : Int} {es : List Evt} (h : Asc es) (h0 : ∀ e es', es = e :: es' → r < e.rev) : after r es = es := by
 cases es with
 | nil => rfl
 | cons e es' =>
  refine after_all fun x hx => ?_
  have := h0 e es' rfl
  rcases List.mem_cons.1 hx with rfl | hx
  ·exact this
  ·have := (List.pairwise_cons.1 h).1 x hx; omega

theorem drop_cut {L : Log} (h : Top L) (rev : Int) : L.drop (min rev L.last) = L.cut rev := by
 unfold Log.drop Log.cut
 congr 1
 by_cases hr : rev ≤ L.last
 ·rw [Int.min_eq_left hr]; rfl
 ·rw [Int.min_eq_right (by omega)]
  have e1 : after L.last L.evs = [] := by
   unfold after
   rw [List.filter_eq_nil_iff]
   intro e he
   have := h.top e he
   simp; omega
  rw [e1]
  symm
  rw [List.filter_eq_nil_iff]
  intro e he
  have := h.top e he
  simp; omega

section
variable {g : Gm} {n l : Nat} {sl : Value} {L : Log}

theorem ref_new (g : Gm) (n : Nat) (m : Int) : C 50 #[.int .i64 m] g n fun u g' n' => ∃ l, u = .pointer (some ⟨l, 0, none⟩) ∧ n ≤ l ∧ RefAt g' l (.slice none 0 0) ⟨[], min (max m 1) 1000, 0, 0⟩ ∧ K0 g n g' := by
 refine c_in1 Tryz.func50 rfl Tryz.ntmps50 rfl fun hw => (Na (w_reg 1 rfl rfl (j' := 1) (nA rfl (n_nil (Nc (Na (w_reg 6 rfl rfl (j' := 7) (nM rfl (nO (s_min rfl rfl rfl (nO (s_max rfl rfl rfl (nO (s_bld pl_100 zl_100 rfl rfl rfl (n_op .no (q := 5) rfl (s_boxa rfl (nA rfl (n_nil (Nc (Nf (z_r1 rfl rfl ?_)))))))))))))))))))))
 refine ⟨_, rfl, by omega, ⟨?_, ⟨[], SlC.nil _ _, rfl⟩, fun e => by cases e⟩, (by repeat (first | exact Kp.refl _ _ _ | refine Kp.new ?_ (by omega) _))⟩
 have e : max 1 (min m 1000) = min (max m 1) 1000 := by omega
 rw [gs_same, e]
 rfl

theorem ref_drop {rev : Int} (h : RefAt g l sl L) (hs : Asc L.evs) :
  C 89 #[.pointer (some ⟨l, 0, none⟩), .int .i64 rev] g n fun u g' n' => u = .tuple #[] ∧ ∃ sl', RefAt g' l sl' (L.drop rev) ∧ vname sl' = vname sl ∧ Kp (FR l) g n g' := by
 have hl := h.cell
 refine c_in2 Tryz.func89 rfl Tryz.ntmps89 rfl fun hw => ?_
 have hll := hw _ _ hl
 refine w_seq ?_
 refine z_meet (β := Value × List Evt) (fun x => [(0, .pointer (some ⟨l, 0, none⟩)), (1, .int .i64 rev)])
  (fun x g' n' => n ≤ n' ∧ RefAt g' l x.1 { L with evs := x.2 } ∧ Asc x.2 ∧ after rev x.2 = after rev L.evs ∧ vname x.1 = vname sl ∧ Kp (FR l) g n g' ∧ after rev x.2 = x.2) ?_ ?_
 ·repeat first | refine Na ?_ | refine Nb ?_ | refine Nc ?_ | refine Nd ?_ | refine Ne ?_
  refine w_loop (β := Value × List Evt) (fun x => [(0, .pointer (some ⟨l, 0, none⟩)), (1, .int .i64 rev)])
   (fun x g' n' => n ≤ n' ∧ RefAt g' l x.1 { L with evs := x.2 } ∧ Asc x.2 ∧ after rev x.2 = after rev L.evs ∧ vname x.1 = vname sl ∧ Kp (FR l) g n g') (fun x => x.2.length) (sl, L.evs) ⟨rfl, rfl, trivial⟩ ⟨by omega, h, hs, rfl, rfl, Kp.refl _ _ _⟩ ?_
  rintro ⟨s1, e1⟩ f g1 n1 hw1 ⟨hn1, hA, hasc, haf, hv, hk⟩
  simp only at hA hasc haf hv
  have hc := hA.cell
  rcases e1 with _ | ⟨e, es⟩
  ·obtain ⟨a, c, rfl⟩ := hA.evs.len
   repeat first | refine Na ?_ | refine Nb ?_ | refine Nc ?_ | refine Nd ?_ | refine Ne ?_
   refine w_reg 17 rfl rfl (j' := 17) (nM rfl (nN rfl (nO (s_fa0 rfl fo_100_1 (nO (sL rfl ag_65 ?_))))))
   refine nO (s_len rfl rfl un_65 rfl (nO (s_bin rfl rfl rfl (nM rfl (nSk rfl rfl (rfl) rfl 8 rfl (nO (s_pf rfl (rfl) rfl (n_nil (Nc (w_no rfl (rfl) ?_))))))))))
   refine w_exit rfl ?_
   exact z_met (_, []) ⟨rfl, rfl, trivial⟩ ⟨by omega, hA, hasc, haf, hv, hk, rfl⟩
  ·obtain ⟨r, o, c, cl, ro, rfl, hcc, h3, htl⟩ := hA.evs.tail
   obtain ⟨l2, o2, c2, cl2, ro2, p2, q2, x1, _, x2, x3⟩ := hA.evs.at0 (Nat.succ_pos _)
   cases x1
   have d0 := x3.c0'
   have hpos : 0 < es.length + 1 := Nat.succ_pos _
   by_cases hr : e.rev ≤ rev
   ·repeat first | refine Na ?_ | refine Nb ?_ | refine Nc ?_ | refine Nd ?_ | refine Ne ?_
    refine w_reg 17 rfl rfl (j' := 17) (nM rfl (nN rfl (nO (s_fa0 rfl fo_100_1 (nO (sL rfl ag_65 ?_))))))
    refine nO (s_len rfl rfl un_65 rfl (nO (s_bin rfl rfl rfl (nM rfl (nG rfl rfl (decide_eq_true (by omega)) rfl (nY rfl rfl (decide_eq_true (by omega)) (s_nil rfl (nY rfl rfl (decide_eq_true (by omega)) (s_fa0 rfl fo_100_1 (nY rfl rfl (decide_eq_true (by omega)) (sL rfl ag_65 ?_)))))))))))
    refine nY rfl rfl (decide_eq_true (by omega)) (s_ia0 rfl rfl el_65 (by first | assumption | omega) (nY rfl rfl (decide_eq_true (by omega)) (s_fa rfl fo_82_0 (nY rfl rfl (decide_eq_true (by omega)) (sL rfl ag_2 ?_)))))
    refine nG rfl rfl (decide_eq_true (by omega)) rfl (nY rfl rfl (decide_eq_true (by omega)) (s_bin rfl rfl rfl (nO (s_pt rfl (decide_eq_true (by omega)) rfl (n_nil (Nc (w_yes rfl (decide_eq_true hr) ?_)))))))
    have hrl : r ≠ l := fun e' => by rw [e'] at h3; rw [hc] at h3; cases h3
    refine Ne (Nc (Nb (w_reg 9 rfl rfl (j' := 26) (nM rfl (nM rfl (nN rfl (nO (s_fa0 rfl fo_100_1 (nO (sL rfl ag_65 ?_))))))))))
    refine n_op .no (q := 22) rfl (s_sll (j := 1) un_65 sz_82 rfl rfl (Nat.succ_le_succ (Nat.zero_le _)) hcc h3 fun tc => (nN rfl (nO (s_fa0 rfl fo_100_1 (nO (sS rfl rfl sz_65 rfl rfl ?_))))))
    refine n_nil ?_
    repeat first | refine Na ?_ | refine Nb ?_ | refine Nc ?_ | refine Nd ?_ | refine Ne ?_
    refine z_round (.slice (some ⟨r, o + 1 * 4, none⟩) (es.length + 1 - 1) (c - 1), es) ⟨rfl, rfl, trivial⟩ ⟨by omega, ⟨gs_same _ _ _, ?_, fun e' => hrl (by cases e'; rfl)⟩, (List.pairwise_cons.1 hasc).2, ?_, hv, hk.set (fun o ho => ⟨rfl, ?_⟩) _⟩ (by simp only [List.length_cons]; omega)
    ·exact htl.kp (F := FR l) (n := n1) ((Kp.refl _ _ _).set (fun o ho => ⟨rfl, by rw [hc] at ho; cases ho; show (0 : Nat) ≠ 1; decide⟩) _) hw1 (FR.nob l) fun x o' hx _ hf => by cases hx; exact hrl hf.1
    ·rw [← haf]
     symm
     exact List.filter_cons_of_neg (by simp; omega)
    ·rw [hl] at ho; cases ho
     show (0 : Nat) ≠ 1
     decide
   ·repeat first | refine Na ?_ | refine Nb ?_ | refine Nc ?_ | refine Nd ?_ | refine Ne ?_
    refine w_reg 17 rfl rfl (j' := 17) (nM rfl (nN rfl (nO (s_fa0 rfl fo_100_1 (nO (sL rfl ag_65 ?_))))))
    refine nO (s_len rfl rfl un_65 rfl (nO (s_bin rfl rfl rfl (nM rfl (nG rfl rfl (decide_eq_true (by omega)) rfl (nY rfl rfl (decide_eq_true (by omega)) (s_nil rfl (nY rfl rfl (decide_eq_true (by omega)) (s_fa0 rfl fo_100_1 (nY rfl rfl (decide_eq_true (by omega)) (sL rfl ag_65 ?_)))))))))))
    refine nY rfl rfl (decide_eq_true (by omega)) (s_ia0 rfl rfl el_65 (by first | assumption | omega) (nY rfl rfl (decide_eq_true (by omega)) (s_fa rfl fo_82_0 (nY rfl rfl (decide_eq_true (by omega)) (sL rfl ag_2 ?_)))))
    refine nG rfl rfl (decide_eq_true (by omega)) rfl (nY rfl rfl (decide_eq_true (by omega)) (s_bin rfl rfl rfl (nO (s_pt rfl (decide_eq_true (by omega)) rfl (n_nil (Nc (w_no rfl (decide_eq_false hr) ?_)))))))
    refine w_exit rfl ?_
    exact z_met (_, e :: es) ⟨rfl, rfl, trivial⟩ ⟨by omega, hA, hasc, haf, hv, hk, after_stop hasc fun a b hab => by cases hab; omega⟩
 rintro ⟨s1, e1⟩ f g1 n1 hw1 ⟨hn1, hA, hasc, haf, hv, hk, hst⟩
 simp only at hA hasc haf hv hst
 have hc := hA.cell
 obtain ⟨a, c, rfl⟩ := hA.evs.len
 repeat first | refine Na ?_ | refine Nb ?_ | refine Nc ?_ | refine Nd ?_ | refine Ne ?_
 refine w_reg 10 rfl rfl (j' := 10) (nM rfl (nM rfl (nN rfl (nO (s_fa0 rfl fo_100_2 (nO (sL rfl ag_2 ?_)))))))
 refine nM rfl (nO (s_max rfl rfl rfl (nN rfl (nO (s_fa0 rfl fo_100_2 (nO (sS rfl rfl sz_2 rfl rfl ?_)))))))
 refine n_nil ?_
 repeat first | refine Nf ?_ | refine Na ?_ | refine Nb ?_ | refine Nc ?_ | refine Nd ?_ | refine Ne ?_
 refine z_r0 rfl ?_
 refine ⟨rfl, _, ⟨?_, ?_, hA.ne⟩, hv, hk.set (fun o ho => ⟨rfl, ?_⟩) _⟩
 ·rw [gs_same]; rfl
 ·show EvsRd _ _ (after rev L.evs)
  rw [← haf, hst]
  exact hA.evs.kp (F := FR l) (n := n1) ((Kp.refl _ _ _).set (fun o ho => ⟨rfl, by rw [hc] at ho; cases ho; show (0 : Nat) ≠ 1; decide⟩) _) hw1 (FR.nob l) fun x o' hx _ hf => hA.ne (by rw [hx, hf.1])
 ·rw [hl] at ho; cases ho
  show (0 : Nat) ≠ 1
  decide
end

end Go.Proofs.YtehmailaabjdjaaGreat
end

section
open Go.Proofs
namespace Go.Proofs.YtehmailaabjdjaaGreat
set_option linter.unusedSimpArgs false
set_option linter.unusedVariables false
set_option maxRecDepth 100000

section
variable {g : Gm} {n l : Nat} {sl : Value} {L : Log}

theorem RefAt.kp {F : Nat → AObj → Prop} {g' : Gm} (h : RefAt g l sl L) (hk : Kp F g n g') (hw : WF g n) (hF : NoB F) (hl : ∀ o, ¬ F l o) (hs : Off F g sl) : RefAt g' l sl L :=
 ⟨hk.at hw h.cell (hl _), h.evs.kp hk hw hF hs, h.ne⟩
theorem RefAt.kp0 {g' : Gm} (h : RefAt g l sl L) (hk : K0 g n g') (hw : WF g n) : RefAt g' l sl L := h.kp hk hw NoB.z (fun _ h => h) (Off.z g sl)

theorem ref_cut {rev : Int} (h : RefAt g l sl L) (hs : Top L) :
  C 53 #[.pointer (some ⟨l, 0, none⟩), .int .i64 rev] g n fun u g' n' => u = .tuple #[] ∧ ∃ sl', RefAt g' l sl' (L.cut rev) ∧ vname sl' = vname sl ∧ Kp (FR l) g n g' := by
 have hl := h.cell
 refine c_in2 Tryz.func53 rfl Tryz.ntmps53 rfl fun hw => (w_reg 8 rfl rfl (j' := 8) (nM rfl (nM rfl (nM rfl (nN rfl (nO (s_fa0 rfl fo_100_3 (nO (sL rfl ag_2 ?_)))))))))
 refine nO (s_min rfl rfl rfl (n_call .no rfl rfl rfl (C.use (ref_drop h hs.asc) fun v g1 n1 hw1 hn1 hq => ?_)))
 obtain ⟨rfl, sl', hA, hv, hk⟩ := hq
 refine n_nil ?_
 repeat first | refine Nf ?_ | refine Na ?_ | refine Nb ?_ | refine Nc ?_ | refine Nd ?_ | refine Ne ?_
 refine z_r0 rfl ?_
 rw [drop_cut hs] at hA
 exact ⟨rfl, sl', hA, hv, hk.dn (by omega)⟩

theorem ref_from {rev : Int} (h : RefAt g l sl L) (hn : L.evs.length < 2 ^ 40) :
  C 39 #[.pointer (some ⟨l, 0, none⟩), .int .i64 rev] g n fun u g' n' => ∃ v, u = .tuple #[v, .int .i64 (L.from_ rev).2] ∧ EvsW g' v (L.from_ rev).1 ∧ (∀ x, vname v = some x → n ≤ x) ∧ K0 g n g' := by
 have hl := h.cell
 refine c_in2 Tryz.func39 rfl Tryz.ntmps39 rfl fun hw => ?_
 have hll := hw _ _ hl
 refine Na (w_reg 2 rfl rfl (j' := 2) (nA rfl (nA rfl (n_nil (Nc (Na (Na (w_reg 6 rfl rfl (j' := 8) (nM rfl (nM rfl (nN rfl (nO (s_fa0 rfl fo_100_2 (nO (sL rfl ag_2 ?_)))))))))))))))
 refine nO (s_bin rfl rfl rfl (n_nil ?_))
 by_cases h1 : rev < L.base
 ·refine Nc (w_yes rfl (decide_eq_true h1) (Na (w_reg 2 rfl rfl (j' := 10) (nA rfl (nA rfl (n_nil (Nc (Nf (z_r2 rfl rfl rfl ?_)))))))))
  have e : L.from_ rev = ([], 7) := by simp only [Log.from_, h1, if_true]
  rw [e]
  exact ⟨_, rfl, EvsW.nil _, (fun x hx => by cases hx), (by repeat (first | exact Kp.refl _ _ _ | refine Kp.new ?_ (by omega) _))⟩
 refine Nc (w_no rfl (decide_eq_false h1) (Ne (Nc (Na (Na (w_reg 6 rfl rfl (j' := 14) (nM rfl (nM rfl (nN rfl (nO (s_fa0 rfl fo_100_3 (nO (sL rfl ag_2 ?_)))))))))))))
 refine nO (s_bin rfl rfl rfl (n_nil ?_))
 by_cases h2 : L.last < rev
 ·refine Nc (w_yes rfl (decide_eq_true h2) (Na (w_reg 2 rfl rfl (j' := 16) (nA rfl (nA rfl (n_nil (Nc (Nf (z_r2 rfl rfl rfl ?_)))))))))
  have e : L.from_ rev = ([], 2) := by simp only [Log.from_, h1, h2, if_true, if_false]
  rw [e]
  exact ⟨_, rfl, EvsW.nil _, (fun x hx => by cases hx), (by repeat (first | exact Kp.refl _ _ _ | refine Kp.new ?_ (by omega) _))⟩
 refine Nc (w_no rfl (decide_eq_false h2) ?_)
 have e : L.from_ rev = (after rev L.evs, 0) := by simp only [Log.from_, h1, h2, if_false]; rfl
 rw [e]
 refine Ne (Nc (Na (w_reg 1 rfl rfl (j' := 15) (nA rfl (n_nil ?_)))))
 obtain ⟨a, c, rfl⟩ := h.evs.len
 refine Nc (Na (Na (w_reg 6 rfl rfl (j' := 21) (nM rfl (nN rfl (nO (s_fa0 rfl fo_100_1 (nO (sL rfl ag_65 ?_)))))))))
 refine nO (s_len rfl rfl un_65 rfl (nM rfl (n_nil ?_)))
 repeat first | refine Na ?_ | refine Nb ?_ | refine Nc ?_ | refine Nd ?_ | refine Ne ?_
 refine w_loop (β := Nat × Value) (fun x => [(0, .pointer (some ⟨l, 0, none⟩)), (1, .int .i64 rev), (6, x.2), (24, .int .i64 L.evs.length), (25, .int .i64 x.1)])
  (fun x g' n' => x.1 ≤ L.evs.length ∧ n ≤ n' ∧ K0 g n g' ∧ EvsW g' x.2 (after rev (L.evs.take x.1)) ∧ ∀ y, vname x.2 = some y → n ≤ y) (fun x => L.evs.length - x.1) (0, .slice none 0 0) ⟨rfl, rfl, rfl, rfl, rfl, trivial⟩ ⟨by simp, by omega, (by repeat (first | exact Kp.refl _ _ _ | refine Kp.new ?_ (by omega) _)), EvsW.nil _, fun y hy => by cases hy⟩ ?_
 rintro ⟨i, w⟩ f g1 n1 hw1 ⟨hi, hn1, k1, hE, hfrom⟩
 simp only at hi hE hfrom
 repeat first | refine Na ?_ | refine Nb ?_ | refine Nc ?_ | refine Nd ?_ | refine Ne ?_
 refine w_reg 1 rfl rfl (j' := 1) (nO (s_bin rfl rfl rfl (n_nil (Nc (Na (w_if rfl (fun hb => ?_) (fun hb => ?_)))))))
 ·have hi : i < L.evs.length := by simpa using hb
  have hA1 := h.kp0 k1 hw
  have hl1 := hA1.cell
  obtain ⟨l2, o, c', cl, ro, p, q, e1, hc', e2, e3⟩ := hA1.evs.at hi
  cases e1
  have c0 := e3.c0'
  have c1 := e3.all
  have cl0 := e3.len
  have e5 : after rev (L.evs.take (i + 1)) = after rev (L.evs.take i) ++ if rev < L.evs[i].rev then [L.evs[i]] else [] := by
   unfold after
   rw [List.take_succ_eq_append_getElem hi, List.filter_append]
   by_cases h : rev < L.evs[i].rev <;> simp [h]
  have hlw : (after rev (L.evs.take i)).length ≤ i := Nat.le_trans (List.length_filter_le _ _) (by rw [List.length_take]; omega)
  repeat first | refine Na ?_ | refine Nb ?_ | refine Nc ?_ | refine Nd ?_ | refine Ne ?_
  refine w_reg 2 rfl rfl (j' := 3) (nM rfl (nA rfl (n_nil (Nc (Na (w_reg 10 rfl rfl (j' := 13) (nM rfl (nN rfl (nO (s_fa0 rfl fo_100_1 (nO (sL rfl ag_65 ?_))))))))))))
  refine nM rfl (nO (s_ia rfl rfl el_65 (by first | assumption | omega) (nO (s_fa rfl fo_82_0 (nO (sL rfl ag_2 ?_))))))
  refine nM rfl (nO (s_bin rfl rfl rfl (n_nil ?_)))
  by_cases h3 : rev < L.evs[i].rev
  ·refine Nc (w_yes rfl (decide_eq_true h3) ?_)
   obtain ⟨cs, hs, hR⟩ := id hE
   refine w_reg 11 rfl rfl (j' := 24) (nM rfl (nM rfl (nN rfl (nO (s_fa0 rfl fo_100_1 (nO (sL rfl ag_65 ?_)))))))
   refine nM rfl (nO (s_ia rfl rfl el_65 (by first | assumption | omega) (nO (sLa rfl ag_82 sz_82 ?_))))
   refine n_op .no (q := 21) rfl (s_bs el_65 ez_65 rfl rfl rfl (n_op .no (q := 22) rfl (s_app app65 rfl rfl (hs.kp0 (n := n1) (by repeat (first | exact Kp.refl _ _ _ | refine Kp.new ?_ (by omega) _)) hw1) (src_one (gs_same _ _ _) rfl) rfl (by omega) fun aw cw g3 tc wr hrow hgr => (nA rfl (n_nil ?_)))))
   repeat first | refine Na ?_ | refine Nb ?_ | refine Nc ?_ | refine Nd ?_ | refine Ne ?_
   repeat first | refine Na ?_ | refine Nb ?_ | refine Nc ?_ | refine Nd ?_ | refine Ne ?_
   refine w_reg 2 rfl rfl (j' := 26) (nO (s_bin rfl rfl (by first | exact bi_inc (by omega) | exact bi_add rfl (by omega) (by omega)) ?_))
   refine nM rfl (n_nil ?_)
   have kF : Kp (fun y o => vname w = some y ∧ nb o) g1 n1 g3 := hgr.kp (Kp.new (Kp.refl _ _ _) (by omega) _) (by omega) fun l hl => .inr fun o ho => ⟨hl, hE.nbo hl ho⟩
   refine z_round (i + 1, .slice aw _ cw) ⟨rfl, rfl, rfl, rfl, rfl, trivial⟩ ⟨hi, by omega, ?_, ?_, ?_⟩ (by simp only; omega)
   ·exact fun x o hx ho _ => kF x o (by omega) (k1.lt hx ho) fun hF => by have := hfrom _ hF.1; omega
   ·simp only
    rw [e5, if_pos h3]
    exact EvsW.app hR hw1 kF (fun x cl ro h => h.2 rfl) (Rows.one rfl ⟨_, _, rfl, e3.val.kp kF hw1 (fun x cl ro h => h.2 rfl), e3.small⟩) hrow
   ·intro x hx
    rcases hgr.name with e | e | e
    ·rw [e] at hx; cases hx
    ·rw [e] at hx; exact hfrom _ hx
    ·rw [e] at hx; cases hx; omega
  ·refine Nc (w_no rfl (decide_eq_false h3) ?_)
   repeat first | refine Na ?_ | refine Nb ?_ | refine Nc ?_ | refine Nd ?_ | refine Ne ?_
   repeat first | refine Na ?_ | refine Nb ?_ | refine Nc ?_ | refine Nd ?_ | refine Ne ?_
   refine w_reg 2 rfl rfl (j' := 15) (nO (s_bin rfl rfl (by first | exact bi_inc (by omega) | exact bi_add rfl (by omega) (by omega)) ?_))
   refine nM rfl (n_nil ?_)
   refine z_round (i + 1, w) ⟨rfl, rfl, rfl, rfl, rfl, trivial⟩ ⟨hi, by omega, k1, ?_, hfrom⟩ (by simp only; omega)
   simp only
   rw [e5, if_neg h3, List.append_nil]
   exact hE
 refine w_exit rfl ?_
 have hi' : i = L.evs.length := by simp at hb; omega
 subst hi'
 rw [List.take_length] at hE
 repeat first | refine Na ?_ | refine Nb ?_ | refine Nc ?_ | refine Nd ?_ | refine Ne ?_
 refine w_reg 3 rfl rfl (j' := 4) (nM rfl (nA rfl (nA rfl (n_nil (Nc (Nf (z_r2 rfl rfl rfl ?_)))))))
 exact ⟨w, rfl, hE, hfrom, k1⟩
end

end Go.Proofs.YtehmailaabjdjaaGreat
end

section
open Go.Proofs
namespace Go.Proofs.YtehmailaabjdjaaGreat
set_option linter.unusedSimpArgs false
set_option linter.unusedVariables false
set_option maxRecDepth 100000

section
variable {g : Gm} {n l : Nat} {sl v : Value} {L : Log} {es : List Evt}

theorem Top.cut {L : Log} (h : Top L) (r : Int) : Top (L.cut r) :=
 ⟨h.asc.filter _, fun e he => h.top e (List.mem_filter.1 he).1⟩
theorem asc_of {es : List Evt} (h : SortedE es) : Asc es := by
  have key : ∀ (j i : Nat) (hj : j < es.length) (hi : i ≤ j), (es[i]'(by omega)).rev ≤ es[j].rev := by
    intro j
    induction j with
    | zero => intro i hj hi; have : i = 0 := by omega
              subst this; exact Int.le_refl _
    | succ j ih =>
      intro i hj hi
      by_cases e : i = j + 1
      · subst e; exact Int.le_refl _
      · exact Int.le_trans (ih i (by omega) (by omega)) (h j hj)
  exact List.pairwise_iff_getElem.2 fun i j hi hj hij => key j i hj (by omega)
theorem Top.put {L : Log} {es : List Evt} (h : Top L) (hm : L.may es) : Top (L.put es) := by
 obtain ⟨⟨e, r, rfl, hlt⟩, hs⟩ := hm
 have ha := asc_of hs
 have hge : ∀ x ∈ e :: r, e.rev ≤ x.rev := fun x hx => by
  rcases List.mem_cons.1 hx with rfl | hx
  ·exact Int.le_refl _
  ·exact (List.pairwise_cons.1 ha).1 x hx
 have hla : ∀ x ∈ e :: r, x.rev ≤ lastRev (e :: r) := fun x hx => by
  obtain ⟨j, hj, rfl⟩ := List.mem_iff_getElem.1 hx
  rw [lastRev_eq (by simp)]
  by_cases hjl : j = (e :: r).length - 1
  ·subst hjl; exact Int.le_refl _
  ·exact List.pairwise_iff_getElem.1 ha j _ hj (by simp) (by omega)
 refine ⟨List.pairwise_append.2 ⟨h.asc, ha, fun a hx b hb => ?_⟩, fun x hx => ?_⟩
 ·have := h.top a hx
  have := hge b hb
  omega
 ·rcases List.mem_append.1 hx with hx | hx
  ·have h1 := h.top x hx
   have h2 := hla e (List.mem_cons_self ..)
   show x.rev ≤ lastRev (e :: r)
   omega
  ·exact hla x hx

theorem ref_add_yes (h : RefAt g l sl L) (hT : Top L) (hv : EvsRd g v es) (hn : L.evs.length + es.length < 2 ^ 40) (hmost : 0 ≤ L.most) (hm : L.may es) :
  C 51 #[.pointer (some ⟨l, 0, none⟩), v] g n fun u g' n' => u = .bool true ∧ ∃ sl', RefAt g' l sl' (L.add es) ∧ (∀ x, vname sl' = some x → n ≤ x ∧ x < n') ∧ Kp (FR l) g n g' := by
 have hl := h.cell
 have h0 : 0 < es.length := by obtain ⟨⟨e, r, he, _⟩, _⟩ := hm; rw [he]; simp
 have hfirst : L.last < (es[0]).rev := by obtain ⟨⟨e, r, he, hlt⟩, _⟩ := hm; subst he; exact hlt
 have hS := hm.2
 obtain ⟨a, c, rfl⟩ := hv.len
 refine c_in2 Tryz.func51 rfl Tryz.ntmps51 rfl fun hw => ?_
 have hll := hw _ _ hl
 refine Na (w_reg 1 rfl rfl (j' := 1) (nA rfl (n_nil (Nc (Na (Na (w_reg 3 rfl rfl (j' := 4) (nM rfl (nO (s_len rfl rfl un_65 rfl (nM rfl (n_nil ?_))))))))))))
 repeat first | refine Na ?_ | refine Nb ?_ | refine Nc ?_ | refine Nd ?_ | refine Ne ?_
 refine w_loop (β := Nat) (fun i => [(0, .pointer (some ⟨l, 0, none⟩)), (1, .slice a es.length c), (7, .int .i64 es.length), (8, .int .i64 i)])
  (fun i g' n' => i ≤ es.length ∧ n ≤ n' ∧ K0 g n g') (fun i => es.length - i) 0 ⟨rfl, rfl, rfl, rfl, trivial⟩ ⟨by omega, by omega, (by repeat (first | exact Kp.refl _ _ _ | refine Kp.new ?_ (by omega) _))⟩ ?_
 rintro i f g1 n1 hw1 ⟨hi, hn1, k1⟩
 have hl1 := k1.at0 hw hl
 repeat first | refine Na ?_ | refine Nb ?_ | refine Nc ?_ | refine Nd ?_ | refine Ne ?_
 refine w_reg 1 rfl rfl (j' := 1) (nO (s_bin rfl rfl rfl (n_nil (Nc (Na (w_if rfl (fun hb => ?_) (fun hb => ?_)))))))
 ·have hi : i < es.length := by simpa using hb
  obtain ⟨l2, o, c', cl, ro, p, q, e1, hc', e2, e3⟩ := (hv.kp0 k1 hw).at hi
  cases e1
  have c0 := e3.c0'
  repeat first | refine Na ?_ | refine Nb ?_ | refine Nc ?_ | refine Nd ?_ | refine Ne ?_
  refine w_reg 2 rfl rfl (j' := 3) (nM rfl (nA rfl (n_nil ?_)))
  by_cases hi0 : i = 0
  ·have h1 : ¬ es[i].rev ≤ L.last := by subst hi0; omega
   refine Nc (Na (w_drw (T6 51 4) [(0, []), (1, []), (2, []), (3, []), (4, []), (5, []), (6, []), (7, []), (8, [7]), (9, [7]), (10, [7]), (11, [7]), (12, []), (13, []), (14, []), (15, []), (16, []), (17, []), (18, []), (19, []), (20, []), (21, []), (22, []), (23, [22]), (24, [22]), (25, [22]), (26, [22]), (27, [22]), (28, [22]), (29, []), (30, []), (31, [])] 32 (by kernel_rfl) rfl rfl (j' := 35) (dM rfl rfl (dO rfl rfl (s_bin rfl rfl rfl ⟨⟨rfl, rfl⟩, (dM rfl rfl (d_op rfl rfl (.yes rfl rfl (beq_iff_eq.2 (by omega))) (q := 6) rfl (s_mv rfl ⟨⟨rfl, rfl⟩, (d_op rfl rfl (.yes rfl rfl (beq_iff_eq.2 (by omega))) (q := 7) rfl (s_mv rfl ⟨⟨rfl, rfl⟩, (d_op rfl rfl (.yes rfl rfl (beq_iff_eq.2 (by omega))) (q := 8) rfl (s_ia rfl rfl el_65 (by first | assumption | omega) ⟨⟨rfl, rfl⟩, (d_op rfl rfl (.yes rfl rfl (beq_iff_eq.2 (by omega))) (q := 9) rfl (s_fa rfl fo_82_0 ⟨⟨rfl, rfl⟩, (d_tc rfl rfl rfl (.yes rfl rfl (beq_iff_eq.2 (by omega))) (q := 10) rfl (sL rfl ag_2 ⟨clash_nil, ?_⟩))⟩))⟩))⟩))⟩)))⟩)))))
   refine d_op rfl rfl (.yes rfl rfl (beq_iff_eq.2 (by omega))) (q := 11) rfl (s_mv rfl ⟨⟨rfl, rfl⟩, (d_op rfl rfl (.yes rfl rfl (beq_iff_eq.2 (by omega))) (q := 12) rfl (s_nil rfl ⟨⟨rfl, rfl⟩, (d_op rfl rfl (.yes rfl rfl (beq_iff_eq.2 (by omega))) (q := 13) rfl (s_fa0 rfl fo_100_3 ⟨⟨rfl, rfl⟩, (d_tc rfl rfl rfl (.yes rfl rfl (beq_iff_eq.2 (by omega))) (q := 14) rfl (sL rfl ag_2 ⟨clash_rd rfl, ?_⟩))⟩))⟩))⟩)
   refine d_op rfl rfl (.yes rfl rfl (beq_iff_eq.2 (by omega))) (q := 15) rfl (s_bin rfl rfl rfl ⟨⟨rfl, rfl⟩, (dO rfl rfl (s_pt rfl (beq_iff_eq.2 (by omega)) rfl ⟨⟨rfl, rfl⟩, (dM rfl rfl (d_op rfl rfl (.yes rfl rfl (decide_eq_false h1)) (q := 18) rfl (s_mv rfl ⟨⟨rfl, rfl⟩, (d_op rfl rfl (.yes rfl rfl (decide_eq_false h1)) (q := 19) rfl (s_bin rfl rfl rfl ⟨⟨rfl, rfl⟩, (d_op rfl rfl (.yes rfl rfl (decide_eq_false h1)) (q := 20) rfl (s_mv rfl ⟨⟨rfl, rfl⟩, (d_sk rfl rfl rfl (decide_eq_false (by omega)) (d_sk rfl rfl rfl (decide_eq_false (by omega)) (d_sk rfl rfl rfl (decide_eq_false (by omega)) (d_sk rfl rfl rfl (decide_eq_false (by omega)) (d_sk rfl rfl rfl (decide_eq_false (by omega)) (d_sk rfl rfl rfl (decide_eq_false (by omega)) (d_sk rfl rfl rfl (decide_eq_false (by omega)) (d_sk rfl rfl rfl (decide_eq_false (by omega)) (d_sk rfl rfl rfl (decide_eq_false (by omega)) (d_sk rfl rfl rfl (decide_eq_false (by omega)) (d_sk rfl rfl rfl (decide_eq_false (by omega)) (d_sk rfl rfl rfl (decide_eq_false (by omega)) (d_op rfl rfl (.yes rfl rfl (decide_eq_false h1)) (q := 33) rfl (s_pf rfl (decide_eq_false (by omega)) rfl ⟨⟨rfl, rfl⟩, (dO rfl rfl (s_pf rfl (decide_eq_false h1) rfl ⟨⟨rfl, rfl⟩, (d_nil (Nc (w_no rfl (rfl) ?_)))⟩))⟩))))))))))))))⟩))⟩))⟩)))⟩))⟩)
   repeat first | refine Na ?_ | refine Nb ?_ | refine Nc ?_ | refine Nd ?_ | refine Ne ?_
   repeat first | refine Na ?_ | refine Nb ?_ | refine Nc ?_ | refine Nd ?_ | refine Ne ?_
   refine w_reg 2 rfl rfl (j' := 37) (nO (s_bin rfl rfl (by first | exact bi_inc (by omega) | exact bi_add rfl (by omega) (by omega)) ?_))
   refine nM rfl (n_nil ?_)
   exact z_round (i + 1) ⟨rfl, rfl, rfl, rfl, trivial⟩ ⟨hi, by omega, k1⟩ (by omega)
  ·obtain ⟨l4, o4, c4, cl4, ro4, p4, q4, x4, _, x5, x6⟩ := (hv.kp0 k1 hw).at (show i - 1 < es.length by omega)
   cases x4
   have x7 := e2.symm.trans x5
   cases x7
   have z0 := x6.c0'
   have h1 : ¬ es[i].rev < es[i - 1].rev := by
    have := hS (i - 1) (by omega)
    simp only [Nat.sub_add_cancel (show 1 ≤ i by omega)] at this
    omega
   refine Nc (Na (w_drw (T6 51 4) [(0, []), (1, []), (2, []), (3, []), (4, []), (5, []), (6, []), (7, []), (8, [7]), (9, [7]), (10, [7]), (11, [7]), (12, []), (13, []), (14, []), (15, []), (16, []), (17, []), (18, []), (19, []), (20, []), (21, []), (22, []), (23, [22]), (24, [22]), (25, [22]), (26, [22]), (27, [22]), (28, [22]), (29, []), (30, []), (31, [])] 32 (by kernel_rfl) rfl rfl (j' := 35) (dM rfl rfl (dO rfl rfl (s_bin rfl rfl rfl ⟨⟨rfl, rfl⟩, (dM rfl rfl (d_sk rfl rfl rfl (beq_eq_false_iff_ne.2 (by omega)) (d_sk rfl rfl rfl (beq_eq_false_iff_ne.2 (by omega)) (d_sk rfl rfl rfl (beq_eq_false_iff_ne.2 (by omega)) (d_sk rfl rfl rfl (beq_eq_false_iff_ne.2 (by omega)) (d_sk rfl rfl rfl (beq_eq_false_iff_ne.2 (by omega)) (d_sk rfl rfl rfl (beq_eq_false_iff_ne.2 (by omega)) (d_sk rfl rfl rfl (beq_eq_false_iff_ne.2 (by omega)) (d_sk rfl rfl rfl (beq_eq_false_iff_ne.2 (by omega)) (d_sk rfl rfl rfl (beq_eq_false_iff_ne.2 (by omega)) (d_sk rfl rfl rfl (beq_eq_false_iff_ne.2 (by omega)) (dO rfl rfl (s_pf rfl (beq_eq_false_iff_ne.2 (by omega)) rfl ⟨⟨rfl, rfl⟩, (dM rfl rfl (d_op rfl rfl (.yes rfl rfl (rfl)) (q := 18) rfl (s_mv rfl ⟨⟨rfl, rfl⟩, (d_op rfl rfl (.yes rfl rfl (rfl)) (q := 19) rfl (s_bin rfl rfl rfl ⟨⟨rfl, rfl⟩, (d_op rfl rfl (.yes rfl rfl (rfl)) (q := 20) rfl (s_mv rfl ⟨⟨rfl, rfl⟩, (d_op rfl rfl (.yes rfl rfl (decide_eq_true (by omega))) (q := 21) rfl (s_mv rfl ⟨⟨rfl, rfl⟩, (d_op rfl rfl (.yes rfl rfl (decide_eq_true (by omega))) (q := 22) rfl (s_mv rfl ⟨⟨rfl, rfl⟩, (d_op rfl rfl (.yes rfl rfl (decide_eq_true (by omega))) (q := 23) rfl (s_ia rfl rfl el_65 (by first | assumption | omega) ⟨⟨rfl, rfl⟩, (d_op rfl rfl (.yes rfl rfl (decide_eq_true (by omega))) (q := 24) rfl (s_fa rfl fo_82_0 ⟨⟨rfl, rfl⟩, (d_tc rfl rfl rfl (.yes rfl rfl (decide_eq_true (by omega))) (q := 25) rfl (sL rfl ag_2 ⟨clash_nil, ?_⟩))⟩))⟩))⟩))⟩))⟩))⟩))⟩)))⟩)))))))))))))⟩)))))
   refine d_op rfl rfl (.yes rfl rfl (decide_eq_true (by omega))) (q := 26) rfl (s_mv rfl ⟨⟨rfl, rfl⟩, (d_op rfl rfl (.yes rfl rfl (decide_eq_true (by omega))) (q := 27) rfl (s_mv rfl ⟨⟨rfl, rfl⟩, (d_op rfl rfl (.yes rfl rfl (decide_eq_true (by omega))) (q := 28) rfl (s_bin rfl rfl (by first | exact bi_dec (by omega) (by omega) | exact bi_sub rfl (by omega) (by omega)) ⟨⟨rfl, rfl⟩, ?_⟩))⟩))⟩)
   refine d_op rfl rfl (.yes rfl rfl (decide_eq_true (by omega))) (q := 29) rfl (s_ia rfl rfl el_65 (by first | assumption | omega) ⟨⟨rfl, rfl⟩, (d_op rfl rfl (.yes rfl rfl (decide_eq_true (by omega))) (q := 30) rfl (s_fa rfl fo_82_0 ⟨⟨rfl, rfl⟩, (d_tc rfl rfl rfl (.yes rfl rfl (decide_eq_true (by omega))) (q := 31) rfl (sL rfl ag_2 ⟨clash_rd rfl, ?_⟩))⟩))⟩)
   refine d_op rfl rfl (.yes rfl rfl (decide_eq_true (by omega))) (q := 32) rfl (s_bin rfl rfl rfl ⟨⟨rfl, rfl⟩, (d_op rfl rfl (.yes rfl rfl (rfl)) (q := 33) rfl (s_pt rfl (decide_eq_true (by omega)) rfl ⟨⟨rfl, rfl⟩, (dO rfl rfl (s_pf rfl (rfl) rfl ⟨⟨rfl, rfl⟩, (d_nil (Nc (w_no rfl (decide_eq_false h1) ?_)))⟩))⟩))⟩)
   repeat first | refine Na ?_ | refine Nb ?_ | refine Nc ?_ | refine Nd ?_ | refine Ne ?_
   repeat first | refine Na ?_ | refine Nb ?_ | refine Nc ?_ | refine Nd ?_ | refine Ne ?_
   refine w_reg 2 rfl rfl (j' := 37) (nO (s_bin rfl rfl (by first | exact bi_inc (by omega) | exact bi_add rfl (by omega) (by omega)) ?_))
   refine nM rfl (n_nil ?_)
   exact z_round (i + 1) ⟨rfl, rfl, rfl, rfl, trivial⟩ ⟨hi, by omega, k1⟩ (by omega)
 refine w_exit rfl ?_
 have hA1 := h.kp0 k1 hw
 have hv1 := hv.kp0 k1 hw
 repeat first | refine Na ?_ | refine Nb ?_ | refine Nc ?_ | refine Nd ?_ | refine Ne ?_
 refine w_reg 3 rfl rfl (j' := 4) (nM rfl (nO (s_len rfl rfl un_65 rfl (nO (s_bin rfl rfl rfl (n_nil (Nc (w_no rfl (beq_eq_false_iff_ne.2 (by omega)) ?_))))))))
 obtain ⟨aL, cs', rfl⟩ := hA1.evs.len
 obtain ⟨cL, hsL, hRL⟩ := id hA1.evs
 obtain ⟨cE, hsE, hRE⟩ := id hv1
 refine Ne (Nc (Na (w_reg 11 rfl rfl (j' := 15) (nM rfl (nM rfl (nN rfl (nO (s_fa0 rfl fo_100_1 (nO (sL rfl ag_65 ?_))))))))))
 refine n_op .no (q := 9) rfl (s_app app65 rfl rfl (SlOwn.nil _ _) (hsL.kp0 (n := n1) (by repeat (first | exact Kp.refl _ _ _ | refine Kp.new ?_ (by omega) _)) hw1).src (evs_plain hRL) (by omega) fun a2 c2 g2 tc2 wr2 hrow2 hgr2 => ?_)
 have k2 : K0 g1 n1 g2 := hgr2.kp (by repeat (first | exact Kp.refl _ _ _ | refine Kp.new ?_ (by omega) _)) (by omega) fun x hx => by cases hx
 refine nM rfl (n_op .no (q := 11) rfl (s_app app65 rfl rfl hrow2 (hsE.kp0 (n := n1) k2 hw1).src (evs_plain hRE) (by omega) fun a3 c3 g3 tc3 wr3 hrow3 hgr3 => ?_))
 have hnm2 : ∀ x, vname (.slice a2 (0 + L.evs.length) c2) = some x → n1 ≤ x := fun x hx => by
  rcases hgr2.name with q | q | q
  ·rw [q] at hx; cases hx
  ·rw [q] at hx; cases hx
  ·rw [q] at hx; cases hx; omega
 have hnm3 : ∀ x, vname (.slice a3 (0 + L.evs.length + es.length) c3) = some x → n1 ≤ x := fun x hx => by
  rcases hgr3.name with q | q | q
  ·rw [q] at hx; cases hx
  ·rw [q] at hx; exact hnm2 x hx
  ·rw [q] at hx; cases hx; omega
 have k3 : K0 g1 n1 g3 := hgr3.kp k2 (by omega) fun x hx => .inl (hnm2 x hx)
 have hl3 := k3.at0 hw1 hl1
 refine nN rfl (nO (s_fa0 rfl fo_100_1 (nO (sS rfl rfl sz_65 rfl rfl ?_))))
 refine n_nil ?_
 obtain ⟨l3, o3, c3', cl3, ro3, p3, q3, x1, _, x2, x3⟩ := (hv1.kp0 k3 hw1).at (show es.length - 1 < es.length by omega)
 cases x1
 have y0 := x3.c0'
 have hne3 : l3 ≠ l := fun e => by rw [e, hl3] at x2; cases x2
 have hpe : es.length - 1 < es.length := by omega
 refine Nc (Na (w_reg 11 rfl rfl (j' := 26) (nM rfl (nM rfl (nM rfl (nO (s_len rfl rfl un_65 rfl (nO (s_bin rfl rfl (by first | exact bi_dec (by omega) (by omega) | exact bi_sub rfl (by omega) (by omega)) ?_)))))))))
 refine nO (s_ia rfl rfl el_65 (by first | assumption | omega) (nO (s_fa rfl fo_82_0 (nO (sL rfl ag_2 ?_)))))
 refine nN rfl (nO (s_fa0 rfl fo_100_3 (nO (sS rfl rfl sz_2 rfl rfl ?_))))
 refine n_nil ?_
 rw [← lastRev_eq h0]
 have hE3 : EvsRd g3 (.slice a3 (0 + L.evs.length + es.length) c3) (L.evs ++ es) := by
  refine ⟨cL ++ cE, ?_, Rows.append (hRL.mono fun c x _ hx => hx.mono fun _ _ k => k.kp0 k3 hw1) (hRE.mono fun c x _ hx => hx.mono fun _ _ k => k.kp0 k3 hw1)⟩
  have e : (L.evs ++ es).length = 0 + L.evs.length + es.length := by rw [List.length_append]; omega
  rw [e]
  exact hrow3.slc
 have hT3 : Top (L.put es) := hT.put hm
 have hnl : vname (.slice a3 (0 + L.evs.length + es.length) c3) ≠ some l := fun e => by have := hnm3 l e; omega
 generalize (.slice a3 (0 + L.evs.length + es.length) c3 : Value) = v3 at *
 repeat first | refine Na ?_ | refine Nb ?_ | refine Nc ?_ | refine Nd ?_ | refine Ne ?_
 refine w_wf fun hwZ => ?_
 have hw3 := (show ∀ (A B : AObj) (q : Nat), WF (gset (gset g3 l A) l B) q → WF g3 q from fun A B q hq x o hx => by
  by_cases e : x = l
  ·subst e; exact hq _ _ (gs_same _ _ _)
  ·exact hq x o ((gs_ne e _).trans ((gs_ne e _).trans hx))) _ _ _ hwZ
 have hnb : ∀ o, g3 l = some o → FR l l o := fun o ho => ⟨rfl, by rw [hl3] at ho; cases ho; show (0 : Nat) ≠ 1; decide⟩
 have kG : ∀ (A B : AObj) (m : Nat), Kp (FR l) g3 m (gset (gset g3 l A) l B) := fun A B m => ((Kp.refl _ _ _).set hnb A).set hnb B
 have hA3 : ∀ A, RefAt (gset (gset g3 l A) l (refC v3 (L.put es))) l v3 (L.put es) := fun A => ⟨gs_same _ _ _, hE3.kp (kG A _ _) hw3 (FR.nob l) fun x o hx _ hf => hnl (by rw [hx, hf.1]), hnl⟩
 have kS : ∀ (A B : AObj), Kp (FR l) g n (gset (gset g3 l A) l B) := fun A B x o hx ho hf => kG A B (n + n1) x o (by omega) (k3 x o (by omega) (k1 x o hx ho id) id) hf
 repeat first | refine Na ?_ | refine Nb ?_ | refine Nc ?_ | refine Nd ?_ | refine Ne ?_
 refine w_loop (β := Value × Log) (fun x => [(0, .pointer (some ⟨l, 0, none⟩))])
  (fun x g' n' => n ≤ n' ∧ RefAt g' l x.1 x.2 ∧ Top x.2 ∧ (∀ y, vname x.1 = some y → n ≤ y ∧ y < n') ∧ Kp (FR l) g n g' ∧ x.2.most = L.most ∧ ∃ k, x.2.evs.length ≤ k ∧ Log.trim k x.2 = L.add es) (fun x => x.2.evs.length) (v3, L.put es) ⟨rfl, trivial⟩
  ⟨by omega, hA3 _, hT3, (fun y hy => ⟨by have := hnm3 y hy; omega, hrow3.lt hw3 hy⟩), kS _ _, rfl, _, by simp only [Log.put, List.length_append]; omega, rfl⟩ ?_
 rintro ⟨w4, L4⟩ f g4 n4 hw4 ⟨hn4, hA4, hT4, hf4, hK4, hm4, k4, hk4, ht4⟩
 simp only at hA4 hT4 hf4 hm4 hk4 ht4
 have hc4 := hA4.cell
 have hll4 := hw4 _ _ hc4
 obtain ⟨a4, c4, rfl⟩ := hA4.evs.len
 repeat first | refine Na ?_ | refine Nb ?_ | refine Nc ?_ | refine Nd ?_ | refine Ne ?_
 refine w_drw (T6 51 11) [(0, []), (1, []), (2, []), (3, []), (4, []), (5, [3, 4]), (6, [3, 4]), (7, [3, 4]), (8, [3, 4]), (9, [])] 10 (by kernel_rfl) rfl rfl (j' := 10) (dM rfl rfl (dO rfl rfl (s_nil rfl ⟨⟨rfl, rfl⟩, (dO rfl rfl (s_fa0 rfl fo_100_1 ⟨⟨rfl, rfl⟩, (dT rfl rfl rfl (sL rfl ag_65 ⟨clash_nil, ?_⟩))⟩))⟩)))
 refine dT rfl rfl rfl (s_len rfl rfl un_65 rfl ⟨clash_nil, (dM rfl rfl (dO rfl rfl (s_nil rfl ⟨⟨rfl, rfl⟩, (dO rfl rfl (s_fa0 rfl fo_100_0 ⟨⟨rfl, rfl⟩, (dT rfl rfl rfl (sL rfl ag_3 ⟨clash_rd rfl, ?_⟩))⟩))⟩)))⟩)
 refine dO rfl rfl (s_bin rfl rfl rfl ⟨⟨rfl, rfl⟩, (d_nil (Nc (w_if rfl (fun hb4 => ?_) (fun hb4 => ?_))))⟩)
 ·have hlt : L4.most < L4.evs.length := by simpa using hb4
  have hpos : 0 < L4.evs.length := by omega
  obtain ⟨l5, o5, c5, cl5, ro5, p5, q5, y1, _, y2, y3⟩ := hA4.evs.at0 hpos
  cases y1
  have z0 := y3.c0'
  repeat first | refine Na ?_ | refine Nb ?_ | refine Nc ?_ | refine Nd ?_ | refine Ne ?_
  repeat first | refine Na ?_ | refine Nb ?_ | refine Nc ?_ | refine Nd ?_ | refine Ne ?_
  refine w_reg 9 rfl rfl (j' := 19) (nM rfl (nM rfl (nN rfl (nO (s_fa0 rfl fo_100_1 (nO (sL rfl ag_65 ?_)))))))
  refine nO (s_ia0 rfl rfl el_65 (by first | assumption | omega) (nO (s_fa rfl fo_82_0 (nO (sL rfl ag_2 ?_)))))
  refine n_call .no rfl rfl rfl (C.use (ref_drop hA4 hT4.asc) fun v g5 n5 hw5 hn5 hq => ?_)
  obtain ⟨rfl, sl5, hA5, hv5, hk5⟩ := hq
  refine n_nil ?_
  repeat first | refine Na ?_ | refine Nb ?_ | refine Nc ?_ | refine Nd ?_ | refine Ne ?_
  obtain ⟨e, r, her⟩ : ∃ e r, L4.evs = e :: r := by
   cases hq : L4.evs with
   | nil => rw [hq] at hpos; simp at hpos
   | cons e r => exact ⟨e, r, rfl⟩
  have he0 : (L4.evs[0]).rev = e.rev := by simp only [her, List.getElem_cons_zero]
  have hd := drop_cut hT4 e.rev
  rw [Int.min_eq_left (hT4.top e (by rw [her]; exact List.mem_cons_self ..))] at hd
  rw [he0, hd] at hA5
  obtain ⟨k', t1, t2, t3⟩ := Log.trim_step her hk4 hlt
  refine z_round (sl5, L4.cut e.rev) ⟨rfl, trivial⟩ ⟨by omega, hA5, hT4.cut _, (fun y hy => by have := hf4 y (by rw [← hv5]; exact hy); exact ⟨this.1, by omega⟩), fun x o hx ho hf => hk5 x o (by omega) (hK4 x o hx ho hf) hf, hm4, k', t2, by rw [← t1]; exact ht4⟩ t3
 refine w_exit rfl ?_
 have hlt : ¬ L4.most < L4.evs.length := by simpa using hb4
 rw [Log.trim_done hlt] at ht4
 subst ht4
 repeat first | refine Na ?_ | refine Nb ?_ | refine Nc ?_ | refine Nd ?_ | refine Ne ?_
 refine w_reg 1 rfl rfl (j' := 11) (nA rfl (n_nil (Nc (Nf (z_r1 rfl rfl ?_)))))
 exact ⟨rfl, _, hA4, (fun y hy => by have := hf4 y hy; exact ⟨this.1, by omega⟩), hK4⟩
end

end Go.Proofs.YtehmailaabjdjaaGreat
end
