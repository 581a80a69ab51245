/-
  package log: what a log is in memory; New, Base, Last, Cut (with slices.IndexFunc, slices.DeleteFunc), by contract. No condition. / package log: slices.DeleteFunc, Cut, by contract. No condition. / package log: Cut, From, by contract; the references' EqEvents. No condition. / package log: From, by contract; the references' EqEvents. No condition. / package log: Add, by contract; the references' EqEvents. No condition. / package log: Add of events that follow, by contract. No condition.
-/
import Derived.Test.YtehmailaabjdjaaGreatEv
section
open Go.Proofs
namespace Go.Proofs.YtehmailaabjdjaaGreat
set_option linter.unusedSimpArgs false
set_option linter.unusedVariables false
set_option maxRecDepth 100000

structure Log where
 evs : List Evt
 most : Int
 base : Int
 last : Int

def logC (sl : Value) (L : Log) : AObj := .cells [sl, .int .i64 L.most, .int .i64 L.base, .int .i64 L.last] 0 false

structure LogAt (b : Nat) (g : Gm) (l : Nat) (sl : Value) (L : Log) : Prop where
 cell : g l = some (logC sl L)
 evs : EvsOwn b g sl L.evs

def Log.cut (L : Log) (rev : Int) : Log := { L with evs := L.evs.filter fun e => decide (rev < e.rev), base := max L.base (min rev L.last) }

def nb : AObj → Prop
 | .cells _ z _ => z ≠ 1
 | _ => True
def FL (l : Nat) (sl : Value) (x : Nat) (o : AObj) : Prop := (x = l ∨ vname sl = some x) ∧ nb o
def FV (sl : Value) (x : Nat) (o : AObj) : Prop := vname sl = some x ∧ nb o
theorem FL.nob (l : Nat) (sl : Value) : NoB (FL l sl) := fun x cl ro h => h.2 rfl
theorem FV.nob (sl : Value) : NoB (FV sl) := fun x cl ro h => h.2 rfl

section
variable {F : Nat → AObj → Prop} {g g' : Gm} {n n' b l : Nat} {sl : Value} {L : Log}

theorem LogAt.kp (h : LogAt b g l sl L) (hk : Kp F g n g') (hw : WF g n) (hF : ∀ x cl ro, b ≤ x → ¬ F x (.cells cl 1 ro)) (hl : ∀ o, ¬ F l o) (hs : Off F g sl) : LogAt b g' l sl L :=
 ⟨hk.at hw h.cell (hl _), h.evs.kp hk hw hF hs⟩
theorem LogAt.kp0 (h : LogAt b g l sl L) (hk : K0 g n g') (hw : WF g n) : LogAt b g' l sl L := h.kp hk hw (fun _ _ _ _ h => h) (fun _ h => h) (Off.z g sl)
theorem LogAt.up {b' : Nat} (h : LogAt b g l sl L) (hb : b' ≤ b) : LogAt b' g l sl L := ⟨h.cell, h.evs.up hb⟩
theorem EvsOwn.lenE {es : List Evt} (h : EvsOwn b g sl es) : ∃ a c, sl = .slice a es.length c := h.rd.len
theorem LogAt.ne (h : LogAt b g l sl L) : vname sl ≠ some l := by
 intro e
 obtain ⟨⟨cs, ⟨_, ⟨rfl, _⟩ | ⟨l', o, c, cl, rfl, _, h4, _⟩⟩, _⟩, _⟩ := h.evs
 ·cases e
 ·simp only [vname, Option.some.injEq] at e
  subst e
  rw [h.cell] at h4; cases h4
theorem EvsOwn.nv {es : List Evt} {x : Nat} {c : List Value} {z : Nat} {ro : Bool} (h : EvsOwn b g sl es) (hx : g x = some (.cells c z ro)) (hz : z ≠ 4) : vname sl ≠ some x := by
 intro e
 obtain ⟨⟨cs, ⟨_, ⟨rfl, _⟩ | ⟨l', o, c, cl, rfl, _, h4, _⟩⟩, _⟩, _⟩ := h
 ·cases e
 ·simp only [vname, Option.some.injEq] at e
  subst e
  rw [hx] at h4; cases h4; exact hz rfl

theorem log_new (g : Gm) (n : Nat) (m : Int) : C 42 #[.int .i64 m] g n fun u g' n' => ∃ l, u = .pointer (some ⟨l, 0, none⟩) ∧ n ≤ l ∧ LogAt n g' l (.slice none 0 0) ⟨[], min (max m 1) 1000, 0, 0⟩ ∧ K0 g n g' := by
 refine c_in1 Tryz.func42 rfl Tryz.ntmps42 rfl fun hw => (Na (w_reg 1 rfl rfl (j' := 1) (nA rfl (n_nil (Nc (Na (w_reg 6 rfl rfl (j' := 7) (nM rfl (nO (s_max rfl rfl rfl (nO (s_min rfl rfl rfl (nO (s_bld pl_166 zl_166 rfl rfl rfl (n_op .no (q := 5) rfl (s_boxa rfl (nA rfl (n_nil (Nc (Nf (z_r1 rfl rfl ?_)))))))))))))))))))))
 exact ⟨_, rfl, by omega, ⟨gs_same _ _ _, ⟨⟨[], SlOwn.nil _ _, rfl⟩, fun l h => by cases h⟩⟩, (by repeat (first | exact Kp.refl _ _ _ | refine Kp.new ?_ (by omega) _))⟩

theorem log_base (h : LogAt b g l sl L) : C 48 #[.pointer (some ⟨l, 0, none⟩)] g n fun u g' n' => u = .int .i64 L.base ∧ K0 g n g' := by
 have hl := h.cell
 refine c_in1 Tryz.func48 rfl Tryz.ntmps48 rfl fun hw => (Na (w_reg 1 rfl rfl (j' := 1) (nA rfl (n_nil (Nc (Na (Na (w_reg 2 rfl rfl (j' := 3) (nM rfl (nO (s_bin rfl rfl (bi_d un_78 rfl) ?_)))))))))))
 refine n_nil (Nc (w_no rfl (rfl) (Ne (Nc (Na (w_reg 5 rfl rfl (j' := 8) (nM rfl (nN rfl (nO (s_fa0 rfl fo_166_2 (nO (sL rfl ag_2 ?_))))))))))))
 refine nA rfl (n_nil (Nc (Nf (z_r1 rfl rfl ?_))))
 exact ⟨rfl, (by repeat (first | exact Kp.refl _ _ _ | refine Kp.new ?_ (by omega) _))⟩

theorem cut1_c {e : Evt} {v : Value} {r : Nat} {rev : Int} (hr : g r = some (.cells [.int .i64 rev] 0 false)) :
  C 91 #[.agg (evtC e v).toArray, .pointer (some ⟨r, 0, none⟩)] g n fun u g' n' => u = .bool (decide (e.rev ≤ rev)) ∧ K0 g n g' := by
 refine c_in2 Tryz.func91 rfl Tryz.ntmps91 rfl fun hw => ?_
 have hl := hw _ _ hr
 refine Na (w_reg 2 rfl rfl (j' := 2) (n_op .no (q := 0) rfl (s_boxa rfl (nA rfl (n_nil (Nc (Na (w_reg 5 rfl rfl (j' := 7) (nO (s_fa0 rfl fo_82_0 (nO (sL rfl ag_2 ?_))))))))))))
 refine nO (sL rfl ag_2 ?_)
 refine nO (s_bin rfl rfl rfl (nA rfl (n_nil (Nc (Nf (z_r1 rfl rfl ?_))))))
 exact ⟨rfl, (by repeat (first | exact Kp.refl _ _ _ | refine Kp.new ?_ (by omega) _))⟩
end

def idxI (p : Evt → Bool) : List Evt → Nat → Int
 | [], _ => -1
 | e :: es, i => if p e then i else idxI p es (i + 1)

theorem idxF_c {g : Gm} {n : Nat} {sl : Value} {es : List Evt} {r : Nat} {rev : Int} (h : EvsRd g sl es) (hr : g r = some (.cells [.int .i64 rev] 0 false)) (hn : es.length ≤ 2 ^ 40) :
  C 112 #[sl, .func (.func 91) #[] #[.pointer (some ⟨r, 0, none⟩)]] g n fun u g' n' => u = .int .i64 (idxI (fun e => decide (e.rev ≤ rev)) es 0) ∧ K0 g n g' := by
 obtain ⟨a, c, rfl⟩ := h.len
 refine c_in2 Tryz.func112 rfl Tryz.ntmps112 rfl fun hw => ?_
 have hl := hw _ _ hr
 refine Na (w_reg 1 rfl rfl (j' := 1) (nA rfl (n_nil (Nc (Na (Na (w_reg 3 rfl rfl (j' := 4) (nM rfl (nO (s_len rfl rfl un_65 rfl (nM rfl (n_nil ?_))))))))))))
 repeat first | refine Na ?_ | refine Nb ?_ | refine Nc ?_ | refine Nd ?_ | refine Ne ?_
 refine w_loop (β := Nat) (fun i => [(0, .slice a es.length c), (1, .func (.func 91) #[] #[.pointer (some ⟨r, 0, none⟩)]), (7, .int .i64 es.length), (8, .int .i64 i)])
  (fun i g' n' => i ≤ es.length ∧ n ≤ n' ∧ K0 g n g' ∧ idxI (fun e => decide (e.rev ≤ rev)) es 0 = idxI (fun e => decide (e.rev ≤ rev)) (es.drop i) i) (fun i => es.length - i) 0 ⟨rfl, rfl, rfl, rfl, trivial⟩ ⟨by omega, by omega, (by repeat (first | exact Kp.refl _ _ _ | refine Kp.new ?_ (by omega) _)), rfl⟩ ?_
 rintro i f g1 n1 hw1 ⟨hi, hn1, k1, hx⟩
 repeat first | refine Na ?_ | refine Nb ?_ | refine Nc ?_ | refine Nd ?_ | refine Ne ?_
 refine w_reg 1 rfl rfl (j' := 1) (nO (s_bin rfl rfl rfl (n_nil (Nc (Na (w_if rfl (fun hb => ?_) (fun hb => ?_)))))))
 ·have hi : i < es.length := by simpa using hb
  obtain ⟨l, o, c', cl, ro, p, q, e1, hc', e2, e3⟩ := (h.kp0 k1 hw).at hi
  cases e1
  have c0 := e3.len
  have c1 := e3.all
  repeat first | refine Na ?_ | refine Nb ?_ | refine Nc ?_ | refine Nd ?_ | refine Ne ?_
  refine w_reg 2 rfl rfl (j' := 3) (nM rfl (nA rfl (n_nil (Nc (Na (w_reg 6 rfl rfl (j' := 9) (nM rfl (nM rfl (nM rfl (nO (s_ia rfl rfl el_65 (by first | assumption | omega) (nO (sLa rfl ag_82 sz_82 ?_)))))))))))))
  refine n_callv .no rfl rfl rfl rfl rfl rfl (C.use (cut1_c (e := es[i]) (rev := rev) (r := r) (by first | exact (gs_ne (by omega) _).trans (k1.lt hl hr) | exact k1.lt hl hr)) fun v g2 n2 hw2 hn2 hq => ?_)
  obtain ⟨rfl, k2⟩ := hq
  refine n_nil ?_
  have k3 : K0 g n g2 := k1.trans0 k2 (by omega)
  have e0 := List.drop_eq_getElem_cons hi
  refine Nc (w_if rfl (fun hd => ?_) (fun hd => ?_))
  ·repeat first | refine Na ?_ | refine Nb ?_ | refine Nc ?_ | refine Nd ?_ | refine Ne ?_
   refine w_reg 2 rfl rfl (j' := 2) (nM rfl (nA rfl (n_nil (Nc (Nf (z_r1 rfl rfl ?_))))))
   refine ⟨?_, k3⟩
   rw [hx, e0]
   simp only [idxI, hd, if_true]
  ·repeat first | refine Na ?_ | refine Nb ?_ | refine Nc ?_ | refine Nd ?_ | refine Ne ?_
   repeat first | refine Na ?_ | refine Nb ?_ | refine Nc ?_ | refine Nd ?_ | refine Ne ?_
   refine w_reg 2 rfl rfl (j' := 2) (nO (s_bin rfl rfl (by first | exact bi_inc (by omega) | exact bi_add rfl (by omega) (by omega)) ?_))
   refine nM rfl (n_nil ?_)
   refine z_round (i + 1) ⟨rfl, rfl, rfl, rfl, trivial⟩ ⟨by omega, by omega, k3, ?_⟩ (by omega)
   rw [hx, e0]
   simp only [idxI, hd, Bool.false_eq_true, if_false]
 ·refine w_exit rfl ?_
  repeat first | refine Na ?_ | refine Nb ?_ | refine Nc ?_ | refine Nd ?_ | refine Ne ?_
  refine w_reg 1 rfl rfl (j' := 2) (nA rfl (n_nil (Nc (Nf (z_r1 rfl rfl ?_)))))
  have : i = es.length := by simp at hb; omega
  subst this
  refine ⟨?_, k1⟩
  rw [hx, List.drop_length]
  simp [idxI]

end Go.Proofs.YtehmailaabjdjaaGreat
end

section
open Go.Proofs
namespace Go.Proofs.YtehmailaabjdjaaGreat
set_option linter.unusedSimpArgs false
set_option linter.unusedVariables false
set_option maxRecDepth 100000

theorem Rows.set {α : Type} {k : Nat} {R : List Value → α → Prop} : ∀ {xs : List α} {cs : List Value} {i : Nat} {c : List Value} {x : α}, Rows k R cs xs → i < xs.length → c.length = k → R c x → Rows k R (splice cs (i * k) c) (xs.set i x)
 | [], _, _, _, _, _, hi, _, _ => by simp at hi
 | y :: xs, cs, 0, c, x, h, _, hc, hx => by
  obtain ⟨b, d, rfl, h1, h2, h3⟩ := h
  refine ⟨c, d, ?_, hc, hx, h3⟩
  simp only [splice, Nat.zero_mul, List.take_zero, List.nil_append, Nat.zero_add]
  rw [List.drop_left' (by omega)]
 | y :: xs, cs, i + 1, c, x, h, hi, hc, hx => by
  obtain ⟨b, d, rfl, h1, h2, h3⟩ := h
  refine ⟨b, splice d (i * k) c, ?_, h1, h2, Rows.set h3 (by simpa using hi) hc hx⟩
  have e : (i + 1) * k = b.length + i * k := by rw [Nat.add_mul, h1]; omega
  simp only [splice]
  rw [e, List.take_length_add_append, Nat.add_assoc, List.drop_length_add_append, List.append_assoc, List.append_assoc, List.append_assoc]

theorem idxI_none {p : Evt → Bool} : ∀ {es : List Evt} {k : Nat}, idxI p es k = -1 → ∀ e ∈ es, p e = false
 | [], _, _, e, he => by cases he
 | x :: es, k, h, e, he => by
  simp only [idxI] at h
  split at h
  ·omega
  ·rename_i hx
   rcases List.mem_cons.1 he with rfl | he
   ·simpa using hx
   ·exact idxI_none h e he
theorem idxI_some {p : Evt → Bool} : ∀ {es : List Evt} {k : Nat}, idxI p es k ≠ -1 → ∃ i, i < es.length ∧ idxI p es k = ((k + i : Nat) : Int) ∧ (∀ e ∈ es.take i, p e = false) ∧ ∃ e, es.drop i = e :: es.drop (i + 1) ∧ p e = true
 | [], _, h => absurd rfl h
 | x :: es, k, h => by
  simp only [idxI] at h ⊢
  split
  ·rename_i hx
   exact ⟨0, by simp, by simp, by simp, x, by simp, hx⟩
  ·rename_i hx
   rw [if_neg hx] at h
   obtain ⟨i, h1, h2, h3, e, h4, h5⟩ := idxI_some h
   refine ⟨i + 1, by simpa using h1, by rw [h2]; congr 1; omega, ?_, e, by simpa using h4, h5⟩
   intro y hy
   rw [List.take_succ_cons] at hy
   rcases List.mem_cons.1 hy with rfl | hy
   ·simpa using hx
   ·exact h3 y hy

structure DelB where
 i : Nat
 j : Nat
 cl : List Value
 zs : List Evt

structure DelH (b : Nat) (g : Gm) (n l o cnt Lc : Nat) (es : List Evt) (p : Evt → Bool) (β : DelB) (g' : Gm) (n' : Nat) : Prop where
 keep : Kp (fun x o => some l = some x ∧ nb o) g n g'
 nn : n ≤ n'
 cell : g' l = some (.cells β.cl 4 false)
 len : β.cl.length = Lc
 rows : Rows 4 (EvC (BytesNew b g')) ((β.cl.drop o).take (cnt * 4)) β.zs
 lt : β.i < β.j
 le : β.j ≤ cnt
 zlen : β.zs.length = cnt
 front : β.zs.take β.i = (es.take β.j).filter p
 back : β.zs.drop β.j = es.drop β.j

section
variable {b : Nat} {g g1 g2 : Gm} {n n1 n2 l o cnt Lc : Nat} {es : List Evt} {p : Evt → Bool} {β : DelB}

theorem DelH.at (h : DelH b g n l o cnt Lc es p β g1 n1) (hj : β.j < cnt) (hn : es.length = cnt) (hL : o + cnt * 4 ≤ Lc) : ∃ e a q, es.drop β.j = e :: es.drop (β.j + 1) ∧ EvAt g1 (BytesNew b g1) e l (o + β.j * 4) β.cl a q := by
 have hz : β.j < β.zs.length := by rw [h.zlen]; exact hj
 have h1 := h.rows.get hz
 have e1 := List.drop_eq_getElem_cons hz
 have e2 := List.drop_eq_getElem_cons (show β.j < es.length by omega)
 have e3 := h.back
 rw [e1, e2] at e3
 obtain ⟨e4, e5⟩ := List.cons.inj e3
 have hl := h.len
 rw [← take_part rfl (show β.j * 4 + 4 ≤ cnt * 4 by omega)] at h1
 obtain ⟨a, q, h7⟩ := evAt_of (g := g1) (l := l) (by omega) h1
 exact ⟨β.zs[β.j], a, q, by rw [e2, ← e4], h7⟩

theorem DelH.skip (h : DelH b g n l o cnt Lc es p β g1 n1) (hw : WF g1 n1) (hk : K0 g1 n1 g2) (hn : n1 ≤ n2) (hj : β.j < cnt) {e : Evt} (he : es.drop β.j = e :: es.drop (β.j + 1)) (hp : p e = false) :
  DelH b g n l o cnt Lc es p ⟨β.i, β.j + 1, β.cl, β.zs⟩ g2 n2 := by
 have h1 := h.nn
 refine ⟨h.keep.trans0 hk h1, by omega, hk.at0 hw h.cell, h.len, h.rows.mono fun c x _ hx => hx.mono fun _ _ k => k.kp0 hk hw, by have := h.lt; simp only; omega, hj, h.zlen, ?_, ?_⟩
 ·simp only
  rw [h.front, List.take_add, he, List.filter_append]
  simp [hp]
 ·simp only
  rw [← List.drop_drop, h.back, List.drop_drop]

theorem DelH.move (h : DelH b g n l o cnt Lc es p β g1 n1) (hw : WF g1 n1) (hk : K0 g1 n1 g2) (hw2 : WF g2 n2) (hn : n1 ≤ n2) (hj : β.j < cnt) {e : Evt} {a : Option Addr} {q : Nat} (he : es.drop β.j = e :: es.drop (β.j + 1)) (hp : p e = true)
  (hu : EvAt g1 (BytesNew b g1) e l (o + β.j * 4) β.cl a q) (hL : o + cnt * 4 ≤ Lc) :
  DelH b g n l o cnt Lc es p ⟨β.i + 1, β.j + 1, splice β.cl (o + β.i * 4) (evtC e (.slice a e.val.length q)), β.zs.set β.i e⟩ (gset g2 l (.cells (splice β.cl (o + β.i * 4) (evtC e (.slice a e.val.length q))) 4 false)) n2 := by
 have hlt := h.lt
 have hlen := h.len
 have hnn := h.nn
 have hcell := hk.at0 hw h.cell
 have hk2 : Kp (fun x o => some l = some x ∧ nb o) g2 n2 (gset g2 l (.cells (splice β.cl (o + β.i * 4) (evtC e (.slice a e.val.length q))) 4 false)) :=
  (Kp.refl _ _ _).set (fun o ho => ⟨rfl, by rw [hcell] at ho; cases ho; intro h; cases h⟩) _
 have hNB : NoB (fun x o => some l = some x ∧ nb o) := fun x cl ro h => h.2 rfl
 have e4 : (evtC e (.slice a e.val.length q)).length = 4 := rfl
 refine ⟨(h.keep.trans0 hk hnn).trans hk2 (by omega) fun _ _ _ h _ => h, by omega, gs_same _ _ _, ?_, ?_, by simp only; omega, hj, by simp only [List.length_set]; exact h.zlen, ?_, ?_⟩
 ·simp only; rw [splice_length (by rw [e4]; omega)]; exact hlen
 ·simp only
  rw [splice_in (by omega) (by rw [e4]; omega)]
  refine Rows.set (h.rows.mono fun c x _ hx => hx.mono fun _ _ k => (k.kp0 hk hw).kp hk2 hw2 hNB) (by rw [h.zlen]; omega) e4 ⟨a, q, rfl, (hu.val.kp0 hk hw).kp hk2 hw2 hNB, hu.small⟩
 ·simp only
  have hz : β.i < β.zs.length := by rw [h.zlen]; omega
  have e5 : (es.take (β.j + 1)).filter p = (es.take β.j).filter p ++ [e] := by
   rw [List.take_add, he, List.filter_append]
   simp [hp]
  rw [e5, ← h.front, List.take_succ_eq_append_getElem (by simpa using hz), List.getElem_set_self, List.take_set_of_le (Nat.le_refl _)]
 ·simp only
  rw [List.drop_set_of_lt (by omega), ← List.drop_drop, h.back, List.drop_drop]
end

theorem s_clr {N : Nat} {f : Nat → Value} {s : Sls} {g : Gm} {n nm : Nat} {k : Sls → Gm → List Nat → List Nat → Prop} {ty : TypeId} {pos : String} {af : Array Edge} {gd : Option (Nat × Bool)} {t e z l o m c : Nat} {x : Operand} {zv : Value} {cl : List Value}
    (ht : E6.P.underlying t = some (.slice e)) (hz : szO E6.P e = some z) (hzv : zeroP E6.P e = some zv) (hzc : zv.cells.size = z) (hz1 : plainL oneCell zv.cells.toList = true) (hz2 : plainL plainV zv.cells.toList = true)
    (hx : ov N s x = some (.slice (some ⟨l, o, none⟩) m c)) (hm : 0 < m) (hg : g l = some (.cells cl z false)) (hl : o + m * z ≤ cl.length)
    (hk : ∀ zz : List Value, zz.length = m * z → ∀ tc wr, k s (gset g l (.cells (splice cl o zz) z false)) tc wr) : ST N f s g n nm ⟨none, .call ⟨.builtin .clear, #[x], #[t]⟩, ty, pos, af, gd⟩ k := by
  refine ⟨⟨[l], fun _ objs => match objs with
          | [.cells c sz false] => if o + m * z ≤ c.length then some ⟨.tuple #[], some (l, some (.cells (splice c o (Builtin.zeroCells zv.cells m).toList) sz false)), none⟩ else none
          | _ => none⟩, ⟨.tuple #[], some (l, some (.cells (splice cl o (Builtin.zeroCells zv.cells m).toList) z false)), none⟩, ?_, ?_, ?_, _, _, Fr_put0 _ _ _ _, rfl, hk _ ?_ _ _⟩
  · simp only [aop, aCall, List.toList_toArray, evList, ov_ok hx, Option.bind_some, Option.map_some, aBuiltin, aClear, ht, hz, hzv, if_neg (show ¬ m = 0 by omega)]
    rw [if_pos (by simp [hzc, hz1, hz2])]
    rfl
  · simp only [Prim.run, getAll, hg, Option.bind_some, Option.map_some, if_pos hl]
  · simp [wrOk]
  · rw [Array.length_toList, zeroCells_size, hzc]

theorem splice_front {cl src : List Value} {o m : Nat} (h : o + m ≤ cl.length) : ((splice cl (o + m) src).drop o).take m = (cl.drop o).take m := by
 unfold splice
 rw [List.append_assoc, List.take_add, List.append_assoc, List.drop_left' (by rw [List.length_take]; omega), List.take_left' (by rw [List.length_take, List.length_drop]; omega)]

theorem delF_c {b : Nat} {g : Gm} {n : Nat} {sl : Value} {es : List Evt} {r : Nat} {rev : Int} (h : EvsOwn b g sl es) (hr : g r = some (.cells [.int .i64 rev] 0 false)) (hn : es.length ≤ 2 ^ 40) :
  C 90 #[sl, .func (.func 91) #[] #[.pointer (some ⟨r, 0, none⟩)]] g n fun u g' n' => EvsOwn b g' u (es.filter fun e => decide (rev < e.rev)) ∧ vname u = vname sl ∧ Kp (FV sl) g n g' := by
 have hne := h.nv hr (by decide)
 refine c_in2 Tryz.func90 rfl Tryz.ntmps90 rfl fun hw => ?_
 have hlr := hw _ _ hr
 refine Na (w_reg 1 rfl rfl (j' := 1) (nA rfl (n_nil (Nc (Na (w_reg 4 rfl rfl (j' := 5) (nM rfl (nM rfl (n_call .no rfl rfl rfl (C.use (idxF_c (rev := rev) (EvsRd.kp0 h.rd (by repeat (first | exact Kp.refl _ _ _ | refine Kp.new ?_ (by omega) _)) hw) (by repeat first | exact gS | exact hr | refine gN (by omega) ?_) hn) fun v g1 n1 hw1 hn1 hq => ?_))))))))))
 obtain ⟨rfl, k1⟩ := hq
 refine nA rfl (n_nil (Nc (Na (Na (w_reg 2 rfl rfl (j' := 2) (nM rfl (nO (s_bin rfl rfl rfl (n_nil ?_)))))))))
 by_cases hi : idxI (fun e => decide (e.rev ≤ rev)) es 0 = -1
 ·refine Nc (w_yes rfl (by rw [hi]; rfl) (Na (w_reg 2 rfl rfl (j' := 4) (nM rfl (nA rfl (n_nil (Nc (Nf (z_r1 rfl rfl ?_)))))))))
  have e : (es.filter fun e => decide (rev < e.rev)) = es := List.filter_eq_self.2 fun x hx => by
   have := idxI_none hi x hx
   simp only [decide_eq_false_iff_not, decide_eq_true_eq] at this ⊢
   omega
  rw [e]
  exact ⟨h.kp0 (n := n) (fun x o hx ho _ => k1.lt (by omega) ho) hw, rfl, fun x o hx ho _ => k1.lt (by omega) ho⟩
 ·refine Nc (w_no rfl (beq_eq_false_iff_ne.2 hi) ?_)
  have k1' : K0 g n g1 := fun x o hx ho _ => k1.lt (by omega) ho
  obtain ⟨i, hi1, hi2, hi3, e, hi4, hi5⟩ := idxI_some hi
  rw [hi2, Nat.zero_add]
  have h1 := h.kp0 k1' hw
  obtain ⟨⟨cs, hs, hR⟩, hfrom⟩ := id h1
  obtain ⟨l, o, c, cl, rfl, hcc, e2, e3, e4, e5, e6⟩ := hs.at hi1
  have hL : o + es.length * 4 ≤ cl.length := by omega
  refine Ne (Nc (Na (Na (w_reg 3 rfl rfl (j' := 5) (nM rfl (nO (s_bin rfl rfl (by first | exact bi_inc (by omega) | exact bi_add rfl (by omega) (by omega)) ?_)))))))
  refine nA rfl (n_nil ?_)
  have h00 : DelH b g n l o es.length cl.length es (fun e => decide (rev < e.rev)) ⟨i, i + 1, cl, es⟩ g1 (n1 + 5) := by
   refine ⟨k1'.z, by omega, e2, rfl, by rw [e6]; exact hR, by simp only; omega, hi1, rfl, ?_, rfl⟩
   simp only
   rw [List.take_add, hi4, List.filter_append, List.filter_eq_self.2]
   ·simp only [decide_eq_true_eq] at hi5
    simp [Int.not_lt.2 hi5]
   ·intro x hx
    have := hi3 x hx
    simp only [decide_eq_false_iff_not, decide_eq_true_eq] at this ⊢
    omega
  repeat first | refine Na ?_ | refine Nb ?_ | refine Nc ?_ | refine Nd ?_ | refine Ne ?_
  refine w_loop (β := DelB) (fun β => [(0, .slice (some ⟨l, o, none⟩) es.length c), (1, .func (.func 91) #[] #[.pointer (some ⟨r, 0, none⟩)]), (5, .int .i64 β.i), (6, .int .i64 β.j)])
   (fun β g' n' => DelH b g n l o es.length cl.length es (fun e => decide (rev < e.rev)) β g' n') (fun β => es.length - β.j) ⟨i, i + 1, cl, es⟩ ⟨rfl, rfl, rfl, rfl, trivial⟩ h00 ?_
  rintro β f g4 n4 hw4 H
  have hnn := H.nn
  have hcell := H.cell
  have hlt := H.lt
  have hle := H.le
  have hlen := H.len
  have hll := hw4 _ _ hcell
  have hr4 : g4 r = some (.cells [.int .i64 rev] 0 false) := H.keep.at hw hr (by rintro ⟨e, _⟩; cases e; exact hne rfl)
  repeat first | refine Na ?_ | refine Nb ?_ | refine Nc ?_ | refine Nd ?_ | refine Ne ?_
  refine w_reg 4 rfl rfl (j' := 4) (nM rfl (nM rfl (nO (s_len rfl rfl un_65 rfl (nO (s_bin rfl rfl rfl (n_nil (Nc (w_if rfl (fun hb => ?_) (fun hb => ?_))))))))))
  ·have hj : β.j < es.length := by simpa using hb
   obtain ⟨e', a, q, q1, q2⟩ := H.at hj rfl hL
   have c0 := q2.len
   have c1 := q2.all
   repeat first | refine Na ?_ | refine Nb ?_ | refine Nc ?_ | refine Nd ?_ | refine Ne ?_
   repeat first | refine Na ?_ | refine Nb ?_ | refine Nc ?_ | refine Nd ?_ | refine Ne ?_
   refine w_reg 6 rfl rfl (j' := 10) (nM rfl (nM rfl (nO (s_ia rfl rfl el_65 (by first | assumption | omega) (nO (sLa rfl ag_82 sz_82 ?_))))))
   refine n_op .no (q := 8) rfl (s_al zl_82 (nO (sSw rfl rfl sz_82 rfl rfl ?_)))
   refine n_nil (Nc (Na (w_reg 4 rfl rfl (j' := 14) (nM rfl (nO (sLf rfl ag_82 sz_82 ?_))))))
   refine n_callv .no rfl rfl rfl rfl rfl rfl (C.use (cut1_c (e := e') (rev := rev) (r := r) (by repeat first | exact gS | exact hr4 | refine gN (by omega) ?_)) fun v g5 n5 hw5 hn5 hq => ?_)
   obtain ⟨rfl, k5⟩ := hq
   refine nO (s_not rfl (n_nil ?_))
   have k6 : K0 g4 n4 g5 := Kp.trans0 (by repeat (first | exact Kp.refl _ _ _ | refine Kp.new ?_ (by omega) _)) k5 (by omega)
   by_cases hle2 : e'.rev ≤ rev
   ·refine Nc (w_no rfl (by simp [hle2]) ?_)
    repeat first | refine Na ?_ | refine Nb ?_ | refine Nc ?_ | refine Nd ?_ | refine Ne ?_
    repeat first | refine Na ?_ | refine Nb ?_ | refine Nc ?_ | refine Nd ?_ | refine Ne ?_
    refine w_reg 3 rfl rfl (j' := 3) (nM rfl (nO (s_bin rfl rfl (by first | exact bi_inc (by omega) | exact bi_add rfl (by omega) (by omega)) ?_)))
    refine nA rfl (n_nil ?_)
    refine z_round ⟨β.i, β.j + 1, β.cl, β.zs⟩ ⟨rfl, rfl, rfl, rfl, trivial⟩ (H.skip hw4 k6 (by omega) hj q1 (by simp; omega)) (by simp only; omega)
   ·refine Nc (w_yes rfl (by simp [hle2]) (Na (w_reg 5 rfl rfl (j' := 5) (nM rfl (nM rfl (nO (s_ldf rfl (by repeat first | exact gS | refine Kp.lt k5 (by omega) ?_ | exact hcell | refine gN (by omega) ?_) ag_82 sz_82 (by exact rfl) ?_)))))))
    refine nO (s_ia rfl rfl el_65 (by first | assumption | omega) (nO (s_sta rfl rfl sz_82 rfl (by repeat first | exact gS | refine Kp.lt k5 (by omega) ?_ | exact hcell | refine gN (by omega) ?_) (by first | exact Nat.le_of_ble_eq_true rfl | assumption | omega) rfl ?_)))
    refine n_nil (Nc (w_reg 3 rfl rfl (j' := 8) (nM rfl (nO (s_bin rfl rfl (by first | exact bi_inc (by omega) | exact bi_add rfl (by omega) (by omega)) ?_)))))
    refine nA rfl (n_nil (Nd (Nc (w_reg 3 rfl rfl (j' := 11) (nM rfl (nO (s_bin rfl rfl (by first | exact bi_inc (by omega) | exact bi_add rfl (by omega) (by omega)) ?_)))))))
    refine nA rfl (n_nil ?_)
    refine z_round ⟨β.i + 1, β.j + 1, splice β.cl (o + β.i * 4) (evtC e' (.slice a e'.val.length q)), β.zs.set β.i e'⟩ ⟨rfl, rfl, rfl, rfl, trivial⟩ ?_ (by simp only; omega)
    exact H.move hw4 k6 (fun x o h => by have := hw5 x o h; omega) (by omega) hj q1 (by simp; omega) q2 hL
  ·refine w_exit rfl ?_
   have hje : β.j = es.length := by simp at hb; omega
   have hil : β.i ≤ es.length := by omega
   repeat first | refine Na ?_ | refine Nb ?_ | refine Nc ?_ | refine Nd ?_ | refine Ne ?_
   refine w_reg 4 rfl rfl (j' := 8) (nM rfl (nM rfl (n_op .no (q := 6) rfl (s_sll (j := β.i) un_65 sz_82 rfl rfl hil hcc hcell fun tc => (n_op .no (q := 7) rfl (s_clr (m := es.length - β.i) (o := o + β.i * 4) (cl := β.cl) un_65 sz_82 zp_82 rfl rfl rfl rfl (by omega) hcell (by omega) fun zz hzz tc wr => (n_nil (Nc (Na (w_reg 4 rfl rfl (j' := 12) (nM rfl (nM rfl (n_op .no (q := 10) rfl (s_slh (j := β.i) un_65 sz_82 rfl rfl (by omega) (nA rfl (n_nil (Nc (Nf (z_r1 rfl rfl ?_)))))))))))))))))))
   have hk3 : Kp (fun x o => some l = some x ∧ nb o) g4 n4 (gset g4 l (.cells (splice β.cl (o + β.i * 4) zz) 4 false)) :=
    (Kp.refl _ _ _).set (fun o ho => ⟨rfl, by rw [hcell] at ho; cases ho; intro h; cases h⟩) _
   have hNB : NoB (fun x o => some l = some x ∧ nb o) := fun x cl ro h => h.2 rfl
   have hf : (es.filter fun e => decide (rev < e.rev)) = β.zs.take β.i := by rw [H.front, hje, List.take_length]
   have hflen : (β.zs.take β.i).length = β.i := by rw [List.length_take, H.zlen]; omega
   have hsl : (splice β.cl (o + β.i * 4) zz).length = β.cl.length := splice_length (by omega)
   refine ⟨⟨⟨(β.cl.drop o).take (β.i * 4), ⟨?_, .inr ⟨l, o, c, _, by rw [hf, hflen], by rw [hf, hflen]; omega, gs_same _ _ _, by rw [hsl, hlen]; exact e4, ?_⟩⟩, ?_⟩, hfrom⟩, rfl, H.keep.trans hk3 hnn fun _ _ _ h _ => h⟩
   ·rw [hf, hflen, List.length_take, List.length_drop]; omega
   ·rw [hf, hflen]; exact splice_front (by omega)
   ·have := H.rows.take β.i
    rw [List.take_take, Nat.min_eq_left (by omega)] at this
    rw [hf]
    exact this.mono fun c x _ hx => hx.mono fun _ _ k => k.kp hk3 hw4 hNB

end Go.Proofs.YtehmailaabjdjaaGreat
end

section
open Go.Proofs
namespace Go.Proofs.YtehmailaabjdjaaGreat
set_option linter.unusedSimpArgs false
set_option linter.unusedVariables false
set_option maxRecDepth 100000

theorem EvsOwn.lt {b : Nat} {g : Gm} {n : Nat} {v : Value} {es : List Evt} (h : EvsOwn b g v es) (hw : WF g n) {x : Nat} (hx : vname v = some x) : x < n := by
 obtain ⟨⟨cs, ⟨_, ⟨rfl, _⟩ | ⟨l', o, c, cl, rfl, _, h4, _⟩⟩, _⟩, _⟩ := h
 ·cases hx
 ·simp only [vname, Option.some.injEq] at hx
  subst hx
  exact hw _ _ h4
theorem EvsOwn.nbo {b : Nat} {g : Gm} {v : Value} {es : List Evt} (h : EvsOwn b g v es) {x : Nat} (hx : vname v = some x) {o : AObj} (ho : g x = some o) : nb o := by
 obtain ⟨⟨cs, ⟨_, ⟨rfl, _⟩ | ⟨l', o', c, cl, rfl, _, h4, _⟩⟩, _⟩, _⟩ := h
 ·cases hx
 ·simp only [vname, Option.some.injEq] at hx
  subst hx
  rw [h4] at ho; cases ho
  intro h; cases h

theorem Kp.cell {g g' : Gm} {n l : Nat} {c : List Value} {z : Nat} {ro : Bool} (h : Kp (fun x o => x = l ∧ nb o) g n g') (hl : g l = some (.cells c z ro)) (hz : z ≠ 1) (o : AObj) : Kp (fun x o => x = l ∧ nb o) g n (gset g' l o) :=
 h.set (fun o ho => ⟨rfl, by rw [hl] at ho; cases ho; exact hz⟩) o

section
variable {g : Gm} {n b l : Nat} {sl : Value} {L : Log}

theorem log_cut {rev : Int} (h : LogAt b g l sl L) (hn : L.evs.length ≤ 2 ^ 40) :
  C 52 #[.pointer (some ⟨l, 0, none⟩), .int .i64 rev] g n fun u g' n' => ∃ sl', LogAt b g' l sl' (L.cut rev) ∧ vname sl' = vname sl ∧ Kp (FL l sl) g n g' := by
 have hl := h.cell
 refine c_in2 Tryz.func52 rfl Tryz.ntmps52 rfl fun hw => ?_
 have hll := hw _ _ hl
 refine Na (w_reg 1 rfl rfl (j' := 1) (n_op .no (q := 0) rfl (s_box rfl rfl (n_nil (Nc (Na (Na (w_reg 2 rfl rfl (j' := 3) (nM rfl (nO (s_bin rfl rfl (bi_d un_78 rfl) ?_)))))))))))
 refine n_nil (Nc (w_no rfl (rfl) (Ne (Nc (Na (w_reg 10 rfl rfl (j' := 13) (nM rfl (nM rfl (nN rfl (nO (s_fa0 rfl fo_166_0 (nO (sL rfl ag_65 ?_)))))))))))))
 refine nO (s_mf rfl rfl rfl (n_call .no rfl rfl rfl (C.use (delF_c (rev := rev) (EvsOwn.kp0 h.evs (by repeat (first | exact Kp.refl _ _ _ | refine Kp.new ?_ (by omega) _)) hw) (by repeat first | exact gS | refine gN (by omega) ?_) hn) fun v g1 n1 hw1 hn1 hq => ?_)))
 obtain ⟨q1, q2, k1⟩ := hq
 obtain ⟨a, c, rfl⟩ := q1.lenE
 have hl1 : g1 l = some (logC sl L) := k1 _ _ (by omega) (by repeat first | exact gS | exact hl | refine gN (by omega) ?_) (fun hF => h.ne hF.1)
 have hb1 : g1 (n + 0) = some (.cells [.int .i64 rev] 0 false) := k1 _ _ (by omega) (by repeat first | exact gS | refine gN (by omega) ?_) (fun hF => by have := h.evs.lt hw hF.1; omega)
 refine nN rfl (nO (s_fa0 rfl fo_166_0 (nO (sS rfl rfl sz_65 rfl rfl ?_))))
 refine n_nil (Nc (w_drw (T6 52 3) [(0, []), (1, []), (2, []), (3, []), (4, []), (5, [4]), (6, [4, 5]), (7, [4, 5]), (8, [4, 5]), (9, [4, 5]), (10, [4]), (11, []), (12, []), (13, []), (14, [])] 15 (by kernel_rfl) rfl rfl (j' := 15) (dM rfl rfl (dM rfl rfl (dO rfl rfl (s_nil rfl ⟨⟨rfl, rfl⟩, (dO rfl rfl (s_fa0 rfl fo_166_2 ⟨⟨rfl, rfl⟩, (dT rfl rfl rfl (sL rfl ag_2 ⟨clash_nil, ?_⟩))⟩))⟩))))))
 refine dT rfl rfl rfl (sL rfl ag_2 ⟨clash_rd rfl, ?_⟩)
 refine dM rfl rfl (dO rfl rfl (s_nil rfl ⟨⟨rfl, rfl⟩, (dO rfl rfl (s_fa0 rfl fo_166_3 ⟨⟨rfl, rfl⟩, (dT rfl rfl rfl (sL rfl ag_2 ⟨clash_rd rfl, ?_⟩))⟩))⟩))
 refine dO rfl rfl (s_min rfl rfl rfl ⟨⟨rfl, rfl⟩, (dO rfl rfl (s_max rfl rfl rfl ⟨⟨rfl, rfl⟩, (dO rfl rfl (s_nil rfl ⟨⟨rfl, rfl⟩, (dO rfl rfl (s_fa0 rfl fo_166_2 ⟨⟨rfl, rfl⟩, (dT rfl rfl rfl (sS rfl rfl sz_2 rfl rfl ⟨clash_nil, ?_⟩))⟩))⟩))⟩))⟩)
 refine d_nil ?_
 repeat first | refine Na ?_ | refine Nb ?_ | refine Nc ?_ | refine Nd ?_ | refine Ne ?_
 refine z_r0 rfl ?_
 have hw1' := hw1 _ _ hl1
 refine ⟨.slice a _ c, ⟨?_, ?_⟩, q2, ?_⟩
 ·exact gs_same _ _ _
 ·exact q1.kp (n := n1) (F := fun x o => x = l ∧ nb o) (((Kp.refl _ _ _).cell hl1 (by decide) _).cell hl1 (by decide) _) hw1 (fun x cl ro _ h => h.2 rfl) (fun x o hx ho e => h.ne (by rw [← q2, hx, e.1]))
 ·refine Kp.set (Kp.set (fun x o hx ho hF => k1 x o (by omega) (by repeat first | exact gS | exact ho | refine gN (by omega) ?_) fun e => hF ⟨.inr e.1, e.2⟩) ?_ _) ?_ _
  ·intro o ho; rw [hl] at ho; cases ho; exact ⟨.inl rfl, fun e => by cases e⟩
  ·intro o ho; rw [hl] at ho; cases ho; exact ⟨.inl rfl, fun e => by cases e⟩
end

end Go.Proofs.YtehmailaabjdjaaGreat
end

section
open Go.Proofs
namespace Go.Proofs.YtehmailaabjdjaaGreat
set_option linter.unusedSimpArgs false
set_option linter.unusedVariables false
set_option maxRecDepth 100000

theorem Gr.low {g g' g'' : Gm} {n nm q : Nat} {v v' : Value} (h : Gr g' g'' nm v v') (hk : Kp (fun x _ => x < q) g n g') (hn : nm < q) (hv : ∀ l, vname v = some l → l < q) : Kp (fun x _ => x < q) g n g'' :=
 fun x o hx ho hf => by
  rw [h.same x (by omega) fun e => hf (hv x e)]
  exact hk x o hx ho hf

theorem src_one {g : Gm} {nm z : Nat} {c : List Value} {ro : Bool} (h : g nm = some (.cells c z ro)) (hz : c.length = z) : Src g z (.slice (some ⟨nm, 0, none⟩) 1 1) 1 c :=
 SlC.src ⟨by omega, .inr (.inr ⟨nm, 0, 1, rfl, Nat.le_refl _, .inr ⟨c, ro, h, by omega, by simp [← hz]⟩⟩)⟩

theorem evs_app {F : Nat → AObj → Prop} {b q n1 n2 : Nat} {g1 g2 g' : Gm} {xs : List Evt} {e : Evt} {cs c : List Value} {w' : Value} (hR : Rows 4 (EvC (BytesNew b g1)) cs xs) (hw1 : WF g1 n1) (hF : Kp F g1 n1 g') (hFb : NoB F)
  (hnew : EvC (BytesNew q g2) c e) (hw2 : WF g2 n2) (hK : Kp (fun x _ => x < q) g2 n2 g') (hb : b ≤ q) (hrow : SlOwn g' 4 w' (xs.length + 1) (cs ++ c)) (hfrom : ∀ l, vname w' = some l → b ≤ l) : EvsOwn b g' w' (xs ++ [e]) := by
 refine ⟨⟨cs ++ c, by rw [List.length_append]; exact hrow, Rows.append (hR.mono fun c x _ hx => hx.mono fun _ _ k => k.kp hF hw1 hFb) (Rows.one ?_ (hnew.mono fun v bs k => (k.kpb hK hw2 fun x _ _ hx => by omega).up hb))⟩, hfrom⟩
 obtain ⟨a, p, rfl, _⟩ := hnew
 rfl

def Log.from_ (L : Log) (rev : Int) : List Evt × Int :=
 if rev < L.base then ([], 7) else if L.last < rev then ([], 2) else (L.evs.filter fun e => decide (rev < e.rev), 0)

theorem EvsOwn.nil (b : Nat) (g : Gm) : EvsOwn b g (.slice none 0 0) [] := ⟨⟨[], SlOwn.nil _ _, rfl⟩, fun l h => by cases h⟩

section
variable {g : Gm} {n b l : Nat} {sl : Value} {L : Log}

theorem log_from {rev : Int} (h : LogAt b g l sl L) (hn : L.evs.length < 2 ^ 40) :
  C 44 #[.pointer (some ⟨l, 0, none⟩), .int .i64 rev] g n fun u g' n' => ∃ v, u = .tuple #[v, .int .i64 (L.from_ rev).2] ∧ EvsOwn n g' v (L.from_ rev).1 ∧ K0 g n g' := by
 have hl := h.cell
 refine c_in2 Tryz.func44 rfl Tryz.ntmps44 rfl fun hw => ?_
 have hll := hw _ _ hl
 refine Na (w_reg 2 rfl rfl (j' := 2) (nA rfl (nA rfl (n_nil (Nc (Na (Nb (Na (w_reg 3 rfl rfl (j' := 5) (nM rfl (nO (s_bin rfl rfl (bi_d un_78 rfl) ?_))))))))))))
 refine nA rfl (n_nil (Nc (w_no rfl (rfl) (Na (w_reg 7 rfl rfl (j' := 12) (nM rfl (nM rfl (nN rfl (nO (s_fa0 rfl fo_166_2 (nO (sL rfl ag_2 ?_))))))))))))
 refine nO (s_bin rfl rfl rfl (nA rfl (n_nil ?_)))
 by_cases h1 : rev < L.base
 ·refine Nc (w_yes rfl (decide_eq_true h1) (Na (w_reg 2 rfl rfl (j' := 14) (nA rfl (nA rfl (n_nil (Nc (Nf (z_r2 rfl rfl rfl ?_)))))))))
  have e : L.from_ rev = ([], 7) := by simp only [Log.from_, h1, if_true]
  rw [e]
  exact ⟨_, rfl, EvsOwn.nil _ _, (by repeat (first | exact Kp.refl _ _ _ | refine Kp.new ?_ (by omega) _))⟩
 refine Nc (w_no rfl (decide_eq_false h1) (Na (w_reg 7 rfl rfl (j' := 19) (nM rfl (nM rfl (nN rfl (nO (s_fa0 rfl fo_166_3 (nO (sL rfl ag_2 ?_))))))))))
 refine nO (s_bin rfl rfl rfl (nA rfl (n_nil ?_)))
 by_cases h2 : L.last < rev
 ·refine Nc (w_yes rfl (decide_eq_true h2) (Na (w_reg 2 rfl rfl (j' := 21) (nA rfl (nA rfl (n_nil (Nc (Nf (z_r2 rfl rfl rfl ?_)))))))))
  have e : L.from_ rev = ([], 2) := by simp only [Log.from_, h1, h2, if_true, if_false]
  rw [e]
  exact ⟨_, rfl, EvsOwn.nil _ _, (by repeat (first | exact Kp.refl _ _ _ | refine Kp.new ?_ (by omega) _))⟩
 refine Nc (w_no rfl (decide_eq_false h2) ?_)
 have e : L.from_ rev = (L.evs.filter fun e => decide (rev < e.rev), 0) := by simp only [Log.from_, h1, h2, if_false]
 rw [e]
 refine Ne (Nd (Nc (Na (w_reg 1 rfl rfl (j' := 20) (nA rfl (n_nil ?_))))))
 obtain ⟨a, c, rfl⟩ := h.evs.lenE
 refine Nc (Na (Na (w_reg 6 rfl rfl (j' := 26) (nM rfl (nN rfl (nO (s_fa0 rfl fo_166_0 (nO (sL rfl ag_65 ?_)))))))))
 refine nO (s_len rfl rfl un_65 rfl (nM rfl (n_nil ?_)))
 repeat first | refine Na ?_ | refine Nb ?_ | refine Nc ?_ | refine Nd ?_ | refine Ne ?_
 refine w_loop (β := Nat × Value) (fun x => [(0, .pointer (some ⟨l, 0, none⟩)), (1, .int .i64 rev), (6, x.2), (29, .slice a L.evs.length c), (30, .int .i64 L.evs.length), (31, .int .i64 x.1)])
  (fun x g' n' => x.1 ≤ L.evs.length ∧ n ≤ n' ∧ K0 g n g' ∧ EvsOwn n g' x.2 ((L.evs.take x.1).filter fun e => decide (rev < e.rev))) (fun x => L.evs.length - x.1) (0, .slice none 0 0) ⟨rfl, rfl, rfl, rfl, rfl, rfl, trivial⟩ ⟨by simp, by omega, (by repeat (first | exact Kp.refl _ _ _ | refine Kp.new ?_ (by omega) _)), EvsOwn.nil _ _⟩ ?_
 rintro ⟨i, w⟩ f g1 n1 hw1 ⟨hi, hn1, k1, hE⟩
 simp only at hi hE
 repeat first | refine Na ?_ | refine Nb ?_ | refine Nc ?_ | refine Nd ?_ | refine Ne ?_
 refine w_reg 1 rfl rfl (j' := 1) (nO (s_bin rfl rfl rfl (n_nil (Nc (Na (w_if rfl (fun hb => ?_) (fun hb => ?_)))))))
 ·have hi : i < L.evs.length := by simpa using hb
  obtain ⟨l2, o, c', cl, ro, p, q, e1, hc', e2, e3⟩ := (h.evs.rd.kp0 k1 hw).at hi
  cases e1
  have c0 := e3.len
  have c1 := e3.all
  have e0 := List.drop_eq_getElem_cons hi
  have e5 : (L.evs.take (i + 1)).filter (fun e => decide (rev < e.rev)) = (L.evs.take i).filter (fun e => decide (rev < e.rev)) ++ if rev < L.evs[i].rev then [L.evs[i]] else [] := by
   rw [List.take_succ_eq_append_getElem hi, List.filter_append]
   by_cases h : rev < L.evs[i].rev <;> simp [h]
  have hlw : ((L.evs.take i).filter fun e => decide (rev < e.rev)).length ≤ i := Nat.le_trans (List.length_filter_le _ _) (by rw [List.length_take]; omega)
  repeat first | refine Na ?_ | refine Nb ?_ | refine Nc ?_ | refine Nd ?_ | refine Ne ?_
  refine w_reg 4 rfl rfl (j' := 5) (nO (s_ia rfl rfl el_65 (by first | assumption | omega) (nO (sLa rfl ag_82 sz_82 ?_))))
  refine n_op .no (q := 3) rfl (s_al zl_82 (nO (sSw rfl rfl sz_82 rfl rfl ?_)))
  refine n_nil (Nc (Na (w_reg 4 rfl rfl (j' := 9) (nO (s_fa0 rfl fo_82_0 (nO (sL rfl ag_2 ?_)))))))
  refine nM rfl (nO (s_bin rfl rfl rfl (n_nil ?_)))
  by_cases h3 : rev < L.evs[i].rev
  ·refine Nc (w_yes rfl (decide_eq_true h3) (w_reg 6 rfl rfl (j' := 15) (nM rfl (nO (sLf rfl ag_82 sz_82 ?_)))))
   refine n_call .no rfl rfl rfl (C.use (copied_c (BytesAt.kp0 (n := n1) e3.val (by repeat (first | exact Kp.refl _ _ _ | refine Kp.new ?_ (by omega) _)) hw1) e3.small) fun v g2 n2 hw2 hn2 hq => ?_)
   obtain ⟨c5, rfl, h5, k2⟩ := hq
   obtain ⟨⟨cs, hs, hR⟩, hfrom⟩ := id hE
   have h5' := h5
   obtain ⟨a5, p5, rfl, h6, h7⟩ := h5
   have k3 : K0 g1 n1 g2 := Kp.trans0 (by repeat (first | exact Kp.refl _ _ _ | refine Kp.new ?_ (by omega) _)) k2 (by omega)
   refine n_op .no (q := 12) rfl (s_bs el_65 ez_65 rfl rfl rfl (n_op .no (q := 13) rfl (s_app app65 rfl rfl (hs.kp0 (n := n1) (Kp.new k3 (by omega) _) hw1) (src_one (gs_same _ _ _) rfl) rfl (by omega) fun aw cw g3 tc wr hrow hgr => (nA rfl (n_nil (Nd (Nc (w_reg 2 rfl rfl (j' := 2) (nO (s_bin rfl rfl (by first | exact bi_inc (by omega) | exact bi_add rfl (by omega) (by omega)) ?_))))))))))
   refine nM rfl (n_nil ?_)
   have kF : Kp (FV w) g1 n1 g3 := hgr.kp (Kp.new k3.z (by omega) _) (by omega) fun l hl => .inr fun o ho => ⟨hl, hE.nbo hl ho⟩
   refine z_round (i + 1, .slice aw _ cw) ⟨rfl, rfl, rfl, rfl, rfl, rfl, trivial⟩ ⟨hi, by omega, ?_, ?_⟩ (by simp only; omega)
   ·exact fun x o hx ho _ => kF x o (by omega) (k1.lt hx ho) fun hF => by have := hfrom _ hF.1; omega
   ·rw [e5, if_pos h3]
    refine evs_app hR hw1 kF (FV.nob w) h5' hw2 (hgr.low ((Kp.refl _ _ _).low (by omega) _) (by omega) fun x hx => ?_) (by omega) hrow fun x hx => ?_
    ·have := hE.lt hw1 hx; omega
    ·rcases hgr.name with e | e | e
     ·rw [e] at hx; cases hx
     ·rw [e] at hx; exact hfrom _ hx
     ·rw [e] at hx; cases hx; omega
  ·refine Nc (w_no rfl (decide_eq_false h3) ?_)
   repeat first | refine Na ?_ | refine Nb ?_ | refine Nc ?_ | refine Nd ?_ | refine Ne ?_
   repeat first | refine Na ?_ | refine Nb ?_ | refine Nc ?_ | refine Nd ?_ | refine Ne ?_
   refine w_reg 2 rfl rfl (j' := 11) (nO (s_bin rfl rfl (by first | exact bi_inc (by omega) | exact bi_add rfl (by omega) (by omega)) ?_))
   refine nM rfl (n_nil ?_)
   refine z_round (i + 1, w) ⟨rfl, rfl, rfl, rfl, rfl, rfl, trivial⟩ ⟨hi, by omega, Kp.trans0 k1 (n' := n1) (by repeat (first | exact Kp.refl _ _ _ | refine Kp.new ?_ (by omega) _)) (by omega), ?_⟩ (by simp only; omega)
   rw [e5, if_neg h3, List.append_nil]
   exact hE.kp0 (n := n1) (by repeat (first | exact Kp.refl _ _ _ | refine Kp.new ?_ (by omega) _)) hw1
 ·refine w_exit rfl ?_
  repeat first | refine Na ?_ | refine Nb ?_ | refine Nc ?_ | refine Nd ?_ | refine Ne ?_
  refine w_reg 3 rfl rfl (j' := 4) (nM rfl (nA rfl (nA rfl (n_nil (Nc (Nf (z_r2 rfl rfl rfl ?_)))))))
  have : i = L.evs.length := by simp at hb; omega
  subst this
  rw [List.take_length] at hE
  exact ⟨_, rfl, hE, k1⟩
end

end Go.Proofs.YtehmailaabjdjaaGreat
end

section
open Go.Proofs
namespace Go.Proofs.YtehmailaabjdjaaGreat
set_option linter.unusedSimpArgs false
set_option linter.unusedVariables false
set_option maxRecDepth 100000

def SortedE (es : List Evt) : Prop := ∀ i, (h : i + 1 < es.length) → es[i].rev ≤ es[i + 1].rev
def Log.may (L : Log) (es : List Evt) : Prop := (∃ e r, es = e :: r ∧ L.last < e.rev) ∧ SortedE es
def lastRev : List Evt → Int
 | [] => 0
 | [e] => e.rev
 | _ :: r => lastRev r
def Log.trim : Nat → Log → Log
 | 0, L => L
 | k + 1, L => if L.most < L.evs.length then match L.evs with
   | [] => L
   | e :: _ => Log.trim k (L.cut e.rev)
  else L
def Log.put (L : Log) (es : List Evt) : Log := { L with evs := L.evs ++ es, last := lastRev es }
def Log.add (L : Log) (es : List Evt) : Log := Log.trim (L.evs.length + es.length) (L.put es)

theorem EvsRd.at0 {g : Gm} {v : Value} {es : List Evt} (h : EvsRd g v es) (hi : 0 < es.length) : ∃ l o c cl ro a p, v = .slice (some ⟨l, o, none⟩) es.length c ∧ es.length ≤ c ∧ g l = some (.cells cl 4 ro) ∧ EvAt g (BytesAt g) es[0] l o cl a p := by
 obtain ⟨l, o, c, cl, ro, a, p, h1, h2, h3, h4⟩ := h.at hi
 rw [Nat.zero_mul, Nat.add_zero] at h4
 exact ⟨l, o, c, cl, ro, a, p, h1, h2, h3, h4⟩

theorem lastRev_eq : ∀ {es : List Evt} (h : 0 < es.length), lastRev es = (es[es.length - 1]).rev
 | [e], _ => rfl
 | e :: e2 :: r, _ => by
  have := lastRev_eq (es := e2 :: r) (by simp)
  simp only [lastRev] at this ⊢
  rw [this]
  simp

section
variable {g : Gm} {n b l : Nat} {sl v : Value} {L : Log} {es : List Evt}

end

end Go.Proofs.YtehmailaabjdjaaGreat
end

section
open Go.Proofs
namespace Go.Proofs.YtehmailaabjdjaaGreat
set_option linter.unusedSimpArgs false
set_option linter.unusedVariables false
set_option maxRecDepth 100000

def Mvd (n : Nat) (sl w : Value) : Prop := vname w = vname sl ∨ ∀ x, vname w = some x → n ≤ x
theorem Mvd.refl (n : Nat) (sl : Value) : Mvd n sl sl := .inl rfl
theorem Mvd.trans {n : Nat} {a b c : Value} (h : Mvd n a b) (k : Mvd n b c) : Mvd n a c := by
 rcases k with k | k
 ·rcases h with h | h
  ·exact .inl (k.trans h)
  ·exact .inr fun x hx => h x (by rw [← k]; exact hx)
 ·exact .inr k
theorem Mvd.up {n n' : Nat} {a b : Value} (h : Mvd n' a b) (hn : n ≤ n') : Mvd n a b := h.imp id fun k x hx => Nat.le_trans hn (k x hx)

theorem FL.step {n l x : Nat} {sl w : Value} {o : AObj} (h : Mvd n sl w) (hx : x < n) (hF : FL l w x o) : FL l sl x o := by
 obtain ⟨h1 | h1, h2⟩ := hF
 ·exact ⟨.inl h1, h2⟩
 ·rcases h with h | h
  ·exact ⟨.inr (by rw [← h]; exact h1), h2⟩
  ·exact absurd (h x h1) (by omega)

theorem Log.trim_step {k : Nat} {L : Log} {e : Evt} {r : List Evt} (he : L.evs = e :: r) (hk : L.evs.length ≤ k) (hm : L.most < L.evs.length) : ∃ k', Log.trim k L = Log.trim k' (L.cut e.rev) ∧ (L.cut e.rev).evs.length ≤ k' ∧ (L.cut e.rev).evs.length < L.evs.length := by
 have hlen : (L.cut e.rev).evs.length ≤ r.length := by
  simp only [Log.cut, he, List.filter_cons]
  rw [if_neg (by simp)]
  exact List.length_filter_le _ _
 have hl : L.evs.length = r.length + 1 := by rw [he]; rfl
 cases k with
 | zero => rw [hl] at hk; omega
 | succ k =>
  refine ⟨k, ?_, by omega, by omega⟩
  simp only [Log.trim]
  rw [if_pos hm, he]
theorem Log.trim_done {k : Nat} {L : Log} (hm : ¬ L.most < L.evs.length) : Log.trim k L = L := by
 cases k with
 | zero => rfl
 | succ k => simp only [Log.trim]; rw [if_neg hm]

theorem SlOwn.other {g : Gm} {k m x : Nat} {v : Value} {cs : List Value} (h : SlOwn g k v m cs) (hx : vname v ≠ some x) (o : AObj) : SlOwn (gset g x o) k v m cs := by
 obtain ⟨h1, h2 | ⟨l, q, c, cl, rfl, h3, h4, h5, h6⟩⟩ := h
 ·exact ⟨h1, .inl h2⟩
 ·exact ⟨h1, .inr ⟨l, q, c, cl, rfl, h3, by rw [gs_ne (fun e => hx (by rw [e]; rfl))]; exact h4, h5, h6⟩⟩
theorem Gr.mvd {g g' : Gm} {nm n : Nat} {v v' : Value} (h : Gr g g' nm v v') (hn : n ≤ nm) : Mvd n v v' := by
 rcases h.name with e | e | e
 ·exact .inr fun x hx => by rw [e] at hx; cases hx
 ·exact .inl e
 ·exact .inr fun x hx => by rw [e] at hx; cases hx; exact hn

section
variable {g : Gm} {n b l : Nat} {sl v : Value} {L : Log} {es : List Evt}

theorem log_add_yes (h : LogAt b g l sl L) (hb0 : b ≤ n) (hv : EvsRd g v es) (hne : ∀ x, vname v = some x → vname sl ≠ some x) (hn : L.evs.length + es.length < 2 ^ 40) (hmost : 0 ≤ L.most) (hm : L.may es) :
  C 43 #[.pointer (some ⟨l, 0, none⟩), v] g n fun u g' n' => u = .bool true ∧ ∃ sl', LogAt b g' l sl' (L.add es) ∧ Mvd n sl sl' ∧ Kp (FL l sl) g n g' := by
 have hl := h.cell
 obtain ⟨⟨ev0, er, hev, hlast⟩, hS⟩ := hm
 have h0 : 0 < es.length := by rw [hev]; simp
 have hr0 : es[0].rev = ev0.rev := by subst hev; rfl
 have hlast : ¬ es[0].rev ≤ L.last := by omega
 clear hev hr0
 obtain ⟨l2, o, c, cl, ro, p, q, rfl, hc, e2, e3⟩ := hv.at0 h0
 have d0 := e3.c0'
 have hl2 : l2 ≠ l := by rintro rfl; rw [hl] at e2; cases e2
 have hne := hne l2 rfl
 refine c_in2 Tryz.func43 rfl Tryz.ntmps43 rfl fun hw => ?_
 have hll := hw _ _ hl
 have hll2 := hw _ _ e2
 refine Na (w_reg 1 rfl rfl (j' := 1) (nA rfl (n_nil (Nc (Na (Na (w_drw (T6 43 1) [(0, []), (1, []), (2, []), (3, []), (4, []), (5, []), (6, []), (7, []), (8, []), (9, []), (10, []), (11, []), (12, [11]), (13, [11]), (14, [11]), (15, [11]), (16, []), (17, [])] 18 (by kernel_rfl) rfl rfl (j' := 19) (dM rfl rfl (dO rfl rfl (s_bin rfl rfl (bi_d un_78 rfl) ⟨⟨rfl, rfl⟩, ?_⟩))))))))))
 refine dM rfl rfl (d_op rfl rfl (.yes rfl rfl (rfl)) (q := 4) rfl (s_mv rfl ⟨⟨rfl, rfl⟩, (d_tc rfl rfl rfl (.yes rfl rfl (rfl)) (q := 5) rfl (s_len rfl rfl un_65 rfl ⟨clash_nil, (d_op rfl rfl (.yes rfl rfl (rfl)) (q := 6) rfl (s_bin rfl rfl rfl ⟨⟨rfl, rfl⟩, (dO rfl rfl (s_pf rfl (rfl) rfl ⟨⟨rfl, rfl⟩, (dM rfl rfl (d_op rfl rfl (.yes rfl rfl (beq_eq_false_iff_ne.2 (by omega))) (q := 9) rfl (s_mv rfl ⟨⟨rfl, rfl⟩, (d_op rfl rfl (.yes rfl rfl (beq_eq_false_iff_ne.2 (by omega))) (q := 10) rfl (s_ia0 rfl rfl el_65 (by first | assumption | omega) ⟨⟨rfl, rfl⟩, (d_op rfl rfl (.yes rfl rfl (beq_eq_false_iff_ne.2 (by omega))) (q := 11) rfl (s_fa rfl fo_82_0 ⟨⟨rfl, rfl⟩, (d_tc rfl rfl rfl (.yes rfl rfl (beq_eq_false_iff_ne.2 (by omega))) (q := 12) rfl (sL rfl ag_2 ⟨clash_nil, ?_⟩))⟩))⟩))⟩)))⟩))⟩))⟩))⟩))
 refine d_op rfl rfl (.yes rfl rfl (beq_eq_false_iff_ne.2 (by omega))) (q := 13) rfl (s_mv rfl ⟨⟨rfl, rfl⟩, (d_op rfl rfl (.yes rfl rfl (beq_eq_false_iff_ne.2 (by omega))) (q := 14) rfl (s_nil rfl ⟨⟨rfl, rfl⟩, (d_op rfl rfl (.yes rfl rfl (beq_eq_false_iff_ne.2 (by omega))) (q := 15) rfl (s_fa0 rfl fo_166_3 ⟨⟨rfl, rfl⟩, (d_tc rfl rfl rfl (.yes rfl rfl (beq_eq_false_iff_ne.2 (by omega))) (q := 16) rfl (sL rfl ag_2 ⟨clash_rd rfl, ?_⟩))⟩))⟩))⟩)
 refine d_op rfl rfl (.yes rfl rfl (beq_eq_false_iff_ne.2 (by omega))) (q := 17) rfl (s_bin rfl rfl rfl ⟨⟨rfl, rfl⟩, (dO rfl rfl (s_pf rfl (beq_eq_false_iff_ne.2 (by omega)) rfl ⟨⟨rfl, rfl⟩, (d_nil (Nc (w_no rfl (decide_eq_false hlast) (Ne (Nc (Na (Na (w_reg 3 rfl rfl (j' := 22) (nM rfl (nO (s_len rfl rfl un_65 rfl (nM rfl (n_nil ?_)))))))))))))⟩))⟩)
 repeat first | refine Na ?_ | refine Nb ?_ | refine Nc ?_ | refine Nd ?_ | refine Ne ?_
 refine w_loop (β := Nat) (fun i => [(0, .pointer (some ⟨l, 0, none⟩)), (1, .slice (some ⟨l2, o, none⟩) es.length c), (27, .int .i64 es.length), (28, .int .i64 i)])
  (fun i g' n' => i ≤ es.length ∧ n ≤ n' ∧ K0 g n g') (fun i => es.length - i) 0 ⟨rfl, rfl, rfl, rfl, trivial⟩ ⟨by omega, by omega, (by repeat (first | exact Kp.refl _ _ _ | refine Kp.new ?_ (by omega) _))⟩ ?_
 rintro i f g1 n1 hw1 ⟨hi, hn1, k1⟩
 repeat first | refine Na ?_ | refine Nb ?_ | refine Nc ?_ | refine Nd ?_ | refine Ne ?_
 refine w_reg 1 rfl rfl (j' := 1) (nO (s_bin rfl rfl rfl (n_nil (Nc (Na (w_if rfl (fun hb => ?_) (fun hb => ?_)))))))
 ·have hi : i < es.length := by simpa using hb
  repeat first | refine Na ?_ | refine Nb ?_ | refine Nc ?_ | refine Nd ?_ | refine Ne ?_
  refine w_reg 2 rfl rfl (j' := 3) (nM rfl (nA rfl (n_nil ?_)))
  obtain ⟨l3, o3, c3, cl3, ro3, p3, q3, x1, _, x2, x3⟩ := (hv.kp0 k1 hw).at hi
  cases x1
  have y0 := x3.c0'
  by_cases hi0 : 0 < i
  ·obtain ⟨l3, o3, c3, cl3, ro3, p3, q3, x1, _, x4, x5⟩ := (hv.kp0 k1 hw).at (show i - 1 < es.length by omega)
   cases x1
   have x6 := x2.symm.trans x4
   cases x6
   have z0 := x5.c0'
   refine Nc (Na (w_drw (T6 43 6) [(0, []), (1, []), (2, []), (3, []), (4, []), (5, []), (6, []), (7, []), (8, [7]), (9, [7]), (10, [7]), (11, [7]), (12, [7]), (13, [7]), (14, []), (15, [])] 16 (by kernel_rfl) rfl rfl (j' := 19) (dM rfl rfl (dO rfl rfl (s_bin rfl rfl rfl ⟨⟨rfl, rfl⟩, (dM rfl rfl (d_op rfl rfl (.yes rfl rfl (decide_eq_true (by omega))) (q := 6) rfl (s_mv rfl ⟨⟨rfl, rfl⟩, (d_op rfl rfl (.yes rfl rfl (decide_eq_true (by omega))) (q := 7) rfl (s_mv rfl ⟨⟨rfl, rfl⟩, (d_op rfl rfl (.yes rfl rfl (decide_eq_true (by omega))) (q := 8) rfl (s_ia rfl rfl el_65 (by first | assumption | omega) ⟨⟨rfl, rfl⟩, (d_op rfl rfl (.yes rfl rfl (decide_eq_true (by omega))) (q := 9) rfl (s_fa rfl fo_82_0 ⟨⟨rfl, rfl⟩, (d_tc rfl rfl rfl (.yes rfl rfl (decide_eq_true (by omega))) (q := 10) rfl (sL rfl ag_2 ⟨clash_nil, ?_⟩))⟩))⟩))⟩))⟩)))⟩)))))
   refine d_op rfl rfl (.yes rfl rfl (decide_eq_true (by omega))) (q := 11) rfl (s_mv rfl ⟨⟨rfl, rfl⟩, (d_op rfl rfl (.yes rfl rfl (decide_eq_true (by omega))) (q := 12) rfl (s_mv rfl ⟨⟨rfl, rfl⟩, (d_op rfl rfl (.yes rfl rfl (decide_eq_true (by omega))) (q := 13) rfl (s_bin rfl rfl (by first | exact bi_dec (by omega) (by omega) | exact bi_sub rfl (by omega) (by omega)) ⟨⟨rfl, rfl⟩, ?_⟩))⟩))⟩)
   refine d_op rfl rfl (.yes rfl rfl (decide_eq_true (by omega))) (q := 14) rfl (s_ia rfl rfl el_65 (by first | assumption | omega) ⟨⟨rfl, rfl⟩, (d_op rfl rfl (.yes rfl rfl (decide_eq_true (by omega))) (q := 15) rfl (s_fa rfl fo_82_0 ⟨⟨rfl, rfl⟩, (d_tc rfl rfl rfl (.yes rfl rfl (decide_eq_true (by omega))) (q := 16) rfl (sL rfl ag_2 ⟨clash_rd rfl, ?_⟩))⟩))⟩)
   refine d_op rfl rfl (.yes rfl rfl (decide_eq_true (by omega))) (q := 17) rfl (s_bin rfl rfl rfl ⟨⟨rfl, rfl⟩, (dO rfl rfl (s_pt rfl (decide_eq_true (by omega)) rfl ⟨⟨rfl, rfl⟩, (d_nil ?_)⟩))⟩)
   have hs := hS (i - 1) (by omega)
   simp only [Nat.sub_add_cancel hi0] at hs
   refine Nc (w_no rfl (decide_eq_false (by omega)) ?_)
   repeat first | refine Na ?_ | refine Nb ?_ | refine Nc ?_ | refine Nd ?_ | refine Ne ?_
   repeat first | refine Na ?_ | refine Nb ?_ | refine Nc ?_ | refine Nd ?_ | refine Ne ?_
   refine w_reg 2 rfl rfl (j' := 21) (nO (s_bin rfl rfl (by first | exact bi_inc (by omega) | exact bi_add rfl (by omega) (by omega)) ?_))
   refine nM rfl (n_nil ?_)
   exact z_round (i + 1) ⟨rfl, rfl, rfl, rfl, trivial⟩ ⟨hi, by omega, k1⟩ (by omega)
  ·refine Nc (Na (w_drw (T6 43 6) [(0, []), (1, []), (2, []), (3, []), (4, []), (5, []), (6, []), (7, []), (8, [7]), (9, [7]), (10, [7]), (11, [7]), (12, [7]), (13, [7]), (14, []), (15, [])] 16 (by kernel_rfl) rfl rfl (j' := 19) (dM rfl rfl (dO rfl rfl (s_bin rfl rfl rfl ⟨⟨rfl, rfl⟩, (dM rfl rfl (d_sk rfl rfl rfl (decide_eq_false (by omega)) (d_sk rfl rfl rfl (decide_eq_false (by omega)) (d_sk rfl rfl rfl (decide_eq_false (by omega)) (d_sk rfl rfl rfl (decide_eq_false (by omega)) (d_sk rfl rfl rfl (decide_eq_false (by omega)) (d_sk rfl rfl rfl (decide_eq_false (by omega)) (d_sk rfl rfl rfl (decide_eq_false (by omega)) (d_sk rfl rfl rfl (decide_eq_false (by omega)) (d_sk rfl rfl rfl (decide_eq_false (by omega)) (d_sk rfl rfl rfl (decide_eq_false (by omega)) (d_sk rfl rfl rfl (decide_eq_false (by omega)) (d_sk rfl rfl rfl (decide_eq_false (by omega)) (dO rfl rfl (s_pf rfl (decide_eq_false (by omega)) rfl ⟨⟨rfl, rfl⟩, (d_nil (Nc (w_no rfl (rfl) ?_)))⟩)))))))))))))))⟩)))))
   repeat first | refine Na ?_ | refine Nb ?_ | refine Nc ?_ | refine Nd ?_ | refine Ne ?_
   repeat first | refine Na ?_ | refine Nb ?_ | refine Nc ?_ | refine Nd ?_ | refine Ne ?_
   refine w_reg 2 rfl rfl (j' := 21) (nO (s_bin rfl rfl (by first | exact bi_inc (by omega) | exact bi_add rfl (by omega) (by omega)) ?_))
   refine nM rfl (n_nil ?_)
   exact z_round (i + 1) ⟨rfl, rfl, rfl, rfl, trivial⟩ ⟨hi, by omega, k1⟩ (by omega)
 refine w_exit rfl ?_
 have hA := h.kp0 k1 hw
 have hv1 := hv.kp0 k1 hw
 repeat first | refine Na ?_ | refine Nb ?_ | refine Nc ?_ | refine Nd ?_ | refine Ne ?_
 refine w_reg 3 rfl rfl (j' := 4) (nM rfl (nO (s_len rfl rfl un_65 rfl (nM rfl (n_nil ?_)))))
 repeat first | refine Na ?_ | refine Nb ?_ | refine Nc ?_ | refine Nd ?_ | refine Ne ?_
 refine w_loop (β := Nat × Value) (fun x => [(0, .pointer (some ⟨l, 0, none⟩)), (1, .slice (some ⟨l2, o, none⟩) es.length c), (48, .slice (some ⟨l2, o, none⟩) es.length c), (49, .int .i64 es.length), (50, .int .i64 x.1)])
  (fun x g' n' => x.1 ≤ es.length ∧ n ≤ n' ∧ LogAt b g' l x.2 { L with evs := L.evs ++ es.take x.1 } ∧ Mvd n sl x.2 ∧ Kp (FL l sl) g n g' ∧ EvsRd g' (.slice (some ⟨l2, o, none⟩) es.length c) es) (fun x => es.length - x.1) (0, sl) ⟨rfl, rfl, rfl, rfl, rfl, trivial⟩
  ⟨by simp, by omega, by simpa using hA, Mvd.refl _ _, k1.z, hv1⟩ ?_
 rintro ⟨j, w⟩ f g2 n2 hw2 ⟨hj, hn2, hA2, hM, hK, hv2⟩
 simp only at hj hA2 hM
 have hc2 := hA2.cell
 have hll2 := hw2 _ _ hc2
 have hnw : ∀ x, vname w = some x → x < n2 := fun x hx => hA2.evs.lt hw2 hx
 repeat first | refine Na ?_ | refine Nb ?_ | refine Nc ?_ | refine Nd ?_ | refine Ne ?_
 refine w_reg 1 rfl rfl (j' := 1) (nO (s_bin rfl rfl rfl (n_nil (Nc (Na (w_if rfl (fun hb2 => ?_) (fun hb2 => ?_)))))))
 ·have hi : j < es.length := by simpa using hb2
  obtain ⟨l3, o3, c3, cl3, ro3, p3, q3, x1, _, x2, x3⟩ := hv2.at hi
  cases x1
  have y0 := x3.len
  have y1 := x3.all
  have e0 : es.take (j + 1) = es.take j ++ [es[j]] := List.take_succ_eq_append_getElem hi
  have hlen : ({ L with evs := L.evs ++ es.take j } : Log).evs.length = L.evs.length + j := by simp; omega
  obtain ⟨⟨cs, hs, hR⟩, hfrom⟩ := id hA2.evs
  repeat first | refine Na ?_ | refine Nb ?_ | refine Nc ?_ | refine Nd ?_ | refine Ne ?_
  refine w_reg 4 rfl rfl (j' := 5) (nO (s_ia rfl rfl el_65 (by first | assumption | omega) (nO (sLa rfl ag_82 sz_82 ?_))))
  refine n_op .no (q := 3) rfl (s_al zl_82 (nO (sSw rfl rfl sz_82 rfl rfl ?_)))
  refine n_nil (Nc (w_drw (T6 43 12) [(0, []), (1, []), (2, []), (3, []), (4, []), (5, [4]), (6, [4]), (7, [4]), (8, []), (9, []), (10, []), (11, [])] 12 (by kernel_rfl) rfl rfl (j' := 17) (dM rfl rfl (dM rfl rfl (dO rfl rfl (s_nil rfl ⟨⟨rfl, rfl⟩, (dO rfl rfl (s_fa0 rfl fo_166_0 ⟨⟨rfl, rfl⟩, (dT rfl rfl rfl (sL rfl ag_65 ⟨clash_nil, ?_⟩))⟩))⟩))))))
  refine dT rfl rfl rfl (sLf rfl ag_82 sz_82 ⟨clash_rd rfl, ?_⟩)
  refine d_call rfl .no rfl rfl rfl (call_rd rfl) (C.use (copied_c (BytesAt.kp0 (n := n2) x3.val (by repeat (first | exact Kp.refl _ _ _ | refine Kp.new ?_ (by omega) _)) hw2) x3.small) fun v g3 n3 hw3 hn3 hq => ?_)
  obtain ⟨c5, rfl, h5, k3⟩ := hq
  refine ⟨?_, ?_⟩
  ·exact ⟨trivial, ⟨kept1 k3 (by omega) (by repeat first | exact gS | exact hc2 | refine gN (by omega) ?_), trivial⟩, trivial⟩
  have h5' := h5
  obtain ⟨a5, p5, rfl, h6, h7⟩ := h5
  have k4 : K0 g2 n2 g3 := Kp.trans0 (by repeat (first | exact Kp.refl _ _ _ | refine Kp.new ?_ (by omega) _)) k3 (by omega)
  have hc3 : g3 l = some (logC w { L with evs := L.evs ++ es.take j }) := k4.at0 hw2 hc2
  refine d_al rfl rfl rfl .no (q := 12) rfl (s_bs el_65 ez_65 rfl rfl rfl (d_tc rfl rfl rfl .no (q := 13) rfl (s_app app65 rfl rfl (hs.kp0 (n := n2) (Kp.new k4 (by omega) _) hw2) (src_one (gs_same _ _ _) rfl) rfl (by omega) fun aw cw g4 tc wr hrow hgr => ⟨clash_nil, ?_⟩)))
  have hc4 : g4 l = some (logC w { L with evs := L.evs ++ es.take j }) := (hgr.same l (by omega) hA2.ne).trans (by repeat first | exact gS | exact hc3 | refine gN (by omega) ?_)
  refine dO rfl rfl (s_nil rfl ⟨⟨rfl, rfl⟩, (dO rfl rfl (s_fa0 rfl fo_166_0 ⟨⟨rfl, rfl⟩, (dT rfl rfl rfl (sS rfl rfl sz_65 rfl rfl ⟨clash_nil, ?_⟩))⟩))⟩)
  refine d_nil ?_
  repeat first | refine Na ?_ | refine Nb ?_ | refine Nc ?_ | refine Nd ?_ | refine Ne ?_
  repeat first | refine Na ?_ | refine Nb ?_ | refine Nc ?_ | refine Nd ?_ | refine Ne ?_
  refine w_reg 2 rfl rfl (j' := 2) (nO (s_bin rfl rfl (by first | exact bi_inc (by omega) | exact bi_add rfl (by omega) (by omega)) ?_))
  refine nM rfl (n_nil ?_)
  have hl' : vname (.slice aw (({ L with evs := L.evs ++ es.take j } : Log).evs.length + 1) cw) ≠ some l := by
   rcases hgr.name with e | e | e
   ·rw [e]; intro e; cases e
   ·rw [e]; exact hA2.ne
   ·rw [e]; intro e; cases e; omega
  have kF : Kp (FL l w) g2 n2 (gset g4 l (logC (.slice aw (({ L with evs := L.evs ++ es.take j } : Log).evs.length + 1) cw) { L with evs := L.evs ++ es.take j })) :=
   Kp.set (hgr.kp (Kp.new k4.z (by omega) _) (by omega) fun x hx => .inr fun o ho => ⟨.inr hx, hA2.evs.nbo hx ho⟩) (fun o ho => by rw [hc2] at ho; cases ho; exact ⟨.inl rfl, fun e => by cases e⟩) _
  refine z_round (j + 1, .slice aw _ cw) ⟨rfl, rfl, rfl, rfl, rfl, trivial⟩ ⟨hi, by omega, ⟨gs_same _ _ _, ?_⟩, hM.trans ((hgr.mvd (n := n2) (by omega)).up (by omega)), hK.trans kF hn2 fun x o hx hF _ => FL.step hM hx hF, hv2.kp kF hw2 (FL.nob l w) ?_⟩ (by simp only; omega)
  ·simp only
   rw [e0, ← List.append_assoc]
   refine evs_app hR hw2 kF (FL.nob l w) h5' hw3 (((hgr.low ((Kp.refl _ _ _).low (by omega) _) (by omega) fun x hx => by have := hnw x hx; omega)).low (by omega) _) (by omega) (hrow.other hl' _) fun x hx => ?_
   rcases hgr.name with e | e | e
   ·rw [e] at hx; cases hx
   ·rw [e] at hx; exact hfrom _ hx
   ·rw [e] at hx; cases hx; omega
  ·rintro x o hx ho hF
   cases hx
   obtain ⟨e | e, _⟩ := hF
   ·exact hl2 e
   ·rcases hM with e' | e'
    ·exact hne (by rw [← e', e])
    ·have := e' _ e; omega
 refine w_exit rfl ?_
 have hj2 : j = es.length := by simp at hb2; omega
 subst hj2
 rw [List.take_length] at hA2
 obtain ⟨l3, o3, c3, cl3, ro3, p3, q3, x1, _, x2, x3⟩ := hv2.at (show es.length - 1 < es.length by omega)
 cases x1
 have y0 := x3.c0'
 repeat first | refine Na ?_ | refine Nb ?_ | refine Nc ?_ | refine Nd ?_ | refine Ne ?_
 refine w_reg 11 rfl rfl (j' := 12) (nM rfl (nM rfl (nM rfl (nO (s_len rfl rfl un_65 rfl (nO (s_bin rfl rfl (by first | exact bi_dec (by omega) (by omega) | exact bi_sub rfl (by omega) (by omega)) ?_)))))))
 refine nO (s_ia rfl rfl el_65 (by first | assumption | omega) (nO (s_fa rfl fo_82_0 (nO (sL rfl ag_2 ?_)))))
 refine nN rfl (nO (s_fa0 rfl fo_166_3 (nO (sS rfl rfl sz_2 rfl rfl ?_))))
 refine n_nil ?_
 repeat first | refine Na ?_ | refine Nb ?_ | refine Nc ?_ | refine Nd ?_ | refine Ne ?_
 have hA3 : LogAt b (gset g2 l (logC w (L.put es))) l w (L.put es) := by
  refine ⟨gs_same _ _ _, hA2.evs.kp (F := fun x o => x = l ∧ nb o) (n := n2) ((Kp.refl _ _ _).cell hc2 (by decide) _) hw2 (fun x cl ro _ h => h.2 rfl) fun x o hx ho hF => hA2.ne (by rw [hx, hF.1])⟩
 have kG : Kp (FL l sl) g n (gset g2 l (logC w (L.put es))) := hK.set (fun o ho => by rw [hl] at ho; cases ho; exact ⟨.inl rfl, fun e => by cases e⟩) _
 rw [← lastRev_eq h0]
 refine w_loop (β := Value × Log) (fun x => [(0, .pointer (some ⟨l, 0, none⟩))])
  (fun x g' n' => n ≤ n' ∧ LogAt b g' l x.1 x.2 ∧ Mvd n sl x.1 ∧ Kp (FL l sl) g n g' ∧ x.2.most = L.most ∧ x.2.evs.length < 2 ^ 40 ∧ ∃ k, x.2.evs.length ≤ k ∧ Log.trim k x.2 = L.add es) (fun x => x.2.evs.length) (w, L.put es) ⟨rfl, trivial⟩
  ⟨by omega, hA3, hM, kG, rfl, by simp only [Log.put, List.length_append]; omega, _, by simp only [Log.put, List.length_append]; omega, rfl⟩ ?_
 rintro ⟨w4, L4⟩ f g4 n4 hw4 ⟨hn4, hA4, hM4, hK4, hm4, hs4, k4, hk4, ht4⟩
 simp only at hA4 hM4 hm4 hs4 hk4 ht4
 have hc4 := hA4.cell
 have hll4 := hw4 _ _ hc4
 obtain ⟨a4, c4, rfl⟩ := hA4.evs.lenE
 repeat first | refine Na ?_ | refine Nb ?_ | refine Nc ?_ | refine Nd ?_ | refine Ne ?_
 refine w_drw (T6 43 15) [(0, []), (1, []), (2, []), (3, []), (4, []), (5, [3, 4]), (6, [3, 4]), (7, [3, 4]), (8, [3, 4]), (9, [])] 10 (by kernel_rfl) rfl rfl (j' := 10) (dM rfl rfl (dO rfl rfl (s_nil rfl ⟨⟨rfl, rfl⟩, (dO rfl rfl (s_fa0 rfl fo_166_0 ⟨⟨rfl, rfl⟩, (dT rfl rfl rfl (sL rfl ag_65 ⟨clash_nil, ?_⟩))⟩))⟩)))
 refine dT rfl rfl rfl (s_len rfl rfl un_65 rfl ⟨clash_nil, (dM rfl rfl (dO rfl rfl (s_nil rfl ⟨⟨rfl, rfl⟩, (dO rfl rfl (s_fa0 rfl fo_166_1 ⟨⟨rfl, rfl⟩, (dT rfl rfl rfl (sL rfl ag_3 ⟨clash_rd rfl, ?_⟩))⟩))⟩)))⟩)
 refine dO rfl rfl (s_bin rfl rfl rfl ⟨⟨rfl, rfl⟩, (d_nil (Nc (w_if rfl (fun hb4 => ?_) (fun hb4 => ?_))))⟩)
 ·have hlt : L4.most < L4.evs.length := by simpa using hb4
  have hpos : 0 < L4.evs.length := by omega
  obtain ⟨l5, o5, c5, cl5, ro5, p5, q5, x1, _, x2, x3⟩ := hA4.evs.rd.at0 hpos
  cases x1
  have y0 := x3.c0'
  repeat first | refine Na ?_ | refine Nb ?_ | refine Nc ?_ | refine Nd ?_ | refine Ne ?_
  repeat first | refine Na ?_ | refine Nb ?_ | refine Nc ?_ | refine Nd ?_ | refine Ne ?_
  refine w_reg 9 rfl rfl (j' := 19) (nM rfl (nM rfl (nN rfl (nO (s_fa0 rfl fo_166_0 (nO (sL rfl ag_65 ?_)))))))
  refine nO (s_ia0 rfl rfl el_65 (by first | assumption | omega) (nO (s_fa rfl fo_82_0 (nO (sL rfl ag_2 ?_)))))
  refine n_call .no rfl rfl rfl (C.use (log_cut (LogAt.kp0 hA4 (n := n4) (by repeat (first | exact Kp.refl _ _ _ | refine Kp.new ?_ (by omega) _)) hw4) (by omega)) fun v g6 n6 hw6 hn6 hq => ?_)
  obtain ⟨w6, hA6, hv6, k6⟩ := hq
  refine n_nil ?_
  obtain ⟨e, r, he⟩ : ∃ e r, L4.evs = e :: r := by
   cases h : L4.evs with
   | nil => rw [h] at hpos; cases hpos
   | cons e r => exact ⟨e, r, rfl⟩
  have her : L4.evs[0].rev = e.rev := by simp only [he, List.getElem_cons_zero]
  obtain ⟨k', t1, t2, t3⟩ := Log.trim_step he hk4 hlt
  rw [her] at hA6
  repeat first | refine Na ?_ | refine Nb ?_ | refine Nc ?_ | refine Nd ?_ | refine Ne ?_
  refine z_round (w6, L4.cut e.rev) ⟨rfl, trivial⟩ ⟨by omega, hA6, hM4.trans (.inl hv6), hK4.trans (n' := n4) (fun x o hx ho hF => k6 x o (by omega) ho hF) hn4 fun x o hx hF _ => FL.step hM4 hx hF, hm4, by simp only; omega, k', t2, by rw [← t1]; exact ht4⟩ t3
 ·refine w_exit rfl ?_
  repeat first | refine Na ?_ | refine Nb ?_ | refine Nc ?_ | refine Nd ?_ | refine Ne ?_
  refine w_reg 1 rfl rfl (j' := 11) (nA rfl (n_nil (Nc (Nf (z_r1 rfl rfl ?_)))))
  rw [Log.trim_done (by simpa using hb4)] at ht4
  rw [← ht4]
  exact ⟨rfl, _, hA4, hM4, hK4⟩
end

end Go.Proofs.YtehmailaabjdjaaGreat
end
