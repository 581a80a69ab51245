/-
  package log: slices.DeleteFunc, Cut, by contract. No condition.
-/
import Derived.Test.YtehmailaabjdjaaGreatLg
open Go.Proofs
namespace Go.Proofs.YtehmailaabjdjaaGreat
set_option linter.unusedSimpArgs false
set_option linter.unusedVariables false
set_option maxRecDepth 100000

theorem Rows.set {α : Type} {k : Nat} {R : List Value → α → Prop} : ∀ {xs : List α} {cs : List Value} {i : Nat} {c : List Value} {x : α}, Rows k R cs xs → i < xs.length → c.length = k → R c x → Rows k R (splice cs (i * k) c) (xs.set i x)
  | [], _, _, _, _, _, hi, _, _ => by simp at hi
  | y :: xs, cs, 0, c, x, h, _, hc, hx => by
    obtain ⟨b, d, rfl, h1, h2, h3⟩ := h
    refine ⟨c, d, ?_, hc, hx, h3⟩
    simp only [splice, Nat.zero_mul, List.take_zero, List.nil_append, Nat.zero_add]
    rw [List.drop_left' (by omega)]
  | y :: xs, cs, i + 1, c, x, h, hi, hc, hx => by
    obtain ⟨b, d, rfl, h1, h2, h3⟩ := h
    refine ⟨b, splice d (i * k) c, ?_, h1, h2, Rows.set h3 (by simpa using hi) hc hx⟩
    have e : (i + 1) * k = b.length + i * k := by rw [Nat.add_mul, h1]; omega
    simp only [splice]
    rw [e, List.take_length_add_append, Nat.add_assoc, List.drop_length_add_append, List.append_assoc, List.append_assoc, List.append_assoc]

theorem idxI_none {p : Evt → Bool} : ∀ {es : List Evt} {k : Nat}, idxI p es k = -1 → ∀ e ∈ es, p e = false
  | [], _, _, e, he => by cases he
  | x :: es, k, h, e, he => by
    simp only [idxI] at h
    split at h
    · omega
    · rename_i hx
      rcases List.mem_cons.1 he with rfl | he
      · simpa using hx
      · exact idxI_none h e he
theorem idxI_some {p : Evt → Bool} : ∀ {es : List Evt} {k : Nat}, idxI p es k ≠ -1 → ∃ i, i < es.length ∧ idxI p es k = ((k + i : Nat) : Int) ∧ (∀ e ∈ es.take i, p e = false) ∧ ∃ e, es.drop i = e :: es.drop (i + 1) ∧ p e = true
  | [], _, h => absurd rfl h
  | x :: es, k, h => by
    simp only [idxI] at h ⊢
    split
    · rename_i hx
      exact ⟨0, by simp, by simp, by simp, x, by simp, hx⟩
    · rename_i hx
      rw [if_neg hx] at h
      obtain ⟨i, h1, h2, h3, e, h4, h5⟩ := idxI_some h
      refine ⟨i + 1, by simpa using h1, by rw [h2]; congr 1; omega, ?_, e, by simpa using h4, h5⟩
      intro y hy
      rw [List.take_succ_cons] at hy
      rcases List.mem_cons.1 hy with rfl | hy
      · simpa using hx
      · exact h3 y hy

/-- A row's elements, some of which have been moved to the front. -/
structure DelB where
  i : Nat
  j : Nat
  cl : List Value
  zs : List Evt

structure DelH (b : Nat) (g : Gm) (n l o cnt Lc : Nat) (es : List Evt) (p : Evt → Bool) (β : DelB) (g' : Gm) (n' : Nat) : Prop where
  keep : Kp (fun x o => some l = some x ∧ nb o) g n g'
  nn : n ≤ n'
  cell : g' l = some (.cells β.cl 4 false)
  len : β.cl.length = Lc
  rows : Rows 4 (EvC (BytesNew b g')) ((β.cl.drop o).take (cnt * 4)) β.zs
  lt : β.i < β.j
  le : β.j ≤ cnt
  zlen : β.zs.length = cnt
  front : β.zs.take β.i = (es.take β.j).filter p
  back : β.zs.drop β.j = es.drop β.j

section
variable {b : Nat} {g g1 g2 : Gm} {n n1 n2 l o cnt Lc : Nat} {es : List Evt} {p : Evt → Bool} {β : DelB}

theorem DelH.at (h : DelH b g n l o cnt Lc es p β g1 n1) (hj : β.j < cnt) (hn : es.length = cnt) (hL : o + cnt * 4 ≤ Lc) : ∃ e a q, es.drop β.j = e :: es.drop (β.j + 1) ∧ EvAt g1 (BytesNew b g1) e l (o + β.j * 4) β.cl a q := by
  have hz : β.j < β.zs.length := by rw [h.zlen]; exact hj
  have h1 := h.rows.get hz
  have e1 := List.drop_eq_getElem_cons hz
  have e2 := List.drop_eq_getElem_cons (show β.j < es.length by omega)
  have e3 := h.back
  rw [e1, e2] at e3
  obtain ⟨e4, e5⟩ := List.cons.inj e3
  have hl := h.len
  rw [← take_part rfl (show β.j * 4 + 4 ≤ cnt * 4 by omega)] at h1
  obtain ⟨a, q, h7⟩ := evAt_of (g := g1) (l := l) (by omega) h1
  exact ⟨β.zs[β.j], a, q, by rw [e2, ← e4], h7⟩

theorem DelH.skip (h : DelH b g n l o cnt Lc es p β g1 n1) (hw : WF g1 n1) (hk : K0 g1 n1 g2) (hn : n1 ≤ n2) (hj : β.j < cnt) {e : Evt} (he : es.drop β.j = e :: es.drop (β.j + 1)) (hp : p e = false) :
    DelH b g n l o cnt Lc es p ⟨β.i, β.j + 1, β.cl, β.zs⟩ g2 n2 := by
  have h1 := h.nn
  refine ⟨h.keep.trans0 hk h1, by omega, hk.at0 hw h.cell, h.len, h.rows.mono fun c x _ hx => hx.mono fun _ _ k => k.kp0 hk hw, by have := h.lt; simp only; omega, hj, h.zlen, ?_, ?_⟩
  · simp only
    rw [h.front, List.take_add, he, List.filter_append]
    simp [hp]
  · simp only
    rw [← List.drop_drop, h.back, List.drop_drop]

theorem DelH.move (h : DelH b g n l o cnt Lc es p β g1 n1) (hw : WF g1 n1) (hk : K0 g1 n1 g2) (hw2 : WF g2 n2) (hn : n1 ≤ n2) (hj : β.j < cnt) {e : Evt} {a : Option Addr} {q : Nat} (he : es.drop β.j = e :: es.drop (β.j + 1)) (hp : p e = true)
    (hu : EvAt g1 (BytesNew b g1) e l (o + β.j * 4) β.cl a q) (hL : o + cnt * 4 ≤ Lc) :
    DelH b g n l o cnt Lc es p ⟨β.i + 1, β.j + 1, splice β.cl (o + β.i * 4) (evtC e (.slice a e.val.length q)), β.zs.set β.i e⟩ (gset g2 l (.cells (splice β.cl (o + β.i * 4) (evtC e (.slice a e.val.length q))) 4 false)) n2 := by
  have hlt := h.lt
  have hlen := h.len
  have hnn := h.nn
  have hcell := hk.at0 hw h.cell
  have hk2 : Kp (fun x o => some l = some x ∧ nb o) g2 n2 (gset g2 l (.cells (splice β.cl (o + β.i * 4) (evtC e (.slice a e.val.length q))) 4 false)) :=
    (Kp.refl _ _ _).set (fun o ho => ⟨rfl, by rw [hcell] at ho; cases ho; intro h; cases h⟩) _
  have hNB : NoB (fun x o => some l = some x ∧ nb o) := fun x cl ro h => h.2 rfl
  have e4 : (evtC e (.slice a e.val.length q)).length = 4 := rfl
  refine ⟨(h.keep.trans0 hk hnn).trans hk2 (by omega) fun _ _ _ h _ => h, by omega, gs_same _ _ _, ?_, ?_, by simp only; omega, hj, by simp only [List.length_set]; exact h.zlen, ?_, ?_⟩
  · simp only; rw [splice_length (by rw [e4]; omega)]; exact hlen
  · simp only
    rw [splice_in (by omega) (by rw [e4]; omega)]
    refine Rows.set (h.rows.mono fun c x _ hx => hx.mono fun _ _ k => (k.kp0 hk hw).kp hk2 hw2 hNB) (by rw [h.zlen]; omega) e4 ⟨a, q, rfl, (hu.val.kp0 hk hw).kp hk2 hw2 hNB, hu.small⟩
  · simp only
    have hz : β.i < β.zs.length := by rw [h.zlen]; omega
    have e5 : (es.take (β.j + 1)).filter p = (es.take β.j).filter p ++ [e] := by
      rw [List.take_add, he, List.filter_append]
      simp [hp]
    rw [e5, ← h.front, List.take_succ_eq_append_getElem (by simpa using hz), List.getElem_set_self, List.take_set_of_le (Nat.le_refl _)]
  · simp only
    rw [List.drop_set_of_lt (by omega), ← List.drop_drop, h.back, List.drop_drop]
end

/-- clear(v[j:]) : cells behind the first ones. -/
theorem s_clr {N : Nat} {f : Nat → Value} {s : Sls} {g : Gm} {n nm : Nat} {k : Sls → Gm → List Nat → List Nat → Prop} {ty : TypeId} {pos : String} {af : Array Edge} {gd : Option (Nat × Bool)} {t e z l o m c : Nat} {x : Operand} {zv : Value} {cl : List Value}
    (ht : E6.P.underlying t = some (.slice e)) (hz : szO E6.P e = some z) (hzv : zeroP E6.P e = some zv) (hzc : zv.cells.size = z) (hz1 : plainL oneCell zv.cells.toList = true) (hz2 : plainL plainV zv.cells.toList = true)
    (hx : ov N s x = some (.slice (some ⟨l, o, none⟩) m c)) (hm : 0 < m) (hg : g l = some (.cells cl z false)) (hl : o + m * z ≤ cl.length)
    (hk : ∀ zz : List Value, zz.length = m * z → ∀ tc wr, k s (gset g l (.cells (splice cl o zz) z false)) tc wr) : ST N f s g n nm ⟨none, .call ⟨.builtin .clear, #[x], #[t]⟩, ty, pos, af, gd⟩ k := by
  refine ⟨⟨[l], fun _ objs => match objs with
          | [.cells c sz false] => if o + m * z ≤ c.length then some ⟨.tuple #[], some (l, some (.cells (splice c o (Builtin.zeroCells zv.cells m).toList) sz false)), none⟩ else none
          | _ => none⟩, ⟨.tuple #[], some (l, some (.cells (splice cl o (Builtin.zeroCells zv.cells m).toList) z false)), none⟩, ?_, ?_, ?_, _, _, Fr_put0 _ _ _ _, rfl, hk _ ?_ _ _⟩
  · simp only [aop, aCall, List.toList_toArray, evList, ov_ok hx, Option.bind_some, Option.map_some, aBuiltin, aClear, ht, hz, hzv, if_neg (show ¬ m = 0 by omega)]
    rw [if_pos (by simp [hzc, hz1, hz2])]
    rfl
  · simp only [Prim.run, getAll, hg, Option.bind_some, Option.map_some, if_pos hl]
  · simp [wrOk]
  · rw [Array.length_toList, zeroCells_size, hzc]

theorem splice_front {cl src : List Value} {o m : Nat} (h : o + m ≤ cl.length) : ((splice cl (o + m) src).drop o).take m = (cl.drop o).take m := by
  unfold splice
  rw [List.append_assoc, List.take_add, List.append_assoc, List.drop_left' (by rw [List.length_take]; omega), List.take_left' (by rw [List.length_take, List.length_drop]; omega)]

theorem delF_c {b : Nat} {g : Gm} {n : Nat} {sl : Value} {es : List Evt} {r : Nat} {rev : Int} (h : EvsOwn b g sl es) (hr : g r = some (.cells [.int .i64 rev] 0 false)) (hn : es.length ≤ 2 ^ 40) :
    C 90 #[sl, .func (.func 91) #[] #[.pointer (some ⟨r, 0, none⟩)]] g n fun u g' n' => EvsOwn b g' u (es.filter fun e => decide (rev < e.rev)) ∧ vname u = vname sl ∧ Kp (FV sl) g n g' := by
  have hne := h.nv hr (by decide)
  refine c_in2 Tryz.func90 rfl Tryz.ntmps90 rfl fun hw => ?_
  have hlr := hw _ _ hr
  repeat (first | refine w_seq ?_ | refine w_blk ?_ | refine z_seq ?_ | refine z_blk ?_ | refine w_skip ?_)
  refine w_reg 1 rfl rfl (j' := 1) ?_
  refine n_op .no (q := 0) rfl (s_as rfl ?_)
  refine n_nil ?_
  repeat (first | refine w_seq ?_ | refine w_blk ?_ | refine z_seq ?_ | refine z_blk ?_ | refine w_skip ?_)
  refine w_reg 4 rfl rfl (j' := 5) ?_
  refine n_op .no (q := 1) rfl (s_mv rfl ?_)
  refine n_op .no (q := 2) rfl (s_mv rfl ?_)
  refine n_call .no rfl rfl rfl ?_
  refine C.use (idxF_c (rev := rev) (EvsRd.kp0 h.rd (by repeat (first | exact Kp.refl _ _ _ | refine Kp.new ?_ (by omega) _)) hw) (by repeat (first | exact gs_same _ _ _ | exact hr | refine (gs_ne (by omega) _).trans ?_)) hn) fun v g1 n1 hw1 hn1 hq => ?_
  obtain ⟨rfl, k1⟩ := hq
  refine n_op .no (q := 4) rfl (s_as rfl ?_)
  refine n_nil ?_
  repeat (first | refine w_seq ?_ | refine w_blk ?_ | refine z_seq ?_ | refine z_blk ?_ | refine w_skip ?_)
  refine w_reg 2 rfl rfl (j' := 2) ?_
  refine n_op .no (q := 0) rfl (s_mv rfl ?_)
  refine n_op .no (q := 1) rfl (s_bin rfl rfl rfl ?_)
  refine n_nil ?_
  by_cases hi : idxI (fun e => decide (e.rev ≤ rev)) es 0 = -1
  · repeat (first | refine w_seq ?_ | refine w_blk ?_ | refine z_seq ?_ | refine z_blk ?_ | refine w_skip ?_)
    refine w_yes rfl (by rw [hi]; rfl) ?_
    repeat (first | refine w_seq ?_ | refine w_blk ?_ | refine z_seq ?_ | refine z_blk ?_ | refine w_skip ?_)
    refine w_reg 2 rfl rfl (j' := 4) ?_
    refine n_op .no (q := 2) rfl (s_mv rfl ?_)
    refine n_op .no (q := 3) rfl (s_as rfl ?_)
    refine n_nil ?_
    repeat (first | refine w_ret ?_ | refine w_seq ?_ | refine w_blk ?_ | refine z_seq ?_ | refine z_blk ?_ | refine w_skip ?_)
    refine z_r1 rfl rfl ?_
    have e : (es.filter fun e => decide (rev < e.rev)) = es := List.filter_eq_self.2 fun x hx => by
      have := idxI_none hi x hx
      simp only [decide_eq_false_iff_not, decide_eq_true_eq] at this ⊢
      omega
    rw [e]
    exact ⟨h.kp0 (n := n) (fun x o hx ho _ => k1.lt (by omega) ho) hw, rfl, fun x o hx ho _ => k1.lt (by omega) ho⟩
  · repeat (first | refine w_seq ?_ | refine w_blk ?_ | refine z_seq ?_ | refine z_blk ?_ | refine w_skip ?_)
    refine w_no rfl (beq_eq_false_iff_ne.2 hi) ?_
    have k1' : K0 g n g1 := fun x o hx ho _ => k1.lt (by omega) ho
    obtain ⟨i, hi1, hi2, hi3, e, hi4, hi5⟩ := idxI_some hi
    rw [hi2, Nat.zero_add]
    have h1 := h.kp0 k1' hw
    obtain ⟨⟨cs, hs, hR⟩, hfrom⟩ := id h1
    obtain ⟨l, o, c, cl, rfl, hcc, e2, e3, e4, e5, e6⟩ := hs.at hi1
    have hL : o + es.length * 4 ≤ cl.length := by omega
    repeat (first | refine w_seq ?_ | refine w_blk ?_ | refine z_seq ?_ | refine z_blk ?_ | refine w_skip ?_)
    refine w_reg 3 rfl rfl (j' := 5) ?_
    refine n_op .no (q := 2) rfl (s_mv rfl ?_)
    first | refine n_op .no (q := 3) rfl (s_bin rfl rfl (bi_inc (by omega)) ?_) | refine n_op .no (q := 3) rfl (s_bin rfl rfl (bi_add rfl (by omega) (by omega)) ?_)
    refine n_op .no (q := 4) rfl (s_as rfl ?_)
    refine n_nil ?_
    have h00 : DelH b g n l o es.length cl.length es (fun e => decide (rev < e.rev)) ⟨i, i + 1, cl, es⟩ g1 (n1 + 5) := by
      refine ⟨k1'.z, by omega, e2, rfl, by rw [e6]; exact hR, by simp only; omega, hi1, rfl, ?_, rfl⟩
      simp only
      rw [List.take_add, hi4, List.filter_append, List.filter_eq_self.2]
      · simp only [decide_eq_true_eq] at hi5
        simp [Int.not_lt.2 hi5]
      · intro x hx
        have := hi3 x hx
        simp only [decide_eq_false_iff_not, decide_eq_true_eq] at this ⊢
        omega
    repeat (first | refine w_seq ?_ | refine w_blk ?_ | refine z_seq ?_ | refine z_blk ?_ | refine w_skip ?_)
    refine w_loop (β := DelB) (fun β => [(0, .slice (some ⟨l, o, none⟩) es.length c), (1, .func (.func 91) #[] #[.pointer (some ⟨r, 0, none⟩)]), (5, .int .i64 β.i), (6, .int .i64 β.j)])
      (fun β g' n' => DelH b g n l o es.length cl.length es (fun e => decide (rev < e.rev)) β g' n') (fun β => es.length - β.j) ⟨i, i + 1, cl, es⟩ ⟨rfl, rfl, rfl, rfl, trivial⟩ h00 ?_
    rintro β f g4 n4 hw4 H
    have hnn := H.nn
    have hcell := H.cell
    have hlt := H.lt
    have hle := H.le
    have hlen := H.len
    have hll := hw4 _ _ hcell
    have hr4 : g4 r = some (.cells [.int .i64 rev] 0 false) := H.keep.at hw hr (by rintro ⟨e, _⟩; cases e; exact hne rfl)
    repeat (first | refine w_seq ?_ | refine w_blk ?_ | refine z_seq ?_ | refine z_blk ?_ | refine w_skip ?_)
    refine w_reg 4 rfl rfl (j' := 4) ?_
    refine n_op .no (q := 0) rfl (s_mv rfl ?_)
    refine n_op .no (q := 1) rfl (s_mv rfl ?_)
    refine n_op .no (q := 2) rfl (s_len rfl rfl un_65 rfl ?_)
    refine n_op .no (q := 3) rfl (s_bin rfl rfl rfl ?_)
    refine n_nil ?_
    repeat (first | refine w_seq ?_ | refine w_blk ?_ | refine z_seq ?_ | refine z_blk ?_ | refine w_skip ?_)
    refine w_if rfl (fun hb => ?_) (fun hb => ?_)
    · have hj : β.j < es.length := by simpa using hb
      obtain ⟨e', a, q, q1, q2⟩ := H.at hj rfl hL
      have c0 := q2.len
      have c1 := q2.all
      repeat (first | refine w_seq ?_ | refine w_blk ?_ | refine z_seq ?_ | refine z_blk ?_ | refine w_skip ?_)
      repeat (first | refine w_seq ?_ | refine w_blk ?_ | refine z_seq ?_ | refine z_blk ?_ | refine w_skip ?_)
      refine w_reg 6 rfl rfl (j' := 10) ?_
      refine n_op .no (q := 4) rfl (s_mv rfl ?_)
      refine n_op .no (q := 5) rfl (s_mv rfl ?_)
      refine n_op .no (q := 6) rfl (s_ia rfl rfl el_65 (by first | assumption | omega) ?_)
      refine n_op .no (q := 7) rfl (s_lda rfl (by repeat (first | exact gs_same _ _ _ | exact hcell | exact c1 | refine (gs_ne (by omega) _).trans ?_)) ag_82 sz_82 (by first | exact Nat.le_of_ble_eq_true rfl | assumption | omega) (by first | exact hcell | exact c1 | exact rfl) ?_)
      refine n_op .no (q := 8) rfl (s_al zl_82 ?_)
      refine n_op .no (q := 9) rfl (s_stw rfl rfl sz_82 rfl (by repeat (first | exact gs_same _ _ _ | exact hcell | exact c1 | refine (gs_ne (by omega) _).trans ?_)) (by exact rfl) rfl ?_)
      refine n_nil ?_
      repeat (first | refine w_seq ?_ | refine w_blk ?_ | refine z_seq ?_ | refine z_blk ?_ | refine w_skip ?_)
      refine w_reg 4 rfl rfl (j' := 14) ?_
      refine n_op .no (q := 10) rfl (s_mv rfl ?_)
      refine n_op .no (q := 11) rfl (s_ldf rfl (by repeat (first | exact gs_same _ _ _ | refine (gs_ne (by omega) _).trans ?_)) ag_82 sz_82 (by exact rfl) ?_)
      refine n_callv .no rfl rfl rfl rfl rfl rfl ?_
      refine C.use (cut1_c (e := e') (rev := rev) (r := r) (by repeat (first | exact gs_same _ _ _ | exact hr4 | refine (gs_ne (by omega) _).trans ?_))) fun v g5 n5 hw5 hn5 hq => ?_
      obtain ⟨rfl, k5⟩ := hq
      refine n_op .no (q := 13) rfl (s_not rfl ?_)
      refine n_nil ?_
      have k6 : K0 g4 n4 g5 := Kp.trans0 (by repeat (first | exact Kp.refl _ _ _ | refine Kp.new ?_ (by omega) _)) k5 (by omega)
      by_cases hle2 : e'.rev ≤ rev
      · repeat (first | refine w_seq ?_ | refine w_blk ?_ | refine z_seq ?_ | refine z_blk ?_ | refine w_skip ?_)
        refine w_no rfl (by simp [hle2]) ?_
        repeat (first | refine w_seq ?_ | refine w_blk ?_ | refine z_seq ?_ | refine z_blk ?_ | refine w_skip ?_)
        repeat (first | refine w_seq ?_ | refine w_blk ?_ | refine z_seq ?_ | refine z_blk ?_ | refine w_skip ?_)
        refine w_reg 3 rfl rfl (j' := 3) ?_
        refine n_op .no (q := 0) rfl (s_mv rfl ?_)
        first | refine n_op .no (q := 1) rfl (s_bin rfl rfl (bi_inc (by omega)) ?_) | refine n_op .no (q := 1) rfl (s_bin rfl rfl (bi_add rfl (by omega) (by omega)) ?_)
        refine n_op .no (q := 2) rfl (s_as rfl ?_)
        refine n_nil ?_
        refine z_round ⟨β.i, β.j + 1, β.cl, β.zs⟩ ⟨rfl, rfl, rfl, rfl, trivial⟩ (H.skip hw4 k6 (by omega) hj q1 (by simp; omega)) (by simp only; omega)
      · repeat (first | refine w_seq ?_ | refine w_blk ?_ | refine z_seq ?_ | refine z_blk ?_ | refine w_skip ?_)
        refine w_yes rfl (by simp [hle2]) ?_
        repeat (first | refine w_seq ?_ | refine w_blk ?_ | refine z_seq ?_ | refine z_blk ?_ | refine w_skip ?_)
        refine w_reg 5 rfl rfl (j' := 5) ?_
        refine n_op .no (q := 0) rfl (s_mv rfl ?_)
        refine n_op .no (q := 1) rfl (s_mv rfl ?_)
        refine n_op .no (q := 2) rfl (s_ldf rfl (by repeat (first | exact gs_same _ _ _ | refine Kp.lt k5 (by omega) ?_ | exact hcell | refine (gs_ne (by omega) _).trans ?_)) ag_82 sz_82 (by exact rfl) ?_)
        refine n_op .no (q := 3) rfl (s_ia rfl rfl el_65 (by first | assumption | omega) ?_)
        refine n_op .no (q := 4) rfl (s_sta rfl rfl sz_82 rfl (by repeat (first | exact gs_same _ _ _ | refine Kp.lt k5 (by omega) ?_ | exact hcell | refine (gs_ne (by omega) _).trans ?_)) (by first | assumption | omega) rfl ?_)
        refine n_nil ?_
        repeat (first | refine w_seq ?_ | refine w_blk ?_ | refine z_seq ?_ | refine z_blk ?_ | refine w_skip ?_)
        refine w_reg 3 rfl rfl (j' := 8) ?_
        refine n_op .no (q := 5) rfl (s_mv rfl ?_)
        first | refine n_op .no (q := 6) rfl (s_bin rfl rfl (bi_inc (by omega)) ?_) | refine n_op .no (q := 6) rfl (s_bin rfl rfl (bi_add rfl (by omega) (by omega)) ?_)
        refine n_op .no (q := 7) rfl (s_as rfl ?_)
        refine n_nil ?_
        repeat (first | refine w_seq ?_ | refine w_blk ?_ | refine z_seq ?_ | refine z_blk ?_ | refine w_skip ?_)
        refine w_reg 3 rfl rfl (j' := 11) ?_
        refine n_op .no (q := 8) rfl (s_mv rfl ?_)
        first | refine n_op .no (q := 9) rfl (s_bin rfl rfl (bi_inc (by omega)) ?_) | refine n_op .no (q := 9) rfl (s_bin rfl rfl (bi_add rfl (by omega) (by omega)) ?_)
        refine n_op .no (q := 10) rfl (s_as rfl ?_)
        refine n_nil ?_
        refine z_round ⟨β.i + 1, β.j + 1, splice β.cl (o + β.i * 4) (evtC e' (.slice a e'.val.length q)), β.zs.set β.i e'⟩ ⟨rfl, rfl, rfl, rfl, trivial⟩ ?_ (by simp only; omega)
        exact H.move hw4 k6 (fun x o h => by have := hw5 x o h; omega) (by omega) hj q1 (by simp; omega) q2 hL
    · refine w_exit rfl ?_
      have hje : β.j = es.length := by simp at hb; omega
      have hil : β.i ≤ es.length := by omega
      repeat (first | refine w_seq ?_ | refine w_blk ?_ | refine z_seq ?_ | refine z_blk ?_ | refine w_skip ?_)
      refine w_reg 4 rfl rfl (j' := 8) ?_
      refine n_op .no (q := 4) rfl (s_mv rfl ?_)
      refine n_op .no (q := 5) rfl (s_mv rfl ?_)
      refine n_op .no (q := 6) rfl (s_sll (j := β.i) un_65 sz_82 rfl rfl hil hcc hcell fun tc => ?_)
      refine n_op .no (q := 7) rfl (s_clr (m := es.length - β.i) (o := o + β.i * 4) (cl := β.cl) un_65 sz_82 zp_82 rfl rfl rfl rfl (by omega) hcell (by omega) fun zz hzz tc wr => ?_)
      refine n_nil ?_
      repeat (first | refine w_seq ?_ | refine w_blk ?_ | refine z_seq ?_ | refine z_blk ?_ | refine w_skip ?_)
      refine w_reg 4 rfl rfl (j' := 12) ?_
      refine n_op .no (q := 8) rfl (s_mv rfl ?_)
      refine n_op .no (q := 9) rfl (s_mv rfl ?_)
      refine n_op .no (q := 10) rfl (s_slh (j := β.i) un_65 sz_82 rfl rfl (by omega) ?_)
      refine n_op .no (q := 11) rfl (s_as rfl ?_)
      refine n_nil ?_
      repeat (first | refine w_ret ?_ | refine w_seq ?_ | refine w_blk ?_ | refine z_seq ?_ | refine z_blk ?_ | refine w_skip ?_)
      refine z_r1 rfl rfl ?_
      have hk3 : Kp (fun x o => some l = some x ∧ nb o) g4 n4 (gset g4 l (.cells (splice β.cl (o + β.i * 4) zz) 4 false)) :=
        (Kp.refl _ _ _).set (fun o ho => ⟨rfl, by rw [hcell] at ho; cases ho; intro h; cases h⟩) _
      have hNB : NoB (fun x o => some l = some x ∧ nb o) := fun x cl ro h => h.2 rfl
      have hf : (es.filter fun e => decide (rev < e.rev)) = β.zs.take β.i := by rw [H.front, hje, List.take_length]
      have hflen : (β.zs.take β.i).length = β.i := by rw [List.length_take, H.zlen]; omega
      have hsl : (splice β.cl (o + β.i * 4) zz).length = β.cl.length := splice_length (by omega)
      refine ⟨⟨⟨(β.cl.drop o).take (β.i * 4), ⟨?_, .inr ⟨l, o, c, _, by rw [hf, hflen], by rw [hf, hflen]; omega, gs_same _ _ _, by rw [hsl, hlen]; exact e4, ?_⟩⟩, ?_⟩, hfrom⟩, rfl, H.keep.trans hk3 hnn fun _ _ _ h _ => h⟩
      · rw [hf, hflen, List.length_take, List.length_drop]; omega
      · rw [hf, hflen]; exact splice_front (by omega)
      · have := H.rows.take β.i
        rw [List.take_take, Nat.min_eq_left (by omega)] at this
        rw [hf]
        exact this.mono fun c x _ hx => hx.mono fun _ _ k => k.kp hk3 hw4 hNB

end Go.Proofs.YtehmailaabjdjaaGreat
