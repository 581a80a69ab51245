/-
  What the laws of the store need more: strings that are joined, rows of rows of bytes, a store whose names are new. No condition. / call.cut, by contract, for the store's laws. No condition. / Two stores beside each other: what one does leaves the other. No condition. / Appending to nothing, parts of slices, by rule, with what is known of what they touch. No condition. / A STORE'S ENTRIES BY RISING KEYS, and what events make of them: the plain law of lists and maps. No condition. / Rows of entries; the references' EqEntry, EqEntries, by contract. No condition. / Small rules and laws that several laws of stores need. No condition.
-/
import Derived.Test.YtehmailaabjdjaaGreatStoX
import Derived.Test.YtehmailaabjdjaaGreatWkC
section
open Go.Proofs
namespace Go.Proofs.YtehmailaabjdjaaGreat
set_option linter.unusedSimpArgs false
set_option linter.unusedVariables false
set_option maxRecDepth 100000

theorem str_app (a b : Bs) : str a ++ str b = str (a ++ b) := by
 apply ByteArray.ext
 simp [str]
theorem bi_cat {P : Program} {t : TypeId} {a b : Bs} (h : a.length + b.length ≤ 9223372036854775807) : binS P .add t (.string (str a)) (.string (str b)) = some (.string (str (a ++ b))) := by
 show (if (((str a).size + (str b).size : Nat) : Int) > IntKind.i64.max then none else some (Value.string (str a ++ str b))) = _
 rw [str_size, str_size, if_neg (by show ¬ ((a.length + b.length : Nat) : Int) > 9223372036854775807; omega), str_app]

def BssRd (g : Gm) (v : Value) (xs : List Bs) : Prop := ∃ cs, SlC g 1 v xs.length cs ∧ Rows 1 (fun c x => ∃ w, c = [w] ∧ BytesAt g w x) cs xs
section
variable {F : Nat → AObj → Prop} {g g' : Gm} {n : Nat} {v : Value} {xs : List Bs}
end

theorem st_newB (g : Gm) (n : Nat) : C 24 #[] g n fun u g' n' => ∃ s m1 m2 l, u = .pointer (some ⟨s, 0, none⟩) ∧ StAt n g' s m1 m2 l (.slice none 0 0) Sto.new ∧ (n ≤ s ∧ n ≤ m1 ∧ n ≤ m2 ∧ n ≤ l) ∧ K0 g n g' := by
 refine c_in0 Tryz.func24 rfl Tryz.ntmps24 fun hw => (Na (w_reg 1 rfl rfl (j' := 1) (nA rfl (n_nil (Nc (Na (w_reg 6 rfl rfl (j' := 7) (n_op .no (q := 1) rfl (s_mm (n_op .no (q := 2) rfl (s_mm (n_call .no rfl rfl rfl (C.use (log_new _ _ 64) fun v g2 n2 hw2 hn2 hq => ?_)))))))))))))
 obtain ⟨l, rfl, hl, hA, k2⟩ := hq
 refine nO (s_bld pl_127 zl_127 rfl rfl rfl (n_op .no (q := 5) rfl (s_boxa rfl (nA rfl (n_nil (Nc (Nf (z_r1 rfl rfl ?_))))))))
 refine ⟨_, n + 1, n + 2, l, rfl, ⟨gs_same _ _ _, ⟨[], 0, ?_, MapKept.stamped_empty 0, trivial⟩, ⟨[], 0, ?_, MapKept.stamped_empty 0, trivial⟩, ?_, by omega⟩, ⟨by omega, by omega, by omega, by omega⟩, ?_⟩
 ·exact (gs_ne (by omega) _).trans (k2.lt (by omega) ((gs_ne (by omega) _).trans (gs_same _ _ _)))
 ·exact (gs_ne (by omega) _).trans (k2.lt (by omega) (gs_same _ _ _))
 ·exact (hA.kp (n := n2) (F := fun x _ => x < n + 7) (by repeat (first | exact Kp.refl _ _ _ | refine Kp.low ?_ (by omega) _ | refine Kp.new ?_ (by omega) _)) hw2 (fun x _ _ h => by omega) (fun o h => by omega) (fun x o hx => by cases hx)).up (by omega)
 ·exact Kp.new (Kp.trans0 (n' := n) (by repeat (first | exact Kp.refl _ _ _ | refine Kp.new ?_ (by omega) _)) (k2.dn (by omega)) (by omega)) (by omega) _

section
variable {g g' : Gm} {n b q s m1 m2 l : Nat} {sl : Value} {S : Sto}
theorem StAt.up {b' : Nat} (h : StAt b g s m1 m2 l sl S) (hb : b' ≤ b) : StAt b' g s m1 m2 l sl S := by
 refine ⟨h.cell, ?_, h.last, ⟨h.log.cell, h.log.evs.up hb⟩, h.ne⟩
 obtain ⟨es, c, q1, q2, q3⟩ := h.now
 exact ⟨es, c, q1, q2, q3.mono fun v e he => he.mono fun v bs hv => hv.up hb⟩
theorem StAt.low (h : StAt b g s m1 m2 l sl S) (hq : q ≤ s ∧ q ≤ m1 ∧ q ≤ m2 ∧ q ≤ l) (hb : q ≤ b) (hn : q ≤ n) (hk : Kp (FS s m1 m2 l sl) g n g') : K0 g q g' := fun x o hx ho _ =>
 hk x o (by omega) ho fun hf => by
  rcases hf with ⟨e | e, _⟩ | ⟨e | e, _⟩ | ⟨e, _⟩
  ·omega
  ·omega
  ·omega
  ·omega
  ·have := h.log.evs.from_ _ e; omega
theorem StAt.lowC (hq : q ≤ s) (hn : q ≤ n) (hk : Kp (FC s) g n g') : K0 g q g' := fun x o hx ho _ =>
 hk x o (by omega) ho fun hf => by have := hf.1; omega
end

end Go.Proofs.YtehmailaabjdjaaGreat
end

section
open Go.Proofs
namespace Go.Proofs.YtehmailaabjdjaaGreat
set_option linter.unusedSimpArgs false
set_option linter.unusedVariables false
set_option maxRecDepth 100000

section
variable {N : Nat} {f : Nat → Value} {s : Sls} {g : Gm} {n nm : Nat} {k : Sls → Gm → List Nat → List Nat → Prop} {d : Tmp} {ty : TypeId} {pos : String} {af : Array Edge} {gd : Option (Nat × Bool)}
theorem s_hiC {t e : TypeId} {kk : Nat} {x hi : Operand} {v : Value} {m j : Nat} {cs : List Value} (ht : E6.P.underlying t = some (.slice e)) (hz : szO E6.P e = some kk) (hx : ov N s x = some v) {gg : Gm} (hb : SlC gg kk v m cs) (hj : ov N s hi = some (.int .i64 (j : Int))) (hjl : j ≤ m)
  (h : ∀ a c, SlC gg kk (.slice a j c) j (cs.take (j * kk)) → (∀ x, vname (.slice a j c) = some x → vname v = some x) → k ((d, .slice a j c) :: s) g [] []) : ST N f s g n nm ⟨some d, .slice t x none (some hi) none, ty, pos, af, gd⟩ k := by
 obtain ⟨h1, ⟨rfl, h2⟩ | ⟨rfl, h2⟩ | ⟨l, o, c, rfl, h3, h4⟩⟩ := hb
 ·subst h2
  have : cs = [] := List.eq_nil_of_length_eq_zero (by omega)
  subst this
  have : j = 0 := by omega
  subst this
  exact s_slh0 ht hz hx hj (h _ _ (by simpa using SlC.nil gg kk) fun x hx => hx)
 ·subst h2
  have : cs = [] := List.eq_nil_of_length_eq_zero (by omega)
  subst this
  have : j = 0 := by omega
  subst this
  exact s_slhE ht hz hx hj (h _ _ ⟨by simp, .inr (.inl ⟨rfl, rfl⟩)⟩ fun x hx => hx)
 ·have hm : j * kk ≤ m * kk := Nat.mul_le_mul_right _ hjl
  refine s_slh ht hz hx hj (by omega) (h _ _ ⟨by rw [List.length_take]; omega, .inr (.inr ⟨l, o, c, rfl, by omega, ?_⟩)⟩ fun x hx => hx)
  rcases h4 with h4 | ⟨cl, ro, h4, h5, h6⟩
  ·left; omega
  ·refine .inr ⟨cl, ro, h4, by omega, ?_⟩
   rw [← h6, List.take_take, Nat.min_eq_left hm]
end

section
variable {F : Nat → AObj → Prop} {g g' : Gm} {n n' : Nat} {v w : Value} {gs hs : List Gd} {ws xs : List Wr}
theorem cut_c (h1 : GdsRd g v gs) (h2 : WrsRd g w ws) : C 28 #[.agg [v, w].toArray] g n fun u g' n' => ∃ v' w', u = .agg [v', w'].toArray ∧ GdsRd g' v' (gs.take 25) ∧ WrsRd g' w' (ws.take 70) ∧ K0 g n g' := by
 obtain ⟨a1, c1, rfl⟩ := h1.len
 obtain ⟨a2, c2, rfl⟩ := h2.len
 obtain ⟨cs, s1, s2⟩ := h1
 obtain ⟨ds, t1, t2⟩ := h2
 refine c_in1 Tryz.func28 rfl Tryz.ntmps28 rfl fun hw => ?_
 repeat (first | refine w_seq ?_ | refine w_blk ?_ | refine z_seq ?_ | refine z_blk ?_ | refine w_skip ?_)
 refine w_reg 2 rfl rfl (j' := 2) ?_
 refine n_op .no (q := 0) rfl (s_boxa rfl ?_)
 refine n_op .no (q := 1) rfl (s_al zl_42 ?_)
 refine n_nil ?_
 repeat (first | refine w_seq ?_ | refine w_blk ?_ | refine z_seq ?_ | refine z_blk ?_ | refine w_skip ?_)
 refine w_drw (T6 28 1) [(0, []), (1, []), (2, [1]), (3, [1]), (4, [1]), (5, [1]), (6, []), (7, [1, 3, 4, 6]), (8, [1, 3, 4, 6]), (9, [1, 3, 4, 6, 8]), (10, [1, 3, 4, 6, 8]), (11, [1, 3, 4, 6, 8]), (12, [1, 3, 4, 6, 8]), (13, [1, 3, 4, 6]), (14, []), (15, [])] 16 (by kernel_rfl) rfl rfl (j' := 18) ?_
 first | refine d_op rfl rfl .no (q := 2) rfl (s_fa0 rfl fo_42_0 ⟨⟨rfl, rfl⟩, ?_⟩) | refine d_op rfl rfl .no (q := 2) rfl (s_fa rfl fo_42_0 ⟨⟨rfl, rfl⟩, ?_⟩)
 refine d_tc rfl rfl rfl .no (q := 3) rfl (s_ld rfl (by repeat (first | exact gs_same _ _ _ | refine (gs_ne (by omega) _).trans ?_)) ag_37 (by first | exact rfl) ⟨clash_nil, ?_⟩)
 first | refine d_op rfl rfl .no (q := 4) rfl (s_fa0 rfl fo_42_0 ⟨⟨rfl, rfl⟩, ?_⟩) | refine d_op rfl rfl .no (q := 4) rfl (s_fa rfl fo_42_0 ⟨⟨rfl, rfl⟩, ?_⟩)
 refine d_tc rfl rfl rfl .no (q := 5) rfl (s_ld rfl (by repeat (first | exact gs_same _ _ _ | refine (gs_ne (by omega) _).trans ?_)) ag_37 (by first | exact rfl) ⟨clash_rd rfl, ?_⟩)
 refine d_tc rfl rfl rfl .no (q := 6) rfl (s_len rfl rfl un_37 rfl ⟨clash_rd rfl, ?_⟩)
 refine d_op rfl rfl .no (q := 7) rfl (s_min rfl rfl (c := ((min gs.length 25 : Nat) : Int)) (by omega) ⟨⟨rfl, rfl⟩, ?_⟩)
 refine d_tc rfl rfl rfl .no (q := 8) rfl (s_hiC un_37 sz_36 rfl s1 rfl (Nat.min_le_left _ _) fun a c hs hn => ⟨clash_nil, ?_⟩)
 first | refine d_op rfl rfl .no (q := 9) rfl (s_fa0 rfl fo_42_1 ⟨⟨rfl, rfl⟩, ?_⟩) | refine d_op rfl rfl .no (q := 9) rfl (s_fa rfl fo_42_1 ⟨⟨rfl, rfl⟩, ?_⟩)
 refine d_tc rfl rfl rfl .no (q := 10) rfl (s_ld rfl (by repeat (first | exact gs_same _ _ _ | refine (gs_ne (by omega) _).trans ?_)) ag_40 (by first | exact rfl) ⟨clash_rd rfl, ?_⟩)
 first | refine d_op rfl rfl .no (q := 11) rfl (s_fa0 rfl fo_42_1 ⟨⟨rfl, rfl⟩, ?_⟩) | refine d_op rfl rfl .no (q := 11) rfl (s_fa rfl fo_42_1 ⟨⟨rfl, rfl⟩, ?_⟩)
 refine d_tc rfl rfl rfl .no (q := 12) rfl (s_ld rfl (by repeat (first | exact gs_same _ _ _ | refine (gs_ne (by omega) _).trans ?_)) ag_40 (by first | exact rfl) ⟨clash_rd rfl, ?_⟩)
 refine d_tc rfl rfl rfl .no (q := 13) rfl (s_len rfl rfl un_40 rfl ⟨clash_rd rfl, ?_⟩)
 refine d_op rfl rfl .no (q := 14) rfl (s_min rfl rfl (c := ((min ws.length 70 : Nat) : Int)) (by omega) ⟨⟨rfl, rfl⟩, ?_⟩)
 refine d_tc rfl rfl rfl .no (q := 15) rfl (s_hiC un_40 sz_39 rfl t1 rfl (Nat.min_le_left _ _) fun a' c' hs' hn' => ⟨clash_rd rfl, ?_⟩)
 refine d_op rfl rfl .no (q := 16) rfl (s_bld pl_42 zl_42 rfl rfl rfl ⟨⟨rfl, rfl⟩, ?_⟩)
 refine d_tc rfl rfl rfl .no (q := 17) rfl (s_stw rfl rfl sz_42 rfl (by repeat (first | exact gs_same _ _ _ | refine (gs_ne (by omega) _).trans ?_)) (by exact rfl) rfl ⟨clash_nil, ?_⟩)
 refine d_nil ?_
 repeat (first | refine w_ret ?_ | refine w_seq ?_ | refine w_blk ?_ | refine z_seq ?_ | refine z_blk ?_ | refine w_skip ?_)
 refine z_rc rfl rfl (by repeat (first | exact gs_same _ _ _ | refine (gs_ne (by omega) _).trans ?_)) ag_42 sz_42 (by exact rfl) (by exact Nat.le_of_ble_eq_true rfl) ?_
 have e1 : (gs.take 25).length = min gs.length 25 := by rw [List.length_take, Nat.min_comm]
 have e2 : (ws.take 70).length = min ws.length 70 := by rw [List.length_take, Nat.min_comm]
 have r1 : GdsRd g (.slice a (min gs.length 25) c) (gs.take 25) := by
  refine ⟨_, ?_, Rows.take 25 s2⟩
  rw [e1]
  have : cs.take (min gs.length 25 * 3) = cs.take (25 * 3) := by
   have := s2.length
   rcases Nat.le_total gs.length 25 with h | h
   ·rw [Nat.min_eq_left h, ← this, List.take_length, List.take_of_length_le (by omega)]
   ·rw [Nat.min_eq_right h]
  rw [← this]; exact hs
 have r2 : WrsRd g (.slice a' (min ws.length 70) c') (ws.take 70) := by
  refine ⟨_, ?_, Rows.take 70 t2⟩
  rw [e2]
  have : ds.take (min ws.length 70 * 3) = ds.take (70 * 3) := by
   have := t2.length
   rcases Nat.le_total ws.length 70 with h | h
   ·rw [Nat.min_eq_left h, ← this, List.take_length, List.take_of_length_le (by omega)]
   ·rw [Nat.min_eq_right h]
  rw [← this]; exact hs'
 exact ⟨_, _, rfl, r1.kp0 (n := n) (by repeat (first | exact Kp.refl _ _ _ | refine Kp.new ?_ (by omega) _)) hw, r2.kp0 (n := n) (by repeat (first | exact Kp.refl _ _ _ | refine Kp.new ?_ (by omega) _)) hw, (by repeat (first | exact Kp.refl _ _ _ | refine Kp.new ?_ (by omega) _))⟩
end

end Go.Proofs.YtehmailaabjdjaaGreat
end

section
open Go.Proofs
namespace Go.Proofs.YtehmailaabjdjaaGreat
set_option linter.unusedSimpArgs false
set_option linter.unusedVariables false
set_option maxRecDepth 100000

structure SOp where
 kind : Int
 gs : List Gd
 ws : List Wr
 rev : Int
def SopC (g : Gm) (c : List Value) (x : SOp) : Prop := ∃ gv wv, c = [.int .i64 x.kind, gv, wv, .int .i64 x.rev] ∧ GdsRd g gv x.gs ∧ WrsRd g wv x.ws
def SopsRd (g : Gm) (v : Value) (xs : List SOp) : Prop := ∃ cs, SlC g 4 v xs.length cs ∧ Rows 4 (SopC g) cs xs
section
variable {g g' : Gm} {n : Nat} {v : Value} {xs : List SOp}
theorem SopsRd.kp0 (h : SopsRd g v xs) (hk : K0 g n g') (hw : WF g n) : SopsRd g' v xs := by
 obtain ⟨cs, h1, h2⟩ := h
 exact ⟨cs, h1.kp0 hk hw, h2.mono fun c x _ ⟨gv, wv, e, a, b⟩ => ⟨gv, wv, e, a.kp0 hk hw, b.kp0 hk hw⟩⟩
theorem SopsRd.len (h : SopsRd g v xs) : ∃ a c, v = .slice a xs.length c := by
 obtain ⟨cs, h1, _⟩ := h
 obtain ⟨a, c, e, _⟩ := h1.len
 exact ⟨a, c, e⟩
theorem SopsRd.at {i : Nat} (h : SopsRd g v xs) (hi : i < xs.length) : ∃ l o c cl ro gv wv, v = .slice (some ⟨l, o, none⟩) xs.length c ∧ g l = some (.cells cl 4 ro) ∧ o + i * 4 + 4 ≤ cl.length ∧ cl[o + i * 4]? = some (.int .i64 xs[i].kind) ∧ (cl.drop (o + i * 4 + 1)).take 2 = [gv, wv] ∧ cl[o + i * 4 + 3]? = some (.int .i64 xs[i].rev) ∧ GdsRd g gv xs[i].gs ∧ WrsRd g wv xs[i].ws := by
 obtain ⟨cs, h1, h2⟩ := h
 obtain ⟨l, o, c, cl, ro, rfl, hc, h3, h4, h5⟩ := h1.pos (by omega)
 have h6 := h2.get hi
 rw [← take_part h5 (show i * 4 + 4 ≤ xs.length * 4 by omega)] at h6
 obtain ⟨gv, wv, h7, h8, h9⟩ := h6
 refine ⟨l, o, c, cl, ro, gv, wv, rfl, h3, by omega, ?_, ?_, ?_, h8, h9⟩
 ·have := congrArg (fun x => x[0]?) h7
  simpa [List.getElem?_take, List.getElem?_drop] using this
 ·have := congrArg (fun x => (x.drop 1).take 2) h7
  simpa [List.drop_take, List.take_take, List.drop_drop] using this
 ·have := congrArg (fun x => x[3]?) h7
  simpa [List.getElem?_take, List.getElem?_drop] using this
end

section
variable {g g' : Gm} {n b s m1 m2 l s' m1' m2' l' : Nat} {sl sl' : Value} {S S' : Sto}

def SlApart (sl sl' : Value) : Prop := ∀ x, vname sl' = some x → vname sl ≠ some x
theorem SlApart.sym (h : SlApart sl sl') : SlApart sl' sl := fun x h1 h2 => h x h2 h1

theorem StAt.slt (h : StAt b g s m1 m2 l sl S) (hw : WF g n) : ∀ x, vname sl = some x → x < n := fun x hx => by
 obtain ⟨⟨cs, hh, _⟩, _⟩ := h.log.evs
 exact hh.lt hw hx
theorem SlApart.mvd {w : Value} (h : SlApart sl sl') (hm : Mvd n sl w) (hs : ∀ x, vname sl' = some x → x < n) : SlApart w sl' := fun x h1 h2 => by
 rcases hm with e | e
 ·exact h x h1 (by rw [← e]; exact h2)
 ·have := e x h2; have := hs x h1; omega

end

end Go.Proofs.YtehmailaabjdjaaGreat
end

section
namespace Go.Proofs.YtehmailaabjdjaaGreat
set_option linter.unusedSimpArgs false
set_option linter.unusedVariables false
set_option maxRecDepth 100000

section
variable {N : Nat} {f : Nat → Value} {s : Sls} {g : Gm} {n nm : Nat} {k : Sls → Gm → List Nat → List Nat → Prop} {d : Tmp} {ty : TypeId} {pos : String} {af : Array Edge} {gd : Option (Nat × Bool)}

theorem s_app0 {t u kk b : Nat} {x y : Operand} {m : Nat} {w : Value} {ds : List Value} (hT : AppT E6.P t u kk b) (hx : ov N s x = some (.slice none 0 0)) (hy : ov N s y = some w) (hs : Src g kk w m ds) (hfit : m * b ≤ 2 ^ 46)
  (h : ∀ a c g' tc wr, (wr = [] ∨ wr = [nm]) → SlOwn g' kk (.slice a m c) m ds → (∀ l, l ≠ nm → g' l = g l) → (∀ l, vname (.slice a m c) = some l → l = nm) → k ((d, .slice a m c) :: s) g' tc wr) : ST N f s g n nm ⟨some d, .call ⟨.builtin .append, #[x, y], #[t, u]⟩, ty, pos, af, gd⟩ k := by
 obtain ⟨e, z, h1, h2, h3, h4, h5, h6, h7, h8⟩ := hT
 obtain ⟨rs, get, objs, k1, k2, k3, k4⟩ := hs
 have hc : (!(decide (0 < kk) && decide (0 < b) && decide (z.cells.size = kk) && isSeqT (E6.P.underlying u))) = false := by simp [h6, h7, h5, h8]
 by_cases hm : m = 0
 ·subst hm
  have hds : ds = [] := List.eq_nil_of_length_eq_zero (by omega)
  subst hds
  refine st_val (v := .slice none 0 0) rfl ?_ (h none 0 g [] [] (.inl rfl) (SlOwn.nil _ _) (fun _ _ => rfl) fun l hl => by cases hl)
  simp only [aop, aCall, List.toList_toArray, evList, ov_ok hx, ov_ok hy, Option.bind_some, Option.map_some, aBuiltin, aAppend, h1, h2, h3, h4, hc, k1, if_true, Bool.false_eq_true, if_false]
 ·refine ⟨⟨rs, fun nm objs => (get objs).map fun c => ⟨.slice (some ⟨nm, 0, none⟩) m m, none, some (.cells c kk false)⟩⟩, ⟨.slice (some ⟨nm, 0, none⟩) m m, none, some (.cells ds kk false)⟩, ?_, ?_, rfl, _, gset g nm (.cells ds kk false), Fr_put _ _ _ _ _, rfl,
   h (some ⟨nm, 0, none⟩) m _ _ _ (.inr rfl) ⟨k4, .inr ⟨nm, 0, m, ds, rfl, Nat.le_refl _, gs_same _ _ _, by omega, by rw [List.drop_zero, ← k4, List.take_length]⟩⟩ (fun l hl => gs_ne hl _) fun l hl => (Option.some.inj hl).symm⟩
  ·simp only [aop, aCall, List.toList_toArray, evList, ov_ok hx, ov_ok hy, Option.bind_some, Option.map_some, aBuiltin, aAppend, h1, h2, h3, h4, hc, k1, if_neg hm, Bool.false_eq_true, if_false]
   rw [if_pos (by omega)]
   rfl
  ·simp only [Prim.run, k2, Option.bind_some, k3, Option.map_some]

theorem s_loC {t e : TypeId} {kk q : Nat} {x lo : Operand} {v : Value} {m j : Nat} {cs : List Value} (ht : E6.P.underlying t = some (.slice e)) (hz : szO E6.P e = some kk) (hx : ov N s x = some v) (hb : SlC g kk v m cs) (hj : ov N s lo = some (.int .i64 (j : Int))) (hjl : j ≤ m) (hq : ∀ y, vname v = some y → y < q)
    (h : ∀ a c tc, (tc = [] ∨ ∃ y, y < q ∧ tc = [y]) → SlC g kk (.slice a (m - j) c) (m - j) (cs.drop (j * kk)) → (∀ x, vname (.slice a (m - j) c) = some x → vname v = some x) → k ((d, .slice a (m - j) c) :: s) g tc []) : ST N f s g n nm ⟨some d, .slice t x (some lo) none none, ty, pos, af, gd⟩ k := by
  obtain ⟨h1, ⟨rfl, h2⟩ | ⟨rfl, h2⟩ | ⟨l, o, c, rfl, h3, h4⟩⟩ := hb
  · subst h2
    have : cs = [] := List.eq_nil_of_length_eq_zero (by omega)
    subst this
    have : j = 0 := by omega
    subst this
    refine st_val (v := .slice none 0 0) rfl ?_ (h none 0 [] (.inl rfl) (by simpa using SlC.nil g kk) fun x hx => hx)
    simp [aop, aSlice, ht, hz, ov_ok hx, ov_ok hj, boundO]
  · subst h2
    have : cs = [] := List.eq_nil_of_length_eq_zero (by omega)
    subst this
    have : j = 0 := by omega
    subst this
    refine st_val (v := .slice (some ⟨0, 0, some 0⟩) 0 0) rfl ?_ (h (some ⟨0, 0, some 0⟩) 0 [] (.inl rfl) ⟨by simp, .inr (.inl ⟨rfl, rfl⟩)⟩ fun x hx => hx)
    simp [aop, aSlice, ht, hz, ov_ok hx, ov_ok hj, boundO]
  · have b1 : boundO (aeval (Fr N f s)) none m c = some m := by unfold boundO; exact if_pos h3
    have b2 : boundO (aeval (Fr N f s)) (some lo) 0 m = some j := by
      unfold boundO
      simp only [ov_ok hj, Option.bind_some]
      rw [if_pos ⟨by omega, by omega⟩, Int.toNat_natCast]
    have e1 : (m - j) * kk = m * kk - j * kk := Nat.sub_mul _ _ _
    have e2 : j * kk ≤ m * kk := Nat.mul_le_mul_right _ hjl
    by_cases h0 : j = 0
    · subst h0
      refine st_val (v := .slice (some ⟨l, o, none⟩) m c) rfl ?_ (h (some ⟨l, o, none⟩) c [] (.inl rfl) ⟨by simpa using h1, .inr (.inr ⟨l, o, c, rfl, h3, ?_⟩)⟩ fun x hx => hx)
      · simp only [aop, aSlice, ht, hz, ov_ok hx, b1, b2, Option.bind_some, if_true, Option.map_some]
      · simpa using h4
    · obtain ⟨cl, ro, h4, h5, h6⟩ := h4.resolve_left (by omega)
      refine ⟨⟨[l], fun _ objs => match objs with
              | [.cells _ sz _] => if sz = kk then some ⟨.slice (some ⟨l, o + j * kk, none⟩) (m - j) (c - j), none, none⟩ else none
              | _ => none⟩, ⟨.slice (some ⟨l, o + j * kk, none⟩) (m - j) (c - j), none, none⟩, ?_, ?_, rfl, _, _, Fr_put _ _ _ _ _, rfl,
              h (some ⟨l, o + j * kk, none⟩) (c - j) _ (.inr ⟨l, hq l rfl, rfl⟩) ⟨by rw [List.length_drop, h1, e1], .inr (.inr ⟨l, o + j * kk, c - j, rfl, by omega, .inr ⟨cl, ro, h4, by omega, ?_⟩⟩)⟩ fun x hx => hx⟩
      · simp only [aop, aSlice, ht, hz, ov_ok hx, b1, b2, Option.bind_some, if_neg h0, Option.map_some]
        rfl
      · simp only [Prim.run, getAll, h4, Option.bind_some, Option.map_some, if_true]
      · rw [take_part h6 (by omega), List.take_of_length_le]
        rw [List.length_drop, h1]; omega

end

end Go.Proofs.YtehmailaabjdjaaGreat
end

section
open Go.Proofs
namespace Go.Proofs.YtehmailaabjdjaaGreat
set_option linter.unusedSimpArgs false
set_option linter.unusedVariables false
set_option maxRecDepth 100000

theorem lt_irr (a : Bs) : ¬ a < a := List.lt_irrefl a
theorem lt_tr {a b c : Bs} (h : a < b) (k : b < c) : a < c := List.lt_trans h k
theorem lt_ne {a b : Bs} (h : a < b) : a ≠ b := fun e => lt_irr b (e ▸ h)
theorem lt_ne' {a b : Bs} (h : a < b) : b ≠ a := fun e => lt_irr b (e ▸ h)
theorem lt_or {a b : Bs} (h : ¬ a < b) (k : a ≠ b) : b < a := by
 rcases List.le_iff_lt_or_eq.1 (List.not_lt.1 h) with q | q
 ·exact q
 ·exact absurd q.symm k

section
variable {α : Type}
theorem findK_none {k : Bs} : ∀ {r : List (Bs × α)}, (findK k r = none ↔ k ∉ r.map (·.1))
 | [] => by simp [findK]
 | x :: r => by
  unfold findK
  by_cases e : x.1 = k
  ·simp [e]
  ·rw [if_neg e, findK_none (r := r)]
   simp [Ne.symm e]
theorem findK_del {k k' : Bs} : ∀ {r : List (Bs × α)}, (r.map (·.1)).Nodup → findK k (delK k' r) = if k' = k then none else findK k r
 | [], _ => by simp [delK, findK]
 | x :: r, h => by
  rw [List.map_cons, List.nodup_cons] at h
  unfold delK
  by_cases e : x.1 = k'
  ·rw [if_pos e]
   by_cases e2 : k' = k
   ·rw [if_pos e2]
    exact findK_none.2 (by rw [← e2, ← e]; exact h.1)
   ·rw [if_neg e2]
    have : ¬ x.1 = k := fun q => e2 (e.symm.trans q)
    simp [findK, this]
  ·rw [if_neg e]
   unfold findK
   by_cases e2 : x.1 = k
   ·have : ¬ k' = k := fun q => e (e2.trans q.symm)
    rw [if_pos e2, if_neg this, if_pos e2]
   ·rw [if_neg e2, findK_del h.2, if_neg e2]
theorem delK_keys {k k' : Bs} : ∀ {r : List (Bs × α)}, k ∈ (delK k' r).map (·.1) → k ∈ r.map (·.1)
 | [], h => h
 | x :: r, h => by
  unfold delK at h
  split at h
  ·exact List.mem_cons_of_mem _ h
  ·rw [List.map_cons, List.mem_cons] at h ⊢
   exact h.imp id delK_keys
theorem delK_nodup {k : Bs} : ∀ {r : List (Bs × α)}, (r.map (·.1)).Nodup → ((delK k r).map (·.1)).Nodup
 | [], h => h
 | x :: r, h => by
  rw [List.map_cons, List.nodup_cons] at h
  unfold delK
  split
  ·exact h.2
  ·rw [List.map_cons, List.nodup_cons]
   exact ⟨fun q => h.1 (delK_keys q), delK_nodup h.2⟩
theorem setK_keys {k k' : Bs} {a : α} : ∀ {r : List (Bs × α)}, k ∈ (setK k' a r).map (·.1) → k = k' ∨ k ∈ r.map (·.1)
 | [], h => by simp [setK] at h; exact .inl h
 | x :: r, h => by
  unfold setK at h
  split at h
  ·rw [List.map_cons, List.mem_cons] at h
   exact h.imp id (List.mem_cons_of_mem _)
  ·rw [List.map_cons, List.mem_cons] at h
   rcases h with h | h
   ·exact .inr (by rw [List.map_cons, List.mem_cons]; exact .inl h)
   ·exact (setK_keys h).imp id (List.mem_cons_of_mem _)
theorem setK_nodup {k : Bs} {a : α} : ∀ {r : List (Bs × α)}, (r.map (·.1)).Nodup → ((setK k a r).map (·.1)).Nodup
 | [], h => by simp [setK]
 | x :: r, h => by
  rw [List.map_cons, List.nodup_cons] at h
  unfold setK
  split
  ·rename_i e
   rw [List.map_cons, List.nodup_cons]
   exact ⟨by simp only; rw [← e]; exact h.1, h.2⟩
  ·rename_i e
   rw [List.map_cons, List.nodup_cons]
   exact ⟨fun q => (setK_keys q).elim e h.1, setK_nodup h.2⟩
end

def Srtd (L : List SEnt) : Prop := L.Pairwise fun a b => a.key < b.key
def findL (k : Bs) : List SEnt → Option SEnt
 | [] => none
 | x :: L => if x.key = k then some x else findL k L
theorem findL_none {k : Bs} : ∀ {L : List SEnt}, (∀ x ∈ L, x.key ≠ k) → findL k L = none
 | [], _ => rfl
 | x :: L, h => by
  unfold findL
  rw [if_neg (h x (List.mem_cons_self ..))]
  exact findL_none fun y hy => h y (List.mem_cons_of_mem _ hy)
theorem findL_app {k : Bs} : ∀ {A B : List SEnt}, findL k (A ++ B) = (findL k A).or (findL k B)
 | [], B => rfl
 | x :: A, B => by
  by_cases e : x.key = k
  ·simp [findL, e]
  ·have h1 : findL k (x :: A) = findL k A := by simp [findL, e]
   have h2 : findL k (x :: A ++ B) = findL k (A ++ B) := by simp [findL, e]
   rw [h1, h2]
   exact findL_app
theorem findL_mem {x : SEnt} : ∀ {L : List SEnt}, Srtd L → x ∈ L → findL x.key L = some x
 | [], _, h => by cases h
 | y :: L, hs, h => by
  rw [Srtd, List.pairwise_cons] at hs
  unfold findL
  rcases List.mem_cons.1 h with e | h
  ·rw [e, if_pos rfl]
  ·rw [if_neg (lt_ne (hs.1 x h)), findL_mem hs.2 h]
theorem findL_filter {k : Bs} {p : SEnt → Bool} (hp : ∀ x : SEnt, x.key = k → p x = true) : ∀ {L : List SEnt}, findL k (L.filter p) = findL k L
 | [] => rfl
 | x :: L => by
  by_cases e : x.key = k
  ·rw [List.filter_cons_of_pos (hp x e)]
   simp [findL, e]
  ·by_cases q : p x = true
   ·rw [List.filter_cons_of_pos q]
    simp only [findL, if_neg e]
    exact findL_filter hp
   ·rw [List.filter_cons_of_neg q]
    simp only [findL, if_neg e]
    exact findL_filter hp
theorem Srtd.filter {L : List SEnt} (h : Srtd L) (p : SEnt → Bool) : Srtd (L.filter p) := List.Pairwise.filter _ h

def layL (L : List SEnt) (e : SEnt) (gone : Bool) : List SEnt := L.filter (fun x => decide (x.key < e.key)) ++ (if gone = true then [] else [e]) ++ L.filter (fun x => decide (e.key < x.key))
theorem layL_sort {L : List SEnt} (h : Srtd L) (e : SEnt) (gone : Bool) : Srtd (layL L e gone) := by
 have h1 : ∀ x ∈ L.filter (fun x => decide (x.key < e.key)), x.key < e.key := fun x hx => of_decide_eq_true (List.mem_filter.1 hx).2
 have h2 : ∀ x ∈ L.filter (fun x => decide (e.key < x.key)), e.key < x.key := fun x hx => of_decide_eq_true (List.mem_filter.1 hx).2
 unfold layL
 refine List.pairwise_append.2 ⟨List.pairwise_append.2 ⟨h.filter _, ?_, ?_⟩, h.filter _, ?_⟩
 ·cases gone <;> simp
 ·intro a ha b hb
  cases gone
  ·simp at hb; subst hb; exact h1 a ha
  ·simp at hb
 ·intro a ha b hb
  rcases List.mem_append.1 ha with ha | ha
  ·exact lt_tr (h1 a ha) (h2 b hb)
  ·cases gone
   ·simp at ha; subst ha; exact h2 b hb
   ·simp at ha
theorem layL_find {L : List SEnt} {e : SEnt} {gone : Bool} (k : Bs) : findL k (layL L e gone) = if e.key = k then (if gone = true then none else some e) else findL k L := by
 unfold layL
 rw [findL_app, findL_app]
 by_cases q : e.key = k
 ·rw [if_pos q, findL_none (k := k) (L := L.filter (fun x => decide (x.key < e.key))) fun x hx he => by
   have := of_decide_eq_true (List.mem_filter.1 hx).2
   rw [he, q] at this; exact lt_irr _ this]
  rw [findL_none (k := k) (L := L.filter (fun x => decide (e.key < x.key))) fun x hx he => by
   have := of_decide_eq_true (List.mem_filter.1 hx).2
   rw [he, q] at this; exact lt_irr _ this]
  cases gone <;> simp [findL, q]
 ·rw [if_neg q]
  have h3 : findL k (if gone = true then [] else [e]) = none := by cases gone <;> simp [findL, q]
  rw [h3, Option.or_none]
  by_cases hk : k < e.key
  ·rw [findL_filter (fun x hx => decide_eq_true (by rw [hx]; exact hk)), findL_none (k := k) (L := L.filter (fun x => decide (e.key < x.key))) fun x hx he => by
    have := of_decide_eq_true (List.mem_filter.1 hx).2
    rw [he] at this; exact lt_irr _ (lt_tr hk this), Option.or_none]
  ·have hk' : e.key < k := lt_or hk (Ne.symm q)
   rw [findL_none (k := k) (L := L.filter (fun x => decide (x.key < e.key))) fun x hx he => by
    have := of_decide_eq_true (List.mem_filter.1 hx).2
    rw [he] at this; exact hk this, findL_filter (fun x hx => decide_eq_true (by rw [hx]; exact hk')), Option.none_or]

structure RL (L : List SEnt) (now : List (Bs × SEnt)) : Prop where
 srt : Srtd L
 find : ∀ k, findL k L = findK k now
 nd : (now.map (·.1)).Nodup
theorem RL.nil : RL [] [] := ⟨List.Pairwise.nil, fun _ => rfl, by simp⟩
theorem RL.lay {L : List SEnt} {now : List (Bs × SEnt)} (h : RL L now) (e : SEnt) (gone : Bool) : RL (layL L e gone) (if gone = true then delK e.key now else setK e.key e now) := by
 refine ⟨layL_sort h.srt _ _, fun k => ?_, ?_⟩
 ·rw [layL_find]
  cases gone
  ·simp only [Bool.false_eq_true, if_false]
   rw [findK_set, h.find]
  ·simp only [if_true]
   rw [findK_del h.nd, h.find]
 ·cases gone
  ·exact setK_nodup h.nd
  ·exact delK_nodup h.nd

theorem sortK_keys {L : List SEnt} (h : Srtd L) : sortK (L.map SEnt.key) = L.map SEnt.key := by
 refine List.mergeSort_of_pairwise ?_
 rw [List.pairwise_map]
 exact h.imp fun q => decide_eq_true (List.le_of_lt q)
theorem RL.perm {L : List SEnt} {now : List (Bs × SEnt)} (h : RL L now) : (now.map (·.1)).Perm (L.map SEnt.key) := by
 have hn : (L.map SEnt.key).Nodup := by
  rw [List.nodup_iff_pairwise_ne, List.pairwise_map]
  exact h.srt.imp fun q => lt_ne q
 refine (List.perm_ext_iff_of_nodup h.nd hn).2 fun k => ?_
 have e : findL k L = none ↔ k ∉ L.map SEnt.key := by
  constructor
  ·intro q hm
   obtain ⟨x, hx, rfl⟩ := List.mem_map.1 hm
   rw [findL_mem h.srt hx] at q; cases q
  ·intro q
   exact findL_none fun x hx he => q (List.mem_map.2 ⟨x, hx, he⟩)
 have := findK_none (k := k) (r := now)
 rw [← h.find, e] at this
 exact Decidable.not_iff_not.1 this.symm
theorem RL.list {L : List SEnt} {S : Sto} (h : RL L S.now) : S.list = L := by
 have e : sortK (S.now.map (·.1)) = L.map SEnt.key := (mergeSort_of_perm h.perm).trans (sortK_keys h.srt)
 unfold Sto.list
 rw [e, List.map_map]
 conv => rhs; rw [← List.map_id L]
 refine List.map_congr_left fun x hx => ?_
 show (findK x.key S.now).getD SEnt.zero = x
 rw [← h.find, findL_mem h.srt hx]
 rfl

def evPut (now : List (Bs × SEnt)) (e : Evt) : List (Bs × SEnt) := if e.gone = true then delK e.key now else setK e.key ⟨e.key, e.rev, e.val⟩ now

theorem puts_ev (r : Int) : ∀ (ws : List Wr) (T : Sto), (ws.foldl (Sto.put1 r) T).now = (ws.map (evtW r)).foldl evPut T.now
 | [], T => rfl
 | w :: ws, T => by
  rw [List.foldl_cons, List.map_cons, List.foldl_cons, puts_ev r ws]
  rfl

structure Hist (S : Sto) (all : List Evt) : Prop where
 log : LogI S.log all
 last : S.log.last = S.rev
theorem Hist.new : Hist Sto.new [] := ⟨⟨rfl, List.Pairwise.nil, (fun e h => by cases h), by decide, by decide⟩, rfl⟩
theorem Hist.read {S : Sto} {all : List Evt} (h : Hist S all) : Hist { S with reads := S.reads + 1 } all := ⟨h.log, h.last⟩
theorem LogI.cutAny {L : Log} {all : List Evt} (h : LogI L all) (r : Int) : LogI (L.cut r) all := by
 have hb := h.base
 refine ⟨?_, h.asc, h.top, ?_⟩
 ·show L.evs.filter _ = after (max L.base (min r L.last)) all
  rw [h.evs]
  unfold after
  rw [List.filter_filter]
  refine List.filter_congr fun e he => ?_
  have := h.top e he
  rw [← Bool.decide_and]
  exact decide_eq_decide.2 (by omega)
 ·show 0 ≤ max L.base (min r L.last) ∧ max L.base (min r L.last) ≤ L.last
  omega
theorem Hist.cut {S : Sto} {all : List Evt} (h : Hist S all) (r : Int) : Hist { S with log := S.log.cut r } all := ⟨h.log.cutAny r, h.last⟩
theorem Hist.txn {S : Sto} {all : List Evt} (h : Hist S all) (gs : List Gd) (ws : List Wr) : ∃ es, Hist (S.txn gs ws).1 (all ++ es) ∧ (S.txn gs ws).1.now = es.foldl evPut S.now ∧ (∀ e ∈ es, S.rev < e.rev) ∧ S.rev ≤ (S.txn gs ws).1.rev := by
 by_cases h0 : S.can gs ws = 0
 ·have hm := can_may h0
  have e : S.txn gs ws = ({ ws.foldl (Sto.put1 (S.rev + 1)) { S with rev := S.rev + 1, writes := S.writes + 1 } with log := S.log.add (ws.map (evtW (S.rev + 1))) }, S.rev + 1, 0) := if_pos h0
  rw [e]
  have hne : ws.map (evtW (S.rev + 1)) ≠ [] := fun q => by
   have := congrArg List.length q
   rw [List.length_map] at this
   have := hm.2.1
   simp_all
  have hr : ∀ x ∈ ws.map (evtW (S.rev + 1)), x.rev = S.rev + 1 := fun x hx => by
   obtain ⟨w, _, rfl⟩ := List.mem_map.1 hx
   rfl
  have hl := h.last
  obtain ⟨k1, k2, _⟩ := h.log.add hne hr (by omega)
  have hrev := (puts_same (S.rev + 1) ws ({ S with rev := S.rev + 1, writes := S.writes + 1 } : Sto)).1
  refine ⟨ws.map (evtW (S.rev + 1)), ⟨k1, ?_⟩, ?_, fun x hx => by rw [hr x hx]; omega, ?_⟩
  ·show (S.log.add _).last = _
   rw [k2]; exact hrev.symm
  ·exact puts_ev _ _ _
  ·have : S.rev ≤ (ws.foldl (Sto.put1 (S.rev + 1)) ({ S with rev := S.rev + 1, writes := S.writes + 1 } : Sto)).rev := by rw [hrev]; simp only; omega
   exact this
 ·have e : S.txn gs ws = ({ S with writes := S.writes + 1 }, 0, S.can gs ws) := if_neg h0
  rw [e]
  refine ⟨[], ⟨?_, h.last⟩, rfl, (fun x hx => by cases hx), Int.le_refl _⟩
  rw [List.append_nil]; exact h.log

end Go.Proofs.YtehmailaabjdjaaGreat
end

section
open Go.Proofs
namespace Go.Proofs.YtehmailaabjdjaaGreat
set_option linter.unusedSimpArgs false
set_option linter.unusedVariables false
set_option maxRecDepth 100000

def EntsRd (g : Gm) (v : Value) (es : List SEnt) : Prop := ∃ cs, SlC g 3 v es.length cs ∧ Rows 3 (EnC (BytesAt g)) cs es
section
variable {F : Nat → AObj → Prop} {g g' : Gm} {n : Nat} {v : Value} {es : List SEnt}
theorem EntsRd.nil (g : Gm) : EntsRd g (.slice none 0 0) [] := ⟨[], SlC.nil _ _, rfl⟩
theorem EntsRd.kp (h : EntsRd g v es) (hk : Kp F g n g') (hw : WF g n) (hF : NoB F) (hv : Off F g v) : EntsRd g' v es := by
 obtain ⟨cs, h1, h2⟩ := h
 exact ⟨cs, h1.kp hk hw hv, h2.mono fun c x _ hx => hx.mono fun _ _ k => k.kp hk hw hF⟩
theorem EntsRd.kp0 (h : EntsRd g v es) (hk : K0 g n g') (hw : WF g n) : EntsRd g' v es := h.kp hk hw NoB.z (Off.z g v)
theorem EntsRd.kk (h : EntsRd g v es) (hk : Kp F g n g') (hw : WF g n) (hF : ∀ x c ro, ¬ F x (.cells c 3 ro)) (hb : NoB F) : EntsRd g' v es := by
 obtain ⟨cs, h1, h2⟩ := h
 exact ⟨cs, h1.kk hk hw hF, h2.mono fun c x _ hx => hx.mono fun _ _ k => k.kp hk hw hb⟩
theorem EntsRd.len (h : EntsRd g v es) : ∃ a c, v = .slice a es.length c := by
 obtain ⟨cs, h1, _⟩ := h
 obtain ⟨a, c, e, _⟩ := h1.len
 exact ⟨a, c, e⟩
theorem EntsOwn.rd {b : Nat} (h : EntsOwn b g v es) : EntsRd g v es := by
 obtain ⟨⟨cs, h1, h2⟩, _⟩ := h
 exact ⟨cs, h1.slc, h2.mono fun c x _ hx => hx.mono fun _ _ k => k.at⟩
theorem EntsRd.at {i : Nat} (h : EntsRd g v es) (hi : i < es.length) : ∃ l o c cl ro a p, v = .slice (some ⟨l, o, none⟩) es.length c ∧ g l = some (.cells cl 3 ro) ∧ o + i * 3 + 3 ≤ cl.length ∧ (cl.drop (o + i * 3)).take 3 = entC es[i] (.slice a es[i].val.length p) ∧
  cl[o + i * 3]? = some (.string (str es[i].key)) ∧ cl[o + i * 3 + 1]? = some (.int .i64 es[i].rev) ∧ BytesAt g (.slice a es[i].val.length p) es[i].val ∧ es[i].val.length ≤ 4000 := by
 obtain ⟨cs, h1, h2⟩ := h
 obtain ⟨l, o, c, cl, ro, rfl, hc, h3, h4, h5⟩ := h1.pos (by omega)
 have h6 := h2.get hi
 rw [← take_part h5 (show i * 3 + 3 ≤ es.length * 3 by omega)] at h6
 obtain ⟨a, p, h7, h8, h9⟩ := h6
 refine ⟨l, o, c, cl, ro, a, p, rfl, h3, by omega, h7, ?_, ?_, h8, h9⟩
 ·have := congrArg (fun x => x[0]?) h7
  simpa [List.getElem?_take, List.getElem?_drop, entC] using this
 ·have := congrArg (fun x => x[1]?) h7
  simpa [List.getElem?_take, List.getElem?_drop, entC] using this
end

theorem SEnt.ext' {x y : SEnt} (h1 : x.key = y.key) (h2 : x.rev = y.rev) (h3 : x.val = y.val) : x = y := by
 cases x; cases y; simp_all

theorem eqEntry_c {g : Gm} {n : Nat} {x y : SEnt} {v w : Value} (h1 : BytesAt g v x.val) (h2 : BytesAt g w y.val) : C 58 #[.agg (entC x v).toArray, .agg (entC y w).toArray] g n fun u g' n' => (∃ r, u = .bool r ∧ (r = true ↔ x = y)) ∧ K0 g n g' := by
 refine c_in2 Tryz.func58 rfl Tryz.ntmps58 rfl fun hw => (Na (w_reg 3 rfl rfl (j' := 3) (n_op .no (q := 0) rfl (s_boxa rfl (n_op .no (q := 1) rfl (s_boxa rfl (nA rfl (n_nil ?_))))))))
 by_cases a2 : x.key = y.key
 ·by_cases a1 : x.rev = y.rev
  ·by_cases a3 : x.val = y.val
   ·refine Nc (Na (w_reg 20 rfl rfl (j' := 23) (nO (s_fa0 rfl fo_28_0 (nO (sL rfl ag_9 ?_))))))
    refine nO (s_fa0 rfl fo_28_0 (nO (sL rfl ag_9 ?_)))
    refine nO (s_bin rfl rfl rfl (nM rfl (nY rfl rfl (str_t a2) (s_fa0 rfl fo_28_1 (nY rfl rfl (str_t a2) (sL rfl ag_2 ?_))))))
    refine nY rfl rfl (str_t a2) (s_fa0 rfl fo_28_1 (nY rfl rfl (str_t a2) (sL rfl ag_2 ?_)))
    refine nY rfl rfl (str_t a2) (s_bin rfl rfl rfl (nO (s_pt rfl (str_t a2) rfl (nM rfl (nY rfl rfl (beq_iff_eq.2 a1) (s_fa0 rfl fo_28_2 (nY rfl rfl (beq_iff_eq.2 a1) (sL rfl ag_26 ?_))))))))
    refine nY rfl rfl (beq_iff_eq.2 a1) (s_fa0 rfl fo_28_2 (nY rfl rfl (beq_iff_eq.2 a1) (sL rfl ag_26 ?_)))
    refine n_call (.yes rfl rfl (beq_iff_eq.2 a1)) rfl rfl rfl (C.use (bytes_c (BytesAt.kp0 h1 (by repeat (first | exact Kp.refl _ _ _ | refine Kp.new ?_ (by omega) _)) hw) (BytesAt.kp0 h2 (by repeat (first | exact Kp.refl _ _ _ | refine Kp.new ?_ (by omega) _)) hw)) fun v g1 n1 hw1 hn1 hq => ?_)
    obtain ⟨rfl, k1⟩ := hq
    refine nO (s_pt rfl (beq_iff_eq.2 a1) rfl (nA rfl (n_nil (Nc (Nf (z_r1 rfl rfl ?_))))))
    exact ⟨⟨_, rfl, ⟨fun h => SEnt.ext' a2 a1 a3, fun h => by rw [h]; simp⟩⟩, Kp.trans0 (by repeat (first | exact Kp.refl _ _ _ | refine Kp.new ?_ (by omega) _)) k1 (by omega)⟩
   ·refine Nc (Na (w_reg 20 rfl rfl (j' := 23) (nO (s_fa0 rfl fo_28_0 (nO (sL rfl ag_9 ?_))))))
    refine nO (s_fa0 rfl fo_28_0 (nO (sL rfl ag_9 ?_)))
    refine nO (s_bin rfl rfl rfl (nM rfl (nY rfl rfl (str_t a2) (s_fa0 rfl fo_28_1 (nY rfl rfl (str_t a2) (sL rfl ag_2 ?_))))))
    refine nY rfl rfl (str_t a2) (s_fa0 rfl fo_28_1 (nY rfl rfl (str_t a2) (sL rfl ag_2 ?_)))
    refine nY rfl rfl (str_t a2) (s_bin rfl rfl rfl (nO (s_pt rfl (str_t a2) rfl (nM rfl (nY rfl rfl (beq_iff_eq.2 a1) (s_fa0 rfl fo_28_2 (nY rfl rfl (beq_iff_eq.2 a1) (sL rfl ag_26 ?_))))))))
    refine nY rfl rfl (beq_iff_eq.2 a1) (s_fa0 rfl fo_28_2 (nY rfl rfl (beq_iff_eq.2 a1) (sL rfl ag_26 ?_)))
    refine n_call (.yes rfl rfl (beq_iff_eq.2 a1)) rfl rfl rfl (C.use (bytes_c (BytesAt.kp0 h1 (by repeat (first | exact Kp.refl _ _ _ | refine Kp.new ?_ (by omega) _)) hw) (BytesAt.kp0 h2 (by repeat (first | exact Kp.refl _ _ _ | refine Kp.new ?_ (by omega) _)) hw)) fun v g1 n1 hw1 hn1 hq => ?_)
    obtain ⟨rfl, k1⟩ := hq
    refine nO (s_pt rfl (beq_iff_eq.2 a1) rfl (nA rfl (n_nil (Nc (Nf (z_r1 rfl rfl ?_))))))
    exact ⟨⟨_, rfl, ⟨fun h => absurd (of_decide_eq_true h) a3, fun h => absurd (by rw [h]) a3⟩⟩, Kp.trans0 (by repeat (first | exact Kp.refl _ _ _ | refine Kp.new ?_ (by omega) _)) k1 (by omega)⟩
  ·refine Nc (Na (w_reg 20 rfl rfl (j' := 23) (nO (s_fa0 rfl fo_28_0 (nO (sL rfl ag_9 ?_))))))
   refine nO (s_fa0 rfl fo_28_0 (nO (sL rfl ag_9 ?_)))
   refine nO (s_bin rfl rfl rfl (nM rfl (nY rfl rfl (str_t a2) (s_fa0 rfl fo_28_1 (nY rfl rfl (str_t a2) (sL rfl ag_2 ?_))))))
   refine nY rfl rfl (str_t a2) (s_fa0 rfl fo_28_1 (nY rfl rfl (str_t a2) (sL rfl ag_2 ?_)))
   refine nY rfl rfl (str_t a2) (s_bin rfl rfl rfl (nO (s_pt rfl (str_t a2) rfl (nM rfl (nSk rfl rfl (beq_eq_false_iff_ne.2 a1) rfl 4 rfl (nO (s_pf rfl (beq_eq_false_iff_ne.2 a1) rfl (nA rfl (n_nil (Nc (Nf (z_r1 rfl rfl ?_))))))))))))
   exact ⟨⟨_, rfl, ⟨fun h => (by cases h), fun h => absurd (by rw [h]) a1⟩⟩, (by repeat (first | exact Kp.refl _ _ _ | refine Kp.new ?_ (by omega) _))⟩
 ·refine Nc (Na (w_reg 20 rfl rfl (j' := 23) (nO (s_fa0 rfl fo_28_0 (nO (sL rfl ag_9 ?_))))))
  refine nO (s_fa0 rfl fo_28_0 (nO (sL rfl ag_9 ?_)))
  refine nO (s_bin rfl rfl rfl (nM rfl (nSk rfl rfl (str_f a2) rfl 4 rfl (nO (s_pf rfl (str_f a2) rfl (nM rfl (nSk rfl rfl (rfl) rfl 4 rfl (nO (s_pf rfl (rfl) rfl (nA rfl (n_nil (Nc (Nf (z_r1 rfl rfl ?_))))))))))))))
  exact ⟨⟨_, rfl, ⟨fun h => (by cases h), fun h => absurd (by rw [h]) a2⟩⟩, (by repeat (first | exact Kp.refl _ _ _ | refine Kp.new ?_ (by omega) _))⟩

theorem eqEntries_c {g : Gm} {n : Nat} {v w : Value} {es fs : List SEnt} (h1 : EntsRd g v es) (h2 : EntsRd g w fs) (hn : es.length < 2 ^ 40) : C 30 #[v, w] g n fun u g' n' => (∃ r, u = .bool r ∧ (r = true ↔ es = fs)) ∧ K0 g n g' := by
 obtain ⟨a1, c1, rfl⟩ := h1.len
 obtain ⟨a2, c2, rfl⟩ := h2.len
 refine c_in2 Tryz.func30 rfl Tryz.ntmps30 rfl fun hw => (Na (w_reg 1 rfl rfl (j' := 1) (nA rfl (n_nil (Nc (Na (Na (w_reg 5 rfl rfl (j' := 6) (nM rfl (nO (s_len rfl rfl un_48 rfl (nM rfl (nO (s_len rfl rfl un_48 rfl (nO (s_bin rfl rfl rfl (n_nil ?_)))))))))))))))))
 by_cases hl : es.length = fs.length
 ·refine Nc (w_no rfl (bne_eq_false_iff_eq.2 (by omega)) (Ne (Nc (Na (Na (w_reg 3 rfl rfl (j' := 9) (nM rfl (nO (s_len rfl rfl un_48 rfl (nM rfl (n_nil ?_)))))))))))
  repeat first | refine Na ?_ | refine Nb ?_ | refine Nc ?_ | refine Nd ?_ | refine Ne ?_
  refine w_loop (β := Nat) (fun i => [(0, .slice a1 es.length c1), (1, .slice a2 fs.length c2), (12, .int .i64 es.length), (13, .int .i64 i)])
   (fun i g' n' => i ≤ es.length ∧ n ≤ n' ∧ K0 g n g' ∧ es.take i = fs.take i) (fun i => es.length - i) 0 ⟨rfl, rfl, rfl, rfl, trivial⟩ ⟨by omega, by omega, (by repeat (first | exact Kp.refl _ _ _ | refine Kp.new ?_ (by omega) _)), rfl⟩ ?_
  rintro i f g1 n1 hw1 ⟨hi, hn1, k1, ht⟩
  repeat first | refine Na ?_ | refine Nb ?_ | refine Nc ?_ | refine Nd ?_ | refine Ne ?_
  refine w_reg 1 rfl rfl (j' := 1) (nO (s_bin rfl rfl rfl (n_nil (Nc (Na (w_if rfl (fun hb => ?_) (fun hb => ?_)))))))
  ·have hi : i < es.length := by simpa using hb
   have hi2 : i < fs.length := by omega
   obtain ⟨l3, o3, c3, cl3, ro3, p3, q3, x1, x2, x0, x5, _, _, x6, _⟩ := (h1.kp0 k1 hw).at hi
   cases x1
   obtain ⟨l4, o4, c4, cl4, ro4, p4, q4, y1, y2, y0, y5, _, _, y6, _⟩ := (h2.kp0 k1 hw).at hi2
   cases y1
   repeat first | refine Na ?_ | refine Nb ?_ | refine Nc ?_ | refine Nd ?_ | refine Ne ?_
   refine w_reg 2 rfl rfl (j' := 3) (nM rfl (nA rfl (n_nil (Nc (Na (w_drw (T6 30 6) [(0, []), (1, []), (2, []), (3, []), (4, [3]), (5, [3]), (6, [3]), (7, [3]), (8, []), (9, [])] 10 (by kernel_rfl) rfl rfl (j' := 13) (dM rfl rfl (dM rfl rfl (dO rfl rfl (s_ia rfl rfl el_48 (by first | assumption | omega) ⟨⟨rfl, rfl⟩, (dT rfl rfl rfl (sLa rfl ag_28 sz_28 ⟨clash_nil, ?_⟩))⟩))))))))))
   refine dM rfl rfl (dM rfl rfl (dO rfl rfl (s_ia rfl rfl el_48 (by first | assumption | omega) ⟨⟨rfl, rfl⟩, (dT rfl rfl rfl (sLa rfl ag_28 sz_28 ⟨clash_rd rfl, ?_⟩))⟩)))
   refine d_call rfl .no rfl rfl rfl call_nil (C.use (eqEntry_c x6 y6) fun v g2 n2 hw2 hn2 hq => ?_)
   obtain ⟨⟨r, rfl, hr⟩, k2⟩ := hq
   refine ⟨kept_nil, (dO rfl rfl (s_not rfl ⟨⟨rfl, rfl⟩, (d_nil ?_)⟩))⟩
   have k3 := k1.trans0 (k2.dn (m := n1) (by omega)) (by omega)
   by_cases he : es[i] = fs[i]
   ·refine Nc (w_no rfl (by simp [hr.2 he]) ?_)
    repeat first | refine Na ?_ | refine Nb ?_ | refine Nc ?_ | refine Nd ?_ | refine Ne ?_
    repeat first | refine Na ?_ | refine Nb ?_ | refine Nc ?_ | refine Nd ?_ | refine Ne ?_
    refine w_reg 2 rfl rfl (j' := 2) (nO (s_bin rfl rfl (by first | exact bi_inc (by omega) | exact bi_add rfl (by omega) (by omega)) ?_))
    refine nM rfl (n_nil ?_)
    exact z_round (i + 1) ⟨rfl, rfl, rfl, rfl, trivial⟩ ⟨hi, by omega, k3, by rw [List.take_succ_eq_append_getElem hi, List.take_succ_eq_append_getElem hi2, ht, he]⟩ (by omega)
   ·have hrf : r = false := by
     cases r with
     | false => rfl
     | true => exact absurd (hr.1 rfl) he
    refine Nc (w_yes rfl (by simp [hrf]) (Na (w_reg 1 rfl rfl (j' := 1) (nA rfl (n_nil (Nc (Nf (z_r1 rfl rfl ?_))))))))
    exact ⟨⟨_, rfl, ⟨fun h => (by cases h), fun h => absurd (by simp only [h]) he⟩⟩, k3⟩
  ·refine w_exit rfl ?_
   repeat first | refine Na ?_ | refine Nb ?_ | refine Nc ?_ | refine Nd ?_ | refine Ne ?_
   refine w_reg 1 rfl rfl (j' := 2) (nA rfl (n_nil (Nc (Nf (z_r1 rfl rfl ?_)))))
   have : i = es.length := by simp at hb; omega
   subst this
   rw [List.take_length, hl, List.take_length] at ht
   exact ⟨⟨_, rfl, ⟨fun _ => ht, fun _ => rfl⟩⟩, k1⟩
 ·refine Nc (w_yes rfl (bne_iff_ne.2 (by omega)) (Na (w_reg 1 rfl rfl (j' := 7) (nA rfl (n_nil (Nc (Nf (z_r1 rfl rfl ?_))))))))
  exact ⟨⟨_, rfl, ⟨fun h => (by cases h), fun h => absurd (by rw [h]) hl⟩⟩, (by repeat (first | exact Kp.refl _ _ _ | refine Kp.new ?_ (by omega) _))⟩

end Go.Proofs.YtehmailaabjdjaaGreat
end

section
open Go.Proofs
namespace Go.Proofs.YtehmailaabjdjaaGreat
set_option linter.unusedSimpArgs false
set_option linter.unusedVariables false
set_option maxRecDepth 100000

section
variable {N : Nat} {f : Nat → Value} {s : Sls} {g : Gm} {n nm : Nat} {k : Sls → Gm → List Nat → List Nat → Prop} {d : Tmp} {ty : TypeId} {pos : String} {af : Array Edge} {gd : Option (Nat × Bool)}
theorem s_mark' {t e : TypeId} {x : Operand} {l o m c sz : Nat} {cl : List Value} (ht : E6.P.underlying t = some (.slice e)) (he : E6.P.underlying e = some (.int .u8)) (hx : ov N s x = some (.slice (some ⟨l, o, none⟩) m c)) (hg : g l = some (.cells cl sz false))
    (hk : k ((d, .slice (some ⟨l, o, none⟩) m c) :: s) (gset g l (.cells cl sz false)) [l] [l]) : ST N f s g n nm ⟨some d, .convert t t x, ty, pos, af, gd⟩ k := by
  refine ⟨⟨[l], fun _ objs => match objs with
          | [.cells cl sz false] => some ⟨.slice (some ⟨l, o, none⟩) m c, some (l, some (.cells cl sz false)), none⟩
          | _ => none⟩, ⟨.slice (some ⟨l, o, none⟩) m c, some (l, some (.cells cl sz false)), none⟩, ?_, ?_, by simp [wrOk], _, _, Fr_put _ _ _ _ _, rfl, hk⟩
  · simp only [aop, aConvert, ov_ok hx, Option.bind_some, ht, he, beq_self_eq_true, if_true, Option.map_some]
    rfl
  · simp only [Prim.run, getAll, hg, Option.bind_some, Option.map_some]
end

theorem bi_rem {P : Program} {t : TypeId} {a b c : Int} (h0 : b ≠ 0) (h : a.tmod b = c) : binS P .rem t (.int .i64 a) (.int .i64 b) = some (.int .i64 c) := by
 subst h
 simp only [binS, if_true, intV, if_neg h0]
theorem plainL_app' {p : Value → Bool} : ∀ {a b : List Value}, plainL p a = true → plainL p b = true → plainL p (a ++ b) = true
 | [], b, _, h => h
 | x :: a, b, h, k => by
  simp only [plainL, List.cons_append, Bool.and_eq_true] at h ⊢
  exact ⟨h.1, plainL_app' h.2 k⟩
theorem own_row {g : Gm} {nm z : Nat} {c : List Value} (h : g nm = some (.cells c z false)) (hz : c.length = z) : SlOwn g z (.slice (some ⟨nm, 0, none⟩) 1 1) 1 c :=
 ⟨by omega, .inr ⟨nm, 0, 1, c, rfl, Nat.le_refl _, h, by omega, by simp [← hz]⟩⟩
theorem app40' : AppT E6.P 40 40 3 48 := ⟨39, _, un_40, sz_39, by_39, zp_39, rfl, by decide, by decide, by rw [un_40]; rfl⟩
theorem Sto.Inv.list_len {S : Sto} {N : Nat} (h : S.Inv N) : S.list.length ≤ 64 * N := by
 unfold Sto.list
 rw [List.length_map, sortK, List.length_mergeSort, List.length_map]
 exact h.nlen
theorem SlC.kv {F : Nat → AObj → Prop} {g g' : Gm} {n k m : Nat} {v : Value} {cs : List Value} (h : SlC g k v m cs) (hk : Kp F g n g') (hw : WF g n) (hF : ∀ x c ro, vname v = some x → ¬ F x (.cells c k ro)) : SlC g' k v m cs := by
 obtain ⟨h1, h2 | h2 | ⟨l, o, c, h2, h3, h4 | ⟨cl, ro, h4, h5, h6⟩⟩⟩ := h
 ·exact ⟨h1, .inl h2⟩
 ·exact ⟨h1, .inr (.inl h2)⟩
 ·exact ⟨h1, .inr (.inr ⟨l, o, c, h2, h3, .inl h4⟩)⟩
 ·exact ⟨h1, .inr (.inr ⟨l, o, c, h2, h3, .inr ⟨cl, ro, hk.at hw h4 (hF _ _ _ (by rw [h2]; rfl)), h5, h6⟩⟩)⟩
theorem EvsRd.kv {F : Nat → AObj → Prop} {g g' : Gm} {n : Nat} {v : Value} {es : List Evt} (h : EvsRd g v es) (hk : Kp F g n g') (hw : WF g n) (hb : NoB F) (hF : ∀ x c ro, vname v = some x → ¬ F x (.cells c 4 ro)) : EvsRd g' v es := by
 obtain ⟨cs, h1, h2⟩ := h
 exact ⟨cs, h1.kv hk hw hF, h2.mono fun c x _ hx => hx.mono fun _ _ k => k.kp hk hw hb⟩

end Go.Proofs.YtehmailaabjdjaaGreat
end
