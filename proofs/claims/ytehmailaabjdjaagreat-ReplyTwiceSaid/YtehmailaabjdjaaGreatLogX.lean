/-
  the laws: what they share: begun, bytes that are made, parts of bytes. No condition. / What a call does not see stays; numbers and truths in rows; more operations. No condition. / plain laws of a log: what is kept, what is told. No condition. / the laws of the log: rows of events of one's own that share their bytes; a log among other rows. No condition. / plain laws of a log: whoever asks from where it ended. No condition. / the references' EqEvents, by contract. No condition. / An operation whose guard was itself left out is left out. No condition.
-/
import Derived.Test.YtehmailaabjdjaaGreatLogs
section
open Go.Proofs
namespace Go.Proofs.YtehmailaabjdjaaGreat
set_option linter.unusedSimpArgs false
set_option linter.unusedVariables false
set_option maxRecDepth 100000

def BegunOk : Prop := ∀ (g : Gm) (n : Nat), C 22 #[] g n fun u g' n' => u = .bool true ∧ g' = g

theorem BytesAt.len {g : Gm} {v : Value} {bs : List UInt8} (h : BytesAt g v bs) : ∃ a c, v = .slice a bs.length c := by
 obtain ⟨a, c, h, _⟩ := SlC.len h; exact ⟨a, c, h⟩
theorem BytesNew.other {b : Nat} {g : Gm} {v : Value} {bs : List UInt8} (h : BytesNew b g v bs) {x : Nat} (hx : vname v ≠ some x) (o : AObj) : BytesNew b (gset g x o) v bs := ⟨h.1.other hx o, h.2⟩
theorem bytes_row {b nm : Nat} {g : Gm} {cl : List Value} {bs : List UInt8} (h : g nm = some (.cells cl 1 false)) (hc : cl = u8c bs) (hb : b ≤ nm) : BytesNew b g (.slice (some ⟨nm, 0, none⟩) bs.length bs.length) bs := by
 subst hc
 refine ⟨⟨by rw [u8c_length]; omega, .inr ⟨nm, 0, bs.length, _, rfl, Nat.le_refl _, h, by rw [u8c_length]; omega, ?_⟩⟩, fun l hl => by cases hl; exact hb⟩
 rw [List.drop_zero, Nat.mul_one, ← u8c_length bs, List.take_length]

section
variable {N : Nat} {f : Nat → Value} {s : Sls} {g : Gm} {n nm : Nat} {k : Sls → Gm → List Nat → List Nat → Prop} {d : Tmp} {ty : TypeId} {pos : String} {af : Array Edge} {gd : Option (Nat × Bool)}

end

end Go.Proofs.YtehmailaabjdjaaGreat
end

section
open Go.Proofs
namespace Go.Proofs.YtehmailaabjdjaaGreat
set_option linter.unusedSimpArgs false
set_option linter.unusedVariables false
set_option maxRecDepth 100000

open Classical in
noncomputable def hid (g : Gm) (p : Nat → Prop) : Gm := fun x => if p x then none else g x

section
variable {F : Nat → AObj → Prop} {g g' : Gm} {n : Nat}

def IntsAt (g : Gm) (v : Value) (xs : List Int) : Prop := SlC g 1 v xs.length (xs.map (.int .i64))
def BoolsAt (g : Gm) (v : Value) (xs : List Bool) : Prop := SlC g 1 v xs.length (xs.map .bool)
end

section
variable {N : Nat} {f : Nat → Value} {s : Sls} {g : Gm} {n nm : Nat} {k : Sls → Gm → List Nat → List Nat → Prop} {d : Tmp} {ty : TypeId} {pos : String} {af : Array Edge} {gd : Option (Nat × Bool)}

end

theorem tmod_lt {a b : Int} (hb : 0 < b) : -b < a.tmod b ∧ a.tmod b < b :=
 ⟨by have := Int.lt_tmod_of_pos a hb; omega, Int.tmod_lt_of_pos a hb⟩
theorem tmod_nn {a b : Int} (ha : 0 ≤ a) (hb : 0 < b) : 0 ≤ a.tmod b ∧ a.tmod b < b := ⟨Int.tmod_nonneg b ha, Int.tmod_lt_of_pos a hb⟩

end Go.Proofs.YtehmailaabjdjaaGreat
end

section
open Go.Proofs
namespace Go.Proofs.YtehmailaabjdjaaGreat
set_option linter.unusedSimpArgs false
set_option linter.unusedVariables false

theorem lastRev_const {r : Int} {es : List Evt} (hne : es ≠ []) (h : ∀ e ∈ es, e.rev = r) : lastRev es = r := by
 have h0 : 0 < es.length := List.length_pos_iff.2 hne
 rw [lastRev_eq h0]
 exact h _ (List.getElem_mem _)

end Go.Proofs.YtehmailaabjdjaaGreat
end

section
open Go.Proofs
namespace Go.Proofs.YtehmailaabjdjaaGreat
set_option linter.unusedSimpArgs false
set_option linter.unusedVariables false
set_option maxRecDepth 100000

def EvsW (g : Gm) (v : Value) (es : List Evt) : Prop := ∃ cs, SlOwn g 4 v es.length cs ∧ Rows 4 (EvC (BytesAt g)) cs es

theorem EvsW.nil (g : Gm) : EvsW g (.slice none 0 0) [] := ⟨[], SlOwn.nil _ _, rfl⟩
theorem EvsW.rd {g : Gm} {v : Value} {es : List Evt} (h : EvsW g v es) : EvsRd g v es := by
 obtain ⟨cs, h1, h2⟩ := h; exact ⟨cs, h1.slc, h2⟩
theorem EvsW.kp {F : Nat → AObj → Prop} {g g' : Gm} {n : Nat} {v : Value} {es : List Evt} (h : EvsW g v es) (hk : Kp F g n g') (hw : WF g n) (hF : NoB F) (hv : Off F g v) : EvsW g' v es := by
 obtain ⟨cs, h1, h2⟩ := h
 exact ⟨cs, h1.kp hk hw hv, h2.mono fun c x _ hx => hx.mono fun _ _ k => k.kp hk hw hF⟩
theorem EvsW.kp0 {g g' : Gm} {n : Nat} {v : Value} {es : List Evt} (h : EvsW g v es) (hk : K0 g n g') (hw : WF g n) : EvsW g' v es := h.kp hk hw NoB.z (Off.z g v)
theorem EvsW.nbo {g : Gm} {v : Value} {es : List Evt} (h : EvsW g v es) {x : Nat} (hx : vname v = some x) {o : AObj} (ho : g x = some o) : nb o := by
 obtain ⟨cs, ⟨_, ⟨rfl, _⟩ | ⟨l', o, c, cl, rfl, _, h4, _⟩⟩, _⟩ := h
 ·cases hx
 ·simp only [vname, Option.some.injEq] at hx
  subst hx
  rw [h4] at ho; cases ho
  show (4 : Nat) ≠ 1
  decide

theorem EvsW.app {F : Nat → AObj → Prop} {n1 : Nat} {g1 g' : Gm} {xs ys : List Evt} {cs ds : List Value} {w' : Value} (hR : Rows 4 (EvC (BytesAt g1)) cs xs) (hw1 : WF g1 n1) (hF : Kp F g1 n1 g') (hFb : NoB F)
  (hS : Rows 4 (EvC (BytesAt g')) ds ys) (hrow : SlOwn g' 4 w' (xs.length + ys.length) (cs ++ ds)) : EvsW g' w' (xs ++ ys) :=
 ⟨cs ++ ds, by rw [List.length_append]; exact hrow, Rows.append (hR.mono fun c x _ hx => hx.mono fun _ _ k => k.kp hF hw1 hFb) hS⟩

theorem SlOwn.lt {g : Gm} {n k m : Nat} {v : Value} {cs : List Value} (h : SlOwn g k v m cs) (hw : WF g n) {x : Nat} (hx : vname v = some x) : x < n := by
 obtain ⟨_, ⟨rfl, _⟩ | ⟨l', o, c, cl, rfl, _, h4, _⟩⟩ := h
 ·cases hx
 ·simp only [vname, Option.some.injEq] at hx
  subst hx
  exact hw _ _ h4

theorem SlC.at1 {g : Gm} {v : Value} {m i : Nat} {cs : List Value} {w : Value} (h : SlC g 1 v m cs) (hi : i < m) (hw : cs[i]? = some w) : ∃ l o c cl ro, v = .slice (some ⟨l, o, none⟩) m c ∧ g l = some (.cells cl 1 ro) ∧ cl[o + i * 1]? = some w := by
 obtain ⟨l, o, c, cl, ro, h1, _, h2, h3, h4⟩ := SlC.pos h (by omega)
 refine ⟨l, o, c, cl, ro, h1, h2, ?_⟩
 rw [take_cell h4 (by omega), Nat.mul_one]; exact hw

end Go.Proofs.YtehmailaabjdjaaGreat
end

section
open Go.Proofs
namespace Go.Proofs.YtehmailaabjdjaaGreat
set_option linter.unusedSimpArgs false
set_option linter.unusedVariables false

def after (r : Int) (es : List Evt) : List Evt := es.filter fun e => decide (r < e.rev)
def Asc (es : List Evt) : Prop := es.Pairwise fun a b => a.rev ≤ b.rev

theorem after_after {a b : Int} (es : List Evt) (h : a ≤ b) : after b (after a es) = after b es := by
 unfold after
 rw [List.filter_filter]
 refine List.filter_congr fun e _ => ?_
 by_cases h1 : b < e.rev
 ·have : a < e.rev := by omega
  simp [h1, this]
 ·simp [h1]
theorem after_all {es : List Evt} {r : Int} (h : ∀ e ∈ es, r < e.rev) : after r es = es := by
 unfold after
 rw [List.filter_eq_self]
 intro e he
 simpa using h e he

structure LogI (L : Log) (all : List Evt) : Prop where
 evs : L.evs = after L.base all
 asc : Asc all
 top : ∀ e ∈ all, e.rev ≤ L.last
 base : 0 ≤ L.base ∧ L.base ≤ L.last

theorem LogI.cut {L : Log} {all : List Evt} {r : Int} (h : LogI L all) (h1 : L.base ≤ r) (h2 : r ≤ L.last) : LogI (L.cut r) all := by
 have hb := h.base
 have e : max L.base (min r L.last) = r := by omega
 refine ⟨?_, h.asc, h.top, ?_⟩
 ·show L.evs.filter _ = after (max L.base (min r L.last)) all
  rw [e, h.evs, ← after_after all h1]
  rfl
 ·show 0 ≤ max L.base (min r L.last) ∧ max L.base (min r L.last) ≤ L.last
  omega

theorem LogI.trim {all : List Evt} : ∀ {k : Nat} {L : Log}, LogI L all → LogI (Log.trim k L) all ∧ (Log.trim k L).last = L.last ∧ (Log.trim k L).most = L.most
 | 0, L, h => ⟨h, rfl, rfl⟩
 | k + 1, L, h => by
  unfold Log.trim
  split
  ·split
   ·exact ⟨h, rfl, rfl⟩
   ·rename_i e r he
    have hm : e ∈ after L.base all := by rw [← h.evs, he]; exact List.mem_cons_self ..
    have h1 := (List.mem_filter.1 hm)
    have h2 : L.base < e.rev := by simpa using h1.2
    obtain ⟨a, b, c⟩ := LogI.trim (k := k) (h.cut (by omega) (h.top e h1.1))
    exact ⟨a, b, c⟩
  ·exact ⟨h, rfl, rfl⟩

theorem LogI.add {L : Log} {all es : List Evt} {r : Int} (h : LogI L all) (hne : es ≠ []) (hr : ∀ e ∈ es, e.rev = r) (hl : L.last < r) : LogI (L.add es) (all ++ es) ∧ (L.add es).last = r ∧ (L.add es).most = L.most := by
 have hlast : (L.put es).last = r := lastRev_const hne hr
 have hp : LogI (L.put es) (all ++ es) := by
  have hb := h.base
  refine ⟨?_, ?_, ?_, ?_⟩
  ·show L.evs ++ es = after L.base (all ++ es)
   unfold after
   rw [List.filter_append, h.evs]
   congr 1
   exact (after_all fun e he => by rw [hr e he]; omega).symm
  ·refine List.pairwise_append.2 ⟨h.asc, ?_, fun a ha b hb => ?_⟩
   ·exact List.pairwise_of_forall_mem_list fun a ha b hb => by rw [hr a ha, hr b hb]; exact Int.le_refl _
   ·have := h.top a ha
    rw [hr b hb]; omega
  ·intro e he
   rw [hlast]
   rcases List.mem_append.1 he with he | he
   ·have := h.top e he; omega
   ·rw [hr e he]; exact Int.le_refl _
  ·rw [hlast]
   show 0 ≤ L.base ∧ L.base ≤ r
   omega
 obtain ⟨a, b, c⟩ := hp.trim (k := L.evs.length + es.length)
 exact ⟨a, b.trans hlast, c⟩

theorem evs_plain {B : Value → List UInt8 → Prop} : ∀ {es : List Evt} {cs : List Value}, Rows 4 (EvC B) cs es → plainL oneCell cs = true
 | [], cs, h => by cases h; rfl
 | e :: es, cs, h => by
  obtain ⟨c, d, rfl, _, ⟨a, p, rfl, _⟩, h3⟩ := h
  have := evs_plain h3
  simp only [evtC, List.cons_append, List.nil_append, plainL, oneCell, Bool.true_and]
  exact this

end Go.Proofs.YtehmailaabjdjaaGreat
end

section
open Go.Proofs
namespace Go.Proofs.YtehmailaabjdjaaGreat
set_option linter.unusedSimpArgs false
set_option linter.unusedVariables false
set_option maxRecDepth 100000

theorem eqEvents_c {g : Gm} {n : Nat} {v w : Value} {es fs : List Evt} (h1 : EvsRd g v es) (h2 : EvsRd g w fs) (hn : es.length < 2 ^ 40) : C 49 #[v, w] g n fun u g' n' => (∃ r, u = .bool r ∧ (r = true ↔ es = fs)) ∧ K0 g n g' := by
 obtain ⟨a1, c1, rfl⟩ := h1.len
 obtain ⟨a2, c2, rfl⟩ := h2.len
 refine c_in2 Tryz.func49 rfl Tryz.ntmps49 rfl fun hw => (Na (w_reg 1 rfl rfl (j' := 1) (nA rfl (n_nil (Nc (Na (Na (w_reg 5 rfl rfl (j' := 6) (nM rfl (nO (s_len rfl rfl un_65 rfl (nM rfl (nO (s_len rfl rfl un_65 rfl (nO (s_bin rfl rfl rfl (n_nil ?_)))))))))))))))))
 by_cases hl : es.length = fs.length
 ·refine Nc (w_no rfl (bne_eq_false_iff_eq.2 (by omega)) (Ne (Nc (Na (Na (w_reg 3 rfl rfl (j' := 9) (nM rfl (nO (s_len rfl rfl un_65 rfl (nM rfl (n_nil ?_)))))))))))
  repeat first | refine Na ?_ | refine Nb ?_ | refine Nc ?_ | refine Nd ?_ | refine Ne ?_
  refine w_loop (β := Nat) (fun i => [(0, .slice a1 es.length c1), (1, .slice a2 fs.length c2), (12, .int .i64 es.length), (13, .int .i64 i)])
   (fun i g' n' => i ≤ es.length ∧ n ≤ n' ∧ K0 g n g' ∧ es.take i = fs.take i) (fun i => es.length - i) 0 ⟨rfl, rfl, rfl, rfl, trivial⟩ ⟨by omega, by omega, (by repeat (first | exact Kp.refl _ _ _ | refine Kp.new ?_ (by omega) _)), rfl⟩ ?_
  rintro i f g1 n1 hw1 ⟨hi, hn1, k1, ht⟩
  repeat first | refine Na ?_ | refine Nb ?_ | refine Nc ?_ | refine Nd ?_ | refine Ne ?_
  refine w_reg 1 rfl rfl (j' := 1) (nO (s_bin rfl rfl rfl (n_nil (Nc (Na (w_if rfl (fun hb => ?_) (fun hb => ?_)))))))
  ·have hi : i < es.length := by simpa using hb
   have hi2 : i < fs.length := by omega
   obtain ⟨l3, o3, c3, cl3, ro3, p3, q3, x1, _, x2, x3⟩ := (h1.kp0 k1 hw).at hi
   cases x1
   obtain ⟨l4, o4, c4, cl4, ro4, p4, q4, y1, _, y2, y3⟩ := (h2.kp0 k1 hw).at hi2
   cases y1
   have x0 := x3.len
   have x5 := x3.all
   have y0 := y3.len
   have y5 := y3.all
   repeat first | refine Na ?_ | refine Nb ?_ | refine Nc ?_ | refine Nd ?_ | refine Ne ?_
   refine w_reg 2 rfl rfl (j' := 3) (nM rfl (nA rfl (n_nil (Nc (Na (w_drw (T6 49 6) [(0, []), (1, []), (2, []), (3, []), (4, [3]), (5, [3]), (6, [3]), (7, [3]), (8, []), (9, [])] 10 (by kernel_rfl) rfl rfl (j' := 13) (dM rfl rfl (dM rfl rfl (dO rfl rfl (s_ia rfl rfl el_65 (by first | assumption | omega) ⟨⟨rfl, rfl⟩, (dT rfl rfl rfl (sLa rfl ag_82 sz_82 ⟨clash_nil, ?_⟩))⟩))))))))))
   refine dM rfl rfl (dM rfl rfl (dO rfl rfl (s_ia rfl rfl el_65 (by first | assumption | omega) ⟨⟨rfl, rfl⟩, (dT rfl rfl rfl (sLa rfl ag_82 sz_82 ⟨clash_rd rfl, ?_⟩))⟩)))
   refine d_call rfl .no rfl rfl rfl call_nil (C.use (eqEvent_c x3.val y3.val) fun v g2 n2 hw2 hn2 hq => ?_)
   obtain ⟨⟨r, rfl, hr⟩, k2⟩ := hq
   refine ⟨kept_nil, (dO rfl rfl (s_not rfl ⟨⟨rfl, rfl⟩, (d_nil ?_)⟩))⟩
   have k3 := k1.trans0 (k2.dn (m := n1) (by omega)) (by omega)
   by_cases he : es[i] = fs[i]
   ·refine Nc (w_no rfl (by simp [hr.2 he]) ?_)
    repeat first | refine Na ?_ | refine Nb ?_ | refine Nc ?_ | refine Nd ?_ | refine Ne ?_
    repeat first | refine Na ?_ | refine Nb ?_ | refine Nc ?_ | refine Nd ?_ | refine Ne ?_
    refine w_reg 2 rfl rfl (j' := 2) (nO (s_bin rfl rfl (by first | exact bi_inc (by omega) | exact bi_add rfl (by omega) (by omega)) ?_))
    refine nM rfl (n_nil ?_)
    exact z_round (i + 1) ⟨rfl, rfl, rfl, rfl, trivial⟩ ⟨hi, by omega, k3, by rw [List.take_succ_eq_append_getElem hi, List.take_succ_eq_append_getElem hi2, ht, he]⟩ (by omega)
   ·have hrf : r = false := by
     cases r with
     | false => rfl
     | true => exact absurd (hr.1 rfl) he
    refine Nc (w_yes rfl (by simp [hrf]) (Na (w_reg 1 rfl rfl (j' := 1) (nA rfl (n_nil (Nc (Nf (z_r1 rfl rfl ?_))))))))
    exact ⟨⟨_, rfl, ⟨fun h => (by cases h), fun h => absurd (by simp only [h]) he⟩⟩, k3⟩
  ·refine w_exit rfl ?_
   repeat first | refine Na ?_ | refine Nb ?_ | refine Nc ?_ | refine Nd ?_ | refine Ne ?_
   refine w_reg 1 rfl rfl (j' := 2) (nA rfl (n_nil (Nc (Nf (z_r1 rfl rfl ?_)))))
   have : i = es.length := by simp at hb; omega
   subst this
   rw [List.take_length, hl, List.take_length] at ht
   exact ⟨⟨_, rfl, ⟨fun _ => ht, fun _ => rfl⟩⟩, k1⟩
 ·refine Nc (w_yes rfl (bne_iff_ne.2 (by omega)) (Na (w_reg 1 rfl rfl (j' := 7) (nA rfl (n_nil (Nc (Nf (z_r1 rfl rfl ?_))))))))
  exact ⟨⟨_, rfl, ⟨fun h => (by cases h), fun h => absurd (by rw [h]) hl⟩⟩, (by repeat (first | exact Kp.refl _ _ _ | refine Kp.new ?_ (by omega) _))⟩

end Go.Proofs.YtehmailaabjdjaaGreat
end

section
open Go.Proofs
namespace Go.Proofs.YtehmailaabjdjaaGreat
set_option linter.unusedSimpArgs false
set_option linter.unusedVariables false
set_option maxRecDepth 100000

theorem wanted_undef {ops : Array Oper} {a : Act} {o : Oper} {j d : Nat} {b : Bool} (hg : o.guard = some (j, b)) (h1 : gdst ops j = some d) (h2 : aeval a (.tmp d) = some undef) :
  Region.wanted o (yielded ops a.tmps) = false := by
 simp only [Region.wanted, hg, yielded]
 unfold gdst at h1
 rw [h1]
 simp only [aeval, Option.some.injEq] at h2
 simp only [Option.bind_some]
 rw [Array.getD_eq_getD_getElem?] at h2
 cases hd : a.tmps[d]? with
 | none => rfl
 | some u =>
  rw [hd] at h2
  simp only [Option.getD_some] at h2
  subst h2
  rfl

section
variable {X : Cx} {k : List Fm} {f : Nat → Value} {s : Sls} {g : Gm} {m j m₀ j₀ i : Nat} {ops : Array Oper} {op : Op} {ty : TypeId} {pos : String} {af : Array Edge} {lo : List Nat} {L : List (Nat × List Nat)} {D : List Rec} {os : List Oper}

theorem n_skU {jg d : Nat} {b : Bool} {dd : Tmp} (hd : gdL ops.toList jg = some d) (hv : ov X.N s (.tmp d) = some undef) (h : RN X k ops m₀ j₀ (i + 1) os f ((dd, undef) :: s) g m j) :
  RN X k ops m₀ j₀ i (⟨some dd, op, ty, pos, af, some (jg, b)⟩ :: os) f s g m j := by
 refine ⟨fun hops => ?_⟩
 rw [List.length_cons, List.range'_succ]
 have ho := rn_here hops
 simp only [runL, ho]
 rw [if_neg (by rw [wanted_undef rfl (gdL_ok hd) (ov_ok hv)]; simp), Fr_put]
 exact h.out (rn_rest hops)
theorem d_skU {jg d : Nat} {b : Bool} {dd : Tmp} (ho : nth ops.toList i = some ⟨some dd, op, ty, pos, af, some (jg, b)⟩) (hd : gdL ops.toList jg = some d) (hv : ov X.N s (.tmp d) = some undef) (h : RD X k ops m₀ j₀ L D f ((dd, undef) :: s) g m j) :
  RD X k ops m₀ j₀ ((i, lo) :: L) D f s g m j := by
 replace ho := nth_ok ho
 refine ⟨fun dep pre D' hpl hS => ?_⟩
 obtain ⟨hp, hpl2⟩ := plan_lo hpl
 simp only [List.map_cons, runD, ho]
 rw [if_neg (by rw [wanted_undef rfl (gdL_ok hd) (ov_ok hv)]; simp), Fr_put]
 exact h.out dep (i :: pre) _ hpl2 hS.grow

theorem w_gen {c : Code} (h : ∀ g' n', g' = g → n' = m + j → WF g' n' → W X k c f s g' n' 0) : W X k c f s g m j :=
 w_wf fun hw => ⟨(h g (m + j) rfl rfl hw).out⟩
end

end Go.Proofs.YtehmailaabjdjaaGreat
end
