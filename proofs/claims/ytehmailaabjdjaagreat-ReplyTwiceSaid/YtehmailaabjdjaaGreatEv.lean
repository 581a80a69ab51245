/-
  EVENTS IN MEMORY; slices.Clone of bytes, log.copied, the references' Bytes, EqEvent, EqEvents, by contract. No condition.
-/
import Derived.Test.YtehmailaabjdjaaGreatFacts3
open Go.Proofs
namespace Go.Proofs.YtehmailaabjdjaaGreat
set_option linter.unusedSimpArgs false
set_option linter.unusedVariables false
set_option maxRecDepth 100000

structure Evt where
 rev : Int
 key : List UInt8
 val : List UInt8
 gone : Bool

def Evt.small (e : Evt) : Prop := e.val.length ≤ 2 ^ 46

theorem Evt.ext' {a b : Evt} (h1 : a.rev = b.rev) (h2 : a.key = b.key) (h3 : a.val = b.val) (h4 : a.gone = b.gone) : a = b := by
 cases a; cases b; simp_all

def evtC (e : Evt) (v : Value) : List Value := [.int .i64 e.rev, .string (str e.key), v, .bool e.gone]
def EvC (B : Value → List UInt8 → Prop) (c : List Value) (e : Evt) : Prop := ∃ a p, c = evtC e (.slice a e.val.length p) ∧ B (.slice a e.val.length p) e.val ∧ e.small

def EvsRd (g : Gm) (v : Value) (es : List Evt) : Prop := ∃ cs, SlC g 4 v es.length cs ∧ Rows 4 (EvC (BytesAt g)) cs es
structure EvsOwn (b : Nat) (g : Gm) (v : Value) (es : List Evt) : Prop where
 row : ∃ cs, SlOwn g 4 v es.length cs ∧ Rows 4 (EvC (BytesNew b g)) cs es
 from_ : ∀ l, vname v = some l → b ≤ l

section
variable {F : Nat → AObj → Prop} {g g' : Gm} {n n' b : Nat} {v : Value} {es : List Evt}

theorem EvC.mono {B B' : Value → List UInt8 → Prop} {c : List Value} {e : Evt} (h : EvC B c e) (hb : ∀ v bs, B v bs → B' v bs) : EvC B' c e := by
 obtain ⟨a, p, h1, h2, h3⟩ := h
 exact ⟨a, p, h1, hb _ _ h2, h3⟩
theorem EvsOwn.rd (h : EvsOwn b g v es) : EvsRd g v es := by
 obtain ⟨⟨cs, h1, h2⟩, h3⟩ := h
 exact ⟨cs, h1.slc, h2.mono fun c x _ hx => hx.mono fun _ _ k => k.at⟩
theorem EvsRd.kp (h : EvsRd g v es) (hk : Kp F g n g') (hw : WF g n) (hF : NoB F) (hv : Off F g v) : EvsRd g' v es := by
 obtain ⟨cs, h1, h2⟩ := h
 exact ⟨cs, h1.kp hk hw hv, h2.mono fun c x _ hx => hx.mono fun _ _ k => k.kp hk hw hF⟩
theorem EvsRd.kp0 (h : EvsRd g v es) (hk : K0 g n g') (hw : WF g n) : EvsRd g' v es := h.kp hk hw NoB.z (Off.z g v)
theorem BytesNew.kpb {bs : List UInt8} (h : BytesNew b g v bs) (hk : Kp F g n g') (hw : WF g n) (hF : ∀ x cl ro, b ≤ x → ¬ F x (.cells cl 1 ro)) : BytesNew b g' v bs := by
 refine ⟨h.1.kp hk hw fun l o hl ho hf => ?_, h.2⟩
 have hb := h.2 l hl
 obtain ⟨_, ⟨rfl, _⟩ | ⟨l', o', c, cl, rfl, _, h4, _⟩⟩ := h.1
 ·cases hl
 ·simp only [vname, Option.some.injEq] at hl
  subst hl
  rw [h4] at ho; cases ho
  exact hF _ _ _ hb hf
theorem EvsOwn.kp (h : EvsOwn b g v es) (hk : Kp F g n g') (hw : WF g n) (hF : ∀ x cl ro, b ≤ x → ¬ F x (.cells cl 1 ro)) (hv : Off F g v) : EvsOwn b g' v es := by
 obtain ⟨⟨cs, h1, h2⟩, h3⟩ := h
 exact ⟨⟨cs, h1.kp hk hw hv, h2.mono fun c x _ hx => hx.mono fun _ _ k => k.kpb hk hw hF⟩, h3⟩
theorem EvsOwn.kp0 (h : EvsOwn b g v es) (hk : K0 g n g') (hw : WF g n) : EvsOwn b g' v es := h.kp hk hw (fun _ _ _ _ h => h) (Off.z g v)
theorem EvsOwn.up {b' : Nat} (h : EvsOwn b g v es) (hb : b' ≤ b) : EvsOwn b' g v es := by
 obtain ⟨⟨cs, h1, h2⟩, h3⟩ := h
 exact ⟨⟨cs, h1, h2.mono fun c x _ hx => hx.mono fun _ _ k => k.up hb⟩, fun l hl => Nat.le_trans hb (h3 l hl)⟩

structure EvAt (g : Gm) (B : Value → List UInt8 → Prop) (e : Evt) (l o : Nat) (cl : List Value) (a : Option Addr) (p : Nat) : Prop where
 len : o + 4 ≤ cl.length
 all : (cl.drop o).take 4 = evtC e (.slice a e.val.length p)
 c0 : cl[o]? = some (.int .i64 e.rev)
 c0' : cl[o + 0]? = some (.int .i64 e.rev)
 c1 : cl[o + 1]? = some (.string (str e.key))
 c2 : cl[o + 2]? = some (.slice a e.val.length p)
 c3 : cl[o + 3]? = some (.bool e.gone)
 val : B (.slice a e.val.length p) e.val
 small : e.small

theorem evAt_of {B : Value → List UInt8 → Prop} {e : Evt} {l o : Nat} {cl : List Value} (hl : o + 4 ≤ cl.length) (h : EvC B ((cl.drop o).take 4) e) : ∃ a p, EvAt g B e l o cl a p := by
 obtain ⟨a, p, h1, h2, h3⟩ := h
 have cell : ∀ j, j < 4 → cl[o + j]? = (evtC e (.slice a e.val.length p))[j]? := fun j hj => by
  rw [← h1, List.getElem?_take, if_pos hj, List.getElem?_drop]
 exact ⟨a, p, hl, h1, cell 0 (by omega), cell 0 (by omega), cell 1 (by omega), cell 2 (by omega), cell 3 (by omega), h2, h3⟩

theorem EvsRd.at {i : Nat} (h : EvsRd g v es) (hi : i < es.length) : ∃ l o c cl ro a p, v = .slice (some ⟨l, o, none⟩) es.length c ∧ es.length ≤ c ∧ g l = some (.cells cl 4 ro) ∧ EvAt g (BytesAt g) es[i] l (o + i * 4) cl a p := by
 obtain ⟨cs, h1, h2⟩ := h
 obtain ⟨l, o, c, cl, ro, rfl, hc, h3, h4, h5⟩ := h1.pos (by omega)
 have hm : i * 4 + 4 ≤ es.length * 4 := by omega
 have h6 := h2.get hi
 rw [← take_part h5 (show i * 4 + 4 ≤ es.length * 4 by omega)] at h6
 obtain ⟨a, p, h7⟩ := evAt_of (g := g) (l := l) (by omega) h6
 exact ⟨l, o, c, cl, ro, a, p, rfl, hc, h3, h7⟩
theorem EvsRd.len (h : EvsRd g v es) : ∃ a c, v = .slice a es.length c := by
 obtain ⟨cs, h1, _⟩ := h
 obtain ⟨a, c, h, _⟩ := h1.len
 exact ⟨a, c, h⟩
end

theorem str_t {a b : List UInt8} (h : a = b) : ((str a).toList == (str b).toList) = true := by rw [str_eq]; simpa using h
theorem str_f {a b : List UInt8} (h : a ≠ b) : ((str a).toList == (str b).toList) = false := by rw [str_eq]; simpa using h
theorem clone_c {g : Gm} {n : Nat} {v : Value} {bs : List UInt8} (h : BytesAt g v bs) (hs : bs.length ≤ 2 ^ 46) : C 101 #[v] g n fun u g' n' => (∃ a c, u = .slice a bs.length c) ∧ BytesNew n g' u bs ∧ K0 g n g' :=
 C.of (clone_ok (σ := ⟨g, n⟩) h hs) fun v τ ⟨h1, h2⟩ => ⟨by obtain ⟨a, c, h, _⟩ := h1.1.slc.len; exact ⟨a, c, h⟩, h1, h2.k0⟩

theorem copied_c {g : Gm} {n : Nat} {e : Evt} {v : Value} (h : BytesAt g v e.val) (hs : e.small) :
  C 84 #[.agg (evtC e v).toArray] g n fun u g' n' => ∃ c, u = .agg c.toArray ∧ EvC (BytesNew n g') c e ∧ K0 g n g' := by
 refine c_in1 Tryz.func84 rfl Tryz.ntmps84 rfl fun hw => (Na (w_reg 2 rfl rfl (j' := 2) (n_op .no (q := 0) rfl (s_boxa rfl (n_op .no (q := 1) rfl (s_al zl_82 (n_nil (Nc (Na (w_reg 5 rfl rfl (j' := 7) (nO (s_fa0 rfl fo_82_2 (nO (sL rfl ag_26 ?_))))))))))))))
 refine n_call .no rfl rfl rfl (C.use (clone_c (BytesAt.kp0 h (by repeat (first | exact Kp.refl _ _ _ | refine Kp.new ?_ (by omega) _)) hw) hs) fun v g1 n1 hw1 hn1 hq => ?_)
 obtain ⟨⟨a, c, rfl⟩, h1, k1⟩ := hq
 refine nO (s_fa0 rfl fo_82_2 (nO (s_st rfl rfl sz_26 (by repeat first | exact gS | refine Kp.lt k1 (by omega) ?_ | refine gN (by omega) ?_) rfl rfl (by exact rfl) ?_)))
 refine n_nil (Nc (Na (w_reg 2 rfl rfl (j' := 2) (nO (s_ldf rfl (by repeat first | exact gS | refine Kp.lt k1 (by omega) ?_ | refine gN (by omega) ?_) ag_82 sz_82 (by exact rfl) ?_)))))
 refine nO (s_stw rfl rfl sz_82 rfl (by repeat first | exact gS | refine Kp.lt k1 (by omega) ?_ | refine gN (by omega) ?_) (by exact rfl) rfl ?_)
 refine n_nil (Nc (Nf (z_rc rfl rfl (by repeat first | exact gS | refine Kp.lt k1 (by omega) ?_ | refine gN (by omega) ?_) ag_82 sz_82 (by exact rfl) (by exact Nat.le_of_ble_eq_true rfl) ?_)))
 have k2 : K0 g n g1 := Kp.trans0 (by repeat (first | exact Kp.refl _ _ _ | refine Kp.new ?_ (by omega) _)) k1 (by omega)
 exact ⟨_, rfl, ⟨a, c, rfl, (h1.kpb (n := n1) (F := fun x _ => x < n + 7) (by repeat (first | exact Kp.refl _ _ _ | refine Kp.low ?_ (by omega) _ | refine Kp.new ?_ (by omega) _)) hw1 (fun x _ _ h => by omega)).up (by omega), hs⟩, Kp.new (Kp.new k2 (by omega) _) (by omega) _⟩

theorem bytes_c {g : Gm} {n : Nat} {v w : Value} {bs cs : List UInt8} (h1 : BytesAt g v bs) (h2 : BytesAt g w cs) : C 31 #[v, w] g n fun u g' n' => u = .bool (decide (bs = cs)) ∧ K0 g n g' := by
 refine c_in2 Tryz.func31 rfl Tryz.ntmps31 rfl fun hw => (Na (w_reg 1 rfl rfl (j' := 1) (nA rfl (n_nil (Nc (Na (w_reg 6 rfl rfl (j' := 7) (nM rfl (n_op .no (q := 2) rfl (s_b2s un_26 un_9 un_5 rfl h1 fun tc => (nM rfl (n_op .no (q := 4) rfl (s_b2s un_26 un_9 un_5 rfl h2 fun tc => (nO (s_bin rfl rfl rfl (nA rfl (n_nil (Nc (Nf (z_r1 rfl rfl ?_))))))))))))))))))))
 exact ⟨by rw [str_eq], (by repeat (first | exact Kp.refl _ _ _ | refine Kp.new ?_ (by omega) _))⟩

theorem eqEvent_c {g : Gm} {n : Nat} {x y : Evt} {v w : Value} (h1 : BytesAt g v x.val) (h2 : BytesAt g w y.val) : C 88 #[.agg (evtC x v).toArray, .agg (evtC y w).toArray] g n fun u g' n' => (∃ r, u = .bool r ∧ (r = true ↔ x = y)) ∧ K0 g n g' := by
 refine c_in2 Tryz.func88 rfl Tryz.ntmps88 rfl fun hw => (Na (w_reg 3 rfl rfl (j' := 3) (n_op .no (q := 0) rfl (s_boxa rfl (n_op .no (q := 1) rfl (s_boxa rfl (nA rfl (n_nil ?_))))))))
 by_cases a1 : x.rev = y.rev
 ·by_cases a2 : x.key = y.key
  ·by_cases a3 : x.val = y.val
   ·refine Nc (Na (w_reg 27 rfl rfl (j' := 30) (nO (s_fa0 rfl fo_82_0 (nO (sL rfl ag_2 ?_))))))
    refine nO (s_fa0 rfl fo_82_0 (nO (sL rfl ag_2 ?_)))
    refine nO (s_bin rfl rfl rfl (nM rfl (nY rfl rfl (beq_iff_eq.2 a1) (s_fa0 rfl fo_82_1 (nY rfl rfl (beq_iff_eq.2 a1) (sL rfl ag_9 ?_))))))
    refine nY rfl rfl (beq_iff_eq.2 a1) (s_fa0 rfl fo_82_1 (nY rfl rfl (beq_iff_eq.2 a1) (sL rfl ag_9 ?_)))
    refine nY rfl rfl (beq_iff_eq.2 a1) (s_bin rfl rfl rfl (nO (s_pt rfl (beq_iff_eq.2 a1) rfl (nM rfl (nY rfl rfl (str_t a2) (s_fa0 rfl fo_82_2 (nY rfl rfl (str_t a2) (sL rfl ag_26 ?_))))))))
    refine nY rfl rfl (str_t a2) (s_fa0 rfl fo_82_2 (nY rfl rfl (str_t a2) (sL rfl ag_26 ?_)))
    refine n_call (.yes rfl rfl (str_t a2)) rfl rfl rfl (C.use (bytes_c (BytesAt.kp0 h1 (by repeat (first | exact Kp.refl _ _ _ | refine Kp.new ?_ (by omega) _)) hw) (BytesAt.kp0 h2 (by repeat (first | exact Kp.refl _ _ _ | refine Kp.new ?_ (by omega) _)) hw)) fun v g1 n1 hw1 hn1 hq => ?_)
    obtain ⟨rfl, k1⟩ := hq
    refine nO (s_pt rfl (str_t a2) rfl (nM rfl (nY rfl rfl (decide_eq_true a3) (s_fa0 rfl fo_82_3 (nY rfl rfl (decide_eq_true a3) (s_ld rfl (by repeat first | exact gS | refine Kp.lt k1 (by omega) ?_ | refine gN (by omega) ?_) ag_4 (by first | exact rfl) ?_))))))
    refine nY rfl rfl (decide_eq_true a3) (s_fa0 rfl fo_82_3 (nY rfl rfl (decide_eq_true a3) (s_ld rfl (by repeat first | exact gS | refine Kp.lt k1 (by omega) ?_ | refine gN (by omega) ?_) ag_4 (by first | exact rfl) ?_)))
    refine nY rfl rfl (decide_eq_true a3) (s_bin rfl rfl (bi_d un_4 rfl) ?_)
    refine nO (s_pt rfl (decide_eq_true a3) rfl (nA rfl (n_nil (Nc (Nf (z_r1 rfl rfl ?_))))))
    exact ⟨⟨_, rfl, ⟨fun h => Evt.ext' a1 a2 a3 (by simpa using h), fun h => by rw [h]; simp⟩⟩, Kp.trans0 (by repeat (first | exact Kp.refl _ _ _ | refine Kp.new ?_ (by omega) _)) k1 (by omega)⟩
   ·refine Nc (Na (w_reg 27 rfl rfl (j' := 30) (nO (s_fa0 rfl fo_82_0 (nO (sL rfl ag_2 ?_))))))
    refine nO (s_fa0 rfl fo_82_0 (nO (sL rfl ag_2 ?_)))
    refine nO (s_bin rfl rfl rfl (nM rfl (nY rfl rfl (beq_iff_eq.2 a1) (s_fa0 rfl fo_82_1 (nY rfl rfl (beq_iff_eq.2 a1) (sL rfl ag_9 ?_))))))
    refine nY rfl rfl (beq_iff_eq.2 a1) (s_fa0 rfl fo_82_1 (nY rfl rfl (beq_iff_eq.2 a1) (sL rfl ag_9 ?_)))
    refine nY rfl rfl (beq_iff_eq.2 a1) (s_bin rfl rfl rfl (nO (s_pt rfl (beq_iff_eq.2 a1) rfl (nM rfl (nY rfl rfl (str_t a2) (s_fa0 rfl fo_82_2 (nY rfl rfl (str_t a2) (sL rfl ag_26 ?_))))))))
    refine nY rfl rfl (str_t a2) (s_fa0 rfl fo_82_2 (nY rfl rfl (str_t a2) (sL rfl ag_26 ?_)))
    refine n_call (.yes rfl rfl (str_t a2)) rfl rfl rfl (C.use (bytes_c (BytesAt.kp0 h1 (by repeat (first | exact Kp.refl _ _ _ | refine Kp.new ?_ (by omega) _)) hw) (BytesAt.kp0 h2 (by repeat (first | exact Kp.refl _ _ _ | refine Kp.new ?_ (by omega) _)) hw)) fun v g1 n1 hw1 hn1 hq => ?_)
    obtain ⟨rfl, k1⟩ := hq
    refine nO (s_pt rfl (str_t a2) rfl (nM rfl (nSk rfl rfl (decide_eq_false a3) rfl 4 rfl (nO (s_pf rfl (decide_eq_false a3) rfl (nA rfl (n_nil (Nc (Nf (z_r1 rfl rfl ?_))))))))))
    exact ⟨⟨_, rfl, ⟨fun h => by simp at h, fun h => absurd (by rw [h]) a3⟩⟩, Kp.trans0 (by repeat (first | exact Kp.refl _ _ _ | refine Kp.new ?_ (by omega) _)) k1 (by omega)⟩
  ·refine Nc (Na (w_reg 27 rfl rfl (j' := 30) (nO (s_fa0 rfl fo_82_0 (nO (sL rfl ag_2 ?_))))))
   refine nO (s_fa0 rfl fo_82_0 (nO (sL rfl ag_2 ?_)))
   refine nO (s_bin rfl rfl rfl (nM rfl (nY rfl rfl (beq_iff_eq.2 a1) (s_fa0 rfl fo_82_1 (nY rfl rfl (beq_iff_eq.2 a1) (sL rfl ag_9 ?_))))))
   refine nY rfl rfl (beq_iff_eq.2 a1) (s_fa0 rfl fo_82_1 (nY rfl rfl (beq_iff_eq.2 a1) (sL rfl ag_9 ?_)))
   refine nY rfl rfl (beq_iff_eq.2 a1) (s_bin rfl rfl rfl (nO (s_pt rfl (beq_iff_eq.2 a1) rfl (nM rfl (nSk rfl rfl (str_f a2) rfl 4 rfl (nO (s_pf rfl (str_f a2) rfl (nM rfl (nSk rfl rfl (rfl) rfl 4 rfl (nO (s_pf rfl (rfl) rfl (nA rfl (n_nil (Nc (Nf (z_r1 rfl rfl ?_))))))))))))))))
   exact ⟨⟨_, rfl, ⟨fun h => by simp at h, fun h => absurd (by rw [h]) a2⟩⟩, (by repeat (first | exact Kp.refl _ _ _ | refine Kp.new ?_ (by omega) _))⟩
 ·refine Nc (Na (w_reg 27 rfl rfl (j' := 30) (nO (s_fa0 rfl fo_82_0 (nO (sL rfl ag_2 ?_))))))
  refine nO (s_fa0 rfl fo_82_0 (nO (sL rfl ag_2 ?_)))
  refine nO (s_bin rfl rfl rfl (nM rfl (nSk rfl rfl (beq_eq_false_iff_ne.2 a1) rfl 4 rfl (nO (s_pf rfl (beq_eq_false_iff_ne.2 a1) rfl (nM rfl (nSk rfl rfl (rfl) rfl 4 rfl (nO (s_pf rfl (rfl) rfl (nM rfl (nSk rfl rfl (rfl) rfl 4 rfl (nO (s_pf rfl (rfl) rfl (nA rfl (n_nil (Nc (Nf (z_r1 rfl rfl ?_))))))))))))))))))
  exact ⟨⟨_, rfl, ⟨fun h => by simp at h, fun h => absurd (by rw [h]) a1⟩⟩, (by repeat (first | exact Kp.refl _ _ _ | refine Kp.new ?_ (by omega) _))⟩

end Go.Proofs.YtehmailaabjdjaaGreat
