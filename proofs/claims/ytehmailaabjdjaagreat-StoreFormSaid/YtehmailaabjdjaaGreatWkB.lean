/-
  THE WALK, BY RULES: operations. No condition.
-/
import Derived.Test.YtehmailaabjdjaaGreatWkA
namespace Go.Proofs.YtehmailaabjdjaaGreat
set_option linter.unusedSimpArgs false
set_option linter.unusedVariables false
set_option maxRecDepth 100000

structure RN (X : Cx) (k : List Fm) (ops : Array Oper) (m₀ j₀ i : Nat) (os : List Oper) (f : Nat → Value) (s : Sls) (g : Gm) (m j : Nat) : Prop where
 out : (∀ x o, os[x]? = some o → ops[i + x]? = some o) → runL E6 ops (m₀ + j₀) (List.range' i os.length) (Fr X.N f s) ⟨g, m + j⟩ (post X k .normal)

structure RD (X : Cx) (k : List Fm) (ops : Array Oper) (m₀ j₀ : Nat) (L : List (Nat × List Nat)) (D : List Rec) (f : Nat → Value) (s : Sls) (g : Gm) (m j : Nat) : Prop where
 out : ∀ (dep : Dep) (pre : List Nat) (D' : List Rec), planOkB ops dep pre L = true → Slim ops pre D D' → runD E6 ops (m₀ + j₀) dep (L.map (·.1)) D' (Fr X.N f s) ⟨g, m + j⟩ (post X k .normal)

structure ST (N : Nat) (f : Nat → Value) (s : Sls) (g : Gm) (n nm : Nat) (o : Oper) (k : Sls → Gm → List Nat → List Nat → Prop) : Prop where
 out : stepG E6 (Fr N f s) ⟨g, n⟩ nm o fun a σ t w => ∃ s' g', a = Fr N f s' ∧ σ = ⟨g', n⟩ ∧ k s' g' t w

def nth : List Oper → Nat → Option Oper
 | [], _ => none
 | o :: _, 0 => some o
 | _ :: r, i + 1 => nth r i
theorem nth_eq : ∀ (l : List Oper) (i : Nat), nth l i = l[i]?
 | [], i => by simp [nth]
 | o :: r, 0 => by simp [nth]
 | o :: r, i + 1 => by simp only [nth, List.getElem?_cons_succ]; exact nth_eq r i
theorem nth_ok {ops : Array Oper} {i : Nat} {o : Oper} (h : nth ops.toList i = some o) : ops[i]? = some o := by
 rw [nth_eq] at h; simpa using h
def gdL (l : List Oper) (j : Nat) : Option Tmp := match nth l j with
 | some o => o.dst
 | none => none
theorem gdL_ok {ops : Array Oper} {j : Nat} {d : Tmp} (h : gdL ops.toList j = some d) : gdst ops j = some d := by
 unfold gdL at h
 split at h
 ·rename_i o ho
  unfold gdst
  rw [nth_ok ho]; exact h
 ·cases h

inductive GT (N : Nat) (ops : Array Oper) (s : Sls) : Option (Nat × Bool) → Prop where
 | no : GT N ops s none
 | yes {j d : Nat} {b t : Bool} : gdL ops.toList j = some d → ov N s (.tmp d) = some (.bool t) → t = b → GT N ops s (some (j, b))

section
variable {X : Cx} {k : List Fm} {f : Nat → Value} {s : Sls} {g : Gm} {m j m₀ j₀ i : Nat} {ops : Array Oper}

theorem GT.ok {N : Nat} {gd : Option (Nat × Bool)} {o : Oper} (h : GT N ops s gd) (hg : o.guard = gd) : Region.wanted o (yielded ops (Fr N f s).tmps) = true := by
 cases h with
 | no => simp [Region.wanted, hg]
 | yes h1 h2 h3 =>
  rw [guard_yield hg (gdL_ok h1) (ov_ok h2) rfl, h3]
  simp

theorem GT.ok' {N : Nat} {dst : Option Tmp} {op : Op} {ty : TypeId} {pos : String} {af : Array Edge} {gd : Option (Nat × Bool)} (h : GT N ops s gd) : Region.wanted ⟨dst, op, ty, pos, af, gd⟩ (yielded ops (Fr N f s).tmps) = true := h.ok rfl

theorem bump_mk (g : Gm) (m j c : Nat) : (Heap.mk g (m + j)).bump c = ⟨g, m + (j + c)⟩ := by simp [Heap.bump, Nat.add_assoc]

theorem w_reg {id : Nat} {j' : Nat} (c : Nat) (hc : Nat.beq ops.size c = true) (hj : j + c = j') (h : RN X k ops m j 0 ops.toList f s g m j') : W X k (.region id ops false) f s g m j := by
 have hc := Nat.eq_of_beq_eq_true hc
 subst hc
 subst hj
 refine ⟨awp_region envOk6 ?_⟩
 have := h.out (fun x o hx => by simpa using hx)
 rw [Array.length_toList, ← List.range_eq_range'] at this
 rw [bump_mk]
 exact this

theorem w_drw {id : Nat} {j' : Nat} (t : List Nat × List (List Nat)) (pl : List (Nat × List Nat)) (c : Nat) (hp : drawPlanB ops t pl = true) (hc : Nat.beq ops.size c = true) (hj : j + c = j') (h : RD X k ops m j pl [] f s g m j') : W X k (.region id ops true) f s g m j := by
 have hc := Nat.eq_of_beq_eq_true hc
 subst hc
 subst hj
 simp only [drawPlanB, Bool.and_eq_true, beq_iff_eq] at hp
 obtain ⟨⟨h1, h2⟩, h3⟩ := hp
 refine ⟨awp_draw envOk6 mixed6 (drawOkB_sound h1) ?_⟩
 rw [← h3, bump_mk]
 exact h.out _ [] [] h2 (fun d hd => by cases hd)

theorem n_nil (h : Z X k f s g m j) : RN X k ops m₀ j₀ i [] f s g m j := ⟨fun _ => h.out⟩
theorem d_nil {D : List Rec} (h : Z X k f s g m j) : RD X k ops m₀ j₀ [] D f s g m j := ⟨fun _ _ _ _ _ => h.out⟩

theorem rn_here {o : Oper} {os : List Oper} (h : ∀ x p, (o :: os)[x]? = some p → ops[i + x]? = some p) : ops[i]? = some o := by
 have := h 0 o rfl
 simpa using this
theorem rn_rest {o : Oper} {os : List Oper} (h : ∀ x p, (o :: os)[x]? = some p → ops[i + x]? = some p) : ∀ x p, os[x]? = some p → ops[i + 1 + x]? = some p := fun x p hx => by
 have := h (x + 1) p (by simpa using hx)
 rwa [show i + (x + 1) = i + 1 + x by omega] at this

section
variable {dst : Option Tmp} {op : Op} {ty : TypeId} {pos : String} {af : Array Edge} {gd : Option (Nat × Bool)} {os : List Oper} {q : Nat}

theorem n_op (hg : GT X.N ops s gd) (hq : j₀ + i = q) (h : ST X.N f s g (m + j) (m₀ + q) ⟨dst, op, ty, pos, af, gd⟩ fun s g _ _ => RN X k ops m₀ j₀ (i + 1) os f s g m j) :
  RN X k ops m₀ j₀ i (⟨dst, op, ty, pos, af, gd⟩ :: os) f s g m j := by
 subst hq
 refine ⟨fun hops => ?_⟩
 obtain ⟨p, eff, h1, h2, h3, s', g', h4, h5, h6⟩ := h.out
 rw [← Nat.add_assoc] at h2 h5
 rw [List.length_cons, List.range'_succ]
 refine runL_prim (rn_here hops) hg.ok' h1 h2 h3 ?_
 rw [h4, h5]
 exact h6.out (rn_rest hops)

theorem n_sk {jg d : Nat} {b t : Bool} {dd : Tmp} (hd : gdL ops.toList jg = some d) (hv : ov X.N s (.tmp d) = some (.bool t)) (hb : t = !b) (h : RN X k ops m₀ j₀ (i + 1) os f ((dd, undef) :: s) g m j) :
  RN X k ops m₀ j₀ i (⟨some dd, op, ty, pos, af, some (jg, b)⟩ :: os) f s g m j := by
 refine ⟨fun hops => ?_⟩
 rw [List.length_cons, List.range'_succ]
 have ho := rn_here hops
 simp only [runL, ho]
 rw [if_neg (by rw [guard_yield rfl (gdL_ok hd) (ov_ok hv) rfl, hb]; cases b <;> simp), Fr_put]
 exact h.out (rn_rest hops)

theorem n_call {fid : FuncId} {args : Array Operand} {ts : Array TypeId} {d : Tmp} {vs : List Value} (hg : GT X.N ops s gd) (hx : E6.X fid = none) (hb : E6.B fid = true) (ha : ovL X.N s args.toList = some vs)
  (h : C fid vs.toArray g (m + j) fun v g' n' => RN X k ops m₀ j₀ (i + 1) os f ((d, v) :: s) g' n' 0) :
  RN X k ops m₀ j₀ i (⟨some d, .call ⟨.value (.func fid), args, ts⟩, ty, pos, af, gd⟩ :: os) f s g m j := by
 refine ⟨fun hops => ?_⟩
 rw [List.length_cons, List.range'_succ]
 have hc : aop E6 (aeval (Fr X.N f s)) ⟨some d, .call ⟨.value (.func fid), args, ts⟩, ty, pos, af, gd⟩ = some (.call fid vs.toArray) := by
  simp only [aop, aCall, ovL_ok ha, Option.bind_some, aeval, hx, hb, if_true]
  simp
 have ho := rn_here hops
 simp only [runL, ho, if_pos hg.ok', hc]
 refine h.out.mono fun v τ hv => ?_
 rw [Fr_put]
 exact hv.out (rn_rest hops)

def catF : List Value → List Value → Option (List Value)
 | [], b => some b
 | x :: a, b => match catF a b with
  | some q => some (x :: q)
  | none => none
theorem catF_ok : ∀ {a b q : List Value}, catF a b = some q → a ++ b = q
 | [], b, q, h => by simpa [catF] using h
 | x :: a, b, q, h => by
  simp only [catF] at h
  split at h
  ·rename_i r hr
   cases h
   rw [List.cons_append, catF_ok hr]
  ·cases h

theorem n_callv {x : Operand} {fid : FuncId} {fs cs : Array Value} {args : Array Operand} {ts : Array TypeId} {d : Tmp} {vs us ws : List Value} (hg : GT X.N ops s gd) (hf : ov X.N s x = some (.func (.func fid) fs cs)) (hx : E6.X fid = none) (hb : E6.B fid = true) (ha : ovL X.N s args.toList = some vs)
  (hu : catF vs cs.toList = some us) (hw : catF fs.toList us = some ws) (h : C fid ws.toArray g (m + j) fun v g' n' => RN X k ops m₀ j₀ (i + 1) os f ((d, v) :: s) g' n' 0) :
  RN X k ops m₀ j₀ i (⟨some d, .call ⟨.value x, args, ts⟩, ty, pos, af, gd⟩ :: os) f s g m j := by
 have hw : fs.toList ++ vs ++ cs.toList = ws := by rw [List.append_assoc, catF_ok hu, catF_ok hw]
 subst hw
 refine ⟨fun hops => ?_⟩
 rw [List.length_cons, List.range'_succ]
 have hc : aop E6 (aeval (Fr X.N f s)) ⟨some d, .call ⟨.value x, args, ts⟩, ty, pos, af, gd⟩ = some (.call fid (fs.toList ++ vs ++ cs.toList).toArray) := by
  simp only [aop, aCall, ovL_ok ha, Option.bind_some, ov_ok hf, hx, hb, if_true]
  congr 2
  simp
 have ho := rn_here hops
 simp only [runL, ho, if_pos hg.ok', hc]
 refine h.out.mono fun v τ hv => ?_
 rw [Fr_put]
 exact hv.out (rn_rest hops)

variable {lo : List Nat} {L : List (Nat × List Nat)} {D : List Rec}

theorem d_op (ho : nth ops.toList i = some ⟨dst, op, ty, pos, af, gd⟩) (ht : touches ⟨dst, op, ty, pos, af, gd⟩ = false) (hg : GT X.N ops s gd) (hq : j₀ + i = q)
  (h : ST X.N f s g (m + j) (m₀ + q) ⟨dst, op, ty, pos, af, gd⟩ fun s g t w => (t = [] ∧ w = []) ∧ RD X k ops m₀ j₀ L D f s g m j) : RD X k ops m₀ j₀ ((i, lo) :: L) D f s g m j := by
 subst hq
 replace ho := nth_ok ho
 refine ⟨fun dep pre D' hpl hS => ?_⟩
 obtain ⟨hp, hpl2⟩ := plan_lo hpl
 obtain ⟨p, eff, h1, h2, h3, s', g', h4, h5, ⟨h6, h7⟩, h8⟩ := h.out
 rw [← Nat.add_assoc] at h2 h5 h6 h7
 have hk : touchT ⟨dst, op, ty, pos, af, gd⟩ i lo D (tchOf p eff (m₀ + j₀ + i)) (wrtOf eff (m₀ + j₀ + i)) fun D => RD X k ops m₀ j₀ L D f s' g' m j := by
  unfold touchT cases2
  rw [ht]
  exact ⟨⟨h6, h7⟩, h8⟩
 obtain ⟨h9, D₁, h10, h11⟩ := touch_ok ho hS hp (touchT_ok hk)
 simp only [List.map_cons, runD, ho, if_pos hg.ok', aop_evOf, h1, h2]
 refine ⟨h3, h9, ?_⟩
 rw [h4, h5]
 exact h10.out dep (i :: pre) _ hpl2 h11

theorem d_al (ho : nth ops.toList i = some ⟨dst, op, ty, pos, af, gd⟩) (ht : touches ⟨dst, op, ty, pos, af, gd⟩ = true) (hk2 : kindOf ⟨dst, op, ty, pos, af, gd⟩ = 2) (hg : GT X.N ops s gd) (hq : j₀ + i = q)
  (h : ST X.N f s g (m + j) (m₀ + q) ⟨dst, op, ty, pos, af, gd⟩ fun s g t w => RD X k ops m₀ j₀ L (⟨i, t, w, true⟩ :: D) f s g m j) : RD X k ops m₀ j₀ ((i, lo) :: L) D f s g m j := by
 subst hq
 replace ho := nth_ok ho
 refine ⟨fun dep pre D' hpl hS => ?_⟩
 obtain ⟨hp, hpl2⟩ := plan_lo hpl
 obtain ⟨p, eff, h1, h2, h3, s', g', h4, h5, h8⟩ := h.out
 rw [← Nat.add_assoc] at h2 h5 h8
 have hk : touchT ⟨dst, op, ty, pos, af, gd⟩ i lo D (tchOf p eff (m₀ + j₀ + i)) (wrtOf eff (m₀ + j₀ + i)) fun D => RD X k ops m₀ j₀ L D f s' g' m j := by
  unfold touchT cases2
  rw [ht]
  refine ⟨?_, ?_⟩
  ·rw [if_pos hk2]; trivial
  ·rw [hk2]; exact h8
 obtain ⟨h9, D₁, h10, h11⟩ := touch_ok ho hS hp (touchT_ok hk)
 simp only [List.map_cons, runD, ho, if_pos hg.ok', aop_evOf, h1, h2]
 refine ⟨h3, h9, ?_⟩
 rw [h4, h5]
 exact h10.out dep (i :: pre) _ hpl2 h11

theorem d_tc (ho : nth ops.toList i = some ⟨dst, op, ty, pos, af, gd⟩) (ht : touches ⟨dst, op, ty, pos, af, gd⟩ = true) (hk2 : Nat.beq (kindOf ⟨dst, op, ty, pos, af, gd⟩) 2 = false) (hg : GT X.N ops s gd) (hq : j₀ + i = q)
  (h : ST X.N f s g (m + j) (m₀ + q) ⟨dst, op, ty, pos, af, gd⟩ fun s g t w => clashS lo t w D ∧ RD X k ops m₀ j₀ L (⟨i, t, w, false⟩ :: D) f s g m j) : RD X k ops m₀ j₀ ((i, lo) :: L) D f s g m j := by
 subst hq
 replace ho := nth_ok ho
 refine ⟨fun dep pre D' hpl hS => ?_⟩
 obtain ⟨hp, hpl2⟩ := plan_lo hpl
 obtain ⟨p, eff, h1, h2, h3, s', g', h4, h5, h7, h8⟩ := h.out
 rw [← Nat.add_assoc] at h2 h5 h7 h8
 have hk : touchT ⟨dst, op, ty, pos, af, gd⟩ i lo D (tchOf p eff (m₀ + j₀ + i)) (wrtOf eff (m₀ + j₀ + i)) fun D => RD X k ops m₀ j₀ L D f s' g' m j := by
  have hne : kindOf ⟨dst, op, ty, pos, af, gd⟩ ≠ 2 := fun e => by rw [e] at hk2; cases hk2
  unfold touchT cases2
  rw [ht]
  refine ⟨?_, ?_⟩
  ·rw [if_neg hne]; exact h7
  ·rw [beq_eq_false_iff_ne.2 hne]; exact h8
 obtain ⟨h9, D₁, h10, h11⟩ := touch_ok ho hS hp (touchT_ok hk)
 simp only [List.map_cons, runD, ho, if_pos hg.ok', aop_evOf, h1, h2]
 refine ⟨h3, h9, ?_⟩
 rw [h4, h5]
 exact h10.out dep (i :: pre) _ hpl2 h11

theorem d_sk {jg d : Nat} {b t : Bool} {dd : Tmp} (ho : nth ops.toList i = some ⟨some dd, op, ty, pos, af, some (jg, b)⟩) (hd : gdL ops.toList jg = some d) (hv : ov X.N s (.tmp d) = some (.bool t)) (hb : t = !b) (h : RD X k ops m₀ j₀ L D f ((dd, undef) :: s) g m j) :
  RD X k ops m₀ j₀ ((i, lo) :: L) D f s g m j := by
 replace ho := nth_ok ho
 refine ⟨fun dep pre D' hpl hS => ?_⟩
 obtain ⟨hp, hpl2⟩ := plan_lo hpl
 simp only [List.map_cons, runD, ho]
 rw [if_neg (by rw [guard_yield rfl (gdL_ok hd) (ov_ok hv) rfl, hb]; cases b <;> simp), Fr_put]
 exact h.out dep (i :: pre) _ hpl2 hS.grow

theorem d_call {fid : FuncId} {args : Array Operand} {ts : Array TypeId} {d : Tmp} {vs : List Value} (ho : nth ops.toList i = some ⟨some d, .call ⟨.value (.func fid), args, ts⟩, ty, pos, af, gd⟩) (hg : GT X.N ops s gd) (hx : E6.X fid = none) (hb : E6.B fid = true) (ha : ovL X.N s args.toList = some vs) (hf : callS lo D)
  (h : C fid vs.toArray g (m + j) fun v g' n' => keptS lo ⟨g, 0⟩ ⟨g', 0⟩ D ∧ RD X k ops m₀ j₀ L D f ((d, v) :: s) g' n' 0) : RD X k ops m₀ j₀ ((i, lo) :: L) D f s g m j := by
 replace ho := nth_ok ho
 refine ⟨fun dep pre D' hpl hS => ?_⟩
 obtain ⟨hp, hpl2⟩ := plan_lo hpl
 have hc : aop E6 (aeval (Fr X.N f s)) ⟨some d, .call ⟨.value (.func fid), args, ts⟩, ty, pos, af, gd⟩ = some (.call fid vs.toArray) := by
  simp only [aop, aCall, ovL_ok ha, Option.bind_some, aeval, hx, hb, if_true]
  simp
 have hkept : ∀ {σ τ : Heap} {D : List Rec}, keptS lo ⟨σ.get, 0⟩ ⟨τ.get, 0⟩ D → keptS lo σ τ D := by
  intro σ τ D
  induction D with
  | nil => exact id
  | cons d D ih =>
   intro h
   refine ⟨?_, ih h.2⟩
   have sa : ∀ l, sameAt ⟨σ.get, 0⟩ ⟨τ.get, 0⟩ l → sameAt σ τ l := by
    intro l
    induction l with
    | nil => exact id
    | cons x l ih => intro h; exact ⟨h.1, ih h.2⟩
   have h1 : cases2 (memN d.i lo) (cases2 d.alloc True (sameAt ⟨σ.get, 0⟩ ⟨τ.get, 0⟩ d.tch)) True := h.1
   show cases2 (memN d.i lo) (cases2 d.alloc True (sameAt σ τ d.tch)) True
   cases hm : memN d.i lo with
   | false => trivial
   | true =>
    rw [hm] at h1
    cases ha : d.alloc with
    | true => trivial
    | false => rw [ha] at h1; exact sa _ h1
 simp only [List.map_cons, runD, ho, if_pos hg.ok', aop_evOf, hc]
 refine ⟨call_of hS hp hf, h.out.mono fun v τ hv => ⟨kept_of hS hp (hkept hv.1), ?_⟩⟩
 rw [Fr_put]
 exact hv.2.out dep (i :: pre) _ hpl2 hS.grow

theorem clash_nil {t w : List Nat} : ∀ {D : List Rec}, clashS [] t w D
 | [] => trivial
 | d :: D => ⟨trivial, clash_nil⟩
theorem call_nil : ∀ {D : List Rec}, callS [] D
 | [] => trivial
 | d :: D => ⟨trivial, call_nil⟩
theorem kept_nil {σ τ : Heap} : ∀ {D : List Rec}, keptS [] σ τ D
 | [] => trivial
 | d :: D => ⟨trivial, kept_nil⟩
def allRd : List Rec → Bool
 | [] => true
 | d :: D => match d.wrt with
  | [] => allRd D
  | _ :: _ => false
theorem clash_rd {t : List Nat} : ∀ {D : List Rec}, allRd D = true → clashS lo t [] D
 | [], _ => trivial
 | d :: D, h => by
  simp only [allRd] at h
  split at h
  ·rename_i hd
   refine ⟨?_, clash_rd h⟩
   unfold cases2
   split
   ·rw [hd]; exact ⟨trivial, trivial⟩
   ·trivial
  ·cases h
theorem call_rd : ∀ {D : List Rec}, allRd D = true → callS lo D
 | [], _ => trivial
 | d :: D, h => by
  simp only [allRd] at h
  split at h
  ·rename_i hd
   refine ⟨?_, call_rd h⟩
   unfold cases2
   split
   ·exact .inr hd
   ·trivial
  ·cases h

end
end

theorem st_val {N : Nat} {f : Nat → Value} {s : Sls} {g : Gm} {n nm : Nat} {o : Oper} {k : Sls → Gm → List Nat → List Nat → Prop} {d : Tmp} {v : Value} (hd : o.dst = some d) (h : aop E6 (aeval (Fr N f s)) o = some (.prim (.ofVal v)))
  (hk : k ((d, v) :: s) g [] []) : ST N f s g n nm o k :=
 ⟨stepG_val h ⟨_, _, by rw [hd, Fr_put], rfl, hk⟩⟩

section
variable {N : Nat} {f : Nat → Value} {s : Sls} {g : Gm} {n nm : Nat} {k : Sls → Gm → List Nat → List Nat → Prop} {d : Tmp} {ty : TypeId} {pos : String} {af : Array Edge} {gd : Option (Nat × Bool)}

theorem s_mv {x : Operand} {v : Value} (hx : ov N s x = some v) (hk : k ((d, v) :: s) g [] []) : ST N f s g n nm ⟨some d, .move x, ty, pos, af, gd⟩ k :=
 st_val rfl (by simp only [aop, ov_ok hx, Option.map_some]) hk
theorem s_as {x : Operand} {v : Value} (hx : ov N s x = some v) (hk : k ((d, v) :: s) g [] []) : ST N f s g n nm ⟨some d, .assign x, ty, pos, af, gd⟩ k :=
 st_val rfl (by simp only [aop, ov_ok hx, Option.map_some]) hk
theorem s_pt {c x y : Operand} {t : Bool} {v : Value} (hc : ov N s c = some (.bool t)) (ht : t = true) (hx : ov N s x = some v) (hk : k ((d, v) :: s) g [] []) : ST N f s g n nm ⟨some d, .pick c x y, ty, pos, af, gd⟩ k := by
 subst ht
 exact st_val rfl (by simp only [aop, ov_ok hc, ov_ok hx, Option.bind_some, if_true, Option.map_some]) hk
theorem s_pf {c x y : Operand} {t : Bool} {v : Value} (hc : ov N s c = some (.bool t)) (ht : t = false) (hx : ov N s y = some v) (hk : k ((d, v) :: s) g [] []) : ST N f s g n nm ⟨some d, .pick c x y, ty, pos, af, gd⟩ k := by
 subst ht
 exact st_val rfl (by simp only [aop, ov_ok hc, ov_ok hx, Option.bind_some, Bool.false_eq_true, if_false, Option.map_some]) hk
theorem s_nil {x : Operand} {l o : Nat} (hx : ov N s x = some (.pointer (some ⟨l, o, none⟩))) (hk : k ((d, .pointer (some ⟨l, o, none⟩)) :: s) g [] []) : ST N f s g n nm ⟨some d, .nilCheck x, ty, pos, af, gd⟩ k :=
 st_val rfl (by simp only [aop, aNil, ov_ok hx, Option.bind_some, Option.map_some]) hk

def zeroL (P : Program) (t : TypeId) : Option (List Value) := (zeroP P t).map (·.cells.toList)

theorem s_al {t : TypeId} {z : List Value} (hz : zeroL E6.P t = some z) (hk : k ((d, .pointer (some ⟨nm, 0, none⟩)) :: s) (gset g nm (.cells z 0 false)) [nm] [nm]) : ST N f s g n nm ⟨some d, .alloc t, ty, pos, af, gd⟩ k := by
 obtain ⟨v, h1, rfl⟩ := Option.map_eq_some_iff.1 hz
 exact ⟨Prim.newCells v.cells.toList 0, ⟨.pointer (some ⟨nm, 0, none⟩), none, some (.cells v.cells.toList 0 false)⟩, by simp only [aop, h1, Option.map_some], rfl, rfl, _, _, Fr_put _ _ _ _ _, rfl, hk⟩
theorem s_box {t : TypeId} {x : Operand} {v : Value} (hx : ov N s x = some v) (hv : v.cells = #[v]) (hk : k ((d, .pointer (some ⟨nm, 0, none⟩)) :: s) (gset g nm (.cells [v] 0 false)) [nm] [nm]) : ST N f s g n nm ⟨some d, .box t x, ty, pos, af, gd⟩ k :=
 ⟨Prim.newCells v.cells.toList 0, ⟨.pointer (some ⟨nm, 0, none⟩), none, some (.cells v.cells.toList 0 false)⟩, by simp only [aop, ov_ok hx, Option.map_some], rfl, rfl, _, _, Fr_put _ _ _ _ _, by rw [hv]; rfl, hk⟩
theorem s_boxa {t : TypeId} {x : Operand} {c : List Value} (hx : ov N s x = some (.agg c.toArray)) (hk : k ((d, .pointer (some ⟨nm, 0, none⟩)) :: s) (gset g nm (.cells c 0 false)) [nm] [nm]) : ST N f s g n nm ⟨some d, .box t x, ty, pos, af, gd⟩ k :=
 ⟨Prim.newCells (Value.agg c.toArray).cells.toList 0, ⟨.pointer (some ⟨nm, 0, none⟩), none, some (.cells (Value.agg c.toArray).cells.toList 0 false)⟩, by simp only [aop, ov_ok hx, Option.map_some], rfl, rfl, _, _, Fr_put _ _ _ _ _, rfl, hk⟩

theorem st_load {t : TypeId} {x : Operand} {l o : Nat} {c : List Value} {sz : Nat} {ro : Bool} {v : Value} (hx : ov N s x = some (.pointer (some ⟨l, o, none⟩))) (hg : g l = some (.cells c sz ro)) (hv : partO E6.P t c o = some v)
  (hk : k ((d, v) :: s) g [l] []) : ST N f s g n nm ⟨some d, .load t x, ty, pos, af, gd⟩ k := by
 refine ⟨loadP E6.P t l o, ⟨v, none, none⟩, by simp only [aop, aLoad_eq (ov_ok hx), Option.map_some], ?_, rfl, _, _, Fr_put _ _ _ _ _, rfl, hk⟩
 simp only [loadP, Prim.run, getAll, hg, Option.bind_some, Option.map_some, hv]
theorem s_ld {t : TypeId} {x : Operand} {l o : Nat} {c : List Value} {sz : Nat} {ro : Bool} {v : Value} (hx : ov N s x = some (.pointer (some ⟨l, o, none⟩))) (hg : g l = some (.cells c sz ro)) (ha : aggO E6.P t = some false) (hv : c[o]? = some v)
  (hk : k ((d, v) :: s) g [l] []) : ST N f s g n nm ⟨some d, .load t x, ty, pos, af, gd⟩ k :=
 st_load hx hg (by simp only [partO, ha, Option.bind_some]; exact hv) hk
theorem s_lda {t : TypeId} {x : Operand} {l o z : Nat} {c c' : List Value} {sz : Nat} {ro : Bool} (hx : ov N s x = some (.pointer (some ⟨l, o, none⟩))) (hg : g l = some (.cells c sz ro)) (ha : aggO E6.P t = some true) (hz : szO E6.P t = some z) (hl : o + z ≤ c.length)
  (hv : (c.drop o).take z = c') (hk : k ((d, .agg c'.toArray) :: s) g [l] []) : ST N f s g n nm ⟨some d, .load t x, ty, pos, af, gd⟩ k := by
 subst hv
 exact st_load hx hg (by simp only [partO, ha, hz, Option.bind_some, if_pos hl]) hk

def upL : List Value → Nat → Value → Option (List Value)
 | [], _, _ => none
 | x :: r, 0, v => some (v :: r)
 | x :: r, o + 1, v => match upL r o v with
  | some q => some (x :: q)
  | none => none
theorem upL_ok : ∀ {c : List Value} {o : Nat} {v : Value} {c' : List Value}, upL c o v = some c' → o + 1 ≤ c.length ∧ splice c o [v] = c'
 | [], _, _, _, h => by simp [upL] at h
 | x :: r, 0, v, c', h => by simp [upL] at h; subst h; exact ⟨by simp, by simp [splice]⟩
 | x :: r, o + 1, v, c', h => by
  simp only [upL] at h
  split at h
  ·rename_i q hq
   cases h
   obtain ⟨h1, h2⟩ := upL_ok hq
   refine ⟨by simp; omega, ?_⟩
   rw [← h2]
   simp [splice, Nat.add_right_comm]
  ·cases h

theorem st_store {dst : Option Tmp} {t : TypeId} {x y : Operand} {l o z : Nat} {c : List Value} {sz : Nat} {v : Value} {vs : List Value} (hx : ov N s x = some (.pointer (some ⟨l, o, none⟩))) (hy : ov N s y = some v) (hc : v.cells = vs.toArray) (h1 : plainL oneCell vs = true) (hz : szO E6.P t = some z) (hz2 : vs.length = z)
  (hg : g l = some (.cells c sz false)) (hl : o + z ≤ c.length) (hd : dst = none) (hk : k s (gset g l (.cells (splice c o vs) sz false)) [l] [l]) : ST N f s g n nm ⟨dst, .store t x y, ty, pos, af, gd⟩ k := by
 subst hd
 refine ⟨storeP v z l o, ⟨undef, some (l, some (.cells (splice c o vs) sz false)), none⟩, ?_, ?_, by simp [wrOk, storeP], _, _, Fr_put0 _ _ _ _, rfl, hk⟩
 ·simp only [aop]
  rw [aStore_eq (ov_ok hx) (ov_ok hy) hz (by rw [hc]; simpa using hz2) (by rw [hc]; simpa using h1)]; rfl
 ·simp only [storeP, Prim.run, getAll, hg, Option.bind_some, Option.map_some, if_pos hl, hc]
theorem s_st {t : TypeId} {x y : Operand} {l o : Nat} {c c' : List Value} {sz : Nat} {v : Value} (hx : ov N s x = some (.pointer (some ⟨l, o, none⟩))) (hy : ov N s y = some v) (hz : szO E6.P t = some 1) (hg : g l = some (.cells c sz false)) (hc : v.cells = #[v]) (h1 : oneCell v = true)
  (hu : upL c o v = some c') (hk : k s (gset g l (.cells c' sz false)) [l] [l]) : ST N f s g n nm ⟨none, .store t x y, ty, pos, af, gd⟩ k := by
 obtain ⟨h2, rfl⟩ := upL_ok hu
 exact st_store (vs := [v]) hx hy hc (by simp [plainL, h1]) hz rfl hg h2 rfl hk
theorem s_stw {t : TypeId} {x y : Operand} {l z : Nat} {c vs : List Value} {sz : Nat} (hx : ov N s x = some (.pointer (some ⟨l, 0, none⟩))) (hy : ov N s y = some (.agg vs.toArray)) (hz : szO E6.P t = some z) (hz2 : vs.length = z) (hg : g l = some (.cells c sz false)) (hl : c.length = z) (h1 : plainL oneCell vs = true)
  (hk : k s (gset g l (.cells vs sz false)) [l] [l]) : ST N f s g n nm ⟨none, .store t x y, ty, pos, af, gd⟩ k := by
 refine st_store (vs := vs) hx hy rfl h1 hz hz2 hg (by omega) rfl ?_
 rwa [show splice c 0 vs = vs by simp [splice, show c.length ≤ vs.length by omega]]
theorem s_sta {t : TypeId} {x y : Operand} {l o z : Nat} {c vs : List Value} {sz : Nat} (hx : ov N s x = some (.pointer (some ⟨l, o, none⟩))) (hy : ov N s y = some (.agg vs.toArray)) (hz : szO E6.P t = some z) (hz2 : vs.length = z) (hg : g l = some (.cells c sz false)) (hl : o + z ≤ c.length) (h1 : plainL oneCell vs = true)
  (hk : k s (gset g l (.cells (splice c o vs) sz false)) [l] [l]) : ST N f s g n nm ⟨none, .store t x y, ty, pos, af, gd⟩ k :=
 st_store (vs := vs) hx hy rfl h1 hz hz2 hg hl rfl hk

theorem st_fa {t : TypeId} {x : Operand} {fi l o z o' : Nat} (hx : ov N s x = some (.pointer (some ⟨l, o, none⟩))) (hf : fldO E6.P t fi = some z) (ho : o + z = o') (hk : k ((d, .pointer (some ⟨l, o', none⟩)) :: s) g [] []) :
  ST N f s g n nm ⟨some d, .fieldAddr t x fi, ty, pos, af, gd⟩ k := by
 subst ho
 unfold fldO at hf
 split at hf
 case h_2 => cases hf
 rename_i fields hu
 simp only [Option.bind_eq_some_iff] at hf
 obtain ⟨fd, e1, zz, e2, e3⟩ := hf
 split at e3
 ·cases e3
 rename_i hz
 cases e3
 exact st_val rfl (by simp only [aop, aFieldAddr, hu, e1, ov_ok hx, e2, Option.bind_some, if_neg hz, Option.map_some]) hk
theorem s_fa0 {t : TypeId} {x : Operand} {fi l z : Nat} (hx : ov N s x = some (.pointer (some ⟨l, 0, none⟩))) (hf : fldO E6.P t fi = some z) (hk : k ((d, .pointer (some ⟨l, z, none⟩)) :: s) g [] []) :
  ST N f s g n nm ⟨some d, .fieldAddr t x fi, ty, pos, af, gd⟩ k := st_fa hx hf (Nat.zero_add z) hk
theorem s_fa {t : TypeId} {x : Operand} {fi l o z : Nat} (hx : ov N s x = some (.pointer (some ⟨l, o, none⟩))) (hf : fldO E6.P t fi = some z) (hk : k ((d, .pointer (some ⟨l, o + z, none⟩)) :: s) g [] []) :
  ST N f s g n nm ⟨some d, .fieldAddr t x fi, ty, pos, af, gd⟩ k := st_fa hx hf rfl hk
theorem s_fld {t t' : TypeId} {x : Operand} {fi o : Nat} {c : List Value} {v : Value} (hx : ov N s x = some (.agg c.toArray)) (hf : fldT E6.P t fi = some (t', o)) (ha : aggO E6.P t' = some false) (hv : c[o]? = some v) (hk : k ((d, v) :: s) g [] []) :
  ST N f s g n nm ⟨some d, .field t x fi, ty, pos, af, gd⟩ k := by
 unfold fldT at hf
 split at hf
 case h_2 => cases hf
 rename_i fields hu
 obtain ⟨fd, e1, e2⟩ := Option.map_eq_some_iff.1 hf
 cases e2
 exact st_val rfl (by simp only [aop, aField, hu, e1, ov_ok hx, Option.bind_some, partO, ha, List.toList_toArray, hv, Option.map_some]) hk
theorem s_ia {t : TypeId} {x ix : Operand} {kd : IntKind} {i l o m c z : Nat} (hx : ov N s x = some (.slice (some ⟨l, o, none⟩) m c)) (hi : ov N s ix = some (.int kd (i : Int))) (he : elemS E6.P t = some z) (hlt : i < m) (hk : k ((d, .pointer (some ⟨l, o + i * z, none⟩)) :: s) g [] []) :
  ST N f s g n nm ⟨some d, .indexAddr t x ix, ty, pos, af, gd⟩ k := by
 unfold elemS at he
 split at he
 case h_2 => cases he
 rename_i e hu
 refine st_val rfl (v := .pointer (some ⟨l, o + i * z, none⟩)) ?_ hk
 simp only [aop, aIndexAddr, ov_ok hx, ov_ok hi, hu, he, Option.bind_some]
 rw [if_pos ⟨by omega, by omega⟩, Int.toNat_natCast]
 rfl
theorem s_ia0 {t : TypeId} {x ix : Operand} {kd : IntKind} {l o m c z : Nat} (hx : ov N s x = some (.slice (some ⟨l, o, none⟩) m c)) (hi : ov N s ix = some (.int kd 0)) (he : elemS E6.P t = some z) (hlt : 0 < m) (hk : k ((d, .pointer (some ⟨l, o, none⟩)) :: s) g [] []) :
  ST N f s g n nm ⟨some d, .indexAddr t x ix, ty, pos, af, gd⟩ k := by
 have := s_ia (f := f) (g := g) (n := n) (nm := nm) (k := k) (d := d) (ty := ty) (pos := pos) (af := af) (gd := gd) (i := 0) hx hi he hlt
 simp only [Nat.zero_mul, Nat.add_zero] at this
 exact this hk
theorem s_ext {x : Operand} {i : Nat} {vs : List Value} {v : Value} (hx : ov N s x = some (.tuple vs.toArray)) (hv : vs[i]? = some v) (hk : k ((d, v) :: s) g [] []) : ST N f s g n nm ⟨some d, .extract x i, ty, pos, af, gd⟩ k :=
 st_val rfl (by simp only [aop, aExtract, ov_ok hx, Option.bind_some, List.getElem?_toArray, hv, Option.map_some]) hk

theorem s_bin {op : BinOp} {t t2 : TypeId} {x y : Operand} {u v r : Value} (hx : ov N s x = some u) (hy : ov N s y = some v) (h : binS E6.P op t u v = some r) (hk : k ((d, r) :: s) g [] []) : ST N f s g n nm ⟨some d, .binOp op t x y t2, ty, pos, af, gd⟩ k :=
 st_val rfl (by simp only [aop, binV_ok (ov_ok hx) (ov_ok hy) (binS_ok h), Option.map_some]) hk
theorem s_not {t : TypeId} {x : Operand} {b : Bool} (hx : ov N s x = some (.bool b)) (hk : k ((d, .bool (!b)) :: s) g [] []) : ST N f s g n nm ⟨some d, .unOp .not t x, ty, pos, af, gd⟩ k := by
 refine st_val (v := .bool (!b)) rfl ?_ hk
 simp only [aop, plainEv, ov_ok hx, Option.bind_some]
 rw [if_pos (show plainV (.bool b) = true from rfl)]
 rfl
theorem s_len {t : TypeId} {x : Operand} {v : Value} {m : Nat} {dd : TypeDesc} (hx : ov N s x = some v) (hl : lenV v = some (m : Int)) (hu : E6.P.underlying t = some dd) (hd : lenD dd v = true) (hk : k ((d, .int .i64 (m : Int)) :: s) g [] []) :
  ST N f s g n nm ⟨some d, .call ⟨.builtin .len, #[x], #[t]⟩, ty, pos, af, gd⟩ k := by
 refine st_val rfl ?_ hk
 simp only [aop, aCall, List.toList_toArray, evList, ov_ok hx, Option.bind_some, Option.map_some, aBuiltin]
 unfold lenD at hd
 split at hd
 ·simp only [lenV, Option.some.injEq] at hl
  simp only [aLen, hu, Option.map_some, hl]
 ·simp only [lenV, Option.some.injEq] at hl
  simp only [aLen, hu, Option.map_some, hl]
 ·cases hd
theorem s_min {x y : Operand} {ts : Array TypeId} {a b c : Int} (hx : ov N s x = some (.int .i64 a)) (hy : ov N s y = some (.int .i64 b)) (hc : min a b = c) (hk : k ((d, .int .i64 c) :: s) g [] []) :
  ST N f s g n nm ⟨some d, .call ⟨.builtin .min, #[x, y], ts⟩, ty, pos, af, gd⟩ k := by
 subst hc
 rw [show min a b = (if b < a then b else a) by rw [Int.min_def]; split <;> split <;> omega] at hk
 refine st_val rfl ?_ hk
 simp only [aop, aCall, List.toList_toArray, evList, ov_ok hx, ov_ok hy, Option.bind_some, Option.map_some, aBuiltin]
 rw [if_pos (show plainL plainV [.int .i64 a, .int .i64 b] = true from rfl)]
 rfl
theorem s_max {x y : Operand} {ts : Array TypeId} {a b c : Int} (hx : ov N s x = some (.int .i64 a)) (hy : ov N s y = some (.int .i64 b)) (hc : max a b = c) (hk : k ((d, .int .i64 c) :: s) g [] []) :
  ST N f s g n nm ⟨some d, .call ⟨.builtin .max, #[x, y], ts⟩, ty, pos, af, gd⟩ k := by
 subst hc
 rw [show max a b = (if b > a then b else a) by rw [Int.max_def]; split <;> split <;> omega] at hk
 refine st_val rfl ?_ hk
 simp only [aop, aCall, List.toList_toArray, evList, ov_ok hx, ov_ok hy, Option.bind_some, Option.map_some, aBuiltin]
 rw [if_pos (show plainL plainV [.int .i64 a, .int .i64 b] = true from rfl)]
 rfl

theorem bi_add {P : Program} {t : TypeId} {a b c : Int} (h : a + b = c) (h1 : -9223372036854775808 ≤ c) (h2 : c ≤ 9223372036854775807) : binS P .add t (.int .i64 a) (.int .i64 b) = some (.int .i64 c) := by
 subst h
 simp only [binS, if_true, intV, wrap_id h1 h2]
theorem bi_sub {P : Program} {t : TypeId} {a b c : Int} (h : a - b = c) (h1 : -9223372036854775808 ≤ c) (h2 : c ≤ 9223372036854775807) : binS P .sub t (.int .i64 a) (.int .i64 b) = some (.int .i64 c) := by
 subst h
 simp only [binS, if_true, intV, wrap_id h1 h2]
theorem bi_inc {P : Program} {t : TypeId} {a : Nat} (h : a < 9223372036854775807) : binS P .add t (.int .i64 (a : Int)) (.int .i64 1) = some (.int .i64 ((a + 1 : Nat) : Int)) :=
 bi_add (by omega) (by omega) (by omega)
theorem bi_dec {P : Program} {t : TypeId} {a : Nat} (h : 0 < a) (h2 : a < 9223372036854775807) : binS P .sub t (.int .i64 (a : Int)) (.int .i64 1) = some (.int .i64 ((a - 1 : Nat) : Int)) :=
 bi_sub (by omega) (by omega) (by omega)
theorem bi_d {P : Program} {op : BinOp} {t : TypeId} {dd : TypeDesc} {u v r : Value} (hu : P.underlying t = some dd) (h : binD dd op u v = some r) : binS P op t u v = some r := by
 unfold binS
 unfold binD at h
 split at h
 ·exact h
 ·exact h
 all_goals simp only [hu, Option.bind_some, binD]; exact h

def ovP (N : Nat) (s : Sls) : List (Nat × Operand) → Option (List (Nat × Value))
 | [] => some []
 | (i, x) :: r => match ov N s x with
  | some v => match ovP N s r with
   | some vs => some ((i, v) :: vs)
   | none => none
  | none => none
theorem ovP_ok {N : Nat} {f : Nat → Value} {s : Sls} : ∀ {xs : List (Nat × Operand)} {vs : List (Nat × Value)}, ovP N s xs = some vs → evParts (aeval (Fr N f s)) xs = some vs
 | [], vs, h => by simpa [ovP, evParts] using h
 | (i, x) :: r, vs, h => by
  simp only [ovP] at h
  split at h
  ·rename_i v hv
   split at h
   ·rename_i ws hw
    cases h
    simp only [evParts, ov_ok hv, Option.bind_some, ovP_ok hw, Option.map_some]
   ·cases h
  ·cases h

def upLs : List Value → Nat → List Value → Option (List Value)
 | c, _, [] => some c
 | c, o, v :: vs => match upL c o v with
  | some c' => upLs c' (o + 1) vs
  | none => none
theorem upLs_ok : ∀ {vs c : List Value} {o : Nat} {c' : List Value}, upLs c o vs = some c' → o ≤ c.length → o + vs.length ≤ c.length ∧ splice c o vs = c'
 | [], c, o, c', h, hl => by simp [upLs] at h; subst h; exact ⟨by simpa using hl, by simp [splice]⟩
 | v :: vs, c, o, c', h, hl => by
  simp only [upLs] at h
  split at h
  ·rename_i d hd
   obtain ⟨h1, h2⟩ := upL_ok hd
   have hlen : d.length = c.length := by rw [← h2]; simp [splice]; omega
   obtain ⟨h3, h4⟩ := upLs_ok h (by omega)
   refine ⟨by simp; omega, ?_⟩
   rw [← h4]
   apply List.ext_getElem?
   intro x
   rw [splice_get (by simp; omega), splice_get (by omega), ← h2, splice_get (by simpa using h1)]
   simp only [List.length_cons, List.length_nil]
   rcases Nat.lt_trichotomy x o with hx | hx | hx
   ·rw [if_neg (by omega), if_neg (by omega), if_neg (by omega)]
   ·subst hx
    rw [if_pos (by omega), if_neg (by omega), if_pos (by omega)]
    simp
   ·by_cases hy : x < o + 1 + vs.length
    ·rw [if_pos (by omega), if_pos (by omega), show x - o = (x - (o + 1)) + 1 by omega, List.getElem?_cons_succ]
    ·rw [if_neg (by omega), if_neg (by omega), if_neg (by omega)]
  ·cases h

def fillF (pl : List (Nat × Nat)) : List Value → List (Nat × Value) → Option (List Value)
 | cs, [] => some cs
 | cs, (i, v) :: r => match pl[i]? with
  | some (o, z) => match Nat.beq v.cells.toList.length z with
   | true => match upLs cs o v.cells.toList with
    | some cs' => fillF pl cs' r
    | none => none
   | false => none
  | none => none
theorem fillF_ok {pl : List (Nat × Nat)} : ∀ {vs : List (Nat × Value)} {cs r : List Value}, (∀ q ∈ pl, q.1 + q.2 ≤ cs.length) → fillF pl cs vs = some r → fillL pl cs vs = some r
 | [], cs, r, _, h => by simpa [fillF, fillL] using h
 | (i, v) :: vs, cs, r, hp, h => by
  simp only [fillF] at h
  split at h
  case h_2 => cases h
  rename_i o z hi
  split at h
  case h_2 => cases h
  rename_i hz
  split at h
  case h_2 => cases h
  rename_i cs' hu
  have hq := hp _ (List.mem_of_getElem? hi)
  simp only at hq
  have hz := Nat.eq_of_beq_eq_true hz
  obtain ⟨h1, h2⟩ := upLs_ok hu (by omega)
  have hz2 : v.cells.size = z := by simpa using hz
  simp only [fillL, hi, Option.bind_some]
  rw [if_pos ⟨hz2, by omega⟩, h2]
  refine fillF_ok (fun q hqm => ?_) h
  rw [← h2, splice_length (by omega)]
  exact hp q hqm

theorem s_bld {t : TypeId} {ps : Array (Nat × Operand)} {pl : List (Nat × Nat)} {z cs : List Value} {vs : List (Nat × Value)} (hp : placesL E6.P t = some pl) (hz : zeroL E6.P t = some z) (hv : ovP N s ps.toList = some vs) (hpl : (pl.all fun q => Nat.ble (q.1 + q.2) z.length) = true) (hf : fillF pl z vs = some cs)
  (hk : k ((d, .agg cs.toArray) :: s) g [] []) : ST N f s g n nm ⟨some d, .build t ps, ty, pos, af, gd⟩ k := by
 obtain ⟨zv, h1, rfl⟩ := Option.map_eq_some_iff.1 hz
 have hf' := fillF_ok (fun q hq => Nat.le_of_ble_eq_true (List.all_eq_true.1 hpl q hq)) hf
 unfold placesL at hp
 split at hp
 case h_2 => cases hp
 rename_i fields hu
 obtain ⟨q, e1, rfl⟩ := Option.map_eq_some_iff.1 hp
 have hpo : placesO E6.P t = some (q[·]?) := by
  unfold placesO
  rw [hu]
  simp only [Option.bind_some, e1, Option.map_some]
 have hfill : Instr.fill (q[·]?) zv.cells vs = some cs.toArray := fill_L (f := (q[·]?)) (pl := q.toList) (fun i x hx => by simpa using hx) vs _ zv.cells cs rfl hf'
 refine st_val rfl (v := .agg cs.toArray) ?_ hk
 simp only [aop, aBuild, h1, hpo, ovP_ok hv, Option.bind_some]
 rw [hfill]; rfl

theorem s_mf {fn : Fn} {g' : FuncId} {fs cs : Array Operand} {x y : List Value} (hg : fnId fn = some g') (hx : ovL N s fs.toList = some x) (hy : ovL N s cs.toList = some y) (hk : k ((d, .func (.func g') x.toArray y.toArray) :: s) g [] []) :
  ST N f s g n nm ⟨some d, .makeFunc fn fs cs, ty, pos, af, gd⟩ k := by
 unfold fnId at hg
 split at hg
 case h_2 => cases hg
 cases hg
 exact st_val rfl (by simp only [aop, aMakeFunc, ovL_ok hx, ovL_ok hy, Option.bind_some, Option.map_some]) hk

theorem s_bs {t c : Nat} {ps : Array (Nat × Operand)} {e : Nat} {z cs : List Value} {vs : List (Nat × Value)} (he : elemS E6.P t = some e) (hz : elemZ E6.P t = some z) (hv : ovP N s ps.toList = some vs)
  (hok : (Nat.blt 0 e && Nat.ble (c * e) 16777216 && Nat.beq z.length e && plainL plainV z && (plc e 0 c).all fun q => Nat.ble (q.1 + q.2) (rep z c).length) = true) (hf : fillF (plc e 0 c) (rep z c) vs = some cs)
  (hk : k ((d, .slice (some ⟨nm, 0, none⟩) c c) :: s) (gset g nm (.cells cs e false)) [nm] [nm]) : ST N f s g n nm ⟨some d, .buildSlice t c ps, ty, pos, af, gd⟩ k := by
 simp only [Bool.and_eq_true] at hok
 obtain ⟨⟨⟨⟨c1, c2⟩, c3⟩, c4⟩, c5⟩ := hok
 have c1 : 0 < e := by simpa [Nat.blt_eq] using c1
 have c2 := Nat.le_of_ble_eq_true c2
 have c3 := Nat.eq_of_beq_eq_true c3
 have hf' := fillF_ok (fun q hq => Nat.le_of_ble_eq_true (List.all_eq_true.1 c5 q hq)) hf
 have hs := stepN_ok (E := E6) (a := Fr N f s) (σ := ⟨g, n⟩) (nm := nm) (o := ⟨some d, .buildSlice t c ps, ty, pos, af, gd⟩) (k := fun a σ t w => ∃ s' g', a = Fr N f s' ∧ σ = ⟨g', n⟩ ∧ k s' g' t w) (by
  simp only [stepN, he, hz, ovP_ok hv, hf', obind]
  exact ⟨⟨c1, c2, c3, c4⟩, _, _, Fr_put _ _ _ _ _, rfl, hk⟩)
 exact ⟨hs⟩

end

section
variable {X : Cx} {k : List Fm} {f : Nat → Value} {s : Sls} {g : Gm} {m j m₀ j₀ i : Nat} {ops : Array Oper} {dst : Option Tmp} {op : Op} {ty : TypeId} {pos : String} {af : Array Edge} {os : List Oper} {d : Tmp} {x : Operand} {v : Value}
theorem Na {x y : Code} (h : W X (.sq y :: k) x f s g m j) : W X k (.seq x y) f s g m j := w_seq h
theorem Nb {id : Nat} {c : Code} (h : W X (.bl id :: k) c f s g m j) : W X k (.block id c) f s g m j := w_blk h
theorem Nc {c : Code} (h : W X k c f s g m j) : Z X (.sq c :: k) f s g m j := z_seq h
theorem Nd {id : Nat} (h : Z X k f s g m j) : Z X (.bl id :: k) f s g m j := z_blk h
theorem Ne (h : Z X k f s g m j) : W X k .skip f s g m j := w_skip h
theorem Nf (h : Z X [] f s g m j) : W X k .ret f s g m j := w_ret h
theorem gS {g : Gm} {n : Nat} {o : AObj} : gset g n o n = some o := gs_same g n o
theorem gN {g : Gm} {l n : Nat} {o : AObj} {r : Option AObj} (h : l ≠ n) (k : g l = r) : gset g n o l = r := (gs_ne h o).trans k
theorem nO (h : ST X.N f s g (m + j) (m₀ + (j₀ + i)) ⟨dst, op, ty, pos, af, none⟩ fun s g _ _ => RN X k ops m₀ j₀ (i + 1) os f s g m j) : RN X k ops m₀ j₀ i (⟨dst, op, ty, pos, af, none⟩ :: os) f s g m j := n_op .no rfl h
theorem nY {jg e : Nat} {b t : Bool} (h1 : gdL ops.toList jg = some e) (h2 : ov X.N s (.tmp e) = some (.bool t)) (h3 : t = b) (h : ST X.N f s g (m + j) (m₀ + (j₀ + i)) ⟨dst, op, ty, pos, af, some (jg, b)⟩ fun s g _ _ => RN X k ops m₀ j₀ (i + 1) os f s g m j) : RN X k ops m₀ j₀ i (⟨dst, op, ty, pos, af, some (jg, b)⟩ :: os) f s g m j := n_op (.yes h1 h2 h3) rfl h
theorem nG {jg e : Nat} {b t : Bool} (h1 : gdL ops.toList jg = some e) (h2 : ov X.N s (.tmp e) = some (.bool t)) (h3 : t = b) (hx : ov X.N s x = some v) (h : RN X k ops m₀ j₀ (i + 1) os f ((d, v) :: s) g m j) : RN X k ops m₀ j₀ i (⟨some d, .move x, ty, pos, af, some (jg, b)⟩ :: os) f s g m j := nY h1 h2 h3 (s_mv hx h)
theorem nM (hx : ov X.N s x = some v) (h : RN X k ops m₀ j₀ (i + 1) os f ((d, v) :: s) g m j) : RN X k ops m₀ j₀ i (⟨some d, .move x, ty, pos, af, none⟩ :: os) f s g m j := nO (s_mv hx h)
theorem nA (hx : ov X.N s x = some v) (h : RN X k ops m₀ j₀ (i + 1) os f ((d, v) :: s) g m j) : RN X k ops m₀ j₀ i (⟨some d, .assign x, ty, pos, af, none⟩ :: os) f s g m j := nO (s_as hx h)
theorem nN {l o : Nat} (hx : ov X.N s x = some (.pointer (some ⟨l, o, none⟩))) (h : RN X k ops m₀ j₀ (i + 1) os f ((d, .pointer (some ⟨l, o, none⟩)) :: s) g m j) : RN X k ops m₀ j₀ i (⟨some d, .nilCheck x, ty, pos, af, none⟩ :: os) f s g m j := nO (s_nil hx h)
variable {lo : List Nat} {L : List (Nat × List Nat)} {D : List Rec}
theorem dO (ho : nth ops.toList i = some ⟨dst, op, ty, pos, af, none⟩) (ht : touches ⟨dst, op, ty, pos, af, none⟩ = false)
  (h : ST X.N f s g (m + j) (m₀ + (j₀ + i)) ⟨dst, op, ty, pos, af, none⟩ fun s g t w => (t = [] ∧ w = []) ∧ RD X k ops m₀ j₀ L D f s g m j) : RD X k ops m₀ j₀ ((i, lo) :: L) D f s g m j := d_op ho ht .no rfl h
theorem dM (ho : nth ops.toList i = some ⟨some d, .move x, ty, pos, af, none⟩) (hx : ov X.N s x = some v) (h : RD X k ops m₀ j₀ L D f ((d, v) :: s) g m j) : RD X k ops m₀ j₀ ((i, lo) :: L) D f s g m j := dO ho rfl (s_mv hx ⟨⟨rfl, rfl⟩, h⟩)
theorem dT (ho : nth ops.toList i = some ⟨dst, op, ty, pos, af, none⟩) (ht : touches ⟨dst, op, ty, pos, af, none⟩ = true) (hk2 : Nat.beq (kindOf ⟨dst, op, ty, pos, af, none⟩) 2 = false)
  (h : ST X.N f s g (m + j) (m₀ + (j₀ + i)) ⟨dst, op, ty, pos, af, none⟩ fun s g t w => clashS lo t w D ∧ RD X k ops m₀ j₀ L (⟨i, t, w, false⟩ :: D) f s g m j) : RD X k ops m₀ j₀ ((i, lo) :: L) D f s g m j := d_tc ho ht hk2 .no rfl h
end

section
variable {N : Nat} {f : Nat → Value} {s : Sls} {g : Gm} {n nm : Nat} {k : Sls → Gm → List Nat → List Nat → Prop} {d : Tmp} {ty : TypeId} {pos : String} {af : Array Edge} {gd : Option (Nat × Bool)}
theorem sL {t : TypeId} {x : Operand} {l o : Nat} {c : List Value} {sz : Nat} {ro : Bool} {v : Value} (hx : ov N s x = some (.pointer (some ⟨l, o, none⟩))) (ha : aggO E6.P t = some false) (hk : k ((d, v) :: s) g [l] [])
  (hg : g l = some (.cells c sz ro) := by repeat first | exact gS | assumption | refine gN (by omega) ?_) (hv : c[o]? = some v := by first | exact rfl | assumption) : ST N f s g n nm ⟨some d, .load t x, ty, pos, af, gd⟩ k := s_ld hx hg ha hv hk
theorem sLa {t : TypeId} {x : Operand} {l o z : Nat} {c c' : List Value} {sz : Nat} {ro : Bool} (hx : ov N s x = some (.pointer (some ⟨l, o, none⟩))) (ha : aggO E6.P t = some true) (hz : szO E6.P t = some z) (hk : k ((d, .agg c'.toArray) :: s) g [l] [])
  (hg : g l = some (.cells c sz ro) := by repeat first | exact gS | assumption | refine gN (by omega) ?_) (hl : o + z ≤ c.length := by first | exact Nat.le_of_ble_eq_true rfl | assumption | omega) (hv : (c.drop o).take z = c' := by first | assumption | exact rfl) : ST N f s g n nm ⟨some d, .load t x, ty, pos, af, gd⟩ k := s_lda hx hg ha hz hl hv hk
theorem sS {t : TypeId} {x y : Operand} {l o : Nat} {c c' : List Value} {sz : Nat} {v : Value} (hx : ov N s x = some (.pointer (some ⟨l, o, none⟩))) (hy : ov N s y = some v) (hz : szO E6.P t = some 1) (hc : v.cells = #[v]) (h1 : oneCell v = true) (hk : k s (gset g l (.cells c' sz false)) [l] [l])
  (hg : g l = some (.cells c sz false) := by repeat first | exact gS | assumption | refine gN (by omega) ?_) (hu : upL c o v = some c' := by exact rfl) : ST N f s g n nm ⟨none, .store t x y, ty, pos, af, gd⟩ k := s_st hx hy hz hg hc h1 hu hk
theorem sSw {t : TypeId} {x y : Operand} {l z : Nat} {c vs : List Value} {sz : Nat} (hx : ov N s x = some (.pointer (some ⟨l, 0, none⟩))) (hy : ov N s y = some (.agg vs.toArray)) (hz : szO E6.P t = some z) (hz2 : vs.length = z) (h1 : plainL oneCell vs = true) (hk : k s (gset g l (.cells vs sz false)) [l] [l])
  (hg : g l = some (.cells c sz false) := by repeat first | exact gS | assumption | refine gN (by omega) ?_) (hl : c.length = z := by exact rfl) : ST N f s g n nm ⟨none, .store t x y, ty, pos, af, gd⟩ k := s_stw hx hy hz hz2 hg hl h1 hk
theorem sSa {t : TypeId} {x y : Operand} {l o z : Nat} {c vs : List Value} {sz : Nat} (hx : ov N s x = some (.pointer (some ⟨l, o, none⟩))) (hy : ov N s y = some (.agg vs.toArray)) (hz : szO E6.P t = some z) (hz2 : vs.length = z) (h1 : plainL oneCell vs = true) (hk : k s (gset g l (.cells (splice c o vs) sz false)) [l] [l])
  (hg : g l = some (.cells c sz false) := by repeat first | exact gS | assumption | refine gN (by omega) ?_) (hl : o + z ≤ c.length := by first | exact Nat.le_of_ble_eq_true rfl | assumption | omega) : ST N f s g n nm ⟨none, .store t x y, ty, pos, af, gd⟩ k := s_sta hx hy hz hz2 hg hl h1 hk
end

def skN (jg d : Nat) (b : Bool) : Nat → Sls → List Oper → Option (Sls × List Oper)
 | 0, s, os => some (s, os)
 | _ + 1, _, [] => none
 | c + 1, s, o :: os => match o.dst, o.guard with
  | some dd, some (j, b') => match Nat.beq j jg, Nat.beq dd d, b', b with
   | true, false, true, true => skN jg d b c ((dd, undef) :: s) os
   | true, false, false, false => skN jg d b c ((dd, undef) :: s) os
   | _, _, _, _ => none
  | _, _ => none
theorem ov_skip {N d dd : Nat} {s : Sls} {v : Value} (hv : ov N s (.tmp d) = some v) (hne : Nat.beq dd d = false) : ov N ((dd, undef) :: s) (.tmp d) = some v := by
 have e : ov N ((dd, undef) :: s) (.tmp d) = ov N s (.tmp d) := by
  show (match Nat.blt d N with | true => (match Nat.beq dd d with | true => some undef | false => look s d) | false => none) = _
  rw [hne]; rfl
 rw [e, hv]
theorem nSkR {X : Cx} {k : List Fm} {f : Nat → Value} {g : Gm} {m j m₀ j₀ jg d : Nat} {ops : Array Oper} {b t : Bool} (hd : gdL ops.toList jg = some d) (hb : t = !b) : ∀ (c : Nat) {i : Nat} {s s' : Sls} {os os' : List Oper}, ov X.N s (.tmp d) = some (.bool t) → skN jg d b c s os = some (s', os') → RN X k ops m₀ j₀ (i + c) os' f s' g m j → RN X k ops m₀ j₀ i os f s g m j
 | 0, i, s, s', os, os', _, hs, h => by cases hs; exact h
 | c + 1, i, s, s', [], os', _, hs, _ => by cases hs
 | c + 1, i, s, s', ⟨dst, op, ty, pos, af, gd⟩ :: os, os', hv, hs, h => by
  unfold skN at hs
  split at hs
  ·rename_i dd jj b' e1 e2
   simp only at e1 e2
   subst e1 e2
   split at hs
   ·rename_i h1 h2
    have := Nat.eq_of_beq_eq_true h1
    subst this
    exact n_sk hd hv hb (nSkR hd hb c (ov_skip hv h2) hs (by rw [show i + 1 + c = i + (c + 1) by omega]; exact h))
   ·rename_i h1 h2
    have := Nat.eq_of_beq_eq_true h1
    subst this
    exact n_sk hd hv hb (nSkR hd hb c (ov_skip hv h2) hs (by rw [show i + 1 + c = i + (c + 1) by omega]; exact h))
   ·cases hs
  ·cases hs
theorem nSk {X : Cx} {k : List Fm} {f : Nat → Value} {g : Gm} {m j m₀ j₀ i jg d dd : Nat} {ops : Array Oper} {b t : Bool} {op : Op} {ty : TypeId} {pos : String} {af : Array Edge} {s s' : Sls} {os os' : List Oper} (hd : gdL ops.toList jg = some d) (hv : ov X.N s (.tmp d) = some (.bool t)) (hb : t = !b) (hne : Nat.beq dd d = false) (c : Nat) (hs : skN jg d b c ((dd, undef) :: s) os = some (s', os'))
  (h : RN X k ops m₀ j₀ (i + 1 + c) os' f s' g m j) : RN X k ops m₀ j₀ i (⟨some dd, op, ty, pos, af, some (jg, b)⟩ :: os) f s g m j := n_sk hd hv hb (nSkR hd hb c (ov_skip hv hne) hs h)

end Go.Proofs.YtehmailaabjdjaaGreat
