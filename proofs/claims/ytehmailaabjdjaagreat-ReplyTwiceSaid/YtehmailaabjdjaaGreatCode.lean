/-
  CODE AND CALLS, SAID OF ABSTRACT HEAPS. No condition.
-/
import Derived.Test.YtehmailaabjdjaaGreatDraw
namespace Go.Proofs.YtehmailaabjdjaaGreat
set_option linter.unusedSimpArgs false
set_option linter.unusedVariables false

abbrev AQ := Exit → Act → Heap → Prop

def AWP (P : Program) (c : Code) (Q : AQ) (a : Act) (σ : Heap) : Prop :=
 ∀ ρ w ac, Rel ρ σ w → ARel ρ a ac → c.wp P (fun e ac' w' => Fine ρ σ w (Q e) ac' w') ac w

theorem Fine.trans {ρ ρ₁ : LMap} {σ σ₁ : Heap} {w w₁ w' : World} {K : Act → Heap → Prop} {ac' : Act} (h1 : Frm ρ σ w ρ₁ σ₁ w₁) (h2 : Fin ρ σ ρ₁ σ₁) (h : Fine ρ₁ σ₁ w₁ K ac' w') : Fine ρ σ w K ac' w' := by
 obtain ⟨ρ', a', σ', k1, k2, k3, k4, k5⟩ := h
 exact ⟨ρ', a', σ', k1, h1.trans k2, h2.trans k3 h1.nxt, k4, k5⟩

theorem Fine.mono {ρ : LMap} {σ : Heap} {w w' : World} {K K' : Act → Heap → Prop} {ac' : Act} (h : Fine ρ σ w K ac' w') (hk : ∀ a σ, K a σ → K' a σ) : Fine ρ σ w K' ac' w' := by
 obtain ⟨ρ', a', σ', k1, k2, k3, k4, k5⟩ := h
 exact ⟨ρ', a', σ', k1, k2, k3, k4, hk _ _ k5⟩

theorem Fine.here {ρ : LMap} {σ : Heap} {w : World} {K : Act → Heap → Prop} {a ac : Act} (hr : Rel ρ σ w) (ha : ARel ρ a ac) (h : K a σ) : Fine ρ σ w K ac w :=
 ⟨ρ, a, σ, hr, Frm.refl _ _ _, Fin.refl _ _, ha, h⟩

section
variable {P : Program} {Q : AQ} {a : Act} {σ : Heap}

theorem AWP.mono {c : Code} {Q' : AQ} (h : AWP P c Q a σ) (hq : ∀ e a σ, Q e a σ → Q' e a σ) : AWP P c Q' a σ :=
 fun ρ w ac hr ha => wp_mono (h ρ w ac hr ha) fun e _ _ hf => hf.mono (hq e)

theorem awp_skip (h : Q .normal a σ) : AWP P .skip Q a σ := fun _ _ _ hr ha => wp_skip (.here hr ha h)
theorem awp_label {l : Nat} (h : Q .normal a σ) : AWP P (.label l) Q a σ := fun _ _ _ hr ha => wp_label (.here hr ha h)
theorem awp_exit {id : Nat} (h : Q (.exit id) a σ) : AWP P (.exit id) Q a σ := fun _ _ _ hr ha => wp_exit (.here hr ha h)
theorem awp_ret (h : Q .ret a σ) : AWP P .ret Q a σ := fun _ _ _ hr ha => wp_ret (.here hr ha h)

def aThen (K : Act → Heap → Prop) (Q : AQ) : AQ
 | .normal, a, σ => K a σ
 | e, a, σ => Q e a σ

theorem awp_seq {x y : Code} (h : AWP P x (aThen (AWP P y Q) Q) a σ) : AWP P (.seq x y) Q a σ := by
 intro ρ w ac hr ha
 refine wp_seq (wp_mono (h ρ w ac hr ha) fun e ac' w' hf => ?_)
 cases e with
 | normal =>
  obtain ⟨ρ', a', σ', k1, k2, k3, k4, k5⟩ := hf
  exact wp_mono (k5 ρ' w' ac' k1 k4) fun e _ _ hf => hf.trans k2 k3
 | exit id => exact hf
 | goto l => exact hf
 | ret => exact hf
 | panic c => exact hf
 | outgrown => exact hf

theorem awp_cond {c : Operand} {x y : Code} {t : Bool} (hc : aeval a c = some (.bool t)) (h : AWP P (if t then x else y) Q a σ) : AWP P (.cond c x y) Q a σ := by
 intro ρ w ac hr ha
 have hv := ha.ev _ _ hc
 generalize hy : ac.eval c = v at hv
 cases hv
 exact wp_cond hy (h ρ w ac hr ha)

def aBlock (id : Nat) (Q : AQ) : AQ
 | .exit id', a, σ => if id' = id then Q .normal a σ else Q (.exit id') a σ
 | e, a, σ => Q e a σ

theorem awp_block {id : Nat} {c : Code} (h : AWP P c (aBlock id Q) a σ) : AWP P (.block id c) Q a σ := by
 intro ρ w ac hr ha
 refine wp_block (wp_mono (h ρ w ac hr ha) fun e ac' w' hf => ?_)
 cases e with
 | exit id' =>
  simp only [Exit.inBlock]
  split
  ·rename_i e; exact hf.mono fun a σ hq => by simpa [aBlock, e] using hq
  ·rename_i e; exact hf.mono fun a σ hq => by simpa [aBlock, e] using hq
 | normal => exact hf
 | goto l => exact hf
 | ret => exact hf
 | panic c => exact hf
 | outgrown => exact hf

theorem awp_loop {c : Code} {β : Type} (I : β → Act → Heap → Prop) (μ : β → Nat) (b₀ : β) (h₀ : I b₀ a σ)
  (round : ∀ b a σ, I b a σ → AWP P c (aThen (fun a' σ' => ∃ b', I b' a' σ' ∧ μ b' < μ b) Q) a σ) : AWP P (.loop c) Q a σ := by
 intro ρ w ac hr ha b k cs
 have key : ∀ n (i : β) a σ ρ w ac, μ i = n → I i a σ → Rel ρ σ w → ARel ρ a ac →
   ∃ e a' w', Fine ρ σ w (Q e) a' w' ∧ Arrives P (lone (b.at ac (.code c :: .inLoop c :: k)) cs w) b k cs e a' w' := by
  intro n
  induction n using Nat.strongRecOn with
  | _ n ih =>
   intro i a σ ρ w ac hn hI hr ha
   obtain ⟨e, a₁, w₁, hq, harr⟩ := round i a σ hI ρ w ac hr ha b (.inLoop c :: k) cs
   cases e with
   | normal =>
    obtain ⟨ρ', a', σ', k1, k2, k3, k4, i', k5, k6⟩ := hq
    obtain ⟨e₂, a₂, w₂, hq₂, harr₂⟩ := ih (μ i') (hn ▸ k6) i' a' σ' ρ' w₁ a₁ rfl k5 k1 k4
    exact ⟨e₂, a₂, w₂, hq₂.trans k2 k3, .of_steps (Steps.trans harr (.one step_inLoop)) harr₂⟩
   | exit id => exact ⟨_, a₁, w₁, hq, .pass (x := .inLoop c) rfl (fun _ _ => .inl (by simp)) harr⟩
   | goto l => exact ⟨_, a₁, w₁, hq, .pass (x := .inLoop c) rfl (fun _ _ => .inl (by simp)) harr⟩
   | ret => exact ⟨_, a₁, w₁, hq, .pass (x := .inLoop c) rfl (fun _ _ => .inl (by simp)) harr⟩
   | panic ch => exact ⟨_, a₁, w₁, hq, .pass (x := .inLoop c) rfl (fun _ _ => .inl (by simp)) harr⟩
   | outgrown => exact ⟨_, a₁, w₁, hq, .pass (x := .inLoop c) rfl (fun _ _ => .inl (by simp)) harr⟩
 obtain ⟨e, a', w', hq, harr⟩ := key _ b₀ a σ ρ w ac rfl h₀ hr ha
 exact ⟨e, a', w', hq, .of_steps (.one step_loop) harr⟩

theorem awp_region {E : Env} (hE : EnvOk E) {id : Nat} {ops : Array Oper} (h : runL E ops σ.nxt (List.range ops.size) a (σ.bump ops.size) (Q .normal)) : AWP E.P (.region id ops false) Q a σ := by
 intro ρ w ac hr ha
 have hr' := hr.bump ops.size
 have h1 := runL_sound hE (List.range ops.size) a _ ρ w ac h hr' ha List.nodup_range (fun i _ hi => by
  cases hp : ρ (σ.nxt + i) with
  | none => rfl
  | some p => have := (hr.bnd _ _ hp).1; omega) (by simp)
 refine wp_region (wpOps_mono (fun e ac' w' he => ?_) _ _ _ h1)
 obtain ⟨rfl, ρ', a', σ', k1, k2, k3, k4, k5⟩ := he
 refine ⟨ρ', a', σ', k1, ⟨k2.le, k2.os, k2.tape, k2.output, k2.size, by have := k2.nxt; simp at this; omega, k2.blk, k2.own⟩, ⟨k3.old, k3.gone⟩, k4, k5⟩

theorem awp_draw {E : Env} (hE : EnvOk E) (hm : E.P.follows .mixedOrders = true) {id : Nat} {ops : Array Oper} {dep : Dep} {L₀ : List Nat} (hs : DrawOk ops dep L₀)
  (h : runD E ops σ.nxt dep L₀ [] a (σ.bump ops.size) (Q .normal)) : AWP E.P (.region id ops true) Q a σ := by
 intro ρ w ac hr ha
 have hr' := hr.bump ops.size
 have hr2 : Rel ρ (σ.bump ops.size) { w with drawn := w.drawn + 1 } := (step_same (w' := { w with drawn := w.drawn + 1 }) hr' ⟨rfl, rfl, rfl⟩ rfl).1
 have hf2 : Frm ρ (σ.bump ops.size) w ρ (σ.bump ops.size) { w with drawn := w.drawn + 1 } := (step_same (w' := { w with drawn := w.drawn + 1 }) hr' ⟨rfl, rfl, rfl⟩ rfl).2
 have h1 := runD_sound hE hs ops.size L₀ (Array.replicate ops.size false) [] a _ ρ { w with drawn := w.drawn + 1 } ac h hr2 ha (List.Sublist.refl _)
  (fun j hj => by
   have : j ∈ L₀ := (hs.mem j).2 hj
   simp [hj, this]) (by simp)
  (fun k o hk ho => absurd ((hs.mem k).2 (Array.getElem?_eq_some_iff.1 ho).1) hk)
  (fun i hi => by
   cases hp : ρ (σ.nxt + i) with
   | none => rfl
   | some p => have := (hr.bnd _ _ hp).1; omega) (by simp)
  (by
   have : L₀.length ≤ (List.range ops.size).length := (List.Nodup.length_le_of_subset hs.nodup fun i hi => List.mem_range.2 ((hs.mem i).1 hi))
   simpa using this)
 refine wp_region_any hm (wpAny_mono (fun e ac' w' he => ?_) _ _ _ _ h1)
 obtain ⟨rfl, ρ', a', σ', k1, k2, k3, k4, k5⟩ := he
 have k2' := hf2.trans k2
 exact ⟨ρ', a', σ', k1, ⟨k2'.le, k2'.os, k2'.tape, k2'.output, k2'.size, by have := k2'.nxt; simp at this; omega, k2'.blk, k2'.own⟩, ⟨k3.old, k3.gone⟩, k4, k5⟩

theorem DfsRel.nil_inv {ρ : LMap} {l : List Deferred} (h : DfsRel ρ [] l) : l = [] := by cases h; rfl

def aRes1 (P : Program) (a : Act) (σ : Heap) : ResultVar → Option Value
 | .tmp t => some (a.tmps.getD t undef)
 | .cell ad t => match a.tmps.getD ad undef with
  | .pointer (some ⟨l, o, none⟩) => match σ.get l with
   | some (.cells c _ _) => partO P t c o
   | _ => none
  | _ => none

def aResL (P : Program) (a : Act) (σ : Heap) : List ResultVar → Option (List Value)
 | [] => some []
 | r :: rs => (aRes1 P a σ r).bind fun v => (aResL P a σ rs).map (v :: ·)

def aOne : List Value → Value
 | [v] => v
 | vs => .tuple vs.toArray

def aRes (P : Program) (fn : Func) (a : Act) (σ : Heap) : Option Value := (aResL P a σ fn.results.toList).map aOne

theorem res1_ok {ρ : LMap} {w : World} {ac : Act} {r : ResultVar} {v : Value} (hr : Rel ρ σ w) (ha : ARel ρ a ac) (h : aRes1 P a σ r = some v) :
  ∃ v', ((match r with | .tmp t => pure (ac.tmps.getD t undef) | .cell a t => do loadVar t (← asAddr (ac.tmps.getD a undef)) : Sem Value)).run P w = .ok v' w ∧ VRel ρ v v' := by
 cases r with
 | tmp t => simp only [aRes1, Option.some.injEq] at h; subst h; exact ⟨_, rfl, getD_rel ha.tmps t⟩
 | cell ad t =>
  simp only [aRes1] at h
  have hg := getD_rel ha.tmps ad
  generalize hx : ac.tmps.getD ad undef = x at hg
  split at h
  case h_2 => cases h
  rename_i l o heq
  rw [heq] at hg
  split at h
  case h_2 => cases h
  rename_i c sz ro hl
  cases hg with
  | ptr hpl =>
   obtain ⟨_, _, C, T, fz, hh, hc, _⟩ := cells_of hr hl hpl
   obtain ⟨v', h1, h2⟩ := run_loadVar hh hc h
   exact ⟨v', by simp only [hx, asAddr, Sem.run_bind, Sem.run_pure, Result.andThen_ok, h1], h2⟩

theorem resL_ok {ρ : LMap} {w : World} (f : ResultVar → Sem Value) (hf : ∀ r v, aRes1 P a σ r = some v → ∃ v', (f r).run P w = .ok v' w ∧ VRel ρ v v') : ∀ (rs : List ResultVar) (vs : List Value), aResL P a σ rs = some vs →
  ∃ vs', (rs.mapM f).run P w = .ok vs' w ∧ VlRel ρ vs vs'
 | [], vs, h => by simp [aResL] at h; subst h; exact ⟨[], by simp, .nil ρ⟩
 | r :: rs, vs, h => by
  simp only [aResL, Option.bind_eq_some_iff] at h
  obtain ⟨v, h1, h2⟩ := h
  obtain ⟨us, h3, rfl⟩ := Option.map_eq_some_iff.1 h2
  obtain ⟨v', k1, k2⟩ := hf r v h1
  obtain ⟨us', k3, k4⟩ := resL_ok f hf rs us h3
  refine ⟨v' :: us', ?_, .cons k2 k4⟩
  simp only [List.mapM_cons, Sem.run_bind, k1, Result.andThen_ok, k3, Sem.run_pure]

def rvSem (tmps : Array Value) : ResultVar → Sem Value
 | .tmp t => pure (tmps.getD t undef)
 | .cell a t => do loadVar t (← asAddr (tmps.getD a undef))

theorem results_eq (fn : Func) (tmps : Array Value) : results fn tmps = (do
  let vs ← fn.results.mapM (rvSem tmps)
  pure (if h : vs.size = 1 then vs[0] else .tuple vs)) := rfl

theorem res_ok {ρ : LMap} {w : World} {ac : Act} {fn : Func} {v : Value} (hr : Rel ρ σ w) (ha : ARel ρ a ac) (h : aRes P fn a σ = some v) :
  ∃ v', (results fn ac.tmps).run P w = .ok v' w ∧ VRel ρ v v' := by
 obtain ⟨vs, h1, rfl⟩ := Option.map_eq_some_iff.1 h
 have key : ∃ vs', VlRel ρ vs vs' ∧ (results fn ac.tmps).run P w = .ok (if h : vs'.toArray.size = 1 then vs'.toArray[0] else .tuple vs'.toArray) w := by
  rw [results_eq, Array.mapM_eq_mapM_toList]
  obtain ⟨vs', k1, k2⟩ := resL_ok (P := P) (a := a) (σ := σ) (ρ := ρ) (w := w) (rvSem ac.tmps) (fun r v hv => by
   obtain ⟨v', q1, q2⟩ := res1_ok (P := P) hr ha hv
   cases r with
   | tmp t => exact ⟨v', q1, q2⟩
   | cell ad t => exact ⟨v', q1, q2⟩) _ _ h1
  refine ⟨vs', k2, ?_⟩
  simp only [Sem.run_bind, Sem.run_map]
  rw [k1]
  rfl
 obtain ⟨vs', k2, hres⟩ := key
 refine ⟨_, hres, ?_⟩
 match vs, vs', k2 with
 | [], vs', k2 => rw [k2.inv_nil]; exact VRel.undef_ ρ
 | [v], vs', k2 =>
  obtain ⟨v', b, rfl, h1, h2⟩ := k2.inv_cons
  rw [h2.inv_nil]
  simpa [aOne] using h1
 | v :: u :: vs, vs', k2 =>
  have h0 := k2.toArray
  have hs : vs'.toArray.size ≠ 1 := by have := k2.1; simp at this ⊢; omega
  rw [dif_neg hs]
  exact .tuple h0.1 h0.2

def aEntry (fn : Func) (args : Array Value) : Act := { tmps := args ++ Array.replicate (fn.ntmps - args.size) undef, defers := [] }

theorem entry_rel {ρ : LMap} {args args' : Array Value} (h : VsRel ρ args args') (fn : Func) : ARel ρ (aEntry fn args) (aEntry fn args') := by
 refine ⟨?_, .nil⟩
 have hr : VlRel ρ (List.replicate (fn.ntmps - args.size) undef) (List.replicate (fn.ntmps - args.size) undef) := by
  refine ⟨rfl, fun i v v' h1 h2 => ?_⟩
  rw [h1] at h2; cases h2
  have := List.eq_of_mem_replicate (List.mem_of_getElem? h1)
  subst this
  exact VRel.undef_ ρ
 have := (h.toList.append hr).toArray
 have e1 : (args.toList ++ List.replicate (fn.ntmps - args.size) undef).toArray = args ++ Array.replicate (fn.ntmps - args.size) undef := by apply Array.ext'; simp
 have e2 : (args'.toList ++ List.replicate (fn.ntmps - args.size) undef).toArray = args' ++ Array.replicate (fn.ntmps - args'.size) undef := by apply Array.ext'; simp [h.1]
 rw [e1, e2] at this
 exact this

def aBody (P : Program) (fn : Func) (R : Value → Heap → Prop) : AQ
 | .normal, a, σ | .ret, a, σ => a.defers = [] ∧ ∃ v, aRes P fn a σ = some v ∧ R v σ
 | _, _, _ => False

theorem acall {f : FuncId} {fn : Func} {c : Code} {args : Array Value} {R : Value → Heap → Prop} (hf : P.funcs[f]? = some fn) (hb : fn.body = some c)
  (h : AWP P c (aBody P fn R) (aEntry fn args) σ) : ACall P f args σ R := by
 intro ρ w args' hr ha
 refine calls_of_wp hf hb (wp_mono (h ρ w _ hr (entry_rel ha fn)) fun e ac' w' hq => ?_)
 obtain ⟨ρ', a', σ', k1, k2, k3, k4, k5⟩ := hq
 have fin : a'.defers = [] → (∃ v, aRes P fn a' σ' = some v ∧ R v σ') → ac'.defers = [] ∧ ∃ v, (results fn ac'.tmps).run P w' = .ok v w' ∧
   ∃ u v' ρ' σ', Ending.returned v = .returned v' ∧ Rel ρ' σ' w' ∧ Frm ρ σ w ρ' σ' w' ∧ Fin ρ σ ρ' σ' ∧ VRel ρ' u v' ∧ R u σ' := by
  rintro hd ⟨u, hu, hR⟩
  have hd' : ac'.defers = [] := DfsRel.nil_inv (hd ▸ k4.defers)
  obtain ⟨v', h1, h2⟩ := res_ok (P := P) k1 k4 hu
  exact ⟨hd', v', h1, u, v', ρ', σ', rfl, k1, k2, k3, h2, hR⟩
 cases e with
 | normal => exact fin k5.1 k5.2
 | ret => exact fin k5.1 k5.2
 | exit id => exact k5.elim
 | goto l => exact k5.elim
 | panic c => exact k5.elim
 | outgrown => exact k5.elim

def ADef (P : Program) (f : FuncId) (args : Array Value) (σ : Heap) (R : Heap → Prop) : Prop :=
 ∀ ρ w args', Rel ρ σ w → VsRel ρ args args' → CallsD P f args' .returning w fun e u' w' =>
  ∃ v' ρ' σ', u' = .returning ∧ e = .returned v' ∧ Rel ρ' σ' w' ∧ Frm ρ σ w ρ' σ' w' ∧ Fin ρ σ ρ' σ' ∧ R σ'

theorem adef {f : FuncId} {fn : Func} {c : Code} {args : Array Value} {R : Heap → Prop} (hf : P.funcs[f]? = some fn) (hb : fn.body = some c)
  (h : AWP P c (aBody P fn fun _ σ => R σ) (aEntry fn args) σ) : ADef P f args σ R := by
 intro ρ w args' hr ha
 refine CallsD.mono (callsD_of_wp (R := fun e w' => ∃ v' ρ' σ', e = .returned v' ∧ Rel ρ' σ' w' ∧ Frm ρ σ w ρ' σ' w' ∧ Fin ρ σ ρ' σ' ∧ R σ') hf hb (wp_mono (h ρ w _ hr (entry_rel ha fn)) fun e ac' w' hq => ?_)) ?_
 ·obtain ⟨ρ', a', σ', k1, k2, k3, k4, k5⟩ := hq
  have fin : a'.defers = [] → (∃ v, aRes P fn a' σ' = some v ∧ R σ') → ac'.defers = [] ∧ ∃ v, (results fn ac'.tmps).run P w' = .ok v w' ∧
    ∃ v' ρ' σ', Ending.returned v = .returned v' ∧ Rel ρ' σ' w' ∧ Frm ρ σ w ρ' σ' w' ∧ Fin ρ σ ρ' σ' ∧ R σ' := by
   rintro hd ⟨u, hu, hR⟩
   have hd' : ac'.defers = [] := DfsRel.nil_inv (hd ▸ k4.defers)
   obtain ⟨v', h1, h2⟩ := res_ok (P := P) k1 k4 hu
   exact ⟨hd', v', h1, v', ρ', σ', rfl, k1, k2, k3, hR⟩
  cases e with
  | normal => exact fin k5.1 k5.2
  | ret => exact fin k5.1 k5.2
  | exit id => exact k5.elim
  | goto l => exact k5.elim
  | panic c => exact k5.elim
  | outgrown => exact k5.elim
 ·rintro e u' w' ⟨rfl, v', ρ', σ', h1, h2, h3, h4, h5⟩
  exact ⟨v', ρ', σ', rfl, h1, h2, h3, h4, h5⟩

def aLeaves (P : Program) (fn : Func) (a : Act) (R : Value → Heap → Prop) : List Deferred → Heap → Prop
 | [], σ => ∃ v, aRes P fn a σ = some v ∧ R v σ
 | d :: ds, σ => ∃ f cap, d.target = .fn (.func f) cap ∧ ADef P f (d.args ++ cap) σ fun σ' => aLeaves P fn a R ds σ'

theorem leaves_ok {E : Env} (hE : EnvOk E) {fn : Func} {a ac : Act} {R : Value → Heap → Prop} {Rc : Ending → World → Prop} (hB : ∀ d ∈ a.defers, ∀ f cap, d.target = .fn (.func f) cap → E.B f = true) : ∀ (ds ds' : List Deferred) (σ : Heap) (ρ : LMap) (w : World),
  (∀ d ∈ ds, d ∈ a.defers) → aLeaves E.P fn a R ds σ → Rel ρ σ w → ARel ρ a ac → DfsRel ρ ds ds' →
  (∀ v v' ρ' σ' w', Rel ρ' σ' w' → Frm ρ σ w ρ' σ' w' → Fin ρ σ ρ' σ' → VRel ρ' v v' → R v σ' → Rc (.returned v') w') → Leaves E.P fn ac.tmps Rc ds' .returning w
 | [], ds', σ, ρ, w, _, h, hr, ha, hd, hR => by
  cases hd
  obtain ⟨v, hv, hRv⟩ := h
  obtain ⟨v', k1, k2⟩ := res_ok (P := E.P) hr ha hv
  exact ⟨v', k1, hR v v' ρ σ w hr (Frm.refl _ _ _) (Fin.refl _ _) k2 hRv⟩
 | d :: ds, ds', σ, ρ, w, hm, h, hr, ha, hd, hR => by
  cases hd with
  | cons hd1 hd2 =>
   rename_i d' ds''
   obtain ⟨f, cap, h1, h2⟩ := h
   obtain ⟨g, c1, c2, e1, e2, e3, e4⟩ := hd1
   rw [h1] at e1
   simp only [Target.fn.injEq, Fn.func.injEq] at e1
   obtain ⟨rfl, rfl⟩ := e1
   have hargs : VsRel ρ (d.args ++ cap) (d'.args ++ c2) := by
    have := (e4.toList.append e3.toList).toArray
    have q1 : (d.args.toList ++ cap.toList).toArray = d.args ++ cap := by apply Array.ext'; simp
    have q2 : (d'.args.toList ++ c2.toList).toArray = d'.args ++ c2 := by apply Array.ext'; simp
    rwa [q1, q2] at this
   refine ⟨by simp, .func f, c2, f, d'.args ++ c2, e2, ?_, ?_⟩
   ·rw [e2]
    exact hE.b f (hB d (hm d (List.mem_cons_self ..)) f cap h1) _ w
   ·refine (h2 ρ w _ hr hargs).mono ?_
    rintro e u' w' ⟨v', ρ', σ', rfl, rfl, k1, k2, k3, k4⟩
    exact leaves_ok hE hB ds ds'' σ' ρ' w' (fun x hx => hm x (List.mem_cons_of_mem _ hx)) k4 k1 (ha.mono k2.le) (hd2.mono k2.le)
     fun v v' ρ'' σ'' w'' a1 a2 a3 a4 a5 => hR v v' ρ'' σ'' w'' a1 (k2.trans a2) (k3.trans a3 k2.nxt) a4 a5

end
end Go.Proofs.YtehmailaabjdjaaGreat
