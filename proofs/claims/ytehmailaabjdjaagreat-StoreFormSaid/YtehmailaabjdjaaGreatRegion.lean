/-
  REGIONS, SAID OF ABSTRACT HEAPS: operations in the order of the text; operations whose order is drawn: one order stands for all, where those that no edge parts touch nothing of each other's. No condition.
-/
import Derived.Test.YtehmailaabjdjaaGreatOkX
import Derived.RegionTactic
namespace Go.Proofs.YtehmailaabjdjaaGreat
set_option linter.unusedSimpArgs false
set_option linter.unusedVariables false

def DfRel (ρ : LMap) (d d' : Deferred) : Prop := ∃ f cap cap', d.target = .fn (.func f) cap ∧ d'.target = .fn (.func f) cap' ∧ VsRel ρ cap cap' ∧ VsRel ρ d.args d'.args

inductive DfsRel (ρ : LMap) : List Deferred → List Deferred → Prop where
 | nil : DfsRel ρ [] []
 | cons {d d' : Deferred} {l l' : List Deferred} : DfRel ρ d d' → DfsRel ρ l l' → DfsRel ρ (d :: l) (d' :: l')

theorem DfRel.mono {ρ ρ' : LMap} (hle : ρ.le ρ') {d d' : Deferred} (h : DfRel ρ d d') : DfRel ρ' d d' := by
 obtain ⟨f, c, c', h1, h2, h3, h4⟩ := h
 exact ⟨f, c, c', h1, h2, h3.mono hle, h4.mono hle⟩
theorem DfsRel.mono {ρ ρ' : LMap} (hle : ρ.le ρ') {d d' : List Deferred} (h : DfsRel ρ d d') : DfsRel ρ' d d' := by
 induction h with
 | nil => exact .nil
 | cons h _ ih => exact .cons (h.mono hle) ih

structure ARel (ρ : LMap) (a ac : Act) : Prop where
 tmps : VsRel ρ a.tmps ac.tmps
 defers : DfsRel ρ a.defers ac.defers

theorem ARel.mono {ρ ρ' : LMap} (hle : ρ.le ρ') {a ac : Act} (h : ARel ρ a ac) : ARel ρ' a ac := ⟨h.tmps.mono hle, h.defers.mono hle⟩

theorem ARel.put {ρ : LMap} {a ac : Act} (h : ARel ρ a ac) {v v' : Value} (hv : VRel ρ v v') (dst : Option Tmp) : ARel ρ (a.put dst v) (ac.put dst v') := by
 cases dst with
 | none => exact h
 | some d => exact ⟨set_rel h.tmps hv d, h.defers⟩

theorem getD_rel {ρ : LMap} {a a' : Array Value} (h : VsRel ρ a a') (t : Nat) : VRel ρ (a.getD t undef) (a'.getD t undef) := by
 cases ha : a[t]? with
 | none =>
  have := h.getNone ha
  rw [Array.getD_eq_getD_getElem?, Array.getD_eq_getD_getElem?, ha, this]
  exact VRel.undef_ ρ
 | some v =>
  obtain ⟨v', h1, h2⟩ := h.get ha
  rw [Array.getD_eq_getD_getElem?, Array.getD_eq_getD_getElem?, ha, h1]
  exact h2

theorem ARel.ev {ρ : LMap} {a ac : Act} (h : ARel ρ a ac) : EvRel ρ (aeval a) ac.eval := by
 intro x v hx
 cases x with
 | tmp t => simp only [aeval, Option.some.injEq] at hx; subst hx; exact getD_rel h.tmps t
 | const c =>
  simp only [aeval] at hx
  split at hx
  ·rename_i hp; cases hx; exact plainV_rel ρ hp
  ·cases hx
 | global g => cases hx
 | func f => simp only [aeval, Option.some.injEq] at hx; subst hx; exact .func rfl rfl (fun i v v' h => by simp at h) (fun i v v' h => by simp at h)

theorem yielded_rel {ρ : LMap} {a ac : Array Value} (h : VsRel ρ a ac) (ops : Array Oper) : yielded ops a = yielded ops ac := by
 funext j
 unfold yielded
 cases hd : (ops[j]?).bind (·.dst) with
 | none => rfl
 | some d =>
  simp only [Option.bind_some]
  cases ha : a[d]? with
  | none => rw [h.getNone ha]
  | some v =>
   obtain ⟨v', h1, h2⟩ := h.get ha
   rw [h1]
   cases h2 <;> rfl

def wrOk (p : Prim) (eff : Eff) : Bool :=
 match eff.wr with
 | some (l, _) => p.reads.contains l
 | none => true

theorem prim_step {E : Env} (hE : EnvOk E) {ρ : LMap} {σ : Heap} {w : World} {a ac : Act} {o : Oper} {ev : Ev} {p : Prim} {nm : Nat} {eff : Eff} (hrel : Rel ρ σ w) (ha : ARel ρ a ac) (hev : EvRel ρ ev ac.eval)
  (hop : aop E ev o = some (.prim p)) (hnm : ρ nm = none) (hlt : nm < σ.nxt) (hrun : p.run σ nm = some eff) :
  ∃ ρ' w' v', Rel ρ' (σ.app nm eff) w' ∧ Frm ρ σ w ρ' (σ.app nm eff) w' ∧ ARel ρ' (a.put o.dst eff.val) (ac.put o.dst v') ∧ (∀ l, l ≠ nm → ρ' l = ρ l) ∧
   ∀ K Q, K (ac.put o.dst v') w' → o.wp E.P ac w K Q := by
 obtain ⟨nx, v', ρ', w', h1, h2, h3, h4, h5, h6⟩ := prim_ok hE hop hev hrel hnm hlt hrun
 refine ⟨ρ', w', v', h3, h4, (ha.mono h4.le).put h5 _, h6, fun K Q hK => ?_⟩
 unfold Oper.wp
 rw [h1]
 cases nx <;> simp only [asVal, Option.some.injEq, reduceCtorEq] at h2
 ·subst h2; exact hK
 ·subst h2; exact hK

theorem LetsOut.mono' {Q Q' : Exit → Act → World → Prop} (hq : ∀ e a w, Q e a w → Q' e a w) (h : LetsOut Q) : LetsOut Q' := by
 obtain ⟨a, w, h⟩ := h
 exact ⟨a, w, hq _ _ _ h⟩

theorem upon_mono' {P : Program} {o : Oper} {a : Act} {K K' : Act → World → Prop} {Q Q' : Exit → Act → World → Prop} (hk : ∀ a w, K a w → K' a w) (hq : ∀ e a w, Q e a w → Q' e a w)
  {r : Result Next} (h : o.upon P a K Q r) : o.upon P a K' Q' r := by
 cases r with
 | ok n w' =>
  cases n <;> simp only [Oper.upon] at h ⊢ <;> first
   | exact hk _ _ h
   | exact Rows.mono h (fun _ _ he => hk _ _ he)
   | exact Calls.mono h (fun e w'' he => by cases e <;> first | exact hk _ _ he | exact hq _ _ _ he | exact LetsOut.mono' hq he)
 | halt x w' => cases x <;> simp only [Oper.upon] at h ⊢ <;> first | exact h | exact hq _ _ _ h

theorem wpOps_mono {P : Program} {ops : Array Oper} {Q Q' : Exit → Act → World → Prop} (hq : ∀ e a w, Q e a w → Q' e a w) : ∀ (L : List Nat) (a : Act) (w : World), wpOps P ops Q L a w → wpOps P ops Q' L a w
 | [], a, w, h => hq _ _ _ h
 | i :: L, a, w, h => by
  simp only [wpOps] at h ⊢
  split
  ·rename_i hn; rw [hn] at h; exact wpOps_mono hq L a w h
  ·rename_i o ho
   rw [ho] at h
   simp only at h
   split
   ·rename_i hw
    rw [if_pos hw] at h
    rcases h with h | ⟨h1, h2⟩
    ·exact .inl (upon_mono' (fun a w => wpOps_mono hq L a w) hq h)
    ·exact .inr ⟨h1, LetsOut.mono' hq h2⟩
   ·rename_i hw
    rw [if_neg hw] at h
    exact wpOps_mono hq L _ w h

def NdStep (P : Program) (nm : Nat) (o : Oper) (a : Act) (σ : Heap) (K : Act → Heap → Prop) : Prop :=
 ∀ (ρ : LMap) (w : World) (evc : Operand → Value), EvRel ρ (aeval a) evc → Rel ρ σ w → ρ nm = none → nm < σ.nxt →
  ∃ eff, Out P (execOp evc o) ρ σ w nm eff ∧ (∀ l, l ≠ nm → σ.get l = none → (σ.app nm eff).get l = none) ∧ K (a.put o.dst eff.val) (σ.app nm eff)

theorem NdStep.mono {P : Program} {nm : Nat} {o : Oper} {a : Act} {σ : Heap} {K K' : Act → Heap → Prop} (h : NdStep P nm o a σ K) (hk : ∀ a σ, K a σ → K' a σ) : NdStep P nm o a σ K' :=
 fun ρ w evc h1 h2 h3 h4 => let ⟨eff, k1, k2, k3⟩ := h ρ w evc h1 h2 h3 h4; ⟨eff, k1, k2, hk _ _ k3⟩

def runL (E : Env) (ops : Array Oper) (base : Nat) : List Nat → Act → Heap → (Act → Heap → Prop) → Prop
 | [], a, σ, K => K a σ
 | i :: L, a, σ, K =>
  match ops[i]? with
  | none => runL E ops base L a σ K
  | some o =>
   if Region.wanted o (yielded ops a.tmps) then
    match aop E (aeval a) o with
    | some (.prim p) => match p.run σ (base + i) with
     | some eff => wrOk p eff = true ∧ runL E ops base L (a.put o.dst eff.val) (σ.app (base + i) eff) K
     | none => False
    | some (.call f args) => ACall E.P f args σ fun v σ' => runL E ops base L (a.put o.dst v) σ' K
    | some (.defer f cap args) => runL E ops base L (Act.put { a with defers := ⟨.fn (.func f) cap, args⟩ :: a.defers } o.dst undef) σ K
    | none => NdStep E.P (base + i) o a σ fun a σ => runL E ops base L a σ K
   else runL E ops base L (a.put o.dst undef) σ K

def Fine (ρ : LMap) (σ : Heap) (w : World) (K : Act → Heap → Prop) (ac' : Act) (w' : World) : Prop :=
 ∃ ρ' a' σ', Rel ρ' σ' w' ∧ Frm ρ σ w ρ' σ' w' ∧ Fin ρ σ ρ' σ' ∧ ARel ρ' a' ac' ∧ K a' σ'

structure FinB (base : Nat) (ρ : LMap) (σ : Heap) (ρ' : LMap) (σ' : Heap) : Prop where
 old : ∀ l, l < base → ρ' l = ρ l
 gone : ∀ l, l < base → σ.get l = none → σ'.get l = none

theorem FinB.refl (base : Nat) (ρ : LMap) (σ : Heap) : FinB base ρ σ ρ σ := ⟨fun _ _ => rfl, fun _ _ h => h⟩
theorem FinB.trans {base : Nat} {ρ ρ₁ ρ₂ : LMap} {σ σ₁ σ₂ : Heap} (h : FinB base ρ σ ρ₁ σ₁) (k : FinB base ρ₁ σ₁ ρ₂ σ₂) : FinB base ρ σ ρ₂ σ₂ :=
 ⟨fun l hl => (k.old l hl).trans (h.old l hl), fun l hl hg => k.gone l hl (h.gone l hl hg)⟩
theorem Fin.toB {base : Nat} {ρ ρ' : LMap} {σ σ' : Heap} (h : Fin ρ σ ρ' σ') (hb : base ≤ σ.nxt) : FinB base ρ σ ρ' σ' :=
 ⟨fun l hl => h.old l (by omega), fun l hl => h.gone l (by omega)⟩

def FineB (base : Nat) (ρ : LMap) (σ : Heap) (w : World) (K : Act → Heap → Prop) (ac' : Act) (w' : World) : Prop :=
 ∃ ρ' a' σ', Rel ρ' σ' w' ∧ Frm ρ σ w ρ' σ' w' ∧ FinB base ρ σ ρ' σ' ∧ ARel ρ' a' ac' ∧ K a' σ'

theorem app_gone {p : Prim} {eff : Eff} {σ : Heap} {nm l : Nat} (hrun : p.run σ nm = some eff) (hw : wrOk p eff = true) (hl : l ≠ nm) (hg : σ.get l = none) : (σ.app nm eff).get l = none := by
 have h1 : (σ.wr eff.wr).get l = none := by
  unfold wrOk at hw
  cases he : eff.wr with
  | none => exact hg
  | some q =>
   obtain ⟨x, o⟩ := q
   rw [he] at hw
   simp only at hw
   have hx : σ.get x ≠ none := by
    intro hn
    have key : ∀ rs : List Nat, x ∈ rs → getAll σ.get rs = none := by
     intro rs
     induction rs with
     | nil => intro h; cases h
     | cons y rs ih =>
      intro h
      simp only [getAll]
      rcases List.mem_cons.1 h with rfl | h
      ·rw [hn]; rfl
      ·rw [ih h]; cases σ.get y <;> rfl
    unfold Prim.run at hrun
    rw [key _ (by simpa using hw)] at hrun
    cases hrun
   have : l ≠ x := by rintro rfl; exact hx hg
   simp only [Heap.wr]
   rw [Heap.upd_ne _ _ this]; exact hg
 unfold Heap.app
 cases he : eff.new with
 | none => exact h1
 | some o => simp only [Heap.nw]; rw [Heap.upd_ne _ _ hl]; exact h1

theorem app_nxt (σ : Heap) (nm : Nat) (eff : Eff) : (σ.app nm eff).nxt = σ.nxt := by
 unfold Heap.app Heap.nw Heap.wr
 split <;> split <;> rfl

theorem runL_sound {E : Env} (hE : EnvOk E) {ops : Array Oper} {base : Nat} {K : Act → Heap → Prop} : ∀ (L : List Nat) (a : Act) (σ : Heap) (ρ : LMap) (w : World) (ac : Act),
    runL E ops base L a σ K → Rel ρ σ w → ARel ρ a ac → L.Nodup → (∀ i ∈ L, i < ops.size → ρ (base + i) = none) → base + ops.size ≤ σ.nxt →
    wpOps E.P ops (fun e ac' w' => e = .normal ∧ FineB base ρ σ w K ac' w') L ac w
  | [], a, σ, ρ, w, ac, h, hrel, ha, _, _, _ => ⟨rfl, ρ, a, σ, hrel, Frm.refl _ _ _, FinB.refl _ _ _, ha, h⟩
  | i :: L, a, σ, ρ, w, ac, h, hrel, ha, hnd, hfr, hn => by
    have hnd' := (List.nodup_cons.1 hnd)
    rw [wpOps_cons]
    simp only [wpOp]
    simp only [runL] at h
    have go : ∀ {ρ₁ : LMap} {σ₁ : Heap} {w₁ : World} {a₁ ac₁ : Act}, runL E ops base L a₁ σ₁ K → Rel ρ₁ σ₁ w₁ → Frm ρ σ w ρ₁ σ₁ w₁ → FinB base ρ σ ρ₁ σ₁ → ARel ρ₁ a₁ ac₁ →
        (∀ j ∈ L, j < ops.size → ρ₁ (base + j) = none) → wpOps E.P ops (fun e ac' w' => e = .normal ∧ FineB base ρ σ w K ac' w') L ac₁ w₁ := by
      intro ρ₁ σ₁ w₁ a₁ ac₁ h1 h2 h3 h4 h5 h6
      have := runL_sound hE L a₁ σ₁ ρ₁ w₁ ac₁ h1 h2 h5 hnd'.2 h6 (Nat.le_trans hn h3.nxt)
      refine wpOps_mono (fun e ac' w' he => ?_) L ac₁ w₁ this
      obtain ⟨he, ρ', a', σ', k1, k2, k3, k4, k5⟩ := he
      exact ⟨he, ρ', a', σ', k1, h3.trans k2, h4.trans k3, k4, k5⟩
    cases ho : ops[i]? with
    | none =>
      rw [ho] at h
      exact go h hrel (Frm.refl _ _ _) (FinB.refl _ _ _) ha (fun j hj => hfr j (List.mem_cons_of_mem _ hj))
    | some o =>
      have hi : i < ops.size := (Array.getElem?_eq_some_iff.1 ho).1
      rw [ho] at h
      simp only at h ⊢
      rw [← yielded_rel ha.tmps ops]
      split
      · rename_i hw
        rw [if_pos hw] at h
        left
        split at h
        · rename_i p hop
          split at h
          · rename_i eff hrun
            obtain ⟨hwr, h⟩ := h
            have hnm := hfr i (List.mem_cons_self ..) hi
            obtain ⟨ρ', w', v', k1, k2, k3, k4, k5⟩ := prim_step hE hrel ha ha.ev hop hnm (by omega) hrun
            exact k5 _ _ (go h k1 k2 ⟨fun l hl => k4 l (by omega), fun l hl hg => app_gone hrun hwr (by omega) hg⟩ k3
              (fun j hj hjs => by rw [k4 _ (by rintro e; exact hnd'.1 (by have : j = i := by omega
                                                                          rw [← this]; exact hj))]; exact hfr j (List.mem_cons_of_mem _ hj) hjs))
          · exact h.elim
        · rename_i f args hop
          obtain ⟨args', k1, k2⟩ := call_ok hE hop ha.ev
          unfold Oper.wp
          rw [k2 w]
          simp only [Oper.upon]
          refine (h ρ w args' hrel k1).mono ?_
          rintro e w' ⟨v, v', ρ', σ', rfl, b1, b2, b3, b4, b5⟩
          exact go b5 b1 b2 (b3.toB (by omega)) ((ha.mono b2.le).put b4 _) (fun j hj hjs => by rw [b3.old _ (by omega)]; exact hfr j (List.mem_cons_of_mem _ hj) hjs)
        · rename_i f cap args hop
          obtain ⟨_, cap', args', k1, k2, k3⟩ := defer_ok hop ha.ev
          unfold Oper.wp
          rw [k3 w]
          simp only [Oper.upon]
          exact go h hrel (Frm.refl _ _ _) (FinB.refl _ _ _) (ARel.put (a := { a with defers := _ :: a.defers }) (ac := { ac with defers := _ :: ac.defers }) ⟨ha.tmps, .cons ⟨f, cap, cap', rfl, rfl, k1, k2⟩ ha.defers⟩ (VRel.undef_ ρ) _)
            (fun j hj => hfr j (List.mem_cons_of_mem _ hj))
        · have hnm := hfr i (List.mem_cons_self ..) hi
          obtain ⟨eff, ⟨nx, v', ρ', w', q1, q2, q3, q4, q5, q6⟩, hg, h⟩ := h ρ w ac.eval ha.ev hrel hnm (by omega)
          have hstep : ∀ K Q, K (ac.put o.dst v') w' → o.wp E.P ac w K Q := fun K Q hK => by
            unfold Oper.wp
            rw [q1]
            cases nx <;> simp only [asVal, Option.some.injEq, reduceCtorEq] at q2
            · subst q2; exact hK
            · subst q2; exact hK
          exact hstep _ _ (go h q3 q4 ⟨fun l hl => q6 l (by omega), fun l hl hn => hg l (by omega) hn⟩ ((ha.mono q4.le).put q5 _)
            (fun j hj hjs => by rw [q6 _ (by rintro e; exact hnd'.1 (by have : j = i := by omega
                                                                        rw [← this]; exact hj))]; exact hfr j (List.mem_cons_of_mem _ hj) hjs))
      · rename_i hw
        rw [if_neg hw] at h
        exact go h hrel (Frm.refl _ _ _) (FinB.refl _ _ _) (ha.put (VRel.undef_ ρ) _) (fun j hj => hfr j (List.mem_cons_of_mem _ hj))

end Go.Proofs.YtehmailaabjdjaaGreat
