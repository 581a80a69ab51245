/-
  REGIONS WITH UNKNOWN VALUES, in the order of the text, in a form that simp walks. No condition.
-/
import Derived.Test.YtehmailaabjdjaaGreatStepK
namespace Go.Proofs.YtehmailaabjdjaaGreat
set_option linter.unusedSimpArgs false
set_option linter.unusedVariables false

def gdst (ops : Array Oper) (j : Nat) : Option Tmp := (ops[j]?).bind (·.dst)

def stepC (E : Env) (a : Act) (σ : Heap) (nm : Nat) (o : Oper) (k : Act → Heap → Prop) : Prop :=
  match o.op with
  | .call c => obind (aCall E (aeval a) c o.type) fun x => match x with
    | .prim p => obind (p.run σ nm) fun eff => cbind (wrOk p eff = true) (k (a.put o.dst eff.val) (σ.app nm eff))
    | .call f args => ACall E.P f args σ fun v τ => k (a.put o.dst v) τ
    | .defer _ _ _ => False
  | .defer c => obind (aDefer E (aeval a) c) fun x => match x with
    | .defer f cap args => k (Act.put { a with defers := ⟨.fn (.func f) cap, args⟩ :: a.defers } o.dst undef) σ
    | _ => False
  | _ => stepK E a σ nm o fun a σ _ _ => k a σ

def runO (E : Env) (ops : Array Oper) (base : Nat) : Nat → List Oper → Act → Heap → (Act → Heap → Prop) → Prop
  | _, [], a, σ, K => K a σ
  | i, o :: os, a, σ, K =>
    match o.guard with
    | none => stepC E a σ (base + i) o fun a σ => runO E ops base (i + 1) os a σ K
    | some (j, b) => obind (gdst ops j) fun d => obind (aeval a (.tmp d)) fun v => obind (asB v) fun t =>
        tbind (t == b) (stepC E a σ (base + i) o fun a σ => runO E ops base (i + 1) os a σ K) (runO E ops base (i + 1) os (a.put o.dst undef) σ K)

theorem stepC_ok {E : Env} {ops : Array Oper} {base i : Nat} {L : List Nat} {a : Act} {σ : Heap} {K : Act → Heap → Prop} {o : Oper} (ho : ops[i]? = some o) (hw : Region.wanted o (yielded ops a.tmps) = true)
    (h : stepC E a σ (base + i) o fun a σ => runL E ops base L a σ K) : runL E ops base (i :: L) a σ K := by
  have prim : stepG E a σ (base + i) o (fun a σ _ _ => runL E ops base L a σ K) → runL E ops base (i :: L) a σ K := by
    rintro ⟨p, eff, h1, h2, h3, h4⟩
    exact runL_prim ho hw h1 h2 h3 h4
  obtain ⟨dst, op, ty, pos, af, g⟩ := o
  unfold stepC at h
  cases op <;> simp only at h <;> first | exact prim (stepK_ok h) | skip
  case call c =>
    obtain ⟨x, h1, h⟩ := obind_spec h
    have hx : aop E (aeval a) ⟨dst, .call c, ty, pos, af, g⟩ = some x := h1
    cases x with
    | prim p =>
      obtain ⟨eff, h2, h3⟩ := obind_spec h
      exact runL_prim ho hw hx h2 h3.1 h3.2
    | call f args =>
      simp only [runL, ho, if_pos hw, hx]
      exact h
    | defer f c args => exact h.elim
  case defer c =>
    obtain ⟨x, h1, h⟩ := obind_spec h
    have hx : aop E (aeval a) ⟨dst, .defer c, ty, pos, af, g⟩ = some x := h1
    cases x with
    | prim p => exact h.elim
    | call f args => exact h.elim
    | defer f cap args =>
      simp only [runL, ho, if_pos hw, hx]
      exact h

theorem stepC_mono {E : Env} {a : Act} {σ : Heap} {nm : Nat} {o : Oper} {k k' : Act → Heap → Prop} (hk : ∀ a σ, k a σ → k' a σ) (h : stepC E a σ nm o k) : stepC E a σ nm o k' := by
  obtain ⟨dst, op, ty, pos, af, g⟩ := o
  have ob : ∀ {α : Type} {x : Option α} {p q : α → Prop}, (∀ v, p v → q v) → obind x p → obind x q := by
    intro α x p q hpq h
    cases x with
    | none => exact h
    | some v => exact hpq v h
  unfold stepC at h ⊢
  cases op <;> simp only at h ⊢
  case call c =>
    refine ob (fun x hx => ?_) h
    cases x with
    | prim p => exact ob (fun eff he => ⟨he.1, hk _ _ he.2⟩) hx
    | call f args => exact ACall.mono hx fun v τ hv => hk _ _ hv
    | defer f c args => exact hx
  case defer c =>
    refine ob (fun x hx => ?_) h
    cases x with
    | prim p => exact hx
    | call f args => exact hx
    | defer f cap args => exact hk _ _ hx
  case indexAddr t x ix =>
    unfold stepK at h ⊢
    simp only at h ⊢
    split at h
    · exact ob (fun _ h => ob (fun _ h => ob (fun _ h => ob (fun _ h => ⟨h.1, hk _ _ h.2⟩) h) h) h) h
    · exact ob (fun x hx => by
        cases x with
        | prim p => exact ob (fun eff he => ⟨he.1, hk _ _ he.2⟩) hx
        | call f args => exact hx
        | defer f c args => exact hx) h
  all_goals
    unfold stepK at h ⊢
    simp only at h ⊢
    first
      | exact ob (fun _ h => hk _ _ h) h
      | exact ob (fun _ h => ob (fun _ h => hk _ _ h) h) h
      | exact ob (fun _ h => ob (fun _ h => ob (fun _ h => hk _ _ h) h) h) h
      | exact ob (fun _ h => ob (fun _ h => ob (fun _ h => ob (fun _ h => hk _ _ h) h) h) h) h
      | exact ob (fun _ h => ob (fun _ h => ob (fun _ h => ob (fun _ h => ob (fun _ h => ⟨h.1, hk _ _ h.2⟩) h) h) h) h) h
      | exact ob (fun x hx => by
          cases x with
          | prim p => exact ob (fun eff he => ⟨he.1, hk _ _ he.2⟩) hx
          | call f args => exact hx
          | defer f c args => exact hx) h

theorem runO_ok {E : Env} {ops : Array Oper} {base : Nat} {K : Act → Heap → Prop} : ∀ (os : List Oper) (i : Nat) (a : Act) (σ : Heap), (∀ j o, os[j]? = some o → ops[i + j]? = some o) → runO E ops base i os a σ K →
    runL E ops base (List.range' i os.length) a σ K
  | [], i, a, σ, _, h => h
  | o :: os, i, a, σ, hops, h => by
    have ho : ops[i]? = some o := hops 0 o rfl
    have hrest : ∀ j p, os[j]? = some p → ops[i + 1 + j]? = some p := fun j p hj => by
      have := hops (j + 1) p (by simpa using hj)
      rwa [show i + (j + 1) = i + 1 + j by omega] at this
    have step : Region.wanted o (yielded ops a.tmps) = true → (stepC E a σ (base + i) o fun a σ => runO E ops base (i + 1) os a σ K) → runL E ops base (i :: List.range' (i + 1) os.length) a σ K :=
      fun hw hs => stepC_ok ho hw (stepC_mono (fun a σ hk => runO_ok os (i + 1) a σ hrest hk) hs)
    show runL E ops base (i :: List.range' (i + 1) os.length) a σ K
    simp only [runO] at h
    split at h
    · rename_i hg
      exact step (by simp [Region.wanted, hg]) h
    · rename_i j b hg
      obtain ⟨d, h1, h⟩ := obind_spec h
      obtain ⟨v, h2, h⟩ := obind_spec h
      obtain ⟨t, h3, h⟩ := obind_spec h
      have hv := asB_spec h3
      subst hv
      have hy : Region.wanted o (yielded ops a.tmps) = (t == b) := by
        simp only [Region.wanted, hg, yielded]
        unfold gdst at h1
        rw [h1]
        simp only [aeval, Option.some.injEq] at h2
        simp only [Option.bind_some]
        rw [Array.getD_eq_getD_getElem?] at h2
        cases hd : a.tmps[d]? with
        | none => rw [hd] at h2; simp [undef] at h2
        | some u =>
          rw [hd] at h2
          simp only [Option.getD_some] at h2
          subst h2
          cases t <;> cases b <;> rfl
      cases hb : (t == b) with
      | true => exact step (by rw [hy, hb]) (h.1 hb)
      | false =>
        simp only [runL, ho]
        rw [if_neg (by rw [hy, hb]; simp)]
        exact runO_ok os (i + 1) _ σ hrest (h.2 hb)

theorem awp_region_o {E : Env} (hE : EnvOk E) {id : Nat} {ops : Array Oper} {Q : AQ} {a : Act} {σ : Heap}
    (h : ∀ K : Act → Heap → Prop, (∀ a σ, Q .normal a σ → K a σ) → runO E ops σ.nxt 0 ops.toList a (σ.bump ops.size) K) : AWP E.P (.region id ops false) Q a σ := by
  refine awp_region hE ?_
  have h1 := runO_ok (E := E) (ops := ops) (base := σ.nxt) ops.toList 0 a (σ.bump ops.size) (fun j o hj => by simpa using hj) (h (Q .normal) fun _ _ h => h)
  rwa [Array.length_toList, ← List.range_eq_range'] at h1

end Go.Proofs.YtehmailaabjdjaaGreat
