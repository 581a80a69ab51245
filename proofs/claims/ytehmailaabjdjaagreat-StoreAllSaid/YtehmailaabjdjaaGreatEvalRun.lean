/-
  WHAT THE EVALUATOR FINDS IS SO: code and calls. No condition.
-/
import Derived.Test.YtehmailaabjdjaaGreatEvalOk
namespace Go.Proofs.YtehmailaabjdjaaGreat
set_option linter.unusedSimpArgs false
set_option linter.unusedVariables false

def aBodyE (E : Env) (fn : Func) (R : Value → Heap → Prop) : AQ
 | .normal, a, σ | .ret, a, σ => (∀ d ∈ a.defers, ∀ g cap, d.target = .fn (.func g) cap → E.B g = true) ∧ aLeaves E.P fn a R a.defers σ
 | _, _, _ => False

theorem acallD {E : Env} (hE : EnvOk E) {f : FuncId} {fn : Func} {c : Code} {args : Array Value} {σ : Heap} {R : Value → Heap → Prop} (hf : E.P.funcs[f]? = some fn) (hb : fn.body = some c)
  (h : AWP E.P c (aBodyE E fn R) (aEntry fn args) σ) : ACall E.P f args σ R := by
 intro ρ w args' hr ha
 refine calls_of_wp_defers hf hb (wp_mono (h ρ w _ hr (entry_rel ha fn)) fun e ac' w' hq => ?_)
 obtain ⟨ρ', a', σ', k1, k2, k3, k4, k5⟩ := hq
 have fin : (∀ d ∈ a'.defers, ∀ g cap, d.target = .fn (.func g) cap → E.B g = true) ∧ aLeaves E.P fn a' R a'.defers σ' → Leaves E.P fn ac'.tmps (fun e w' =>
   ∃ v v' ρ' σ', e = .returned v' ∧ Rel ρ' σ' w' ∧ Frm ρ σ w ρ' σ' w' ∧ Fin ρ σ ρ' σ' ∧ VRel ρ' v v' ∧ R v σ') ac'.defers .returning w' := by
  rintro ⟨hB, hl⟩
  exact leaves_ok hE hB a'.defers ac'.defers σ' ρ' w' (fun d hd => hd) hl k1 k4 k4.defers
   fun v v' ρ'' σ'' w'' a1 a2 a3 a4 a5 => ⟨v, v', ρ'', σ'', rfl, a1, k2.trans a2, k3.trans a3 k2.nxt, a4, a5⟩
 cases e with
 | normal => exact fin k5
 | ret => exact fin k5
 | exit id => exact k5.elim
 | goto l => exact k5.elim
 | panic c => exact k5.elim
 | outgrown => exact k5.elim

def Is (e : Exit) (a : Act) (s : S) : AQ := fun e' b τ => e' = e ∧ b = a ∧ τ = s.heap

def RcOk (E : Env) (T : Tab) (rc : Rc) : Prop := ∀ f c a s e a' s', codeOkB T f c = true → rc f c a s = some (e, a', s') → AWP E.P c (Is e a' s') a s.heap

theorem evRun_sound {E : Env} {T : Tab} {rc : Rc} (hA : AllOk E T) (hrc : RcOk E T rc) {f : FuncId} {args : Array Value} {s s' : S} {fn : Func} {a : Act} (h : evRun E rc f args s = some (fn, a, s')) :
  ∃ c, E.P.funcs[f]? = some fn ∧ fn.body = some c ∧ AWP E.P c (fun e b τ => (e = .normal ∨ e = .ret) ∧ b = a ∧ τ = s'.heap) (aEntry fn args) s.heap := by
 unfold evRun at h
 split at h
 case h_2 => cases h
 rename_i fn' hf
 split at h
 case h_2 => cases h
 rename_i c hb
 split at h
 ·rename_i a' s'' hr
  cases h
  exact ⟨c, hf, hb, (hrc f c _ _ _ _ _ (hA f _ c hf hb) hr).mono fun e b τ ⟨h1, h2, h3⟩ => ⟨.inl h1, h2, h3⟩⟩
 ·rename_i a' s'' hr
  cases h
  exact ⟨c, hf, hb, (hrc f c _ _ _ _ _ (hA f _ c hf hb) hr).mono fun e b τ ⟨h1, h2, h3⟩ => ⟨.inr h1, h2, h3⟩⟩
 ·cases h

theorem evLeaves_sound {E : Env} {T : Tab} {rc : Rc} (hA : AllOk E T) (hrc : RcOk E T rc) {fn : Func} {a : Act} : ∀ (ds : List Deferred) (s : S) {v : Value} {s' : S}, evLeaves E rc fn a ds s = some (v, s') →
  (∀ d ∈ ds, ∀ g cap, d.target = .fn (.func g) cap → E.B g = true) ∧ aLeaves E.P fn a (fun u τ => u = v ∧ τ = s'.heap) ds s.heap
 | [], s, v, s', h => by
  simp only [evLeaves, Option.map_eq_some_iff, Prod.mk.injEq] at h
  obtain ⟨u, h1, rfl, rfl⟩ := h
  exact ⟨fun d hd => (by cases hd), u, h1, rfl, rfl⟩
 | d :: ds, s, v, s', h => by
  simp only [evLeaves] at h
  split at h
  case h_2 => cases h
  rename_i f cap htgt
  split at h
  case isFalse => cases h
  rename_i hB
  split at h
  case h_2 => cases h
  rename_i fn' a' s₁ hr
  split at h
  case isFalse => cases h
  rename_i hc
  simp only [Bool.and_eq_true, List.isEmpty_iff] at hc
  obtain ⟨hd, hres⟩ := hc
  obtain ⟨u, hu⟩ := Option.isSome_iff_exists.1 hres
  obtain ⟨k1, k2⟩ := evLeaves_sound hA hrc ds s₁ h
  obtain ⟨c, hf, hb, hw⟩ := evRun_sound hA hrc hr
  refine ⟨fun x hx g cap' hg => ?_, f, cap, htgt, adef hf hb (hw.mono ?_)⟩
  ·rcases List.mem_cons.1 hx with rfl | hx
   ·rw [htgt] at hg
    cases hg
    exact hB
   ·exact k1 x hx g cap' hg
  ·rintro e b τ ⟨rfl | rfl, rfl, rfl⟩
   ·exact ⟨hd, u, hu, k2⟩
   ·exact ⟨hd, u, hu, k2⟩

theorem evFunc_sound {E : Env} {T : Tab} {I : CF} {rc : Rc} (hE : EnvOk E) (hA : AllOk E T) (hI : CfOk E I) (hrc : RcOk E T rc) : CfOk E (evFunc E I rc) := by
 intro f args s v s' h
 unfold evFunc at h
 split at h
 ·rename_i r hr
  cases h
  exact hI f args s v s' hr
 split at h
 case h_2 => cases h
 rename_i fn a s₁ hr
 obtain ⟨c, hf, hb, hw⟩ := evRun_sound hA hrc hr
 have hl := evLeaves_sound hA hrc _ _ h
 refine acallD hE hf hb (hw.mono ?_)
 rintro e b τ ⟨rfl | rfl, rfl, rfl⟩
 ·exact hl
 ·exact hl

theorem evC_succ (E : Env) (T : Tab) (I : CF) (n : Nat) : evC E T I (n + 1) = evStep E T I (evC E T I n) := rfl

theorem evC_sound {E : Env} {T : Tab} {I : CF} (hE : EnvOk E) (hA : AllOk E T) (hI : CfOk E I) (hm : E.P.follows .mixedOrders = true) : ∀ (n : Nat), ∀ m, m ≤ n → RcOk E T (evC E T I m) := by
 intro n
 induction n with
 | zero =>
  intro m hm0 f c a s e a' s' _ h
  obtain rfl : m = 0 := by omega
  cases h
 | succ n ih =>
  intro m hmn f c a s e a' s' hc h
  rcases Nat.lt_or_ge m (n + 1) with hlt | hge
  ·exact ih m (by omega) f c a s e a' s' hc h
  obtain rfl : m = n + 1 := by omega
  have ihn := ih n (Nat.le_refl _)
  rw [evC_succ] at h
  unfold evStep at h
  split at h
  ·cases h; exact awp_skip ⟨rfl, rfl, rfl⟩
  ·cases h; exact awp_label ⟨rfl, rfl, rfl⟩
  ·cases h; exact awp_exit ⟨rfl, rfl, rfl⟩
  ·cases h; exact awp_ret ⟨rfl, rfl, rfl⟩
  ·-- seq
   rename_i x y
   simp only [codeOkB, Bool.and_eq_true] at hc
   split at h
   ·rename_i b s₁ hx
    refine awp_seq ((ihn f x a s _ _ _ hc.1 hx).mono ?_)
    rintro e' b' τ ⟨rfl, rfl, rfl⟩
    exact ihn f y _ _ _ _ _ hc.2 h
   ·rename_i hne
    refine awp_seq ((ihn f x a s _ _ _ hc.1 h).mono ?_)
    rintro e' b' τ ⟨rfl, rfl, rfl⟩
    cases e' with
    | normal => exact absurd h (hne _ _)
    | _ => exact ⟨rfl, rfl, rfl⟩
  ·-- cond
   rename_i cd x y
   simp only [codeOkB, Bool.and_eq_true] at hc
   split at h
   case h_2 => cases h
   rename_i b hb
   refine awp_cond hb ?_
   cases b
   ·exact ihn f y a s _ _ _ hc.2 h
   ·exact ihn f x a s _ _ _ hc.1 h
  ·-- block
   rename_i id x
   simp only [codeOkB] at hc
   split at h
   ·rename_i id' b s₁ hx
    refine awp_block ((ihn f x a s _ _ _ hc hx).mono ?_)
    rintro e' b' τ ⟨rfl, rfl, rfl⟩
    simp only [aBlock]
    split at h
    ·rename_i hid; rw [if_pos hid]; cases h; exact ⟨rfl, rfl, rfl⟩
    ·rename_i hid; rw [if_neg hid]; cases h; exact ⟨rfl, rfl, rfl⟩
   ·rename_i hne
    refine awp_block ((ihn f x a s _ _ _ hc h).mono ?_)
    rintro e' b' τ ⟨rfl, rfl, rfl⟩
    cases e' with
    | exit id' => exact absurd h (hne _ _ _)
    | _ => exact ⟨rfl, rfl, rfl⟩
  ·-- loop
   rename_i x
   have hcx : codeOkB T f x = true := hc
   refine awp_loop (β := Nat) (fun b a σ => b ≤ n + 1 ∧ ∃ s : S, σ = s.heap ∧ evC E T I b f (.loop x) a s = some (e, a', s')) id (n + 1) ⟨Nat.le_refl _, s, rfl, by rw [evC_succ]; unfold evStep; exact h⟩ ?_
   rintro b a₀ σ ⟨hbn, s₀, rfl, hb⟩
   cases b with
   | zero => cases hb
   | succ b =>
    rw [evC_succ] at hb
    simp only [evStep] at hb
    split at hb
    ·rename_i b₁ s₁ hx
     refine (ih b (by omega) f x a₀ s₀ _ _ _ hcx hx).mono ?_
     rintro e' b' τ ⟨rfl, rfl, rfl⟩
     exact ⟨b, ⟨by omega, s₁, rfl, hb⟩, by simp⟩
    ·rename_i hne
     refine (ih b (by omega) f x a₀ s₀ _ _ _ hcx hb).mono ?_
     rintro e' b' τ ⟨rfl, rfl, rfl⟩
     cases e' with
     | normal => exact absurd hb (hne _ _)
     | _ => exact ⟨rfl, rfl, rfl⟩
  ·-- region
   rename_i id ops draw
   have hcf := evFunc_sound hE hA hI ihn
   split at h
   ·rename_i hd
    subst hd
    simp only [codeOkB, Bool.not_true, Bool.false_or] at hc
    split at h
    case h_2 => cases h
    rename_i b s₁ hx
    cases h
    refine awp_draw hE hm (drawOkB_sound hc) (runD_post (evD_sound hcf _ _ _ _ hx) ?_)
    rintro b' τ ⟨rfl, rfl⟩
    exact ⟨rfl, rfl, rfl⟩
   ·rename_i hd
    have hd : draw = false := by simpa using hd
    subst hd
    split at h
    case h_2 => cases h
    rename_i b s₁ hx
    cases h
    refine awp_region hE (runL_post (evL_sound hcf _ _ _ hx) ?_)
    rintro b' τ ⟨rfl, rfl⟩
    exact ⟨rfl, rfl, rfl⟩
  ·cases h

theorem closed_call {E : Env} {T : Tab} {I : CF} (hE : EnvOk E) (hA : AllOk E T) (hI : CfOk E I) (hm : E.P.follows .mixedOrders = true) {n : Nat} {f : FuncId} {args : Array Value} {s s' : S} {v : Value}
  (h : evFunc E I (evC E T I n) f args s = some (v, s')) : ACall E.P f args s.heap fun u τ => u = v ∧ τ = s'.heap :=
 evFunc_sound hE hA hI (evC_sound hE hA hI hm n n (Nat.le_refl _)) f args s v s' h

end Go.Proofs.YtehmailaabjdjaaGreat
