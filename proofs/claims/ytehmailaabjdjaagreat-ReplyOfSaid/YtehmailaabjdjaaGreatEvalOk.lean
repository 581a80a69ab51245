/-
  WHAT THE EVALUATOR FINDS IS SO. No condition.
-/
import Derived.Test.YtehmailaabjdjaaGreatEval
namespace Go.Proofs.YtehmailaabjdjaaGreat
set_option linter.unusedSimpArgs false
set_option linter.unusedVariables false

theorem S.upd_heap {s s' : S} {l : Nat} {o : Option AObj} (h : s.upd l o = some s') : s'.heap = s.heap.upd l o := by
 unfold S.upd at h
 split at h
 case isFalse => cases h
 rename_i hl
 cases h
 apply Heap.ext'
 ·intro x
  simp only [S.heap, Heap.upd_get]
  exact TH.get_set 41 s.t l x o (by omega)
 ·rfl

theorem S.wr_heap {s s' : S} {q : Option (Nat × Option AObj)} (h : s.wr q = some s') : s'.heap = s.heap.wr q := by
 cases q with
 | none => cases h; rfl
 | some q => obtain ⟨l, o⟩ := q; exact S.upd_heap h

theorem S.nw_heap {s s' : S} {nm : Nat} {q : Option AObj} (h : s.nw nm q = some s') : s'.heap = s.heap.nw nm q := by
 cases q with
 | none => cases h; rfl
 | some o => exact S.upd_heap h

theorem S.app_heap {s s' : S} {nm : Nat} {e : Eff} (h : s.app nm e = some s') : s'.heap = s.heap.app nm e := by
 simp only [S.app, Option.bind_eq_some_iff] at h
 obtain ⟨s₁, h1, h2⟩ := h
 rw [S.nw_heap h2, S.wr_heap h1]
 rfl

theorem eqVL_sound {f : Value → Value → Bool} (hf : ∀ a b, f a b = true → a = b) : ∀ (l l' : List Value), eqVL f l l' = true → l = l'
 | [], [], _ => rfl
 | [], _ :: _, h => by simp [eqVL] at h
 | _ :: _, [], h => by simp [eqVL] at h
 | x :: xs, y :: ys, h => by
  simp only [eqVL, Bool.and_eq_true] at h
  rw [hf x y h.1, eqVL_sound hf xs ys h.2]

theorem bytes_ext {a b : ByteArray} (h : (a.data.toList == b.data.toList) = true) : a = b := by
 obtain ⟨a⟩ := a
 obtain ⟨b⟩ := b
 rw [Array.ext' (by simpa using h : a.toList = b.toList)]

theorem eqV_sound : ∀ (n : Nat) (a b : Value), eqV n a b = true → a = b := by
 intro n
 induction n with
 | zero =>
  intro a b h
  unfold eqV at h
  split at h <;> first | (cases h; done) | (rw [bytes_ext h]; done) | (simp_all; done)
 | succ n ih =>
  intro a b h
  have key : ∀ x y : Array Value, eqVL (eqV n) x.toList y.toList = true → x = y := fun x y h => Array.ext' (eqVL_sound ih _ _ h)
  unfold eqV at h
  split at h <;> first
   | (cases h; done)
   | (rw [bytes_ext h]; done)
   | (rename_i heq; cases heq; rw [key _ _ h]; done)
   | (rename_i heq; cases heq; simp only [Bool.and_eq_true, beq_iff_eq] at h; obtain ⟨⟨rfl, h1⟩, h2⟩ := h; rw [key _ _ h1, key _ _ h2]; done)
   | (simp_all; done)

theorem eqEs_sound : ∀ (a b : List MapEntry), eqEs a b = true → a = b
 | [], [], _ => rfl
 | [], _ :: _, h => by simp [eqEs] at h
 | _ :: _, [], h => by simp [eqEs] at h
 | x :: xs, y :: ys, h => by
  simp only [eqEs, Bool.and_eq_true, beq_iff_eq] at h
  obtain ⟨⟨⟨h1, h2⟩, h3⟩, h4⟩ := h
  rw [eqEs_sound xs ys h4]
  obtain ⟨k, v, b⟩ := x
  obtain ⟨k', v', b'⟩ := y
  simp only at h1 h2 h3
  rw [eqV_sound _ _ _ h1, eqV_sound _ _ _ h2, h3]

theorem eqO_sound {a b : Option AObj} (h : eqO a b = true) : a = b := by
 unfold eqO at h
 split at h
 ·rfl
 ·simp only [Bool.and_eq_true, beq_iff_eq] at h
  obtain ⟨⟨rfl, rfl⟩, h⟩ := h
  rw [eqVL_sound (eqV_sound 20) _ _ h]
 ·simp only [Bool.and_eq_true, beq_iff_eq] at h
  obtain ⟨rfl, h⟩ := h
  rw [eqEs_sound _ _ h]
 ·cases h

theorem runL_post {E : Env} {ops : Array Oper} {base : Nat} {K K' : Act → Heap → Prop} : ∀ {L : List Nat} {a : Act} {σ : Heap}, runL E ops base L a σ K → (∀ a σ, K a σ → K' a σ) → runL E ops base L a σ K'
 | [], a, σ, h, hk => hk _ _ h
 | i :: L, a, σ, h, hk => by
  simp only [runL] at h ⊢
  split at h
  ·exact runL_post h hk
  ·split at h
   ·rename_i hw
    rw [if_pos hw]
    split at h
    ·split at h
     ·exact ⟨h.1, runL_post h.2 hk⟩
     ·exact h
    ·exact h.mono fun v σ' h => runL_post h hk
    ·exact runL_post h hk
    ·exact h.mono fun a σ h => runL_post h hk
   ·rename_i hw
    rw [if_neg hw]
    exact runL_post h hk

theorem runD_post {E : Env} {ops : Array Oper} {base : Nat} {dep : Dep} {K K' : Act → Heap → Prop} : ∀ {L : List Nat} {D : List Rec} {a : Act} {σ : Heap}, runD E ops base dep L D a σ K → (∀ a σ, K a σ → K' a σ) → runD E ops base dep L D a σ K'
 | [], D, a, σ, h, hk => hk _ _ h
 | i :: L, D, a, σ, h, hk => by
  simp only [runD] at h ⊢
  split at h
  ·exact h
  ·split at h
   ·rename_i hw
    rw [if_pos hw]
    split at h
    ·split at h
     ·exact ⟨h.1, h.2.1, runD_post h.2.2 hk⟩
     ·exact h
    ·exact ⟨h.1, h.2.mono fun v σ' h => ⟨h.1, runD_post h.2 hk⟩⟩
    ·exact h
   ·rename_i hw
    rw [if_neg hw]
    exact runD_post h hk

def CfOk (E : Env) (cf : CF) : Prop := ∀ f args s v s', cf f args s = some (v, s') → ACall E.P f args s.heap fun u τ => u = v ∧ τ = s'.heap

theorem evL_sound {E : Env} {cf : CF} {ops : Array Oper} {base : Nat} (hcf : CfOk E cf) : ∀ (L : List Nat) (a : Act) (s : S) {a' : Act} {s' : S}, evL E cf ops base L a s = some (a', s') →
  runL E ops base L a s.heap fun b τ => b = a' ∧ τ = s'.heap
 | [], a, s, a', s', h => by
  simp only [evL, Option.some.injEq, Prod.mk.injEq] at h
  exact ⟨h.1, by rw [h.2]⟩
 | i :: L, a, s, a', s', h => by
  simp only [evL] at h
  simp only [runL]
  cases ho : ops[i]? with
  | none => rw [ho] at h; exact evL_sound hcf L a s h
  | some o =>
   rw [ho] at h
   simp only at h ⊢
   split
   ·rename_i hw
    rw [if_pos hw] at h
    split at h
    ·rename_i p hp
     rw [hp]
     simp only
     split at h
     ·rename_i eff he
      rw [he]
      simp only
      split at h
      ·rename_i hwr
       split at h
       ·rename_i s₁ hs₁
        refine ⟨hwr, ?_⟩
        rw [← S.app_heap hs₁]
        exact evL_sound hcf L _ s₁ h
       ·cases h
      ·cases h
     ·cases h
    ·rename_i f args hp
     rw [hp]
     simp only
     split at h
     ·rename_i v s₁ hc
      refine (hcf f args s v s₁ hc).mono ?_
      rintro u τ ⟨rfl, rfl⟩
      exact evL_sound hcf L _ s₁ h
     ·cases h
    ·rename_i f cap args hp
     rw [hp]
     exact evL_sound hcf L _ s h
    ·cases h
   ·rename_i hw
    rw [if_neg hw] at h
    exact evL_sound hcf L _ s h

theorem clashFreeB_sound {dep : Dep} {D : List Rec} {i : Nat} {t w : List Nat} (h : clashFreeB dep D i t w = true) : clashFree dep D i t w := by
 intro d hd
 simp only [clashFreeB, List.all_eq_true] at h
 have := h d hd
 simp only [Bool.or_eq_true, Bool.and_eq_true, List.isEmpty_iff] at this
 rcases this with (⟨h1, h2⟩ | h1) | h1
 ·exact .inr ⟨by rw [h1]; rfl, by rw [h2]; rfl⟩
 ·exact .inl h1
 ·exact .inr h1

theorem callFreeB_sound {dep : Dep} {D : List Rec} {i : Nat} (h : callFreeB dep D i = true) : callFree dep D i := by
 intro d hd
 simp only [callFreeB, List.all_eq_true] at h
 have := h d hd
 simp only [Bool.or_eq_true, List.isEmpty_iff] at this
 rcases this with (h1 | h1) | h1
 ·exact .inr (.inl h1)
 ·exact .inr (.inr h1)
 ·exact .inl h1

theorem keptB_sound {dep : Dep} {D : List Rec} {i : Nat} {s s' : S} (h : keptB dep D i s s' = true) : kept dep D i s.heap s'.heap := by
 intro d hd
 simp only [keptB, List.all_eq_true] at h
 have := h d hd
 simp only [Bool.or_eq_true, List.isEmpty_iff, List.all_eq_true] at this
 rcases this with ((h1 | h1) | h1) | h1
 ·exact .inr (.inl h1)
 ·exact .inr (.inr (by rw [h1]; intro l hl; cases hl))
 ·exact .inl h1
 ·exact .inr (.inr fun l hl => eqO_sound (h1 l hl))

theorem evD_sound {E : Env} {cf : CF} {ops : Array Oper} {base : Nat} {dep : Dep} (hcf : CfOk E cf) : ∀ (L : List Nat) (D : List Rec) (a : Act) (s : S) {a' : Act} {s' : S}, evD E cf ops base dep L D a s = some (a', s') →
  runD E ops base dep L D a s.heap fun b τ => b = a' ∧ τ = s'.heap
 | [], D, a, s, a', s', h => by
  simp only [evD, Option.some.injEq, Prod.mk.injEq] at h
  exact ⟨h.1, by rw [h.2]⟩
 | i :: L, D, a, s, a', s', h => by
  simp only [evD] at h
  simp only [runD]
  cases ho : ops[i]? with
  | none => rw [ho] at h; cases h
  | some o =>
   rw [ho] at h
   simp only at h ⊢
   split
   ·rename_i hw
    rw [if_pos hw] at h
    split at h
    ·rename_i p hp
     rw [hp]
     simp only
     split at h
     ·rename_i eff he
      rw [he]
      simp only
      split at h
      ·rename_i hwr
       simp only [Bool.and_eq_true, Bool.or_eq_true, beq_iff_eq] at hwr
       split at h
       ·rename_i s₁ hs₁
        refine ⟨hwr.1, hwr.2.imp id clashFreeB_sound, ?_⟩
        rw [← S.app_heap hs₁]
        exact evD_sound hcf L _ _ s₁ h
       ·cases h
      ·cases h
     ·cases h
    ·rename_i f args hp
     rw [hp]
     simp only
     split at h
     ·rename_i hcf'
      split at h
      ·rename_i v s₁ hc
       split at h
       ·rename_i hk
        refine ⟨callFreeB_sound hcf', (hcf f args s v s₁ hc).mono ?_⟩
        rintro u τ ⟨rfl, rfl⟩
        exact ⟨keptB_sound hk, evD_sound hcf L _ _ s₁ h⟩
       ·cases h
      ·cases h
     ·cases h
    ·cases h
   ·rename_i hw
    rw [if_neg hw] at h
    exact evD_sound hcf L _ _ s h

def nodupB : List Nat → Bool
 | [] => true
 | x :: r => !r.contains x && nodupB r

theorem nodupB_sound : ∀ {l : List Nat}, nodupB l = true → l.Nodup
 | [], _ => List.nodup_nil
 | x :: r, h => by
  simp only [nodupB, Bool.and_eq_true, Bool.not_eq_true', List.contains_eq_mem, decide_eq_false_iff_not] at h
  exact List.nodup_cons.2 ⟨h.1, nodupB_sound h.2⟩

def looseB (ops : Array Oper) (x y : Nat) : Bool :=
 match ops[x]?, ops[y]? with
 | some ox, some oy => ox.apart ops oy && kindsOk (kindOf ox) (kindOf oy)
 | _, _ => false

def pwB (ops : Array Oper) (dep : Dep) : List Nat → Bool
 | [] => true
 | x :: r => (r.all fun y => !dep x y && (dep y x || looseB ops x y)) && pwB ops dep r

theorem pwB_sound {ops : Array Oper} {dep : Dep} : ∀ {l : List Nat}, pwB ops dep l = true →
  l.Pairwise fun x y => dep x y = false ∧ (dep y x = true ∨ ∃ ox oy, ops[x]? = some ox ∧ ops[y]? = some oy ∧ ox.apart ops oy = true ∧ kindsOk (kindOf ox) (kindOf oy) = true)
 | [], _ => .nil
 | x :: r, h => by
  simp only [pwB, Bool.and_eq_true, List.all_eq_true] at h
  refine List.pairwise_cons.2 ⟨fun y hy => ?_, pwB_sound h.2⟩
  have := h.1 y hy
  simp only [Bool.not_eq_true', Bool.or_eq_true] at this
  refine ⟨this.1, this.2.imp id fun hl => ?_⟩
  unfold looseB at hl
  split at hl
  ·rename_i ox oy h1 h2
   simp only [Bool.and_eq_true] at hl
   exact ⟨ox, oy, h1, h2, hl.1, hl.2⟩
  ·cases hl

def edgeB (dep : Dep) : Nat → List Oper → Bool
 | _, [] => true
 | x, o :: r => (o.after.toList.all fun e => !(Region.binds .any e) || (decide (e.on < x) && dep x e.on)) && edgeB dep (x + 1) r

theorem edgeB_sound {dep : Dep} : ∀ {l : List Oper} {x : Nat}, edgeB dep x l = true → ∀ (i : Nat) (o : Oper), l[i]? = some o → ∀ e ∈ o.after, Region.binds .any e = true → e.on < x + i ∧ dep (x + i) e.on = true
 | [], x, _, i, o, ho => by simp at ho
 | p :: r, x, h, i, o, ho => by
  simp only [edgeB, Bool.and_eq_true, List.all_eq_true] at h
  cases i with
  | zero =>
   simp at ho
   subst ho
   intro e he hb
   have := h.1 e (by simpa using he)
   simpa [hb] using this
  | succ i =>
   have := edgeB_sound h.2 i o (by simpa using ho)
   intro e he hb
   have := this e he hb
   rwa [show x + 1 + i = x + (i + 1) by omega] at this

def backB (ops : Array Oper) (dep : Dep) : Nat → List (List Nat) → Bool
 | _, [] => true
 | x, row :: r => (row.all fun y => match ops[x]? with
   | some o => o.after.toList.any fun e => Region.binds .any e && (e.on == y || dep e.on y)
   | none => false) && backB ops dep (x + 1) r

theorem backB_sound {ops : Array Oper} {dep : Dep} : ∀ {rows : List (List Nat)} {x : Nat}, backB ops dep x rows = true → ∀ (i y : Nat), y ∈ rows.getD i [] →
  ∃ o, ops[x + i]? = some o ∧ ∃ e ∈ o.after, Region.binds .any e = true ∧ (e.on = y ∨ dep e.on y = true)
 | [], x, _, i, y, hy => by simp at hy
 | row :: r, x, h, i, y, hy => by
  simp only [backB, Bool.and_eq_true, List.all_eq_true] at h
  cases i with
  | zero =>
   have := h.1 y (by simpa using hy)
   split at this
   ·rename_i o ho
    simp only [List.any_eq_true, Bool.and_eq_true, Bool.or_eq_true, beq_iff_eq] at this
    obtain ⟨e, he, hb, hc⟩ := this
    exact ⟨o, ho, e, by simpa using he, hb, hc⟩
   ·cases this
  | succ i =>
   have := backB_sound h.2 i y (by simpa using hy)
   rwa [show x + 1 + i = x + (i + 1) by omega] at this

def drawOkB (ops : Array Oper) (t : List Nat × List (List Nat)) : Bool :=
 nodupB t.1 && t.1.all (fun i => decide (i < ops.size)) && (List.range ops.size).all (fun i => t.1.contains i) && pwB ops (depOf t.2) t.1 && edgeB (depOf t.2) 0 ops.toList && backB ops (depOf t.2) 0 t.2

theorem drawOkB_sound {ops : Array Oper} {t : List Nat × List (List Nat)} (h : drawOkB ops t = true) : DrawOk ops (depOf t.2) t.1 := by
 simp only [drawOkB, Bool.and_eq_true] at h
 obtain ⟨⟨⟨⟨⟨h1, h2⟩, h3⟩, h4⟩, h5⟩, h6⟩ := h
 simp only [List.all_eq_true, decide_eq_true_eq, List.mem_range, List.contains_eq_mem] at h2 h3
 refine ⟨nodupB_sound h1, fun i => ⟨h2 i, h3 i⟩, pwB_sound h4, fun x o ho e he hb => ?_, fun x y hd => ?_⟩
 ·have := edgeB_sound h5 x o (by simpa using ho) e he hb
  simpa using this
 ·have := backB_sound h6 x y (by simpa [depOf] using hd)
  simpa using this

def codeOkB (T : Tab) (f : FuncId) : Code → Bool
 | .region id ops draw => !draw || drawOkB ops (T f id)
 | .seq x y => codeOkB T f x && codeOkB T f y
 | .cond _ x y => codeOkB T f x && codeOkB T f y
 | .block _ c => codeOkB T f c
 | .loop c => codeOkB T f c
 | _ => true

def funcsOkB (T : Tab) : Nat → List Func → Bool
 | _, [] => true
 | i, fn :: r => (match fn.body with | some c => codeOkB T i c | none => true) && funcsOkB T (i + 1) r

def AllOk (E : Env) (T : Tab) : Prop := ∀ f fn c, E.P.funcs[f]? = some fn → fn.body = some c → codeOkB T f c = true

theorem funcsOkB_sound {T : Tab} : ∀ {l : List Func} {i : Nat}, funcsOkB T i l = true → ∀ (f : Nat) (fn : Func) (c : Code), l[f]? = some fn → fn.body = some c → codeOkB T (i + f) c = true
 | [], i, _, f, fn, c, hf, _ => by simp at hf
 | g :: r, i, h, f, fn, c, hf, hb => by
  simp only [funcsOkB, Bool.and_eq_true] at h
  cases f with
  | zero =>
   simp at hf
   subst hf
   have := h.1
   rw [hb] at this
   exact this
  | succ f =>
   have := funcsOkB_sound h.2 f fn c (by simpa using hf) hb
   rwa [show i + 1 + f = i + (f + 1) by omega] at this

theorem allOk {E : Env} {T : Tab} (h : funcsOkB T 0 E.P.funcs.toList = true) : AllOk E T := fun f fn c hf hb => by
 have := funcsOkB_sound h f fn c (by simpa using hf) hb
 simpa using this

end Go.Proofs.YtehmailaabjdjaaGreat
