/-
  STEPPING THROUGH REGIONS WITH UNKNOWN VALUES: activations as functions. No condition.
-/
import Derived.Test.YtehmailaabjdjaaGreatEnv
namespace Go.Proofs.YtehmailaabjdjaaGreat
set_option linter.unusedSimpArgs false
set_option linter.unusedVariables false

def fset (f : Nat → Value) (d : Nat) (v : Value) : Nat → Value := fun t => if t = d then v else f t
theorem fset_apply (f : Nat → Value) (d : Nat) (v : Value) (t : Nat) : fset f d v t = if t = d then v else f t := rfl

def mkT (n : Nat) (f : Nat → Value) : Array Value := Array.ofFn (n := n) fun i => f i.val
def AA (n : Nat) (f : Nat → Value) (ds : List Deferred) : Act := { tmps := mkT n f, defers := ds }

theorem mkT_get (n : Nat) (f : Nat → Value) (t : Nat) : (mkT n f)[t]? = if t < n then some (f t) else none := by
 unfold mkT
 rw [Array.getElem?_ofFn]
 by_cases h : t < n <;> simp [h]

theorem mkT_getD {n : Nat} {f : Nat → Value} {t : Nat} (h : t < n) : (mkT n f).getD t undef = f t := by
 rw [Array.getD_eq_getD_getElem?, mkT_get, if_pos h]; rfl

theorem mkT_set (n : Nat) (f : Nat → Value) (d : Nat) (v : Value) : (mkT n f).setIfInBounds d v = mkT n (fset f d v) := by
 apply Array.ext_getElem?
 intro i
 rw [Array.getElem?_setIfInBounds, mkT_get, mkT_get]
 have hs : (mkT n f).size = n := by simp [mkT]
 rw [hs]
 by_cases h : d = i
 ·subst h
  by_cases h2 : d < n <;> simp [h2, fset]
 ·have h' : ¬ (i = d) := fun e => h e.symm
  rw [if_neg h]
  by_cases h2 : i < n <;> simp [h2, fset, h']

theorem AA_put (n : Nat) (f : Nat → Value) (ds : List Deferred) (d : Nat) (v : Value) : (AA n f ds).put (some d) v = AA n (fset f d v) ds := by
 simp only [AA, Act.put, mkT_set]
theorem AA_put_none (n : Nat) (f : Nat → Value) (ds : List Deferred) (v : Value) : (AA n f ds).put none v = AA n f ds := rfl

theorem aeval_tmp {n : Nat} {f : Nat → Value} {ds : List Deferred} {t : Nat} (h : t < n) : aeval (AA n f ds) (.tmp t) = some (f t) := by
 simp only [aeval, AA, mkT_getD h]

theorem aEntry_AA {fn : Func} {args : Array Value} {n : Nat} (hn : fn.ntmps = n) (hs : args.size ≤ n) : aEntry fn args = AA n (fun t => args.getD t undef) [] := by
 subst hn
 unfold aEntry AA
 congr 1
 apply Array.ext_getElem?
 intro i
 rw [mkT_get, Array.getElem?_append]
 by_cases h : i < args.size
 ·rw [if_pos h, if_pos (by omega), Array.getD_eq_getD_getElem?, Array.getElem?_eq_getElem h]; rfl
 ·rw [if_neg h, Array.getElem?_replicate, Array.getD_eq_getD_getElem?, Array.getElem?_eq_none (by omega)]
  by_cases h2 : i < fn.ntmps
  ·rw [if_pos (by omega), if_pos h2]; rfl
  ·rw [if_neg (by omega), if_neg h2]

theorem runL_prim {E : Env} {ops : Array Oper} {base i : Nat} {L : List Nat} {a : Act} {σ : Heap} {K : Act → Heap → Prop} {o : Oper} {p : Prim} {eff : Eff}
  (ho : ops[i]? = some o) (hw : Region.wanted o (yielded ops a.tmps) = true) (hp : aop E (aeval a) o = some (.prim p)) (hr : p.run σ (base + i) = some eff) (hk : wrOk p eff = true)
  (h : runL E ops base L (a.put o.dst eff.val) (σ.app (base + i) eff) K) : runL E ops base (i :: L) a σ K := by
 simp only [runL, ho, if_pos hw, hp, hr]
 exact ⟨hk, h⟩

def obind {α : Type} (o : Option α) (k : α → Prop) : Prop :=
 match o with
 | some v => k v
 | none => False

theorem obind_some {α : Type} (v : α) (k : α → Prop) : obind (some v) k = k v := rfl
@[congr] theorem obind_congr {α : Type} {o o' : Option α} (h : o = o') (k : α → Prop) : obind o k = obind o' k := by rw [h]
theorem obind_spec {α : Type} {o : Option α} {k : α → Prop} (h : obind o k) : ∃ v, o = some v ∧ k v := by
 cases o with
 | none => exact h.elim
 | some v => exact ⟨v, rfl, h⟩

def cbind (c : Prop) (k : Prop) : Prop := c ∧ k
theorem cbind_true (k : Prop) : cbind True k = k := by simp [cbind]
@[congr] theorem cbind_congr {c c' : Prop} (h : c = c') (k : Prop) : cbind c k = cbind c' k := by rw [h]

def tbind (b : Bool) (x y : Prop) : Prop := (b = true → x) ∧ (b = false → y)
theorem tbind_true (x y : Prop) : tbind true x y = x := by simp [tbind]
theorem tbind_false (x y : Prop) : tbind false x y = y := by simp [tbind]
@[congr] theorem tbind_congr {b b' : Bool} (h : b = b') (x y : Prop) : tbind b x y = tbind b' x y := by rw [h]

def asPtr : Value → Option (Nat × Nat)
 | .pointer (some ⟨l, o, none⟩) => some (l, o)
 | _ => none
def asCells : Option AObj → Option (List Value × Nat × Bool)
 | some (.cells c sz ro) => some (c, sz, ro)
 | _ => none
def asB : Value → Option Bool
 | .bool b => some b
 | _ => none

theorem asPtr_spec {v : Value} {q : Nat × Nat} (h : asPtr v = some q) : v = .pointer (some ⟨q.1, q.2, none⟩) := by
 unfold asPtr at h; split at h
 ·cases h; rfl
 ·cases h
theorem asCells_spec {x : Option AObj} {q : List Value × Nat × Bool} (h : asCells x = some q) : x = some (.cells q.1 q.2.1 q.2.2) := by
 unfold asCells at h; split at h
 ·cases h; rfl
 ·cases h
theorem asB_spec {v : Value} {b : Bool} (h : asB v = some b) : v = .bool b := by
 unfold asB at h; split at h
 ·cases h; rfl
 ·cases h

abbrev KK := Act → Heap → List Nat → List Nat → Prop

def stepG (E : Env) (a : Act) (σ : Heap) (nm : Nat) (o : Oper) (k : KK) : Prop :=
 ∃ p eff, aop E (aeval a) o = some (.prim p) ∧ p.run σ nm = some eff ∧ wrOk p eff = true ∧ k (a.put o.dst eff.val) (σ.app nm eff) (tchOf p eff nm) (wrtOf eff nm)

theorem stepG_val {E : Env} {a : Act} {σ : Heap} {nm : Nat} {o : Oper} {k : KK} {v : Value} (h : aop E (aeval a) o = some (.prim (.ofVal v))) (hk : k (a.put o.dst v) σ [] []) : stepG E a σ nm o k :=
 ⟨_, ⟨v, none, none⟩, h, rfl, rfl, hk⟩

end Go.Proofs.YtehmailaabjdjaaGreat
