/-
  AN EVALUATOR OF CLOSED CALLS, and that what it finds is so on every tape. No condition.
-/
import Derived.Test.YtehmailaabjdjaaGreatCode
namespace Go.Proofs.YtehmailaabjdjaaGreat
set_option linter.unusedSimpArgs false
set_option linter.unusedVariables false

inductive TH where
 | leaf
 | node (l : TH) (v : Option AObj) (r : TH)

def TH.get : TH → Nat → Option AObj
 | .leaf, _ => none
 | .node l v r, n => if n = 0 then v else if n % 2 = 1 then l.get (n / 2) else r.get (n / 2 - 1)

def TH.set : Nat → TH → Nat → Option AObj → TH
 | 0, t, _, _ => t
 | f + 1, .leaf, n, o => if n = 0 then .node .leaf o .leaf else if n % 2 = 1 then .node (TH.set f .leaf (n / 2) o) none .leaf else .node .leaf none (TH.set f .leaf (n / 2 - 1) o)
 | f + 1, .node l v r, n, o => if n = 0 then .node l o r else if n % 2 = 1 then .node (TH.set f l (n / 2) o) v r else .node l v (TH.set f r (n / 2 - 1) o)

theorem TH.get_set : ∀ (f : Nat) (t : TH) (n m : Nat) (o : Option AObj), n + 1 < 2 ^ f → (TH.set f t n o).get m = if m = n then o else t.get m
 | 0, t, n, m, o, h => by simp at h
 | f + 1, .leaf, n, m, o, h => by
  have hp : 2 ^ (f + 1) = 2 * 2 ^ f := by rw [Nat.pow_succ]; omega
  simp only [TH.set]
  split
  ·rename_i h0; subst h0
   simp only [TH.get]
   by_cases hm : m = 0 <;> simp [hm]
  ·rename_i h0
   split
   ·rename_i h1
    simp only [TH.get]
    by_cases hm : m = 0
    ·rw [if_pos hm, if_neg (by omega)]
    ·rw [if_neg hm]
     by_cases hm1 : m % 2 = 1
     ·rw [if_pos hm1, TH.get_set f .leaf (n / 2) (m / 2) o (by omega)]
      by_cases e : m = n
      ·rw [if_pos (by omega), if_pos e]
      ·rw [if_neg (by omega), if_neg e]; rfl
     ·rw [if_neg hm1, if_neg (by rintro rfl; exact hm1 h1)]
   ·rename_i h1
    simp only [TH.get]
    by_cases hm : m = 0
    ·rw [if_pos hm, if_neg (by omega)]
    ·rw [if_neg hm]
     by_cases hm1 : m % 2 = 1
     ·rw [if_pos hm1, if_neg (by rintro rfl; exact h1 hm1)]
     ·rw [if_neg hm1, TH.get_set f .leaf (n / 2 - 1) (m / 2 - 1) o (by omega)]
      by_cases e : m = n
      ·rw [if_pos (by omega), if_pos e]
      ·rw [if_neg (by omega), if_neg e]; rfl
 | f + 1, .node l v r, n, m, o, h => by
  have hp : 2 ^ (f + 1) = 2 * 2 ^ f := by rw [Nat.pow_succ]; omega
  simp only [TH.set]
  split
  ·rename_i h0; subst h0
   simp only [TH.get]
   by_cases hm : m = 0 <;> simp [hm]
  ·rename_i h0
   split
   ·rename_i h1
    simp only [TH.get]
    by_cases hm : m = 0
    ·rw [if_pos hm, if_pos hm, if_neg (by omega)]
    ·rw [if_neg hm, if_neg hm]
     by_cases hm1 : m % 2 = 1
     ·rw [if_pos hm1, if_pos hm1, TH.get_set f l (n / 2) (m / 2) o (by omega)]
      by_cases e : m = n
      ·rw [if_pos (by omega), if_pos e]
      ·rw [if_neg (by omega), if_neg e]
     ·rw [if_neg hm1, if_neg hm1, if_neg (by rintro rfl; exact hm1 h1)]
   ·rename_i h1
    simp only [TH.get]
    by_cases hm : m = 0
    ·rw [if_pos hm, if_pos hm, if_neg (by omega)]
    ·rw [if_neg hm, if_neg hm]
     by_cases hm1 : m % 2 = 1
     ·rw [if_pos hm1, if_pos hm1, if_neg (by rintro rfl; exact h1 hm1)]
     ·rw [if_neg hm1, if_neg hm1, TH.get_set f r (n / 2 - 1) (m / 2 - 1) o (by omega)]
      by_cases e : m = n
      ·rw [if_pos (by omega), if_pos e]
      ·rw [if_neg (by omega), if_neg e]

structure S where
 t : TH
 nxt : Nat

def S.heap (s : S) : Heap := ⟨s.t.get, s.nxt⟩
def S.upd (s : S) (l : Nat) (o : Option AObj) : Option S := if l < 1099511627776 then some ⟨TH.set 41 s.t l o, s.nxt⟩ else none
def S.wr (s : S) : Option (Nat × Option AObj) → Option S
 | some (l, o) => s.upd l o
 | none => some s
def S.nw (s : S) (nm : Nat) : Option AObj → Option S
 | some o => s.upd nm (some o)
 | none => some s
def S.app (s : S) (nm : Nat) (e : Eff) : Option S := (s.wr e.wr).bind fun s => s.nw nm e.new

abbrev CF := FuncId → Array Value → S → Option (Value × S)

def evL (E : Env) (cf : CF) (ops : Array Oper) (base : Nat) : List Nat → Act → S → Option (Act × S)
 | [], a, s => some (a, s)
 | i :: L, a, s =>
  match ops[i]? with
  | none => evL E cf ops base L a s
  | some o =>
   if Region.wanted o (yielded ops a.tmps) then
    match aop E (aeval a) o with
    | some (.prim p) => match p.run s.heap (base + i) with
     | some eff => if wrOk p eff then match s.app (base + i) eff with
       | some s => evL E cf ops base L (a.put o.dst eff.val) s
       | none => none
      else none
     | none => none
    | some (.call f args) => match cf f args s with
     | some (v, s) => evL E cf ops base L (a.put o.dst v) s
     | none => none
    | some (.defer f cap args) => evL E cf ops base L (Act.put { a with defers := ⟨.fn (.func f) cap, args⟩ :: a.defers } o.dst undef) s
    | none => none
   else evL E cf ops base L (a.put o.dst undef) s

def eqVL (f : Value → Value → Bool) : List Value → List Value → Bool
 | [], [] => true
 | x :: xs, y :: ys => f x y && eqVL f xs ys
 | _, _ => false

def eqV : Nat → Value → Value → Bool
 | _, .bool a, .bool b => a == b
 | _, .int k a, .int k' b => k == k' && a == b
 | _, .string a, .string b => a.data.toList == b.data.toList
 | _, .pointer a, .pointer b => a == b
 | _, .slice a n c, .slice b m d => a == b && n == m && c == d
 | _, .map a, .map b => a == b
 | _, .nilFunc, .nilFunc => true
 | _, .nilIface, .nilIface => true
 | n + 1, .agg a, .agg b => eqVL (eqV n) a.toList b.toList
 | n + 1, .tuple a, .tuple b => eqVL (eqV n) a.toList b.toList
 | n + 1, .func f a b, .func g c d => f == g && eqVL (eqV n) a.toList c.toList && eqVL (eqV n) b.toList d.toList
 | _, _, _ => false

def eqEs : List MapEntry → List MapEntry → Bool
 | [], [] => true
 | x :: xs, y :: ys => eqV 20 x.key y.key && eqV 20 x.val y.val && x.born == y.born && eqEs xs ys
 | _, _ => false

def eqO : Option AObj → Option AObj → Bool
 | none, none => true
 | some (.cells c sz ro), some (.cells c' sz' ro') => sz == sz' && ro == ro' && eqVL (eqV 20) c c'
 | some (.map es k), some (.map es' k') => k == k' && eqEs es es'
 | _, _ => false

def clashFreeB (dep : Dep) (D : List Rec) (i : Nat) (tch wrt : List Nat) : Bool := D.all fun d => (d.wrt.isEmpty && wrt.isEmpty) || dep i d.i || (disj d.wrt tch && disj wrt d.tch)
def callFreeB (dep : Dep) (D : List Rec) (i : Nat) : Bool := D.all fun d => d.alloc || d.wrt.isEmpty || dep i d.i
def keptB (dep : Dep) (D : List Rec) (i : Nat) (s s' : S) : Bool := D.all fun d => d.alloc || d.tch.isEmpty || dep i d.i || d.tch.all fun l => eqO (s'.t.get l) (s.t.get l)

def evD (E : Env) (cf : CF) (ops : Array Oper) (base : Nat) (dep : Dep) : List Nat → List Rec → Act → S → Option (Act × S)
 | [], _, a, s => some (a, s)
 | i :: L, D, a, s =>
  match ops[i]? with
  | none => none
  | some o =>
   if Region.wanted o (yielded ops a.tmps) then
    match aop E (evOf ops a o) o with
    | some (.prim p) => match p.run s.heap (base + i) with
     | some eff => if wrOk p eff && (kindOf o == 2 || clashFreeB dep D i (tchOf p eff (base + i)) (wrtOf eff (base + i))) then match s.app (base + i) eff with
       | some s => evD E cf ops base dep L (⟨i, tchOf p eff (base + i), wrtOf eff (base + i), kindOf o == 2⟩ :: D) (a.put o.dst eff.val) s
       | none => none
      else none
     | none => none
    | some (.call f args) => if callFreeB dep D i then match cf f args s with
     | some (v, s') => if keptB dep D i s s' then evD E cf ops base dep L D (a.put o.dst v) s' else none
     | none => none
     else none
    | _ => none
   else evD E cf ops base dep L D (a.put o.dst undef) s

abbrev Rc := FuncId → Code → Act → S → Option (Exit × Act × S)

def evRun (E : Env) (rc : Rc) (f : FuncId) (args : Array Value) (s : S) : Option (Func × Act × S) :=
 match E.P.funcs[f]? with
 | some fn => match fn.body with
  | some c => match rc f c (aEntry fn args) s with
   | some (.normal, a, s) => some (fn, a, s)
   | some (.ret, a, s) => some (fn, a, s)
   | _ => none
  | none => none
 | none => none

def evLeaves (E : Env) (rc : Rc) (fn : Func) (a : Act) : List Deferred → S → Option (Value × S)
 | [], s => (aRes E.P fn a s.heap).map fun v => (v, s)
 | d :: ds, s =>
  match d.target with
  | .fn (.func f) cap => if E.B f then match evRun E rc f (d.args ++ cap) s with
   | some (fn', a', s') => if a'.defers.isEmpty && (aRes E.P fn' a' s'.heap).isSome then evLeaves E rc fn a ds s' else none
   | none => none
   else none
  | _ => none

def evFunc (E : Env) (I : CF) (rc : Rc) : CF := fun f args s =>
 match I f args s with
 | some r => some r
 | none => match evRun E rc f args s with
  | some (fn, a, s) => evLeaves E rc fn a a.defers s
  | none => none

abbrev Tab := FuncId → Nat → List Nat × List (List Nat)
def depOf (t : List (List Nat)) : Dep := fun i j => (t.getD i []).contains j

def evStep (E : Env) (T : Tab) (I : CF) (rc : Rc) : Rc := fun f c a s =>
 match c with
 | .skip => some (.normal, a, s)
 | .label _ => some (.normal, a, s)
 | .exit id => some (.exit id, a, s)
 | .ret => some (.ret, a, s)
 | .seq x y => match rc f x a s with
  | some (.normal, a, s) => rc f y a s
  | r => r
 | .cond c x y => match aeval a c with
  | some (.bool b) => rc f (if b then x else y) a s
  | _ => none
 | .block id c => match rc f c a s with
  | some (.exit id', a, s) => if id' = id then some (.normal, a, s) else some (.exit id', a, s)
  | r => r
 | .loop c => match rc f c a s with
  | some (.normal, a, s) => rc f (.loop c) a s
  | r => r
 | .region id ops draw =>
  if draw then
   match evD E (evFunc E I rc) ops s.nxt (depOf (T f id).2) (T f id).1 [] a ⟨s.t, s.nxt + ops.size⟩ with
   | some (a, s) => some (.normal, a, s)
   | none => none
  else match evL E (evFunc E I rc) ops s.nxt (List.range ops.size) a ⟨s.t, s.nxt + ops.size⟩ with
   | some (a, s) => some (.normal, a, s)
   | none => none
 | _ => none

def evC (E : Env) (T : Tab) (I : CF) (n : Nat) : Rc := Nat.rec (fun _ _ _ _ => none) (fun _ ih => evStep E T I ih) n

end Go.Proofs.YtehmailaabjdjaaGreat
