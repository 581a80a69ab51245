/-
  REGIONS THAT DRAW THEIR ORDER, WITH UNKNOWN VALUES, in a form that simp walks. No condition.
-/
import Derived.Test.YtehmailaabjdjaaGreatRunO
namespace Go.Proofs.YtehmailaabjdjaaGreat
set_option linter.unusedSimpArgs false
set_option linter.unusedVariables false

theorem evParts_congr {ev ev' : Ev} : ∀ (ps : List (Nat × Operand)), (∀ i x, (i, x) ∈ ps → ev x = ev' x) → evParts ev ps = evParts ev' ps
 | [], _ => rfl
 | (i, x) :: r, h => by
  simp only [evParts]
  rw [h i x (List.mem_cons_self ..), evParts_congr r fun i y hy => h i y (List.mem_cons_of_mem _ hy)]

theorem evList_congr {ev ev' : Ev} : ∀ (xs : List Operand), (∀ x, x ∈ xs → ev x = ev' x) → evList ev xs = evList ev' xs
 | [], _ => rfl
 | x :: r, h => by
  simp only [evList]
  rw [h x (List.mem_cons_self ..), evList_congr r fun y hy => h y (List.mem_cons_of_mem _ hy)]

theorem parts_mem {ps : Array (Nat × Operand)} {ev ev' : Ev} (h : ∀ x ∈ (ps.toList.map (·.2)).toArray, ev x = ev' x) : ∀ i x, (i, x) ∈ ps.toList → ev x = ev' x :=
 fun i x hx => h x (by simp only [List.mem_toArray, List.mem_map]; exact ⟨(i, x), hx, rfl⟩)

theorem aop_congr {E : Env} {ev ev' : Ev} {o : Oper} (h : ∀ x ∈ o.op.operands, ev x = ev' x) : aop E ev o = aop E ev' o := by
 obtain ⟨dst, op, ty, pos, af, g⟩ := o
 have call : ∀ c : Call, (∀ x ∈ c.operands, ev x = ev' x) → aCall E ev c ty = aCall E ev' c ty ∧ aDefer E ev c = aDefer E ev' c := by
  intro c hc
  obtain ⟨callee, args, ts⟩ := c
  have ha : evList ev args.toList = evList ev' args.toList := evList_congr _ fun x hx => hc x (by
   cases callee <;> simp only [Call.operands, Array.mem_append] <;> exact .inr (by simpa using hx))
  constructor
  ·cases callee with
   | value f => simp only [aCall, ha]; rw [hc f (by simp [Call.operands])]
   | invoke r m => simp only [aCall, ha]
   | builtin b => simp only [aCall, ha]
  ·cases callee with
   | value f => simp only [aDefer, ha]; rw [hc f (by simp [Call.operands])]
   | invoke r m => simp only [aDefer, ha]
   | builtin b => simp only [aDefer, ha]
 cases op
 case move x => simp only [aop]; rw [h x (by simp [Op.operands])]
 case assign x => simp only [aop]; rw [h x (by simp [Op.operands])]
 case pick c x y => simp only [aop]; rw [h c (by simp [Op.operands]), h x (by simp [Op.operands]), h y (by simp [Op.operands])]
 case box t x => simp only [aop]; rw [h x (by simp [Op.operands])]
 case build t ps => simp only [aop, aBuild]; rw [evParts_congr ps.toList (parts_mem h)]
 case buildSlice t n ps => simp only [aop, aBuildSlice]; rw [evParts_congr ps.toList (parts_mem h)]
 case load t x => simp only [aop, aLoad]; rw [h x (by simp [Op.operands])]
 case store t x y => simp only [aop, aStore]; rw [h x (by simp [Op.operands]), h y (by simp [Op.operands])]
 case nilCheck x => simp only [aop, aNil]; rw [h x (by simp [Op.operands])]
 case binOp op t x y yt => simp only [aop, aBin]; rw [h x (by simp [Op.operands]), h y (by simp [Op.operands])]
 case unOp op t x => simp only [aop, plainEv]; rw [h x (by simp [Op.operands])]
 case convert s d x => simp only [aop, aConvert]; rw [h x (by simp [Op.operands])]
 case makeFunc fn fs cs =>
  simp only [aop, aMakeFunc]
  rw [evList_congr fs.toList fun x hx => h x (by simp only [Op.operands, Array.mem_append]; exact .inl (by simpa using hx)), evList_congr cs.toList fun x hx => h x (by simp only [Op.operands, Array.mem_append]; exact .inr (by simpa using hx))]
 case makeMap t r =>
  cases r with
  | none => rfl
  | some r => simp only [aop, aMakeMap]; rw [h r (by simp [Op.operands])]
 case makeSlice t x y => simp only [aop, aMakeSlice]; rw [h x (by simp [Op.operands]), h y (by simp [Op.operands])]
 case slice t x lo hi mx =>
  have hx := h x (by simp [Op.operands])
  have h1 : ∀ y, lo = some y → ev y = ev' y := fun y hy => h y (by simp [Op.operands, hy])
  have h2 : ∀ y, hi = some y → ev y = ev' y := fun y hy => h y (by simp [Op.operands, hy])
  have h3 : ∀ y, mx = some y → ev y = ev' y := fun y hy => h y (by simp [Op.operands, hy])
  rcases lo with _ | a <;> rcases hi with _ | b <;> rcases mx with _ | m <;> simp only [aop, aSlice, plainEv, boundO, hx] <;> (try rw [h1 a rfl]) <;> (try rw [h2 b rfl]) <;> (try rw [h3 m rfl])
 case fieldAddr s x f => simp only [aop, aFieldAddr]; rw [h x (by simp [Op.operands])]
 case field s x f => simp only [aop, aField]; rw [h x (by simp [Op.operands])]
 case indexAddr t x i => simp only [aop, aIndexAddr]; rw [h x (by simp [Op.operands]), h i (by simp [Op.operands])]
 case index t x i => simp only [aop, aIndex, plainEv]; rw [h x (by simp [Op.operands]), h i (by simp [Op.operands])]
 case lookup t x i ok => simp only [aop, aLookup, plainEv]; rw [h x (by simp [Op.operands]), h i (by simp [Op.operands])]
 case mapUpdate t m k x => simp only [aop, aMapUpdate, plainEv]; rw [h m (by simp [Op.operands]), h k (by simp [Op.operands]), h x (by simp [Op.operands])]
 case extract x i => simp only [aop, aExtract]; rw [h x (by simp [Op.operands])]
 case call c => simp only [aop]; exact (call c (fun x hx => h x hx)).1
 case defer c => simp only [aop]; exact (call c (fun x hx => h x hx)).2
 all_goals rfl

theorem aop_evOf {E : Env} {ops : Array Oper} {a : Act} {o : Oper} : aop E (evOf ops a o) o = aop E (aeval a) o := by
 refine aop_congr fun x hx => ?_
 cases x with
 | tmp t =>
  simp only [evOf]
  rw [if_pos]
  simp only [Oper.looksAt, List.contains_eq_mem, List.mem_append, decide_eq_true_eq]
  left
  exact List.mem_filterMap.2 ⟨.tmp t, by simpa using hx, rfl⟩
 | const c => rfl
 | global g => rfl
 | func f => rfl

def touches (o : Oper) : Bool :=
 match o.op with
 | .move _ => false
 | .assign _ => false
 | .pick _ _ _ => false
 | .nilCheck _ => false
 | .binOp _ _ _ _ _ => false
 | .unOp _ _ _ => false
 | .fieldAddr _ _ _ => false
 | .field _ _ _ => false
 | .indexAddr _ _ _ => false
 | .extract _ _ => false
 | .build _ _ => false
 | .makeFunc _ _ _ => false
 | .call c => match c.callee with
  | .builtin .min => false
  | .builtin .max => false
  | _ => true
 | _ => true

def memN (x : Nat) : List Nat → Bool
 | [] => false
 | y :: r => if x = y then true else memN x r

def ne1 (x : Nat) : List Nat → Prop
 | [] => True
 | y :: r => x ≠ y ∧ ne1 x r
def neAll : List Nat → List Nat → Prop
 | [], _ => True
 | x :: a, b => ne1 x b ∧ neAll a b

theorem ne1_spec {x : Nat} : ∀ {l : List Nat}, ne1 x l → x ∉ l
 | [], _ => by simp
 | y :: r, h => by simp only [List.mem_cons, not_or]; exact ⟨h.1, ne1_spec h.2⟩
theorem neAll_spec : ∀ {a b : List Nat}, neAll a b → disj a b = true
 | [], _, _ => rfl
 | x :: a, b, h => disj_of fun y hy => by
  rcases List.mem_cons.1 hy with rfl | hy
  ·exact ne1_spec h.1
  ·exact disj_spec (neAll_spec h.2) hy

def cases2 (b : Bool) (x y : Prop) : Prop := match b with | true => x | false => y

def clashS (lo tch wrt : List Nat) : List Rec → Prop
 | [] => True
 | d :: D => cases2 (memN d.i lo) (neAll d.wrt tch ∧ neAll wrt d.tch) True ∧ clashS lo tch wrt D
def callS (lo : List Nat) : List Rec → Prop
 | [] => True
 | d :: D => cases2 (memN d.i lo) (d.alloc = true ∨ d.wrt = []) True ∧ callS lo D
def sameAt (σ σ' : Heap) : List Nat → Prop
 | [] => True
 | l :: r => σ'.get l = σ.get l ∧ sameAt σ σ' r
def keptS (lo : List Nat) (σ σ' : Heap) : List Rec → Prop
 | [] => True
 | d :: D => cases2 (memN d.i lo) (cases2 d.alloc True (sameAt σ σ' d.tch)) True ∧ keptS lo σ σ' D

theorem sameAt_spec {σ σ' : Heap} : ∀ {r : List Nat}, sameAt σ σ' r → ∀ l ∈ r, σ'.get l = σ.get l
 | [], _, l, hl => by cases hl
 | x :: r, h, l, hl => by
  rcases List.mem_cons.1 hl with rfl | hl
  ·exact h.1
  ·exact sameAt_spec h.2 l hl

def touchK (o : Oper) (i : Nat) (lo : List Nat) (D : List Rec) (tch wrt : List Nat) (k : List Rec → Prop) : Prop :=
 match touches o with
 | false => cbind (tch = [] ∧ wrt = []) (k D)
 | true => cbind (if kindOf o = 2 then True else clashS lo tch wrt D) (k (⟨i, tch, wrt, kindOf o == 2⟩ :: D))

def touchesAt (ops : Array Oper) (j : Nat) : Bool := match ops[j]? with | some o => touches o | none => false

def planOkB (ops : Array Oper) (dep : Dep) : List Nat → List (Nat × List Nat) → Bool
 | _, [] => true
 | pre, (i, lo) :: r => (pre.all fun j => !touchesAt ops j || dep i j || memN j lo) && planOkB ops dep (i :: pre) r

def Slim (ops : Array Oper) (pre : List Nat) (D D' : List Rec) : Prop :=
 ∀ d ∈ D', (d.tch = [] ∧ d.wrt = []) ∨ (d ∈ D ∧ d.i ∈ pre ∧ touchesAt ops d.i = true)

theorem clash_of {ops : Array Oper} {dep : Dep} {pre lo tch wrt : List Nat} {i : Nat} {D D' : List Rec} (hS : Slim ops pre D D') (hp : ∀ j ∈ pre, touchesAt ops j = true → dep i j = true ∨ memN j lo = true) (h : clashS lo tch wrt D) :
  clashFree dep D' i tch wrt := by
 have key : ∀ {D : List Rec}, clashS lo tch wrt D → ∀ d ∈ D, memN d.i lo = true → disj d.wrt tch = true ∧ disj wrt d.tch = true := by
  intro D
  induction D with
  | nil => intro _ d hd; cases hd
  | cons x D ih =>
   intro h d hd hm
   rcases List.mem_cons.1 hd with rfl | hd
   ·have := h.1
    rw [hm] at this
    exact ⟨neAll_spec this.1, neAll_spec this.2⟩
   ·exact ih h.2 d hd hm
 intro d hd
 rcases hS d hd with ⟨h1, h2⟩ | ⟨h1, h2, h3⟩
 ·right
  rw [h1, h2]
  exact ⟨rfl, disj_of fun x _ => by simp⟩
 ·rcases hp d.i h2 h3 with h4 | h4
  ·exact .inl h4
  ·exact .inr (key h d h1 h4)

theorem call_of {ops : Array Oper} {dep : Dep} {pre lo : List Nat} {i : Nat} {D D' : List Rec} (hS : Slim ops pre D D') (hp : ∀ j ∈ pre, touchesAt ops j = true → dep i j = true ∨ memN j lo = true) (h : callS lo D) : callFree dep D' i := by
 have key : ∀ {D : List Rec}, callS lo D → ∀ d ∈ D, memN d.i lo = true → d.alloc = true ∨ d.wrt = [] := by
  intro D
  induction D with
  | nil => intro _ d hd; cases hd
  | cons x D ih =>
   intro h d hd hm
   rcases List.mem_cons.1 hd with rfl | hd
   ·have := h.1
    rw [hm] at this
    exact this
   ·exact ih h.2 d hd hm
 intro d hd
 rcases hS d hd with ⟨h1, h2⟩ | ⟨h1, h2, h3⟩
 ·exact .inr (.inr h2)
 ·rcases hp d.i h2 h3 with h4 | h4
  ·exact .inl h4
  ·exact .inr (key h d h1 h4)

theorem kept_of {ops : Array Oper} {dep : Dep} {pre lo : List Nat} {i : Nat} {D D' : List Rec} {σ σ' : Heap} (hS : Slim ops pre D D') (hp : ∀ j ∈ pre, touchesAt ops j = true → dep i j = true ∨ memN j lo = true) (h : keptS lo σ σ' D) :
  kept dep D' i σ σ' := by
 have key : ∀ {D : List Rec}, keptS lo σ σ' D → ∀ d ∈ D, memN d.i lo = true → d.alloc = true ∨ ∀ l ∈ d.tch, σ'.get l = σ.get l := by
  intro D
  induction D with
  | nil => intro _ d hd; cases hd
  | cons x D ih =>
   intro h d hd hm
   rcases List.mem_cons.1 hd with rfl | hd
   ·have := h.1
    rw [hm] at this
    simp only [cases2] at this
    split at this
    ·rename_i h; exact .inl h
    ·exact .inr (sameAt_spec this)
   ·exact ih h.2 d hd hm
 intro d hd
 rcases hS d hd with ⟨h1, h2⟩ | ⟨h1, h2, h3⟩
 ·right; right
  intro l hl
  rw [h1] at hl; cases hl
 ·rcases hp d.i h2 h3 with h4 | h4
  ·exact .inl h4
  ·exact .inr (key h d h1 h4)

theorem Slim.grow {ops : Array Oper} {pre : List Nat} {D D' : List Rec} {i : Nat} (h : Slim ops pre D D') : Slim ops (i :: pre) D D' :=
 fun d hd => (h d hd).imp id fun ⟨a, b, c⟩ => ⟨a, List.mem_cons_of_mem _ b, c⟩

theorem touch_ok {o : Oper} {ops : Array Oper} {i : Nat} {lo pre tch wrt : List Nat} {dep : Dep} {D D' : List Rec} {k : List Rec → Prop} (ho : ops[i]? = some o) (hS : Slim ops pre D D')
  (hp : ∀ j ∈ pre, touchesAt ops j = true → dep i j = true ∨ memN j lo = true) (h : touchK o i lo D tch wrt k) :
  (kindOf o = 2 ∨ clashFree dep D' i tch wrt) ∧ ∃ D₁, k D₁ ∧ Slim ops (i :: pre) D₁ (⟨i, tch, wrt, kindOf o == 2⟩ :: D') := by
 unfold touchK at h
 split at h
 ·obtain ⟨⟨h1, h2⟩, h3⟩ := h
  refine ⟨.inr ?_, D, h3, ?_⟩
  ·intro d _
   right
   rw [h1, h2]
   exact ⟨disj_of fun x _ => by simp, rfl⟩
  ·intro d hd
   rcases List.mem_cons.1 hd with rfl | hd
   ·exact .inl ⟨h1, h2⟩
   ·exact hS.grow d hd
 ·rename_i ht
  obtain ⟨h1, h2⟩ := h
  refine ⟨?_, _, h2, ?_⟩
  ·by_cases hk : kindOf o = 2
   ·exact .inl hk
   ·rw [if_neg hk] at h1
    exact .inr (clash_of hS hp h1)
  ·intro d hd
   rcases List.mem_cons.1 hd with rfl | hd
   ·refine .inr ⟨List.mem_cons_self .., List.mem_cons_self .., ?_⟩
    simp only [touchesAt, ho]; exact ht
   ·rcases hS.grow (i := i) d hd with h | ⟨a, b, c⟩
    ·exact .inl h
    ·exact .inr ⟨List.mem_cons_of_mem _ a, b, c⟩

def drawPlanB (ops : Array Oper) (t : List Nat × List (List Nat)) (pl : List (Nat × List Nat)) : Bool :=
 drawOkB ops t && planOkB ops (depOf t.2) [] pl && (pl.map (·.1) == t.1)

end Go.Proofs.YtehmailaabjdjaaGreat
