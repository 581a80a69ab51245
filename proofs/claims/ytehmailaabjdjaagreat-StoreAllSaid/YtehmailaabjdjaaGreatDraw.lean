/-
  REGIONS THAT DRAW THEIR ORDER, SAID OF ABSTRACT HEAPS: one order stands for all. No condition.
-/
import Derived.Test.YtehmailaabjdjaaGreatRegion
namespace Go.Proofs.YtehmailaabjdjaaGreat
set_option linter.unusedSimpArgs false
set_option linter.unusedVariables false

structure Rec where
 i : Nat
 tch : List Nat
 wrt : List Nat
 alloc : Bool

def newOf (eff : Eff) (nm : Nat) : List Nat := if eff.new.isSome then [nm] else []
def wrOf (eff : Eff) : List Nat := match eff.wr with | some (l, _) => [l] | none => []
def tchOf (p : Prim) (eff : Eff) (nm : Nat) : List Nat := p.reads ++ newOf eff nm
def wrtOf (eff : Eff) (nm : Nat) : List Nat := wrOf eff ++ newOf eff nm

def kindOf (o : Oper) : Nat :=
 match o.op with
 | .call c => match c.callee with | .builtin _ => 0 | _ => 1
 | .alloc _ => 2
 | .box _ _ => 2
 | .buildSlice _ _ _ => 2
 | .makeMap _ _ => 2
 | .defer _ => 3
 | .convert s t _ => if s == 9 && t == 26 then 2 else 0
 | _ => 0

def disj (a b : List Nat) : Bool := a.all fun x => !b.contains x

def evOf (ops : Array Oper) (a : Act) (o : Oper) : Ev := fun x =>
 match x with
 | .tmp t => if (o.looksAt ops).contains t then aeval a (.tmp t) else none
 | x => aeval a x

abbrev Dep := Nat → Nat → Bool

def clashFree (dep : Dep) (D : List Rec) (i : Nat) (tch wrt : List Nat) : Prop := ∀ d ∈ D, dep i d.i = true ∨ (disj d.wrt tch = true ∧ disj wrt d.tch = true)
def callFree (dep : Dep) (D : List Rec) (i : Nat) : Prop := ∀ d ∈ D, dep i d.i = true ∨ d.alloc = true ∨ d.wrt = []
def kept (dep : Dep) (D : List Rec) (i : Nat) (σ σ' : Heap) : Prop := ∀ d ∈ D, dep i d.i = true ∨ d.alloc = true ∨ ∀ l ∈ d.tch, σ'.get l = σ.get l

def runD (E : Env) (ops : Array Oper) (base : Nat) (dep : Dep) : List Nat → List Rec → Act → Heap → (Act → Heap → Prop) → Prop
 | [], _, a, σ, K => K a σ
 | i :: L, D, a, σ, K =>
  match ops[i]? with
  | none => False
  | some o =>
   if Region.wanted o (yielded ops a.tmps) then
    match aop E (evOf ops a o) o with
    | some (.prim p) => match p.run σ (base + i) with
     | some eff => wrOk p eff = true ∧ (kindOf o = 2 ∨ clashFree dep D i (tchOf p eff (base + i)) (wrtOf eff (base + i))) ∧
       runD E ops base dep L (⟨i, tchOf p eff (base + i), wrtOf eff (base + i), kindOf o == 2⟩ :: D) (a.put o.dst eff.val) (σ.app (base + i) eff) K
     | none => False
    | some (.call f args) => callFree dep D i ∧ ACall E.P f args σ fun v σ' => kept dep D i σ σ' ∧ runD E ops base dep L D (a.put o.dst v) σ' K
    | _ => False
   else runD E ops base dep L D (a.put o.dst undef) σ K

section
variable {E : Env} {ops : Array Oper} {base : Nat} {dep : Dep} {K : Act → Heap → Prop}

theorem runD_mem : ∀ (L : List Nat) (D D' : List Rec) (a : Act) (σ : Heap), (∀ d ∈ D', d ∈ D) → runD E ops base dep L D a σ K → runD E ops base dep L D' a σ K
 | [], _, _, _, _, _, h => h
 | i :: L, D, D', a, σ, hm, h => by
  simp only [runD] at h ⊢
  split at h
  ·exact h.elim
  ·split at h
   ·rename_i hw
    rw [if_pos hw]
    split at h
    ·split at h
     ·obtain ⟨h1, h2, h3⟩ := h
      refine ⟨h1, h2.imp id fun h2 d hd => h2 d (hm d hd), runD_mem L _ _ _ _ (fun d hd => ?_) h3⟩
      rcases List.mem_cons.1 hd with rfl | hd
      ·exact List.mem_cons_self ..
      ·exact List.mem_cons_of_mem _ (hm d hd)
     ·exact h.elim
    ·obtain ⟨h1, h2⟩ := h
     exact ⟨fun d hd => h1 d (hm d hd), h2.mono fun v σ' ⟨k1, k2⟩ => ⟨fun d hd => k1 d (hm d hd), runD_mem L _ _ _ _ hm k2⟩⟩
    ·exact h.elim
   ·rename_i hw
    rw [if_neg hw]
    exact runD_mem L _ _ _ _ hm h

theorem evOf_put {a : Act} {o : Oper} {dst : Option Tmp} {v : Value} (h : ∀ d, dst = some d → d ∉ o.looksAt ops) : evOf ops (a.put dst v) o = evOf ops a o := by
 funext x
 cases x with
 | tmp t =>
  simp only [evOf]
  split
  ·rename_i ht
   cases dst with
   | none => rfl
   | some d =>
    have hne : t ≠ d := by rintro rfl; exact h t rfl (by simpa using ht)
    simp only [aeval, Act.put, Array.getD_eq_getD_getElem?, Array.getElem?_setIfInBounds]
    rw [if_neg (fun e => hne e.symm)]
  ·rfl
 | const c => rfl
 | global g => rfl
 | func f => rfl

theorem evOf_rel {ρ : LMap} {a ac : Act} (h : ARel ρ a ac) (o : Oper) : EvRel ρ (evOf ops a o) ac.eval := by
 intro x v hx
 cases x with
 | tmp t =>
  simp only [evOf] at hx
  split at hx
  ·exact h.ev _ _ hx
  ·cases hx
 | const c => exact h.ev _ _ hx
 | global g => exact h.ev _ _ hx
 | func f => exact h.ev _ _ hx

theorem disj_spec {a b : List Nat} (h : disj a b = true) {x : Nat} (hx : x ∈ a) : x ∉ b := by
 simp only [disj, List.all_eq_true] at h
 have := h x hx
 simpa using this
theorem disj_of {a b : List Nat} (h : ∀ x ∈ a, x ∉ b) : disj a b = true := by
 simp only [disj, List.all_eq_true]
 intro x hx
 simpa using h x hx

theorem getAll_congr {g g' : Nat → Option AObj} : ∀ (rs : List Nat), (∀ l ∈ rs, g' l = g l) → getAll g' rs = getAll g rs
 | [], _ => rfl
 | l :: rs, h => by
  simp only [getAll]
  rw [h l (List.mem_cons_self ..), getAll_congr rs fun x hx => h x (List.mem_cons_of_mem _ hx)]

theorem run_congr {p : Prim} {σ σ' : Heap} {nm : Nat} (h : ∀ l ∈ p.reads, σ'.get l = σ.get l) : p.run σ' nm = p.run σ nm := by
 unfold Prim.run
 rw [getAll_congr p.reads h]

theorem getAll_some {g : Nat → Option AObj} : ∀ {rs : List Nat} {objs : List AObj}, getAll g rs = some objs → ∀ l ∈ rs, g l ≠ none
 | [], _, _, l, hl => by cases hl
 | x :: rs, objs, h, l, hl => by
  simp only [getAll] at h
  cases hx : g x with
  | none => rw [hx] at h; cases h
  | some o =>
   rw [hx] at h
   obtain ⟨r, hr, _⟩ := Option.map_eq_some_iff.1 h
   rcases List.mem_cons.1 hl with rfl | hl
   ·rw [hx]; simp
   ·exact getAll_some hr l hl

theorem run_reads {p : Prim} {σ : Heap} {nm : Nat} {eff : Eff} (h : p.run σ nm = some eff) {l : Nat} (hl : l ∈ p.reads) : σ.get l ≠ none := by
 unfold Prim.run at h
 cases hg : getAll σ.get p.reads with
 | none => rw [hg] at h; cases h
 | some objs => exact getAll_some hg l hl

theorem wr_read {p : Prim} {eff : Eff} (h : wrOk p eff = true) {l : Nat} (hl : l ∈ wrOf eff) : l ∈ p.reads := by
 unfold wrOk at h
 unfold wrOf at hl
 cases he : eff.wr with
 | none => rw [he] at hl; cases hl
 | some q =>
  obtain ⟨x, o⟩ := q
  rw [he] at h hl
  simp only [List.mem_singleton] at hl
  subst hl
  simpa using h

theorem new_eq {eff : Eff} {nm l : Nat} (h : l ∈ newOf eff nm) : l = nm := by
 unfold newOf at h
 split at h
 ·simpa using h
 ·cases h

theorem wrt_tch {p : Prim} {eff : Eff} {nm : Nat} (h : wrOk p eff = true) {l : Nat} (hl : l ∈ wrtOf eff nm) : l ∈ tchOf p eff nm := by
 rcases List.mem_append.1 hl with h1 | h1
 ·exact List.mem_append_left _ (wr_read h h1)
 ·exact List.mem_append_right _ h1

theorem app_same {eff : Eff} {σ : Heap} {nm l : Nat} (h : l ∉ wrtOf eff nm) : (σ.app nm eff).get l = σ.get l := by
 have h1 : l ∉ wrOf eff := fun k => h (List.mem_append_left _ k)
 have h2 : l ∉ newOf eff nm := fun k => h (List.mem_append_right _ k)
 have e1 : (σ.wr eff.wr).get l = σ.get l := by
  cases he : eff.wr with
  | none => rfl
  | some q =>
   obtain ⟨x, o⟩ := q
   simp only [Heap.wr]
   exact Heap.upd_ne _ _ (by rintro rfl; exact h1 (by simp [wrOf, he]))
 unfold Heap.app
 cases he : eff.new with
 | none => exact e1
 | some o => simp only [Heap.nw]; rw [Heap.upd_ne _ _ (by rintro rfl; exact h2 (by simp [newOf, he]))]; exact e1

theorem Heap.ext' {σ σ' : Heap} (h1 : ∀ l, σ.get l = σ'.get l) (h2 : σ.nxt = σ'.nxt) : σ = σ' := by
 obtain ⟨g, n⟩ := σ
 obtain ⟨g', n'⟩ := σ'
 simp only at h1 h2
 subst h2
 rw [show g = g' from funext h1]

theorem app_at {eff : Eff} {σ σ' : Heap} {nm l : Nat} (h : l ∈ wrtOf eff nm) : (σ.app nm eff).get l = (σ'.app nm eff).get l := by
 by_cases h2 : l ∈ newOf eff nm
 ·have e := new_eq h2
  subst e
  unfold newOf at h2
  split at h2
  ·rename_i hs
   obtain ⟨o, ho⟩ := Option.isSome_iff_exists.1 hs
   simp only [Heap.app, ho, Heap.nw, Heap.upd_same]
  ·cases h2
 ·have h1 : l ∈ wrOf eff := (List.mem_append.1 h).resolve_right h2
  unfold wrOf at h1
  split at h1
  ·rename_i x o hw
   simp only [List.mem_singleton] at h1
   subst h1
   have e1 : ∀ τ : Heap, (τ.wr eff.wr).get l = o := by intro τ; rw [hw]; simp [Heap.wr]
   unfold Heap.app
   cases he : eff.new with
   | none => simp only [Heap.nw]; rw [e1, e1]
   | some o' =>
    have hne : l ≠ nm := by rintro rfl; exact h2 (by simp [newOf, he])
    simp only [Heap.nw]
    rw [Heap.upd_ne _ _ hne, Heap.upd_ne _ _ hne, e1, e1]
  ·cases h1

theorem app_comm {ex ei : Eff} {σ : Heap} {nx ni : Nat} (h : ∀ l, l ∈ wrtOf ex nx → l ∉ wrtOf ei ni) : (σ.app nx ex).app ni ei = (σ.app ni ei).app nx ex := by
 apply Heap.ext'
 ·intro l
  by_cases h1 : l ∈ wrtOf ex nx
  ·rw [app_same (h l h1)]
   exact app_at h1
  ·rw [app_same h1]
   by_cases h2 : l ∈ wrtOf ei ni
   ·exact app_at h2
   ·rw [app_same h2, app_same h2, app_same h1]
 ·simp [app_nxt]

theorem app_nil {eff : Eff} {σ : Heap} {nm : Nat} (h : wrtOf eff nm = []) : σ.app nm eff = σ := by
 apply Heap.ext'
 ·intro l; exact app_same (by rw [h]; simp)
 ·exact app_nxt _ _ _

theorem kind2_prim (hE : EnvOk E) {o : Oper} {ev : Ev} {x : AOp} (hk : kindOf o = 2) (h : aop E ev o = some x) : ∃ p, x = .prim p ∧ p.reads = [] ∧ (∀ nm eff, p.act nm [] = some eff → eff.wr = none) := by
 obtain ⟨dst, op, ty, pos, after, guard⟩ := o
 cases op <;> simp only [kindOf] at hk <;> first | (cases hk; done) | skip
 case alloc t =>
  obtain ⟨z, hz, rfl⟩ := Option.map_eq_some_iff.1 h
  exact ⟨_, rfl, rfl, fun nm eff he => by simp [Prim.newCells] at he; rw [← he]⟩
 case box t y =>
  obtain ⟨z, hz, rfl⟩ := Option.map_eq_some_iff.1 h
  exact ⟨_, rfl, rfl, fun nm eff he => by simp [Prim.newCells] at he; rw [← he]⟩
 case buildSlice t len parts =>
  obtain ⟨q, hq, rfl⟩ := Option.map_eq_some_iff.1 h
  refine ⟨q, rfl, ?_⟩
  unfold aBuildSlice at hq
  split at hq
  case h_2 => cases hq
  simp only [Option.bind_eq_some_iff] at hq
  obtain ⟨_, _, _, _, _, _, hq⟩ := hq
  split at hq
  case isFalse => cases hq
  obtain ⟨cs, _, rfl⟩ := Option.map_eq_some_iff.1 hq
  exact ⟨rfl, fun nm eff he => by simp only [Prim.newSlice, Option.some.injEq] at he; rw [← he]⟩
 case makeMap t r =>
  obtain ⟨q, hq, rfl⟩ := Option.map_eq_some_iff.1 h
  refine ⟨q, rfl, ?_⟩
  unfold aMakeMap at hq
  split at hq
  ·cases hq; exact ⟨rfl, fun nm eff he => by simp at he; rw [← he]⟩
  ·simp only [Option.bind_eq_some_iff] at hq
   obtain ⟨v, _, hq⟩ := hq
   split at hq
   case h_2 => cases hq
   split at hq
   case h_2 => cases hq
   cases hq
   exact ⟨rfl, fun nm eff he => by simp at he; rw [← he]⟩
 case call c =>
  split at hk <;> cases hk
 case convert s t y =>
  split at hk
  case isFalse => cases hk
  rename_i hst
  simp only [Bool.and_eq_true, beq_iff_eq] at hst
  obtain ⟨rfl, rfl⟩ := hst
  obtain ⟨q, hq, rfl⟩ := Option.map_eq_some_iff.1 h
  refine ⟨q, rfl, ?_⟩
  obtain ⟨c1, c2, c3⟩ := hE.c
  unfold aConvert at hq
  simp only [Option.bind_eq_some_iff, c1, c2] at hq
  obtain ⟨v, _, hq⟩ := hq
  split at hq
  ·rename_i e1 e2 e3
   split at hq
   ·cases hq; exact ⟨rfl, fun nm eff he => by simp only [Prim.newSlice, Option.some.injEq] at he; rw [← he]⟩
   ·cases hq
  all_goals first
   | (rename_i e1 e2; cases e1; done)
   | (rename_i e1 e2 e3; cases e1; done)
   | (rename_i e1 e2; cases e2; done)
   | skip
  split at hq
  ·unfold pureVal at hq
   obtain ⟨r, _, hq⟩ := Option.bind_eq_some_iff.1 hq
   split at hq
   ·cases hq; exact ⟨rfl, fun nm eff he => by simp only [Prim.ofVal, Option.some.injEq] at he; rw [← he]⟩
   ·cases hq
  ·cases hq

theorem kind0_prim {o : Oper} {ev : Ev} {x : AOp} (hk : kindOf o = 0) (h : aop E ev o = some x) : ∃ p, x = .prim p := by
 cases x with
 | prim p => exact ⟨p, rfl⟩
 | call f args =>
  exfalso
  obtain ⟨dst, op, ty, pos, after, guard⟩ := o
  cases op <;> simp only [kindOf] at hk <;> first | (cases hk; done) | skip
  case call c =>
   obtain ⟨callee, xs, ts⟩ := c
   cases callee <;> simp only at hk <;> first | (cases hk; done) | skip
   simp only [aop, aCall, Option.bind_eq_some_iff, Option.map_eq_some_iff] at h
   obtain ⟨_, _, _, _, h⟩ := h
   cases h
  case pick c a b =>
   simp only [aop, Option.bind_eq_some_iff] at h
   obtain ⟨v, _, h⟩ := h
   split at h
   ·obtain ⟨_, _, h⟩ := Option.map_eq_some_iff.1 h; cases h
   ·cases h
  case unOp op t x =>
   simp only [aop, Option.bind_eq_some_iff, Option.map_eq_some_iff] at h
   obtain ⟨_, _, _, _, h⟩ := h; cases h
  all_goals first | (obtain ⟨_, _, h⟩ := Option.map_eq_some_iff.1 h; cases h; done) | (simp only [aop] at h; cases h; done)
 | defer f c args =>
  exfalso
  obtain ⟨dst, op, ty, pos, after, guard⟩ := o
  cases op <;> simp only [kindOf] at hk <;> first | (cases hk; done) | skip
  case call c =>
   obtain ⟨callee, xs, ts⟩ := c
   cases callee <;> simp only at hk <;> first | (cases hk; done) | skip
   simp only [aop, aCall, Option.bind_eq_some_iff, Option.map_eq_some_iff] at h
   obtain ⟨_, _, _, _, h⟩ := h
   cases h
  case pick c a b =>
   simp only [aop, Option.bind_eq_some_iff] at h
   obtain ⟨v, _, h⟩ := h
   split at h
   ·obtain ⟨_, _, h⟩ := Option.map_eq_some_iff.1 h; cases h
   ·cases h
  case unOp op t x =>
   simp only [aop, Option.bind_eq_some_iff, Option.map_eq_some_iff] at h
   obtain ⟨_, _, _, _, h⟩ := h; cases h
  all_goals first | (obtain ⟨_, _, h⟩ := Option.map_eq_some_iff.1 h; cases h; done) | (simp only [aop] at h; cases h; done)

def kindsOk : Nat → Nat → Bool
 | 0, 0 => true
 | 0, 1 => true
 | 0, 2 => true
 | 1, 2 => true
 | 2, 0 => true
 | 2, 2 => true
 | _, _ => false

structure Loose (ops : Array Oper) (dep : Dep) (x i : Nat) (ox oi : Oper) : Prop where
 hx : ops[x]? = some ox
 hi : ops[i]? = some oi
 ne : x ≠ i
 ix : dep i x = false
 apart : ox.apart ops oi = true
 kinds : kindsOk (kindOf ox) (kindOf oi) = true

def Will (E : Env) (ops : Array Oper) (base : Nat) (i : Nat) (oi : Oper) (a : Act) : Prop :=
 kindOf oi = 2 → Region.wanted oi (yielded ops a.tmps) = true → ∃ p eff, aop E (evOf ops a oi) oi = some (.prim p) ∧ p.reads = [] ∧ p.act (base + i) [] = some eff

theorem will_run {p : Prim} {nm : Nat} {eff : Eff} (h1 : p.reads = []) (h2 : p.act nm [] = some eff) (σ : Heap) : p.run σ nm = some eff := by
 simp [Prim.run, h1, getAll, h2]

theorem swap (hE : EnvOk E) {x i : Nat} {ox oi : Oper} (hl : Loose ops dep x i ox oi) {R : List Nat} {D : List Rec} {a : Act} {σ : Heap} (hw : Will E ops base i oi a) (hfr : σ.get (base + i) = none)
  (h : runD E ops base dep (x :: i :: R) D a σ K) : runD E ops base dep (i :: x :: R) D a σ K := by
 obtain ⟨hx, hi, hne, hix, hap, hkk⟩ := hl
 obtain ⟨ap1, ap2, ap3⟩ := Oper.apart_spec hap
 -- the other's operands stand as they did
 have evi : ∀ (a : Act) v, evOf ops (a.put ox.dst v) oi = evOf ops a oi := fun a v => evOf_put ap1
 have evx : ∀ (a : Act) v, evOf ops (a.put oi.dst v) ox = evOf ops a ox := fun a v => evOf_put ap3
 have wai : ∀ (a : Act) v, Region.wanted oi (yielded ops (a.put ox.dst v).tmps) = Region.wanted oi (yielded ops a.tmps) := fun a v => wanted_put oi a ox.dst v ap1
 have wax : ∀ (a : Act) v, Region.wanted ox (yielded ops (a.put oi.dst v).tmps) = Region.wanted ox (yielded ops a.tmps) := fun a v => wanted_put ox a oi.dst v ap3
 have com : ∀ (a : Act) v u, (a.put ox.dst v).put oi.dst u = (a.put oi.dst u).put ox.dst v := fun a v u => Act.put_comm a v u ap2
 have hnm : base + x ≠ base + i := by omega
 have perm : ∀ {r s : Rec} {D : List Rec}, ∀ d ∈ r :: s :: D, d ∈ s :: r :: D := by
  intro r s D d hd
  rcases List.mem_cons.1 hd with rfl | hd
  ·exact List.mem_cons_of_mem _ (List.mem_cons_self ..)
  ·rcases List.mem_cons.1 hd with rfl | hd
   ·exact List.mem_cons_self ..
   ·exact List.mem_cons_of_mem _ (List.mem_cons_of_mem _ hd)
 simp only [runD, hx, hi] at h ⊢
 by_cases wx : Region.wanted ox (yielded ops a.tmps) = true
 case neg =>
  rw [if_neg wx] at h
  rw [wai] at h
  by_cases wi : Region.wanted oi (yielded ops a.tmps) = true
  ·rw [if_pos wi] at h ⊢
   rw [evi] at h
   split at h
   ·rename_i p hp
    split at h
    ·rename_i eff hr
     obtain ⟨h1, h2, h3⟩ := h
     rw [wax, if_neg wx]
     exact ⟨h1, h2, by rw [← com]; exact h3⟩
    ·exact h.elim
   ·obtain ⟨h1, h2⟩ := h
    exact ⟨h1, h2.mono fun v σ' ⟨k1, k2⟩ => ⟨k1, by rw [wax, if_neg wx, ← com]; exact k2⟩⟩
   ·exact h.elim
  ·rw [if_neg wi] at h ⊢
   rw [wax, if_neg wx, ← com]; exact h
 case pos =>
  rw [if_pos wx] at h
  split at h
  ·-- x is no call
   rename_i px hpx
   split at h
   case h_2 => exact h.elim
   rename_i ex hrx
   obtain ⟨okx, clx, h⟩ := h
   rw [wai] at h
   by_cases wi : Region.wanted oi (yielded ops a.tmps) = true
   ·rw [if_pos wi] at h ⊢
    rw [evi] at h
    split at h
    ·-- i is no call
     rename_i pi hpi
     split at h
     case h_2 => exact h.elim
     rename_i ei hri
     obtain ⟨oki, cli, h⟩ := h
     -- what they touch
     have facts : (∀ l ∈ pi.reads, l ∉ wrtOf ex (base + x)) ∧ (∀ l ∈ px.reads, l ∉ wrtOf ei (base + i)) ∧ (∀ l, l ∈ wrtOf ex (base + x) → l ∉ wrtOf ei (base + i)) ∧
       disj (wrtOf ei (base + i)) (tchOf px ex (base + x)) = true ∧ disj (wrtOf ex (base + x)) (tchOf pi ei (base + i)) = true := by
      by_cases hk : kindOf oi = 2
      ·obtain ⟨q, hq, hq1, hq2⟩ := kind2_prim hE hk hpi
       cases hq
       have hwr : ei.wr = none := by
        simp only [Prim.run, hq1, getAll, Option.bind_some] at hri
        exact hq2 _ _ hri
       have hwi : ∀ l ∈ wrtOf ei (base + i), l = base + i := by
        intro l hl
        rcases List.mem_append.1 hl with h1 | h1
        ·simp [wrOf, hwr] at h1
        ·exact new_eq h1
       have hrd : ∀ l ∈ px.reads, l ≠ base + i := by
        rintro l hl rfl
        exact run_reads hrx hl hfr
       have hwx : ∀ l ∈ wrtOf ex (base + x), l ≠ base + i := by
        intro l hl
        rcases List.mem_append.1 hl with h1 | h1
        ·exact hrd l (wr_read okx h1)
        ·rw [new_eq h1]; exact hnm
       refine ⟨fun l hl => (by rw [hq1] at hl; cases hl), fun l hl k => hrd l hl (hwi l k), fun l hl k => hwx l hl (hwi l k), disj_of fun l hl k => ?_, disj_of fun l hl k => ?_⟩
       ·have := hwi l hl
        subst this
        rcases List.mem_append.1 k with h1 | h1
        ·exact hrd _ h1 rfl
        ·exact hnm (new_eq h1).symm
       ·rcases List.mem_append.1 k with h1 | h1
        ·rw [hq1] at h1; cases h1
        ·exact hwx l hl (new_eq h1)
      ·obtain ⟨d1, d2⟩ := (cli.resolve_left hk ⟨x, tchOf px ex (base + x), wrtOf ex (base + x), kindOf ox == 2⟩ (List.mem_cons_self ..)).resolve_left (by rw [hix]; simp)
       exact ⟨fun l hl k => disj_spec d1 k (List.mem_append_left _ hl), fun l hl k => disj_spec d2 k (List.mem_append_left _ hl), fun l hl k => disj_spec d1 hl (wrt_tch oki k), d2, d1⟩
     obtain ⟨A1, A2, A3, A4, A5⟩ := facts
     have hri' : pi.run σ (base + i) = some ei := by rw [← hri]; exact (run_congr fun l hl => app_same (A1 l hl)).symm
     have hrx' : px.run (σ.app (base + i) ei) (base + x) = some ex := by rw [← hrx]; exact run_congr fun l hl => app_same (A2 l hl)
     rw [hri']
     simp only
     refine ⟨oki, cli.imp id fun c d hd => c d (List.mem_cons_of_mem _ hd), ?_⟩
     rw [wax, if_pos wx, evx, hpx]
     simp only
     rw [hrx']
     refine ⟨okx, clx.imp id (fun c d hd => ?_), ?_⟩
     ·rcases List.mem_cons.1 hd with e | hd
      ·subst e; exact .inr ⟨A4, A5⟩
      ·exact c d hd
     ·rw [← com, ← app_comm A3]
      exact runD_mem _ _ _ _ _ perm h
    ·-- i is a call
     rename_i fi argsi hpi
     obtain ⟨c1, c2⟩ := h
     have hk0 : kindOf ox = 0 := by
      have hki : kindOf oi ≠ 2 := fun hk => by obtain ⟨q, hq, _⟩ := kind2_prim hE hk hpi; cases hq
      have hki0 : kindOf oi ≠ 0 := fun hk => by obtain ⟨q, hq⟩ := kind0_prim hk hpi; cases hq
      revert hkk hki hki0
      generalize kindOf ox = m
      generalize kindOf oi = n
      intro hkk
      unfold kindsOk at hkk
      split at hkk <;> simp_all
     have hnil : wrtOf ex (base + x) = [] := by
      have := (c1 ⟨x, tchOf px ex (base + x), wrtOf ex (base + x), kindOf ox == 2⟩ (List.mem_cons_self ..)).resolve_left (by rw [hix]; simp)
      rcases this with h1 | h1
      ·rw [hk0] at h1; cases h1
      ·exact h1
     rw [app_nil hnil] at c2
     refine ⟨fun d hd => c1 d (List.mem_cons_of_mem _ hd), c2.mono fun v σ' ⟨k1, k2⟩ => ⟨fun d hd => k1 d (List.mem_cons_of_mem _ hd), ?_⟩⟩
     have kx := ((k1 ⟨x, tchOf px ex (base + x), wrtOf ex (base + x), kindOf ox == 2⟩ (List.mem_cons_self ..)).resolve_left (by rw [hix]; simp)).resolve_left (by rw [hk0]; simp)
     have hrx' : px.run σ' (base + x) = some ex := by rw [← hrx]; exact run_congr fun l hl => kx l (List.mem_append_left _ hl)
     rw [wax, if_pos wx, evx, hpx]
     simp only
     rw [hrx']
     refine ⟨okx, clx, ?_⟩
     rw [app_nil hnil, ← com]
     exact k2
    ·exact h.elim
   ·rw [if_neg wi] at h ⊢
    rw [wax, if_pos wx, evx, hpx]
    simp only
    rw [hrx]
    exact ⟨okx, clx, by rw [← com]; exact h⟩
  ·-- x is a call
   rename_i fx argsx hpx
   obtain ⟨c1, c2⟩ := h
   have hkx : kindOf ox = 1 ∧ kindOf oi = 2 := by
    have hki : kindOf ox ≠ 2 := fun hk => by obtain ⟨q, hq, _⟩ := kind2_prim hE hk hpx; cases hq
    have hki0 : kindOf ox ≠ 0 := fun hk => by obtain ⟨q, hq⟩ := kind0_prim hk hpx; cases hq
    revert hkk hki hki0
    generalize kindOf ox = m
    generalize kindOf oi = n
    intro hkk
    unfold kindsOk at hkk
    split at hkk <;> simp_all
   by_cases wi : Region.wanted oi (yielded ops a.tmps) = true
   ·rw [if_pos wi]
    obtain ⟨pi, ei, hpi, hq1, hq2⟩ := hw hkx.2 wi
    obtain ⟨q, hq, _, hq3⟩ := kind2_prim hE hkx.2 hpi
    cases hq
    have hwr := hq3 _ _ hq2
    have hrun := will_run hq1 hq2
    rw [hpi]
    simp only
    rw [hrun]
    simp only
    refine ⟨by simp [wrOk, hwr], .inl hkx.2, ?_⟩
    rw [wax, if_pos wx, evx, hpx]
    simp only
    refine ⟨fun d hd => ?_, ?_⟩
    ·rcases List.mem_cons.1 hd with rfl | hd
     ·exact .inr (.inl (by rw [hkx.2]; rfl))
     ·exact c1 d hd
    ·have hg : σ.app (base + i) ei = σ.over ⟨fun l => if l = base + i then ei.new else none, 0⟩ := by
      apply Heap.ext'
      ·intro l
       simp only [Heap.app, Heap.wr, hwr, Heap.nw, Heap.over]
       by_cases e : l = base + i
       ·subst e
        cases hn : ei.new with
        | none => simp [hn]
        | some o => simp [hn]
       ·cases hn : ei.new with
        | none => simp [e]
        | some o => simp only [Heap.upd_ne _ _ e, if_neg e]
      ·rw [app_nxt]; rfl
     rw [hg]
     refine (frame_over (fun l o hl => ?_) c2).mono ?_
     ·simp only at hl
      split at hl
      ·rename_i e; rw [e]; exact hfr
      ·cases hl
     ·rintro v τ ⟨σ', ⟨k1, k2⟩, _, rfl⟩
      have hg' : σ'.app (base + i) ei = σ'.over ⟨fun l => if l = base + i then ei.new else none, 0⟩ := by
       apply Heap.ext'
       ·intro l
        simp only [Heap.app, Heap.wr, hwr, Heap.nw, Heap.over]
        by_cases e : l = base + i
        ·subst e
         cases hn : ei.new with
         | none => simp [hn]
         | some o => simp [hn]
        ·cases hn : ei.new with
         | none => simp [e]
         | some o => simp only [Heap.upd_ne _ _ e, if_neg e]
       ·rw [app_nxt]; rfl
      rw [wai, if_pos wi, evi, hpi] at k2
      simp only at k2
      rw [hrun] at k2
      simp only at k2
      obtain ⟨_, _, k2⟩ := k2
      rw [← hg, ← hg']
      refine ⟨fun d hd => ?_, by rw [← com]; exact k2⟩
      rcases List.mem_cons.1 hd with rfl | hd
      ·exact .inr (.inl (by rw [hkx.2]; rfl))
      ·rcases k1 d hd with e | e | e
       ·exact .inl e
       ·exact .inr (.inl e)
       ·refine .inr (.inr fun l hl => ?_)
        by_cases h1 : l ∈ wrtOf ei (base + i)
        ·exact app_at h1
        ·rw [app_same h1, app_same h1]; exact e l hl
   ·rw [if_neg wi]
    rw [wax, if_pos wx, evx, hpx]
    simp only
    exact ⟨c1, c2.mono fun v σ' ⟨k1, k2⟩ => ⟨k1, by rw [wai, if_neg wi] at k2; rw [← com]; exact k2⟩⟩
  ·exact h.elim

theorem Will.put {i : Nat} {oi ox : Oper} {a : Act} (h : Will E ops base i oi a) (hap : ∀ d, ox.dst = some d → d ∉ oi.looksAt ops) (v : Value) : Will E ops base i oi (a.put ox.dst v) := by
 intro hk hw
 rw [evOf_put hap]
 exact h hk (by rw [← wanted_put oi a ox.dst v hap]; exact hw)

theorem front {i : Nat} {oi : Oper} {B : List Nat} (hE : EnvOk E) : ∀ (A : List Nat) (D : List Rec) (a : Act) (σ : Heap), (∀ x ∈ A, ∃ ox, Loose ops dep x i ox oi) → Will E ops base i oi a → σ.get (base + i) = none → base + i < σ.nxt →
  runD E ops base dep (A ++ i :: B) D a σ K → runD E ops base dep (i :: (A ++ B)) D a σ K
 | [], D, a, σ, _, _, _, _, h => h
 | x :: A, D, a, σ, hA, hw, hf, hn, h => by
  obtain ⟨ox, hl⟩ := hA x (List.mem_cons_self ..)
  have hA' : ∀ y ∈ A, ∃ oy, Loose ops dep y i oy oi := fun y hy => hA y (List.mem_cons_of_mem _ hy)
  refine swap hE hl hw hf ?_
  have ap1 := (Oper.apart_spec hl.apart).1
  rw [List.cons_append] at h
  simp only [runD, hl.hx] at h ⊢
  by_cases wx : Region.wanted ox (yielded ops a.tmps) = true
  ·rw [if_pos wx] at h ⊢
   split at h
   ·split at h
    ·rename_i p _ eff hr
     obtain ⟨h1, h2, h3⟩ := h
     exact ⟨h1, h2, front hE A _ _ _ hA' (hw.put ap1 _) (app_gone hr h1 (by have := hl.ne; omega) hf) (by rw [app_nxt]; exact hn) h3⟩
    ·exact h.elim
   ·obtain ⟨h1, h2⟩ := h
    exact ⟨h1, h2.strong.mono fun v σ' ⟨⟨k1, k2⟩, _, k3, k4⟩ => ⟨k1, front hE A _ _ _ hA' (hw.put ap1 _) (k4 _ hn hf) (by omega) k2⟩⟩
   ·exact h.elim
  ·rw [if_neg wx] at h ⊢
   exact front hE A _ _ _ hA' (hw.put ap1 _) hf hn h

theorem will_of {i : Nat} {oi : Oper} {B : List Nat} (hE : EnvOk E) : ∀ (A : List Nat) (D : List Rec) (a : Act) (σ : Heap) (ρ : LMap) (w : World) (ac : Act), (∀ x ∈ A, ∃ ox, Loose ops dep x i ox oi) → ops[i]? = some oi →
    Rel ρ σ w → ARel ρ a ac → (∀ x ∈ A, ρ (base + x) = none) → base + ops.size ≤ σ.nxt → A.Nodup → runD E ops base dep (A ++ i :: B) D a σ K → Will E ops base i oi a
  | [], D, a, σ, ρ, w, ac, _, hi, _, _, _, _, _, h => by
    intro hk hw
    simp only [List.nil_append, runD, hi] at h
    rw [if_pos hw] at h
    split at h
    · rename_i p hp
      split at h
      · rename_i eff hr
        obtain ⟨q, hq, h1, h2⟩ := kind2_prim hE hk hp
        cases hq
        refine ⟨p, eff, hp, h1, ?_⟩
        simpa [Prim.run, h1, getAll] using hr
      · exact h.elim
    · rename_i f args hp
      obtain ⟨q, hq, _⟩ := kind2_prim hE hk hp
      cases hq
    · exact h.elim
  | x :: A, D, a, σ, ρ, w, ac, hA, hi, hrel, ha, hfr, hn, hnd, h => by
    obtain ⟨ox, hl⟩ := hA x (List.mem_cons_self ..)
    have hA' : ∀ y ∈ A, ∃ oy, Loose ops dep y i oy oi := fun y hy => hA y (List.mem_cons_of_mem _ hy)
    have ap1 := (Oper.apart_spec hl.apart).1
    have back : ∀ v, Will E ops base i oi (a.put ox.dst v) → Will E ops base i oi a := by
      intro v h1 hk hw
      have := h1 hk (by rw [wanted_put oi a ox.dst v ap1]; exact hw)
      rw [evOf_put ap1] at this
      exact this
    have hxs : x < ops.size := (Array.getElem?_eq_some_iff.1 hl.hx).1
    have hnd' := List.nodup_cons.1 hnd
    rw [List.cons_append] at h
    simp only [runD, hl.hx] at h
    by_cases wx : Region.wanted ox (yielded ops a.tmps) = true
    · rw [if_pos wx] at h
      split at h
      · split at h
        · rename_i p hp _ eff hr
          obtain ⟨h1, h2, h3⟩ := h
          obtain ⟨ρ', w', v', k1, k2, k3, k4, _⟩ := prim_step hE hrel ha (evOf_rel ha ox) hp (hfr x (List.mem_cons_self ..)) (by omega) hr
          refine back _ (will_of hE A _ _ _ ρ' w' _ hA' hi k1 k3 (fun y hy => ?_) (by rw [app_nxt]; exact hn) hnd'.2 h3)
          rw [k4 _ (by rintro e; exact hnd'.1 (by have : y = x := by omega
                                                  rw [← this]; exact hy))]
          exact hfr y (List.mem_cons_of_mem _ hy)
        · exact h.elim
      · rename_i f args hp
        obtain ⟨h1, h2⟩ := h
        obtain ⟨args', k1, _⟩ := call_ok hE hp (evOf_rel ha ox)
        obtain ⟨v, v', ρ', σ', w', b1, b2, b3, b4, _, b5⟩ := h2.some hrel k1
        refine back v (will_of hE A _ _ _ ρ' w' _ hA' hi b1 ((ha.mono b2.le).put b4 _) (fun y hy => ?_) (Nat.le_trans hn b2.nxt) hnd'.2 b5)
        obtain ⟨oy, hly⟩ := hA' y hy
        have := (Array.getElem?_eq_some_iff.1 hly.hx).1
        rw [b3.old _ (by omega)]
        exact hfr y (List.mem_cons_of_mem _ hy)
      · exact h.elim
    · rw [if_neg wx] at h
      exact back _ (will_of hE A _ _ _ ρ w _ hA' hi hrel (ha.put (VRel.undef_ ρ) _) (fun y hy => hfr y (List.mem_cons_of_mem _ hy)) hn hnd'.2 h)

structure DrawOk (ops : Array Oper) (dep : Dep) (L₀ : List Nat) : Prop where
 nodup : L₀.Nodup
 mem : ∀ i, i ∈ L₀ ↔ i < ops.size
 pw : L₀.Pairwise fun x y => dep x y = false ∧ (dep y x = true ∨ ∃ ox oy, ops[x]? = some ox ∧ ops[y]? = some oy ∧ ox.apart ops oy = true ∧ kindsOk (kindOf ox) (kindOf oy) = true)
 edge : ∀ x o, ops[x]? = some o → ∀ e ∈ o.after, Region.binds .any e = true → e.on < x ∧ dep x e.on = true
 back : ∀ x y, dep x y = true → ∃ o, ops[x]? = some o ∧ ∃ e ∈ o.after, Region.binds .any e = true ∧ (e.on = y ∨ dep e.on y = true)

theorem wpAny_mono {P : Program} {Q Q' : Exit → Act → World → Prop} (hq : ∀ e a w, Q e a w → Q' e a w) : ∀ (fuel : Nat) (listed : Array Bool) (a : Act) (w : World), wpAny P .any ops Q fuel listed a w → wpAny P .any ops Q' fuel listed a w
 | 0, listed, a, w, h => ⟨h.1, hq _ _ _ h.2⟩
 | fuel + 1, listed, a, w, h => by
  refine ⟨fun hr => hq _ _ _ (h.1 hr), fun i hi => ?_⟩
  have h1 := h.2 i hi
  unfold wpOp at h1 ⊢
  split
  ·rename_i hn; rw [hn] at h1; exact wpAny_mono hq fuel _ a w h1
  ·rename_i o ho
   rw [ho] at h1
   simp only at h1
   split
   ·rename_i hw
    rw [if_pos hw] at h1
    rcases h1 with h1 | ⟨h1, h2⟩
    ·exact .inl (upon_mono' (fun a w => wpAny_mono hq fuel _ a w) hq h1)
    ·exact .inr ⟨h1, LetsOut.mono' hq h2⟩
   ·rename_i hw
    rw [if_neg hw] at h1
    exact wpAny_mono hq fuel _ _ w h1

theorem runD_sound (hE : EnvOk E) {L₀ : List Nat} (hs : DrawOk ops dep L₀) : ∀ (fuel : Nat) (L : List Nat) (listed : Array Bool) (D : List Rec) (a : Act) (σ : Heap) (ρ : LMap) (w : World) (ac : Act),
    runD E ops base dep L D a σ K → Rel ρ σ w → ARel ρ a ac → L.Sublist L₀ → (∀ j, j < ops.size → listed[j]? = some (decide (j ∉ L))) → listed.size = ops.size →
    (∀ k o, k ∉ L → ops[k]? = some o → ∀ e ∈ o.after, Region.binds .any e = true → e.on ∉ L) →
    (∀ i ∈ L, ρ (base + i) = none) → base + ops.size ≤ σ.nxt → L.length ≤ fuel →
    wpAny E.P .any ops (fun e ac' w' => e = .normal ∧ FineB base ρ σ w K ac' w') fuel listed ac w := by
  intro fuel
  induction fuel with
  | zero =>
    intro L listed D a σ ρ w ac h hrel ha hsub hl hls hdc hfr hn hlen
    have hL : L = [] := by simpa using hlen
    subst hL
    refine ⟨?_, rfl, ρ, a, σ, hrel, Frm.refl _ _ _, FinB.refl _ _ _, ha, h⟩
    apply List.eq_nil_iff_forall_not_mem.2
    intro j hj
    obtain ⟨h1, o, ho, _⟩ := mem_ready.1 hj
    have hjs : j < ops.size := (Array.getElem?_eq_some_iff.1 ho).1
    rw [Array.getD_eq_getD_getElem?, hl j hjs] at h1
    simp at h1
  | succ fuel ih =>
    intro L listed D a σ ρ w ac h hrel ha hsub hl hls hdc hfr hn hlen
    have hnd : L.Nodup := hsub.nodup hs.nodup
    have hpw := hs.pw.sublist hsub
    have unl : ∀ j, j < ops.size → (listed.getD j true = false ↔ j ∈ L) := by
      intro j hj
      rw [Array.getD_eq_getD_getElem?, hl j hj]
      simp
    have lst : ∀ j, j < ops.size → (listed.getD j false = true ↔ j ∉ L) := by
      intro j hj
      rw [Array.getD_eq_getD_getElem?, hl j hj]
      simp
    refine ⟨fun hr => ?_, fun i hi => ?_⟩
    · -- nothing is ready: all is done
      cases hL : L with
      | nil => subst hL; exact ⟨rfl, ρ, a, σ, hrel, Frm.refl _ _ _, FinB.refl _ _ _, ha, h⟩
      | cons x L' =>
        exfalso
        have hx : x ∈ L := by rw [hL]; exact List.mem_cons_self ..
        have hxs : x < ops.size := (hs.mem x).1 (hsub.subset hx)
        have : x ∈ Region.ready .any ops listed := by
          refine mem_ready.2 ⟨(unl x hxs).2 hx, _, Array.getElem?_eq_getElem hxs, fun e he hb => ?_⟩
          obtain ⟨e1, e2⟩ := hs.edge x _ (Array.getElem?_eq_getElem hxs) e he hb
          refine (lst _ (by omega)).2 fun hin => ?_
          rw [hL] at hin hpw
          rcases List.mem_cons.1 hin with e3 | e3
          · omega
          · have := ((List.pairwise_cons.1 hpw).1 _ e3).1
            rw [e2] at this; cases this
        rw [hr] at this; cases this
    · obtain ⟨h1, oi, hoi, hpre⟩ := mem_ready.1 hi
      have his : i < ops.size := (Array.getElem?_eq_some_iff.1 hoi).1
      have hiL : i ∈ L := (unl i his).1 h1
      obtain ⟨A, B, rfl⟩ := List.append_of_mem hiL
      -- none of those ahead of it is asked for
      have closed : ∀ k, k ∉ A ++ i :: B → ∀ y, dep k y = true → y ∉ A ++ i :: B := by
        intro k
        induction k using Nat.strongRecOn with
        | _ k ihk =>
          intro hk y hy
          obtain ⟨o, ho, e, he, hb, hor⟩ := hs.back k y hy
          obtain ⟨e1, _⟩ := hs.edge k o ho e he hb
          have hon := hdc k o hk ho e he hb
          rcases hor with rfl | hor
          · exact hon
          · exact ihk _ e1 hon y hor
      have free : ∀ x ∈ A, dep i x = false := by
        intro x hx
        cases hd : dep i x with
        | false => rfl
        | true =>
          exfalso
          obtain ⟨o, ho, e, he, hb, hor⟩ := hs.back i x hd
          rw [hoi] at ho; cases ho
          obtain ⟨e1, _⟩ := hs.edge i oi hoi e he hb
          have hon : e.on ∉ A ++ i :: B := (lst _ (by omega)).1 (hpre e he hb)
          rcases hor with rfl | hor
          · exact hon (List.mem_append_left _ hx)
          · exact closed _ hon x hor (List.mem_append_left _ hx)
      have loose : ∀ x ∈ A, ∃ ox, Loose ops dep x i ox oi := by
        intro x hx
        have hp := (List.pairwise_append.1 hpw).2.2 x hx i (List.mem_cons_self ..)
        rcases hp.2 with hd | ⟨ox, oy, k1, k2, k3, k4⟩
        · rw [free x hx] at hd; cases hd
        · rw [hoi] at k2; cases k2
          refine ⟨ox, k1, hoi, ?_, free x hx, k3, k4⟩
          rintro rfl
          have := (List.nodup_append.1 hnd).2.2 x hx x (List.mem_cons_self ..)
          exact this rfl
      have hndA := (List.nodup_append.1 hnd).1
      have hwill : Will E ops base i oi a := will_of hE A D a σ ρ w ac loose hoi hrel ha (fun x hx => hfr x (List.mem_append_left _ hx)) hn hndA h
      have hf0 := hrel.get_none (hfr i hiL)
      have h' := front hE A D a σ loose hwill hf0 (by omega) h
      have hlen' : (A ++ B).length ≤ fuel := by simp at hlen ⊢; omega
      have hsub' : (A ++ B).Sublist L₀ := by
        refine List.Sublist.trans ?_ hsub
        exact List.Sublist.append_left (List.sublist_cons_self _ _) A
      have hiAB : i ∉ A ++ B := by
        intro hin
        have hnd2 := List.nodup_append.1 hnd
        rcases List.mem_append.1 hin with k | k
        · exact hnd2.2.2 i k i (List.mem_cons_self ..) rfl
        · exact (List.nodup_cons.1 hnd2.2.1).1 k
      have memAB : ∀ j, j ≠ i → (j ∈ A ++ B ↔ j ∈ A ++ i :: B) := by
        intro j hj
        simp [hj]
      have hl' : ∀ j, j < ops.size → (listed.setIfInBounds i true)[j]? = some (decide (j ∉ A ++ B)) := by
        intro j hj
        by_cases e : i = j
        · subst e
          rw [Array.getElem?_setIfInBounds_self, if_pos (by omega)]
          simp only [hiAB, not_false_eq_true, decide_true]
        · rw [Array.getElem?_setIfInBounds_ne e, hl j hj]
          have := memAB j (fun h => e h.symm)
          simp only [this]
      have hdc' : ∀ k o, k ∉ A ++ B → ops[k]? = some o → ∀ e ∈ o.after, Region.binds .any e = true → e.on ∉ A ++ B := by
        intro k o hk ho e he hb hin
        have hin' : e.on ∈ A ++ i :: B := by
          rcases List.mem_append.1 hin with q | q
          · exact List.mem_append_left _ q
          · exact List.mem_append_right _ (List.mem_cons_of_mem _ q)
        by_cases e1 : k = i
        · subst e1
          rw [hoi] at ho; cases ho
          obtain ⟨e2, _⟩ := hs.edge _ oi hoi e he hb
          exact (lst _ (by omega)).1 (hpre e he hb) hin'
        · exact hdc k o (fun hk' => hk ((memAB k e1).2 hk')) ho e he hb hin'
      have hfr' : ∀ j ∈ A ++ B, j ∈ A ++ i :: B := by
        intro j hj
        rcases List.mem_append.1 hj with q | q
        · exact List.mem_append_left _ q
        · exact List.mem_append_right _ (List.mem_cons_of_mem _ q)
      have go : ∀ {ρ₁ : LMap} {σ₁ : Heap} {w₁ : World} {a₁ ac₁ : Act} {D₁ : List Rec}, runD E ops base dep (A ++ B) D₁ a₁ σ₁ K → Rel ρ₁ σ₁ w₁ → Frm ρ σ w ρ₁ σ₁ w₁ → FinB base ρ σ ρ₁ σ₁ → ARel ρ₁ a₁ ac₁ →
          (∀ j ∈ A ++ B, ρ₁ (base + j) = none) → wpAny E.P .any ops (fun e ac' w' => e = .normal ∧ FineB base ρ σ w K ac' w') fuel (listed.setIfInBounds i true) ac₁ w₁ := by
        intro ρ₁ σ₁ w₁ a₁ ac₁ D₁ g1 g2 g3 g4 g5 g6
        have := ih (A ++ B) _ D₁ a₁ σ₁ ρ₁ w₁ ac₁ g1 g2 g5 hsub' hl' (by simpa using hls) hdc' g6 (Nat.le_trans hn g3.nxt) hlen'
        refine wpAny_mono (fun e ac' w' he => ?_) _ _ _ _ this
        obtain ⟨he, ρ', a', σ', k1, k2, k3, k4, k5⟩ := he
        exact ⟨he, ρ', a', σ', k1, g3.trans k2, g4.trans k3, k4, k5⟩
      simp only [wpOp, hoi]
      simp only [runD, hoi] at h'
      rw [← yielded_rel ha.tmps ops]
      split
      · rename_i hw
        rw [if_pos hw] at h'
        left
        split at h'
        · rename_i p hop
          split at h'
          · rename_i eff hrun
            obtain ⟨hwr, _, h'⟩ := h'
            obtain ⟨ρ', w', v', k1, k2, k3, k4, k5⟩ := prim_step hE hrel ha (evOf_rel ha oi) hop (hfr i hiL) (by omega) hrun
            exact k5 _ _ (go h' k1 k2 ⟨fun l hl => k4 l (by omega), fun l hl hg => app_gone hrun hwr (by omega) hg⟩ k3
              (fun j hj => by rw [k4 _ (by rintro e; exact hiAB (by have : j = i := by omega
                                                                    rw [← this]; exact hj))]; exact hfr j (hfr' j hj)))
          · exact h'.elim
        · rename_i f args hop
          obtain ⟨_, h'⟩ := h'
          obtain ⟨args', k1, k2⟩ := call_ok hE hop (evOf_rel ha oi)
          unfold Oper.wp
          rw [k2 w]
          simp only [Oper.upon]
          refine (h' ρ w args' hrel k1).mono ?_
          rintro e w' ⟨v, v', ρ', σ', rfl, b1, b2, b3, b4, _, b5⟩
          exact go b5 b1 b2 (b3.toB (by omega)) ((ha.mono b2.le).put b4 _) (fun j hj => by
            have := (hs.mem j).1 (hsub'.subset hj)
            rw [b3.old _ (by omega)]; exact hfr j (hfr' j hj))
        · exact h'.elim
      · rename_i hw
        rw [if_neg hw] at h'
        exact go h' hrel (Frm.refl _ _ _) (FinB.refl _ _ _) (ha.put (VRel.undef_ ρ) _) (fun j hj => hfr j (hfr' j hj))

end
end Go.Proofs.YtehmailaabjdjaaGreat
