/-
  REGIONS THAT DRAW THEIR ORDER, SAID OF ABSTRACT HEAPS: one order stands for all. No condition. / CODE AND CALLS, SAID OF ABSTRACT HEAPS. No condition.
-/
import Derived.Test.YtfchjhfccnodpaaGreatPk0
section
namespace Go.Proofs.YtfchjhfccnodpaaGreat
set_option linter.unusedSimpArgs false
set_option linter.unusedVariables false

structure Rec where
  i : Nat
  tch : List Nat
  wrt : List Nat
  alloc : Bool

def newOf (eff : Eff) (nm : Nat) : List Nat := if eff.new.isSome then [nm] else []
def wrOf (eff : Eff) : List Nat := match eff.wr with | some (l, _) => [l] | none => []
def tchOf (p : Prim) (eff : Eff) (nm : Nat) : List Nat := p.reads ++ newOf eff nm
def wrtOf (eff : Eff) (nm : Nat) : List Nat := wrOf eff ++ newOf eff nm

def kindOf (o : Oper) : Nat :=
  match o.op with
  | .call c => match c.callee with | .builtin _ => 0 | _ => 1
  | .alloc _ => 2
  | .box _ _ => 2
  | .buildSlice _ _ _ => 2
  | .makeMap _ _ => 2
  | .defer _ => 3
  | .convert s t _ => if s == 9 && t == 43 then 2 else 0
  | _ => 0

def disj (a b : List Nat) : Bool := a.all fun x => !b.contains x

def evOf (ops : Array Oper) (a : Act) (o : Oper) : Ev := fun x =>
  match x with
  | .tmp t => if (o.looksAt ops).contains t then aeval a (.tmp t) else none
  | x => aeval a x

abbrev Dep := Nat → Nat → Bool

def clashFree (dep : Dep) (D : List Rec) (i : Nat) (tch wrt : List Nat) : Prop := ∀ d ∈ D, dep i d.i = true ∨ (disj d.wrt tch = true ∧ disj wrt d.tch = true)
def callFree (dep : Dep) (D : List Rec) (i : Nat) : Prop := ∀ d ∈ D, dep i d.i = true ∨ d.alloc = true ∨ d.wrt = []
def kept (dep : Dep) (D : List Rec) (i : Nat) (σ σ' : Heap) : Prop := ∀ d ∈ D, dep i d.i = true ∨ d.alloc = true ∨ ∀ l ∈ d.tch, σ'.get l = σ.get l

def runD (E : Env) (ops : Array Oper) (base : Nat) (dep : Dep) : List Nat → List Rec → Act → Heap → (Act → Heap → Prop) → Prop
  | [], _, a, σ, K => K a σ
  | i :: L, D, a, σ, K =>
    match ops[i]? with
    | none => False
    | some o =>
      if Region.wanted o (yielded ops a.tmps) then
        match aop E (evOf ops a o) o with
        | some (.prim p) => match p.run σ (base + i) with
          | some eff => wrOk p eff = true ∧ (kindOf o = 2 ∨ clashFree dep D i (tchOf p eff (base + i)) (wrtOf eff (base + i))) ∧
              runD E ops base dep L (⟨i, tchOf p eff (base + i), wrtOf eff (base + i), kindOf o == 2⟩ :: D) (a.put o.dst eff.val) (σ.app (base + i) eff) K
          | none => False
        | some (.call f args) => callFree dep D i ∧ ACall E.P f args σ fun v σ' => kept dep D i σ σ' ∧ runD E ops base dep L D (a.put o.dst v) σ' K
        | _ => False
      else runD E ops base dep L D (a.put o.dst undef) σ K

section
variable {E : Env} {ops : Array Oper} {base : Nat} {dep : Dep} {K : Act → Heap → Prop}

theorem runD_mem : ∀ (L : List Nat) (D D' : List Rec) (a : Act) (σ : Heap), (∀ d ∈ D', d ∈ D) → runD E ops base dep L D a σ K → runD E ops base dep L D' a σ K
  | [], _, _, _, _, _, h => h
  | i :: L, D, D', a, σ, hm, h => by
    simp only [runD] at h ⊢
    split at h
    · exact h.elim
    · split at h
      · rename_i hw
        rw [if_pos hw]
        split at h
        · split at h
          · obtain ⟨h1, h2, h3⟩ := h
            refine ⟨h1, h2.imp id fun h2 d hd => h2 d (hm d hd), runD_mem L _ _ _ _ (fun d hd => ?_) h3⟩
            rcases List.mem_cons.1 hd with rfl | hd
            · exact List.mem_cons_self ..
            · exact List.mem_cons_of_mem _ (hm d hd)
          · exact h.elim
        · obtain ⟨h1, h2⟩ := h
          exact ⟨fun d hd => h1 d (hm d hd), h2.mono fun v σ' ⟨k1, k2⟩ => ⟨fun d hd => k1 d (hm d hd), runD_mem L _ _ _ _ hm k2⟩⟩
        · exact h.elim
      · rename_i hw
        rw [if_neg hw]
        exact runD_mem L _ _ _ _ hm h


theorem evOf_put {a : Act} {o : Oper} {dst : Option Tmp} {v : Value} (h : ∀ d, dst = some d → d ∉ o.looksAt ops) : evOf ops (a.put dst v) o = evOf ops a o := by
  funext x
  cases x with
  | tmp t =>
    simp only [evOf]
    split
    · rename_i ht
      cases dst with
      | none => rfl
      | some d =>
        have hne : t ≠ d := by rintro rfl; exact h t rfl (by simpa using ht)
        simp only [aeval, Act.put, Array.getD_eq_getD_getElem?, Array.getElem?_setIfInBounds]
        rw [if_neg (fun e => hne e.symm)]
    · rfl
  | const c => rfl
  | global g => rfl
  | func f => rfl

theorem evOf_rel {ρ : LMap} {a ac : Act} (h : ARel ρ a ac) (o : Oper) : EvRel ρ (evOf ops a o) ac.eval := by
  intro x v hx
  cases x with
  | tmp t =>
    simp only [evOf] at hx
    split at hx
    · exact h.ev _ _ hx
    · cases hx
  | const c => exact h.ev _ _ hx
  | global g => exact h.ev _ _ hx
  | func f => exact h.ev _ _ hx

theorem disj_spec {a b : List Nat} (h : disj a b = true) {x : Nat} (hx : x ∈ a) : x ∉ b := by
  simp only [disj, List.all_eq_true] at h
  have := h x hx
  simpa using this
theorem disj_of {a b : List Nat} (h : ∀ x ∈ a, x ∉ b) : disj a b = true := by
  simp only [disj, List.all_eq_true]
  intro x hx
  simpa using h x hx

theorem getAll_congr {g g' : Nat → Option AObj} : ∀ (rs : List Nat), (∀ l ∈ rs, g' l = g l) → getAll g' rs = getAll g rs
  | [], _ => rfl
  | l :: rs, h => by
    simp only [getAll]
    rw [h l (List.mem_cons_self ..), getAll_congr rs fun x hx => h x (List.mem_cons_of_mem _ hx)]

theorem run_congr {p : Prim} {σ σ' : Heap} {nm : Nat} (h : ∀ l ∈ p.reads, σ'.get l = σ.get l) : p.run σ' nm = p.run σ nm := by
  unfold Prim.run
  rw [getAll_congr p.reads h]

theorem getAll_some {g : Nat → Option AObj} : ∀ {rs : List Nat} {objs : List AObj}, getAll g rs = some objs → ∀ l ∈ rs, g l ≠ none
  | [], _, _, l, hl => by cases hl
  | x :: rs, objs, h, l, hl => by
    simp only [getAll] at h
    cases hx : g x with
    | none => rw [hx] at h; cases h
    | some o =>
      rw [hx] at h
      obtain ⟨r, hr, _⟩ := Option.map_eq_some_iff.1 h
      rcases List.mem_cons.1 hl with rfl | hl
      · rw [hx]; simp
      · exact getAll_some hr l hl

theorem run_reads {p : Prim} {σ : Heap} {nm : Nat} {eff : Eff} (h : p.run σ nm = some eff) {l : Nat} (hl : l ∈ p.reads) : σ.get l ≠ none := by
  unfold Prim.run at h
  cases hg : getAll σ.get p.reads with
  | none => rw [hg] at h; cases h
  | some objs => exact getAll_some hg l hl

theorem wr_read {p : Prim} {eff : Eff} (h : wrOk p eff = true) {l : Nat} (hl : l ∈ wrOf eff) : l ∈ p.reads := by
  unfold wrOk at h
  unfold wrOf at hl
  cases he : eff.wr with
  | none => rw [he] at hl; cases hl
  | some q =>
    obtain ⟨x, o⟩ := q
    rw [he] at h hl
    simp only [List.mem_singleton] at hl
    subst hl
    simpa using h

theorem new_eq {eff : Eff} {nm l : Nat} (h : l ∈ newOf eff nm) : l = nm := by
  unfold newOf at h
  split at h
  · simpa using h
  · cases h

theorem wrt_tch {p : Prim} {eff : Eff} {nm : Nat} (h : wrOk p eff = true) {l : Nat} (hl : l ∈ wrtOf eff nm) : l ∈ tchOf p eff nm := by
  rcases List.mem_append.1 hl with h1 | h1
  · exact List.mem_append_left _ (wr_read h h1)
  · exact List.mem_append_right _ h1

theorem app_same {eff : Eff} {σ : Heap} {nm l : Nat} (h : l ∉ wrtOf eff nm) : (σ.app nm eff).get l = σ.get l := by
  have h1 : l ∉ wrOf eff := fun k => h (List.mem_append_left _ k)
  have h2 : l ∉ newOf eff nm := fun k => h (List.mem_append_right _ k)
  have e1 : (σ.wr eff.wr).get l = σ.get l := by
    cases he : eff.wr with
    | none => rfl
    | some q =>
      obtain ⟨x, o⟩ := q
      simp only [Heap.wr]
      exact Heap.upd_ne _ _ (by rintro rfl; exact h1 (by simp [wrOf, he]))
  unfold Heap.app
  cases he : eff.new with
  | none => exact e1
  | some o => simp only [Heap.nw]; rw [Heap.upd_ne _ _ (by rintro rfl; exact h2 (by simp [newOf, he]))]; exact e1

theorem Heap.ext' {σ σ' : Heap} (h1 : ∀ l, σ.get l = σ'.get l) (h2 : σ.nxt = σ'.nxt) : σ = σ' := by
  obtain ⟨g, n⟩ := σ
  obtain ⟨g', n'⟩ := σ'
  simp only at h1 h2
  subst h2
  rw [show g = g' from funext h1]

theorem app_at {eff : Eff} {σ σ' : Heap} {nm l : Nat} (h : l ∈ wrtOf eff nm) : (σ.app nm eff).get l = (σ'.app nm eff).get l := by
  by_cases h2 : l ∈ newOf eff nm
  · have e := new_eq h2
    subst e
    unfold newOf at h2
    split at h2
    · rename_i hs
      obtain ⟨o, ho⟩ := Option.isSome_iff_exists.1 hs
      simp only [Heap.app, ho, Heap.nw, Heap.upd_same]
    · cases h2
  · have h1 : l ∈ wrOf eff := (List.mem_append.1 h).resolve_right h2
    unfold wrOf at h1
    split at h1
    · rename_i x o hw
      simp only [List.mem_singleton] at h1
      subst h1
      have e1 : ∀ τ : Heap, (τ.wr eff.wr).get l = o := by intro τ; rw [hw]; simp [Heap.wr]
      unfold Heap.app
      cases he : eff.new with
      | none => simp only [Heap.nw]; rw [e1, e1]
      | some o' =>
        have hne : l ≠ nm := by rintro rfl; exact h2 (by simp [newOf, he])
        simp only [Heap.nw]
        rw [Heap.upd_ne _ _ hne, Heap.upd_ne _ _ hne, e1, e1]
    · cases h1

theorem app_comm {ex ei : Eff} {σ : Heap} {nx ni : Nat} (h : ∀ l, l ∈ wrtOf ex nx → l ∉ wrtOf ei ni) : (σ.app nx ex).app ni ei = (σ.app ni ei).app nx ex := by
  apply Heap.ext'
  · intro l
    by_cases h1 : l ∈ wrtOf ex nx
    · rw [app_same (h l h1)]
      exact app_at h1
    · rw [app_same h1]
      by_cases h2 : l ∈ wrtOf ei ni
      · exact app_at h2
      · rw [app_same h2, app_same h2, app_same h1]
  · simp [app_nxt]

theorem app_nil {eff : Eff} {σ : Heap} {nm : Nat} (h : wrtOf eff nm = []) : σ.app nm eff = σ := by
  apply Heap.ext'
  · intro l; exact app_same (by rw [h]; simp)
  · exact app_nxt _ _ _

theorem kind2_prim (hE : EnvOk E) {o : Oper} {ev : Ev} {x : AOp} (hk : kindOf o = 2) (h : aop E ev o = some x) : ∃ p, x = .prim p ∧ p.reads = [] ∧ (∀ nm eff, p.act nm [] = some eff → eff.wr = none) := by
  obtain ⟨dst, op, ty, pos, after, guard⟩ := o
  cases op <;> simp only [kindOf] at hk <;> first | (cases hk; done) | skip
  case alloc t =>
    obtain ⟨z, hz, rfl⟩ := Option.map_eq_some_iff.1 h
    exact ⟨_, rfl, rfl, fun nm eff he => by simp [Prim.newCells] at he; rw [← he]⟩
  case box t y =>
    obtain ⟨z, hz, rfl⟩ := Option.map_eq_some_iff.1 h
    exact ⟨_, rfl, rfl, fun nm eff he => by simp [Prim.newCells] at he; rw [← he]⟩
  case buildSlice t len parts =>
    obtain ⟨q, hq, rfl⟩ := Option.map_eq_some_iff.1 h
    refine ⟨q, rfl, ?_⟩
    unfold aBuildSlice at hq
    split at hq
    case h_2 => cases hq
    simp only [Option.bind_eq_some_iff] at hq
    obtain ⟨_, _, _, _, _, _, hq⟩ := hq
    split at hq
    case isFalse => cases hq
    obtain ⟨cs, _, rfl⟩ := Option.map_eq_some_iff.1 hq
    exact ⟨rfl, fun nm eff he => by simp only [Prim.newSlice, Option.some.injEq] at he; rw [← he]⟩
  case makeMap t r =>
    obtain ⟨q, hq, rfl⟩ := Option.map_eq_some_iff.1 h
    refine ⟨q, rfl, ?_⟩
    unfold aMakeMap at hq
    split at hq
    · cases hq; exact ⟨rfl, fun nm eff he => by simp at he; rw [← he]⟩
    · simp only [Option.bind_eq_some_iff] at hq
      obtain ⟨v, _, hq⟩ := hq
      split at hq
      case h_2 => cases hq
      split at hq
      case h_2 => cases hq
      cases hq
      exact ⟨rfl, fun nm eff he => by simp at he; rw [← he]⟩
  case call c =>
    split at hk <;> cases hk
  case convert s t y =>
    split at hk
    case isFalse => cases hk
    rename_i hst
    simp only [Bool.and_eq_true, beq_iff_eq] at hst
    obtain ⟨rfl, rfl⟩ := hst
    obtain ⟨q, hq, rfl⟩ := Option.map_eq_some_iff.1 h
    refine ⟨q, rfl, ?_⟩
    obtain ⟨c1, c2, c3⟩ := hE.c
    unfold aConvert at hq
    simp only [Option.bind_eq_some_iff, c1, c2] at hq
    obtain ⟨v, _, hq⟩ := hq
    split at hq
    · rename_i e1 e2 e3
      split at hq
      · cases hq; exact ⟨rfl, fun nm eff he => by simp only [Prim.newSlice, Option.some.injEq] at he; rw [← he]⟩
      · cases hq
    all_goals first
      | (rename_i e1 e2; cases e1; done)
      | (rename_i e1 e2 e3; cases e1; done)
      | (rename_i e1 e2; cases e2; done)
      | skip
    split at hq
    · unfold pureVal at hq
      obtain ⟨r, _, hq⟩ := Option.bind_eq_some_iff.1 hq
      split at hq
      · cases hq; exact ⟨rfl, fun nm eff he => by simp only [Prim.ofVal, Option.some.injEq] at he; rw [← he]⟩
      · cases hq
    · cases hq

theorem kind0_prim {o : Oper} {ev : Ev} {x : AOp} (hk : kindOf o = 0) (h : aop E ev o = some x) : ∃ p, x = .prim p := by
  cases x with
  | prim p => exact ⟨p, rfl⟩
  | call f args =>
    exfalso
    obtain ⟨dst, op, ty, pos, after, guard⟩ := o
    cases op <;> simp only [kindOf] at hk <;> first | (cases hk; done) | skip
    case call c =>
      obtain ⟨callee, xs, ts⟩ := c
      cases callee <;> simp only at hk <;> first | (cases hk; done) | skip
      simp only [aop, aCall, Option.bind_eq_some_iff, Option.map_eq_some_iff] at h
      obtain ⟨_, _, _, _, h⟩ := h
      cases h
    case pick c a b =>
      simp only [aop, Option.bind_eq_some_iff] at h
      obtain ⟨v, _, h⟩ := h
      split at h
      · obtain ⟨_, _, h⟩ := Option.map_eq_some_iff.1 h; cases h
      · cases h
    case unOp op t x =>
      simp only [aop, Option.bind_eq_some_iff, Option.map_eq_some_iff] at h
      obtain ⟨_, _, _, _, h⟩ := h; cases h
    all_goals first | (obtain ⟨_, _, h⟩ := Option.map_eq_some_iff.1 h; cases h; done) | (simp only [aop] at h; cases h; done)
  | defer f c args =>
    exfalso
    obtain ⟨dst, op, ty, pos, after, guard⟩ := o
    cases op <;> simp only [kindOf] at hk <;> first | (cases hk; done) | skip
    case call c =>
      obtain ⟨callee, xs, ts⟩ := c
      cases callee <;> simp only at hk <;> first | (cases hk; done) | skip
      simp only [aop, aCall, Option.bind_eq_some_iff, Option.map_eq_some_iff] at h
      obtain ⟨_, _, _, _, h⟩ := h
      cases h
    case pick c a b =>
      simp only [aop, Option.bind_eq_some_iff] at h
      obtain ⟨v, _, h⟩ := h
      split at h
      · obtain ⟨_, _, h⟩ := Option.map_eq_some_iff.1 h; cases h
      · cases h
    case unOp op t x =>
      simp only [aop, Option.bind_eq_some_iff, Option.map_eq_some_iff] at h
      obtain ⟨_, _, _, _, h⟩ := h; cases h
    all_goals first | (obtain ⟨_, _, h⟩ := Option.map_eq_some_iff.1 h; cases h; done) | (simp only [aop] at h; cases h; done)

def kindsOk : Nat → Nat → Bool
  | 0, 0 => true
  | 0, 1 => true
  | 0, 2 => true
  | 1, 2 => true
  | 2, 0 => true
  | 2, 2 => true
  | _, _ => false

structure Loose (ops : Array Oper) (dep : Dep) (x i : Nat) (ox oi : Oper) : Prop where
  hx : ops[x]? = some ox
  hi : ops[i]? = some oi
  ne : x ≠ i
  ix : dep i x = false
  apart : ox.apart ops oi = true
  kinds : kindsOk (kindOf ox) (kindOf oi) = true

def Will (E : Env) (ops : Array Oper) (base : Nat) (i : Nat) (oi : Oper) (a : Act) : Prop :=
  kindOf oi = 2 → Region.wanted oi (yielded ops a.tmps) = true → ∃ p eff, aop E (evOf ops a oi) oi = some (.prim p) ∧ p.reads = [] ∧ p.act (base + i) [] = some eff

theorem will_run {p : Prim} {nm : Nat} {eff : Eff} (h1 : p.reads = []) (h2 : p.act nm [] = some eff) (σ : Heap) : p.run σ nm = some eff := by
  simp [Prim.run, h1, getAll, h2]

theorem swap (hE : EnvOk E) {x i : Nat} {ox oi : Oper} (hl : Loose ops dep x i ox oi) {R : List Nat} {D : List Rec} {a : Act} {σ : Heap} (hw : Will E ops base i oi a) (hfr : σ.get (base + i) = none)
    (h : runD E ops base dep (x :: i :: R) D a σ K) : runD E ops base dep (i :: x :: R) D a σ K := by
  obtain ⟨hx, hi, hne, hix, hap, hkk⟩ := hl
  obtain ⟨ap1, ap2, ap3⟩ := Oper.apart_spec hap
  -- the other's operands stand as they did
  have evi : ∀ (a : Act) v, evOf ops (a.put ox.dst v) oi = evOf ops a oi := fun a v => evOf_put ap1
  have evx : ∀ (a : Act) v, evOf ops (a.put oi.dst v) ox = evOf ops a ox := fun a v => evOf_put ap3
  have wai : ∀ (a : Act) v, Region.wanted oi (yielded ops (a.put ox.dst v).tmps) = Region.wanted oi (yielded ops a.tmps) := fun a v => wanted_put oi a ox.dst v ap1
  have wax : ∀ (a : Act) v, Region.wanted ox (yielded ops (a.put oi.dst v).tmps) = Region.wanted ox (yielded ops a.tmps) := fun a v => wanted_put ox a oi.dst v ap3
  have com : ∀ (a : Act) v u, (a.put ox.dst v).put oi.dst u = (a.put oi.dst u).put ox.dst v := fun a v u => Act.put_comm a v u ap2
  have hnm : base + x ≠ base + i := by omega
  have perm : ∀ {r s : Rec} {D : List Rec}, ∀ d ∈ r :: s :: D, d ∈ s :: r :: D := by
    intro r s D d hd
    rcases List.mem_cons.1 hd with rfl | hd
    · exact List.mem_cons_of_mem _ (List.mem_cons_self ..)
    · rcases List.mem_cons.1 hd with rfl | hd
      · exact List.mem_cons_self ..
      · exact List.mem_cons_of_mem _ (List.mem_cons_of_mem _ hd)
  simp only [runD, hx, hi] at h ⊢
  by_cases wx : Region.wanted ox (yielded ops a.tmps) = true
  case neg =>
    rw [if_neg wx] at h
    rw [wai] at h
    by_cases wi : Region.wanted oi (yielded ops a.tmps) = true
    · rw [if_pos wi] at h ⊢
      rw [evi] at h
      split at h
      · rename_i p hp
        split at h
        · rename_i eff hr
          obtain ⟨h1, h2, h3⟩ := h
          rw [wax, if_neg wx]
          exact ⟨h1, h2, by rw [← com]; exact h3⟩
        · exact h.elim
      · obtain ⟨h1, h2⟩ := h
        exact ⟨h1, h2.mono fun v σ' ⟨k1, k2⟩ => ⟨k1, by rw [wax, if_neg wx, ← com]; exact k2⟩⟩
      · exact h.elim
    · rw [if_neg wi] at h ⊢
      rw [wax, if_neg wx, ← com]; exact h
  case pos =>
    rw [if_pos wx] at h
    split at h
    · -- x is no call
      rename_i px hpx
      split at h
      case h_2 => exact h.elim
      rename_i ex hrx
      obtain ⟨okx, clx, h⟩ := h
      rw [wai] at h
      by_cases wi : Region.wanted oi (yielded ops a.tmps) = true
      · rw [if_pos wi] at h ⊢
        rw [evi] at h
        split at h
        · -- i is no call
          rename_i pi hpi
          split at h
          case h_2 => exact h.elim
          rename_i ei hri
          obtain ⟨oki, cli, h⟩ := h
          -- what they touch
          have facts : (∀ l ∈ pi.reads, l ∉ wrtOf ex (base + x)) ∧ (∀ l ∈ px.reads, l ∉ wrtOf ei (base + i)) ∧ (∀ l, l ∈ wrtOf ex (base + x) → l ∉ wrtOf ei (base + i)) ∧
              disj (wrtOf ei (base + i)) (tchOf px ex (base + x)) = true ∧ disj (wrtOf ex (base + x)) (tchOf pi ei (base + i)) = true := by
            by_cases hk : kindOf oi = 2
            · obtain ⟨q, hq, hq1, hq2⟩ := kind2_prim hE hk hpi
              cases hq
              have hwr : ei.wr = none := by
                simp only [Prim.run, hq1, getAll, Option.bind_some] at hri
                exact hq2 _ _ hri
              have hwi : ∀ l ∈ wrtOf ei (base + i), l = base + i := by
                intro l hl
                rcases List.mem_append.1 hl with h1 | h1
                · simp [wrOf, hwr] at h1
                · exact new_eq h1
              have hrd : ∀ l ∈ px.reads, l ≠ base + i := by
                rintro l hl rfl
                exact run_reads hrx hl hfr
              have hwx : ∀ l ∈ wrtOf ex (base + x), l ≠ base + i := by
                intro l hl
                rcases List.mem_append.1 hl with h1 | h1
                · exact hrd l (wr_read okx h1)
                · rw [new_eq h1]; exact hnm
              refine ⟨fun l hl => (by rw [hq1] at hl; cases hl), fun l hl k => hrd l hl (hwi l k), fun l hl k => hwx l hl (hwi l k), disj_of fun l hl k => ?_, disj_of fun l hl k => ?_⟩
              · have := hwi l hl
                subst this
                rcases List.mem_append.1 k with h1 | h1
                · exact hrd _ h1 rfl
                · exact hnm (new_eq h1).symm
              · rcases List.mem_append.1 k with h1 | h1
                · rw [hq1] at h1; cases h1
                · exact hwx l hl (new_eq h1)
            · obtain ⟨d1, d2⟩ := (cli.resolve_left hk ⟨x, tchOf px ex (base + x), wrtOf ex (base + x), kindOf ox == 2⟩ (List.mem_cons_self ..)).resolve_left (by rw [hix]; simp)
              exact ⟨fun l hl k => disj_spec d1 k (List.mem_append_left _ hl), fun l hl k => disj_spec d2 k (List.mem_append_left _ hl), fun l hl k => disj_spec d1 hl (wrt_tch oki k), d2, d1⟩
          obtain ⟨A1, A2, A3, A4, A5⟩ := facts
          have hri' : pi.run σ (base + i) = some ei := by rw [← hri]; exact (run_congr fun l hl => app_same (A1 l hl)).symm
          have hrx' : px.run (σ.app (base + i) ei) (base + x) = some ex := by rw [← hrx]; exact run_congr fun l hl => app_same (A2 l hl)
          rw [hri']
          simp only
          refine ⟨oki, cli.imp id fun c d hd => c d (List.mem_cons_of_mem _ hd), ?_⟩
          rw [wax, if_pos wx, evx, hpx]
          simp only
          rw [hrx']
          refine ⟨okx, clx.imp id (fun c d hd => ?_), ?_⟩
          · rcases List.mem_cons.1 hd with e | hd
            · subst e; exact .inr ⟨A4, A5⟩
            · exact c d hd
          · rw [← com, ← app_comm A3]
            exact runD_mem _ _ _ _ _ perm h
        · -- i is a call
          rename_i fi argsi hpi
          obtain ⟨c1, c2⟩ := h
          have hk0 : kindOf ox = 0 := by
            have hki : kindOf oi ≠ 2 := fun hk => by obtain ⟨q, hq, _⟩ := kind2_prim hE hk hpi; cases hq
            have hki0 : kindOf oi ≠ 0 := fun hk => by obtain ⟨q, hq⟩ := kind0_prim hk hpi; cases hq
            revert hkk hki hki0
            generalize kindOf ox = m
            generalize kindOf oi = n
            intro hkk
            unfold kindsOk at hkk
            split at hkk <;> simp_all
          have hnil : wrtOf ex (base + x) = [] := by
            have := (c1 ⟨x, tchOf px ex (base + x), wrtOf ex (base + x), kindOf ox == 2⟩ (List.mem_cons_self ..)).resolve_left (by rw [hix]; simp)
            rcases this with h1 | h1
            · rw [hk0] at h1; cases h1
            · exact h1
          rw [app_nil hnil] at c2
          refine ⟨fun d hd => c1 d (List.mem_cons_of_mem _ hd), c2.mono fun v σ' ⟨k1, k2⟩ => ⟨fun d hd => k1 d (List.mem_cons_of_mem _ hd), ?_⟩⟩
          have kx := ((k1 ⟨x, tchOf px ex (base + x), wrtOf ex (base + x), kindOf ox == 2⟩ (List.mem_cons_self ..)).resolve_left (by rw [hix]; simp)).resolve_left (by rw [hk0]; simp)
          have hrx' : px.run σ' (base + x) = some ex := by rw [← hrx]; exact run_congr fun l hl => kx l (List.mem_append_left _ hl)
          rw [wax, if_pos wx, evx, hpx]
          simp only
          rw [hrx']
          refine ⟨okx, clx, ?_⟩
          rw [app_nil hnil, ← com]
          exact k2
        · exact h.elim
      · rw [if_neg wi] at h ⊢
        rw [wax, if_pos wx, evx, hpx]
        simp only
        rw [hrx]
        exact ⟨okx, clx, by rw [← com]; exact h⟩
    · -- x is a call
      rename_i fx argsx hpx
      obtain ⟨c1, c2⟩ := h
      have hkx : kindOf ox = 1 ∧ kindOf oi = 2 := by
        have hki : kindOf ox ≠ 2 := fun hk => by obtain ⟨q, hq, _⟩ := kind2_prim hE hk hpx; cases hq
        have hki0 : kindOf ox ≠ 0 := fun hk => by obtain ⟨q, hq⟩ := kind0_prim hk hpx; cases hq
        revert hkk hki hki0
        generalize kindOf ox = m
        generalize kindOf oi = n
        intro hkk
        unfold kindsOk at hkk
        split at hkk <;> simp_all
      by_cases wi : Region.wanted oi (yielded ops a.tmps) = true
      · rw [if_pos wi]
        obtain ⟨pi, ei, hpi, hq1, hq2⟩ := hw hkx.2 wi
        obtain ⟨q, hq, _, hq3⟩ := kind2_prim hE hkx.2 hpi
        cases hq
        have hwr := hq3 _ _ hq2
        have hrun := will_run hq1 hq2
        rw [hpi]
        simp only
        rw [hrun]
        simp only
        refine ⟨by simp [wrOk, hwr], .inl hkx.2, ?_⟩
        rw [wax, if_pos wx, evx, hpx]
        simp only
        refine ⟨fun d hd => ?_, ?_⟩
        · rcases List.mem_cons.1 hd with rfl | hd
          · exact .inr (.inl (by rw [hkx.2]; rfl))
          · exact c1 d hd
        · have hg : σ.app (base + i) ei = σ.over ⟨fun l => if l = base + i then ei.new else none, 0⟩ := by
            apply Heap.ext'
            · intro l
              simp only [Heap.app, Heap.wr, hwr, Heap.nw, Heap.over]
              by_cases e : l = base + i
              · subst e
                cases hn : ei.new with
                | none => simp [hn]
                | some o => simp [hn]
              · cases hn : ei.new with
                | none => simp [e]
                | some o => simp only [Heap.upd_ne _ _ e, if_neg e]
            · rw [app_nxt]; rfl
          rw [hg]
          refine (frame_over (fun l o hl => ?_) c2).mono ?_
          · simp only at hl
            split at hl
            · rename_i e; rw [e]; exact hfr
            · cases hl
          · rintro v τ ⟨σ', ⟨k1, k2⟩, _, rfl⟩
            have hg' : σ'.app (base + i) ei = σ'.over ⟨fun l => if l = base + i then ei.new else none, 0⟩ := by
              apply Heap.ext'
              · intro l
                simp only [Heap.app, Heap.wr, hwr, Heap.nw, Heap.over]
                by_cases e : l = base + i
                · subst e
                  cases hn : ei.new with
                  | none => simp [hn]
                  | some o => simp [hn]
                · cases hn : ei.new with
                  | none => simp [e]
                  | some o => simp only [Heap.upd_ne _ _ e, if_neg e]
              · rw [app_nxt]; rfl
            rw [wai, if_pos wi, evi, hpi] at k2
            simp only at k2
            rw [hrun] at k2
            simp only at k2
            obtain ⟨_, _, k2⟩ := k2
            rw [← hg, ← hg']
            refine ⟨fun d hd => ?_, by rw [← com]; exact k2⟩
            rcases List.mem_cons.1 hd with rfl | hd
            · exact .inr (.inl (by rw [hkx.2]; rfl))
            · rcases k1 d hd with e | e | e
              · exact .inl e
              · exact .inr (.inl e)
              · refine .inr (.inr fun l hl => ?_)
                by_cases h1 : l ∈ wrtOf ei (base + i)
                · exact app_at h1
                · rw [app_same h1, app_same h1]; exact e l hl
      · rw [if_neg wi]
        rw [wax, if_pos wx, evx, hpx]
        simp only
        exact ⟨c1, c2.mono fun v σ' ⟨k1, k2⟩ => ⟨k1, by rw [wai, if_neg wi] at k2; rw [← com]; exact k2⟩⟩
    · exact h.elim

theorem Will.put {i : Nat} {oi ox : Oper} {a : Act} (h : Will E ops base i oi a) (hap : ∀ d, ox.dst = some d → d ∉ oi.looksAt ops) (v : Value) : Will E ops base i oi (a.put ox.dst v) := by
  intro hk hw
  rw [evOf_put hap]
  exact h hk (by rw [← wanted_put oi a ox.dst v hap]; exact hw)

theorem front {i : Nat} {oi : Oper} {B : List Nat} (hE : EnvOk E) : ∀ (A : List Nat) (D : List Rec) (a : Act) (σ : Heap), (∀ x ∈ A, ∃ ox, Loose ops dep x i ox oi) → Will E ops base i oi a → σ.get (base + i) = none → base + i < σ.nxt →
    runD E ops base dep (A ++ i :: B) D a σ K → runD E ops base dep (i :: (A ++ B)) D a σ K
  | [], D, a, σ, _, _, _, _, h => h
  | x :: A, D, a, σ, hA, hw, hf, hn, h => by
    obtain ⟨ox, hl⟩ := hA x (List.mem_cons_self ..)
    have hA' : ∀ y ∈ A, ∃ oy, Loose ops dep y i oy oi := fun y hy => hA y (List.mem_cons_of_mem _ hy)
    refine swap hE hl hw hf ?_
    have ap1 := (Oper.apart_spec hl.apart).1
    rw [List.cons_append] at h
    simp only [runD, hl.hx] at h ⊢
    by_cases wx : Region.wanted ox (yielded ops a.tmps) = true
    · rw [if_pos wx] at h ⊢
      split at h
      · split at h
        · rename_i p _ eff hr
          obtain ⟨h1, h2, h3⟩ := h
          exact ⟨h1, h2, front hE A _ _ _ hA' (hw.put ap1 _) (app_gone hr h1 (by have := hl.ne; omega) hf) (by rw [app_nxt]; exact hn) h3⟩
        · exact h.elim
      · obtain ⟨h1, h2⟩ := h
        exact ⟨h1, h2.strong.mono fun v σ' ⟨⟨k1, k2⟩, _, k3, k4⟩ => ⟨k1, front hE A _ _ _ hA' (hw.put ap1 _) (k4 _ hn hf) (by omega) k2⟩⟩
      · exact h.elim
    · rw [if_neg wx] at h ⊢
      exact front hE A _ _ _ hA' (hw.put ap1 _) hf hn h

theorem will_of {i : Nat} {oi : Oper} {B : List Nat} (hE : EnvOk E) : ∀ (A : List Nat) (D : List Rec) (a : Act) (σ : Heap) (ρ : LMap) (w : World) (ac : Act), (∀ x ∈ A, ∃ ox, Loose ops dep x i ox oi) → ops[i]? = some oi →
    Rel ρ σ w → ARel ρ a ac → (∀ x ∈ A, ρ (base + x) = none) → base + ops.size ≤ σ.nxt → A.Nodup → runD E ops base dep (A ++ i :: B) D a σ K → Will E ops base i oi a
  | [], D, a, σ, ρ, w, ac, _, hi, _, _, _, _, _, h => by
    intro hk hw
    simp only [List.nil_append, runD, hi] at h
    rw [if_pos hw] at h
    split at h
    · rename_i p hp
      split at h
      · rename_i eff hr
        obtain ⟨q, hq, h1, h2⟩ := kind2_prim hE hk hp
        cases hq
        refine ⟨p, eff, hp, h1, ?_⟩
        simpa [Prim.run, h1, getAll] using hr
      · exact h.elim
    · rename_i f args hp
      obtain ⟨q, hq, _⟩ := kind2_prim hE hk hp
      cases hq
    · exact h.elim
  | x :: A, D, a, σ, ρ, w, ac, hA, hi, hrel, ha, hfr, hn, hnd, h => by
    obtain ⟨ox, hl⟩ := hA x (List.mem_cons_self ..)
    have hA' : ∀ y ∈ A, ∃ oy, Loose ops dep y i oy oi := fun y hy => hA y (List.mem_cons_of_mem _ hy)
    have ap1 := (Oper.apart_spec hl.apart).1
    have back : ∀ v, Will E ops base i oi (a.put ox.dst v) → Will E ops base i oi a := by
      intro v h1 hk hw
      have := h1 hk (by rw [wanted_put oi a ox.dst v ap1]; exact hw)
      rw [evOf_put ap1] at this
      exact this
    have hxs : x < ops.size := (Array.getElem?_eq_some_iff.1 hl.hx).1
    have hnd' := List.nodup_cons.1 hnd
    rw [List.cons_append] at h
    simp only [runD, hl.hx] at h
    by_cases wx : Region.wanted ox (yielded ops a.tmps) = true
    · rw [if_pos wx] at h
      split at h
      · split at h
        · rename_i p hp _ eff hr
          obtain ⟨h1, h2, h3⟩ := h
          obtain ⟨ρ', w', v', k1, k2, k3, k4, _⟩ := prim_step hE hrel ha (evOf_rel ha ox) hp (hfr x (List.mem_cons_self ..)) (by omega) hr
          refine back _ (will_of hE A _ _ _ ρ' w' _ hA' hi k1 k3 (fun y hy => ?_) (by rw [app_nxt]; exact hn) hnd'.2 h3)
          rw [k4 _ (by rintro e; exact hnd'.1 (by have : y = x := by omega
                                                  rw [← this]; exact hy))]
          exact hfr y (List.mem_cons_of_mem _ hy)
        · exact h.elim
      · rename_i f args hp
        obtain ⟨h1, h2⟩ := h
        obtain ⟨args', k1, _⟩ := call_ok hE hp (evOf_rel ha ox)
        obtain ⟨v, v', ρ', σ', w', b1, b2, b3, b4, _, b5⟩ := h2.some hrel k1
        refine back v (will_of hE A _ _ _ ρ' w' _ hA' hi b1 ((ha.mono b2.le).put b4 _) (fun y hy => ?_) (Nat.le_trans hn b2.nxt) hnd'.2 b5)
        obtain ⟨oy, hly⟩ := hA' y hy
        have := (Array.getElem?_eq_some_iff.1 hly.hx).1
        rw [b3.old _ (by omega)]
        exact hfr y (List.mem_cons_of_mem _ hy)
      · exact h.elim
    · rw [if_neg wx] at h
      exact back _ (will_of hE A _ _ _ ρ w _ hA' hi hrel (ha.put (VRel.undef_ ρ) _) (fun y hy => hfr y (List.mem_cons_of_mem _ hy)) hn hnd'.2 h)

structure DrawOk (ops : Array Oper) (dep : Dep) (L₀ : List Nat) : Prop where
  nodup : L₀.Nodup
  mem : ∀ i, i ∈ L₀ ↔ i < ops.size
  pw : L₀.Pairwise fun x y => dep x y = false ∧ (dep y x = true ∨ ∃ ox oy, ops[x]? = some ox ∧ ops[y]? = some oy ∧ ox.apart ops oy = true ∧ kindsOk (kindOf ox) (kindOf oy) = true)
  edge : ∀ x o, ops[x]? = some o → ∀ e ∈ o.after, Region.binds .any e = true → e.on < x ∧ dep x e.on = true
  back : ∀ x y, dep x y = true → ∃ o, ops[x]? = some o ∧ ∃ e ∈ o.after, Region.binds .any e = true ∧ (e.on = y ∨ dep e.on y = true)

theorem wpAny_mono {P : Program} {Q Q' : Exit → Act → World → Prop} (hq : ∀ e a w, Q e a w → Q' e a w) : ∀ (fuel : Nat) (listed : Array Bool) (a : Act) (w : World), wpAny P .any ops Q fuel listed a w → wpAny P .any ops Q' fuel listed a w
  | 0, listed, a, w, h => ⟨h.1, hq _ _ _ h.2⟩
  | fuel + 1, listed, a, w, h => by
    refine ⟨fun hr => hq _ _ _ (h.1 hr), fun i hi => ?_⟩
    have h1 := h.2 i hi
    unfold wpOp at h1 ⊢
    split
    · rename_i hn; rw [hn] at h1; exact wpAny_mono hq fuel _ a w h1
    · rename_i o ho
      rw [ho] at h1
      simp only at h1
      split
      · rename_i hw
        rw [if_pos hw] at h1
        rcases h1 with h1 | ⟨h1, h2⟩
        · exact .inl (upon_mono' (fun a w => wpAny_mono hq fuel _ a w) hq h1)
        · exact .inr ⟨h1, LetsOut.mono' hq h2⟩
      · rename_i hw
        rw [if_neg hw] at h1
        exact wpAny_mono hq fuel _ _ w h1

theorem runD_sound (hE : EnvOk E) {L₀ : List Nat} (hs : DrawOk ops dep L₀) : ∀ (fuel : Nat) (L : List Nat) (listed : Array Bool) (D : List Rec) (a : Act) (σ : Heap) (ρ : LMap) (w : World) (ac : Act),
    runD E ops base dep L D a σ K → Rel ρ σ w → ARel ρ a ac → L.Sublist L₀ → (∀ j, j < ops.size → listed[j]? = some (decide (j ∉ L))) → listed.size = ops.size →
    (∀ k o, k ∉ L → ops[k]? = some o → ∀ e ∈ o.after, Region.binds .any e = true → e.on ∉ L) →
    (∀ i ∈ L, ρ (base + i) = none) → base + ops.size ≤ σ.nxt → L.length ≤ fuel →
    wpAny E.P .any ops (fun e ac' w' => e = .normal ∧ FineB base ρ σ w K ac' w') fuel listed ac w := by
  intro fuel
  induction fuel with
  | zero =>
    intro L listed D a σ ρ w ac h hrel ha hsub hl hls hdc hfr hn hlen
    have hL : L = [] := by simpa using hlen
    subst hL
    refine ⟨?_, rfl, ρ, a, σ, hrel, Frm.refl _ _ _, FinB.refl _ _ _, ha, h⟩
    apply List.eq_nil_iff_forall_not_mem.2
    intro j hj
    obtain ⟨h1, o, ho, _⟩ := mem_ready.1 hj
    have hjs : j < ops.size := (Array.getElem?_eq_some_iff.1 ho).1
    rw [Array.getD_eq_getD_getElem?, hl j hjs] at h1
    simp at h1
  | succ fuel ih =>
    intro L listed D a σ ρ w ac h hrel ha hsub hl hls hdc hfr hn hlen
    have hnd : L.Nodup := hsub.nodup hs.nodup
    have hpw := hs.pw.sublist hsub
    have unl : ∀ j, j < ops.size → (listed.getD j true = false ↔ j ∈ L) := by
      intro j hj
      rw [Array.getD_eq_getD_getElem?, hl j hj]
      simp
    have lst : ∀ j, j < ops.size → (listed.getD j false = true ↔ j ∉ L) := by
      intro j hj
      rw [Array.getD_eq_getD_getElem?, hl j hj]
      simp
    refine ⟨fun hr => ?_, fun i hi => ?_⟩
    · -- nothing is ready: all is done
      cases hL : L with
      | nil => subst hL; exact ⟨rfl, ρ, a, σ, hrel, Frm.refl _ _ _, FinB.refl _ _ _, ha, h⟩
      | cons x L' =>
        exfalso
        have hx : x ∈ L := by rw [hL]; exact List.mem_cons_self ..
        have hxs : x < ops.size := (hs.mem x).1 (hsub.subset hx)
        have : x ∈ Region.ready .any ops listed := by
          refine mem_ready.2 ⟨(unl x hxs).2 hx, _, Array.getElem?_eq_getElem hxs, fun e he hb => ?_⟩
          obtain ⟨e1, e2⟩ := hs.edge x _ (Array.getElem?_eq_getElem hxs) e he hb
          refine (lst _ (by omega)).2 fun hin => ?_
          rw [hL] at hin hpw
          rcases List.mem_cons.1 hin with e3 | e3
          · omega
          · have := ((List.pairwise_cons.1 hpw).1 _ e3).1
            rw [e2] at this; cases this
        rw [hr] at this; cases this
    · obtain ⟨h1, oi, hoi, hpre⟩ := mem_ready.1 hi
      have his : i < ops.size := (Array.getElem?_eq_some_iff.1 hoi).1
      have hiL : i ∈ L := (unl i his).1 h1
      obtain ⟨A, B, rfl⟩ := List.append_of_mem hiL
      -- none of those ahead of it is asked for
      have closed : ∀ k, k ∉ A ++ i :: B → ∀ y, dep k y = true → y ∉ A ++ i :: B := by
        intro k
        induction k using Nat.strongRecOn with
        | _ k ihk =>
          intro hk y hy
          obtain ⟨o, ho, e, he, hb, hor⟩ := hs.back k y hy
          obtain ⟨e1, _⟩ := hs.edge k o ho e he hb
          have hon := hdc k o hk ho e he hb
          rcases hor with rfl | hor
          · exact hon
          · exact ihk _ e1 hon y hor
      have free : ∀ x ∈ A, dep i x = false := by
        intro x hx
        cases hd : dep i x with
        | false => rfl
        | true =>
          exfalso
          obtain ⟨o, ho, e, he, hb, hor⟩ := hs.back i x hd
          rw [hoi] at ho; cases ho
          obtain ⟨e1, _⟩ := hs.edge i oi hoi e he hb
          have hon : e.on ∉ A ++ i :: B := (lst _ (by omega)).1 (hpre e he hb)
          rcases hor with rfl | hor
          · exact hon (List.mem_append_left _ hx)
          · exact closed _ hon x hor (List.mem_append_left _ hx)
      have loose : ∀ x ∈ A, ∃ ox, Loose ops dep x i ox oi := by
        intro x hx
        have hp := (List.pairwise_append.1 hpw).2.2 x hx i (List.mem_cons_self ..)
        rcases hp.2 with hd | ⟨ox, oy, k1, k2, k3, k4⟩
        · rw [free x hx] at hd; cases hd
        · rw [hoi] at k2; cases k2
          refine ⟨ox, k1, hoi, ?_, free x hx, k3, k4⟩
          rintro rfl
          have := (List.nodup_append.1 hnd).2.2 x hx x (List.mem_cons_self ..)
          exact this rfl
      have hndA := (List.nodup_append.1 hnd).1
      have hwill : Will E ops base i oi a := will_of hE A D a σ ρ w ac loose hoi hrel ha (fun x hx => hfr x (List.mem_append_left _ hx)) hn hndA h
      have hf0 := hrel.get_none (hfr i hiL)
      have h' := front hE A D a σ loose hwill hf0 (by omega) h
      have hlen' : (A ++ B).length ≤ fuel := by simp at hlen ⊢; omega
      have hsub' : (A ++ B).Sublist L₀ := by
        refine List.Sublist.trans ?_ hsub
        exact List.Sublist.append_left (List.sublist_cons_self _ _) A
      have hiAB : i ∉ A ++ B := by
        intro hin
        have hnd2 := List.nodup_append.1 hnd
        rcases List.mem_append.1 hin with k | k
        · exact hnd2.2.2 i k i (List.mem_cons_self ..) rfl
        · exact (List.nodup_cons.1 hnd2.2.1).1 k
      have memAB : ∀ j, j ≠ i → (j ∈ A ++ B ↔ j ∈ A ++ i :: B) := by
        intro j hj
        simp [hj]
      have hl' : ∀ j, j < ops.size → (listed.setIfInBounds i true)[j]? = some (decide (j ∉ A ++ B)) := by
        intro j hj
        by_cases e : i = j
        · subst e
          rw [Array.getElem?_setIfInBounds_self, if_pos (by omega)]
          simp only [hiAB, not_false_eq_true, decide_true]
        · rw [Array.getElem?_setIfInBounds_ne e, hl j hj]
          have := memAB j (fun h => e h.symm)
          simp only [this]
      have hdc' : ∀ k o, k ∉ A ++ B → ops[k]? = some o → ∀ e ∈ o.after, Region.binds .any e = true → e.on ∉ A ++ B := by
        intro k o hk ho e he hb hin
        have hin' : e.on ∈ A ++ i :: B := by
          rcases List.mem_append.1 hin with q | q
          · exact List.mem_append_left _ q
          · exact List.mem_append_right _ (List.mem_cons_of_mem _ q)
        by_cases e1 : k = i
        · subst e1
          rw [hoi] at ho; cases ho
          obtain ⟨e2, _⟩ := hs.edge _ oi hoi e he hb
          exact (lst _ (by omega)).1 (hpre e he hb) hin'
        · exact hdc k o (fun hk' => hk ((memAB k e1).2 hk')) ho e he hb hin'
      have hfr' : ∀ j ∈ A ++ B, j ∈ A ++ i :: B := by
        intro j hj
        rcases List.mem_append.1 hj with q | q
        · exact List.mem_append_left _ q
        · exact List.mem_append_right _ (List.mem_cons_of_mem _ q)
      have go : ∀ {ρ₁ : LMap} {σ₁ : Heap} {w₁ : World} {a₁ ac₁ : Act} {D₁ : List Rec}, runD E ops base dep (A ++ B) D₁ a₁ σ₁ K → Rel ρ₁ σ₁ w₁ → Frm ρ σ w ρ₁ σ₁ w₁ → FinB base ρ σ ρ₁ σ₁ → ARel ρ₁ a₁ ac₁ →
          (∀ j ∈ A ++ B, ρ₁ (base + j) = none) → wpAny E.P .any ops (fun e ac' w' => e = .normal ∧ FineB base ρ σ w K ac' w') fuel (listed.setIfInBounds i true) ac₁ w₁ := by
        intro ρ₁ σ₁ w₁ a₁ ac₁ D₁ g1 g2 g3 g4 g5 g6
        have := ih (A ++ B) _ D₁ a₁ σ₁ ρ₁ w₁ ac₁ g1 g2 g5 hsub' hl' (by simpa using hls) hdc' g6 (Nat.le_trans hn g3.nxt) hlen'
        refine wpAny_mono (fun e ac' w' he => ?_) _ _ _ _ this
        obtain ⟨he, ρ', a', σ', k1, k2, k3, k4, k5⟩ := he
        exact ⟨he, ρ', a', σ', k1, g3.trans k2, g4.trans k3, k4, k5⟩
      simp only [wpOp, hoi]
      simp only [runD, hoi] at h'
      rw [← yielded_rel ha.tmps ops]
      split
      · rename_i hw
        rw [if_pos hw] at h'
        left
        split at h'
        · rename_i p hop
          split at h'
          · rename_i eff hrun
            obtain ⟨hwr, _, h'⟩ := h'
            obtain ⟨ρ', w', v', k1, k2, k3, k4, k5⟩ := prim_step hE hrel ha (evOf_rel ha oi) hop (hfr i hiL) (by omega) hrun
            exact k5 _ _ (go h' k1 k2 ⟨fun l hl => k4 l (by omega), fun l hl hg => app_gone hrun hwr (by omega) hg⟩ k3
              (fun j hj => by rw [k4 _ (by rintro e; exact hiAB (by have : j = i := by omega
                                                                    rw [← this]; exact hj))]; exact hfr j (hfr' j hj)))
          · exact h'.elim
        · rename_i f args hop
          obtain ⟨_, h'⟩ := h'
          obtain ⟨args', k1, k2⟩ := call_ok hE hop (evOf_rel ha oi)
          unfold Oper.wp
          rw [k2 w]
          simp only [Oper.upon]
          refine (h' ρ w args' hrel k1).mono ?_
          rintro e w' ⟨v, v', ρ', σ', rfl, b1, b2, b3, b4, _, b5⟩
          exact go b5 b1 b2 (b3.toB (by omega)) ((ha.mono b2.le).put b4 _) (fun j hj => by
            have := (hs.mem j).1 (hsub'.subset hj)
            rw [b3.old _ (by omega)]; exact hfr j (hfr' j hj))
        · exact h'.elim
      · rename_i hw
        rw [if_neg hw] at h'
        exact go h' hrel (Frm.refl _ _ _) (FinB.refl _ _ _) (ha.put (VRel.undef_ ρ) _) (fun j hj => hfr j (hfr' j hj))

end
end Go.Proofs.YtfchjhfccnodpaaGreat
end

section
namespace Go.Proofs.YtfchjhfccnodpaaGreat
set_option linter.unusedSimpArgs false
set_option linter.unusedVariables false

abbrev AQ := Exit → Act → Heap → Prop

def AWP (P : Program) (c : Code) (Q : AQ) (a : Act) (σ : Heap) : Prop :=
  ∀ ρ w ac, Rel ρ σ w → ARel ρ a ac → c.wp P (fun e ac' w' => Fine ρ σ w (Q e) ac' w') ac w

theorem Fine.trans {ρ ρ₁ : LMap} {σ σ₁ : Heap} {w w₁ w' : World} {K : Act → Heap → Prop} {ac' : Act} (h1 : Frm ρ σ w ρ₁ σ₁ w₁) (h2 : Fin ρ σ ρ₁ σ₁) (h : Fine ρ₁ σ₁ w₁ K ac' w') : Fine ρ σ w K ac' w' := by
  obtain ⟨ρ', a', σ', k1, k2, k3, k4, k5⟩ := h
  exact ⟨ρ', a', σ', k1, h1.trans k2, h2.trans k3 h1.nxt, k4, k5⟩

theorem Fine.mono {ρ : LMap} {σ : Heap} {w w' : World} {K K' : Act → Heap → Prop} {ac' : Act} (h : Fine ρ σ w K ac' w') (hk : ∀ a σ, K a σ → K' a σ) : Fine ρ σ w K' ac' w' := by
  obtain ⟨ρ', a', σ', k1, k2, k3, k4, k5⟩ := h
  exact ⟨ρ', a', σ', k1, k2, k3, k4, hk _ _ k5⟩

theorem Fine.here {ρ : LMap} {σ : Heap} {w : World} {K : Act → Heap → Prop} {a ac : Act} (hr : Rel ρ σ w) (ha : ARel ρ a ac) (h : K a σ) : Fine ρ σ w K ac w :=
  ⟨ρ, a, σ, hr, Frm.refl _ _ _, Fin.refl _ _, ha, h⟩

section
variable {P : Program} {Q : AQ} {a : Act} {σ : Heap}

theorem AWP.mono {c : Code} {Q' : AQ} (h : AWP P c Q a σ) (hq : ∀ e a σ, Q e a σ → Q' e a σ) : AWP P c Q' a σ :=
  fun ρ w ac hr ha => wp_mono (h ρ w ac hr ha) fun e _ _ hf => hf.mono (hq e)

theorem awp_skip (h : Q .normal a σ) : AWP P .skip Q a σ := fun _ _ _ hr ha => wp_skip (.here hr ha h)
theorem awp_label {l : Nat} (h : Q .normal a σ) : AWP P (.label l) Q a σ := fun _ _ _ hr ha => wp_label (.here hr ha h)
theorem awp_exit {id : Nat} (h : Q (.exit id) a σ) : AWP P (.exit id) Q a σ := fun _ _ _ hr ha => wp_exit (.here hr ha h)
theorem awp_ret (h : Q .ret a σ) : AWP P .ret Q a σ := fun _ _ _ hr ha => wp_ret (.here hr ha h)

def aThen (K : Act → Heap → Prop) (Q : AQ) : AQ
  | .normal, a, σ => K a σ
  | e, a, σ => Q e a σ

theorem awp_seq {x y : Code} (h : AWP P x (aThen (AWP P y Q) Q) a σ) : AWP P (.seq x y) Q a σ := by
  intro ρ w ac hr ha
  refine wp_seq (wp_mono (h ρ w ac hr ha) fun e ac' w' hf => ?_)
  cases e with
  | normal =>
    obtain ⟨ρ', a', σ', k1, k2, k3, k4, k5⟩ := hf
    exact wp_mono (k5 ρ' w' ac' k1 k4) fun e _ _ hf => hf.trans k2 k3
  | exit id => exact hf
  | goto l => exact hf
  | ret => exact hf
  | panic c => exact hf
  | outgrown => exact hf

theorem awp_cond {c : Operand} {x y : Code} {t : Bool} (hc : aeval a c = some (.bool t)) (h : AWP P (if t then x else y) Q a σ) : AWP P (.cond c x y) Q a σ := by
  intro ρ w ac hr ha
  have hv := ha.ev _ _ hc
  generalize hy : ac.eval c = v at hv
  cases hv
  exact wp_cond hy (h ρ w ac hr ha)

def aBlock (id : Nat) (Q : AQ) : AQ
  | .exit id', a, σ => if id' = id then Q .normal a σ else Q (.exit id') a σ
  | e, a, σ => Q e a σ

theorem awp_block {id : Nat} {c : Code} (h : AWP P c (aBlock id Q) a σ) : AWP P (.block id c) Q a σ := by
  intro ρ w ac hr ha
  refine wp_block (wp_mono (h ρ w ac hr ha) fun e ac' w' hf => ?_)
  cases e with
  | exit id' =>
    simp only [Exit.inBlock]
    split
    · rename_i e; exact hf.mono fun a σ hq => by simpa [aBlock, e] using hq
    · rename_i e; exact hf.mono fun a σ hq => by simpa [aBlock, e] using hq
  | normal => exact hf
  | goto l => exact hf
  | ret => exact hf
  | panic c => exact hf
  | outgrown => exact hf

theorem awp_loop {c : Code} {β : Type} (I : β → Act → Heap → Prop) (μ : β → Nat) (b₀ : β) (h₀ : I b₀ a σ)
    (round : ∀ b a σ, I b a σ → AWP P c (aThen (fun a' σ' => ∃ b', I b' a' σ' ∧ μ b' < μ b) Q) a σ) : AWP P (.loop c) Q a σ := by
  intro ρ w ac hr ha b k cs
  have key : ∀ n (i : β) a σ ρ w ac, μ i = n → I i a σ → Rel ρ σ w → ARel ρ a ac →
      ∃ e a' w', Fine ρ σ w (Q e) a' w' ∧ Arrives P (lone (b.at ac (.code c :: .inLoop c :: k)) cs w) b k cs e a' w' := by
    intro n
    induction n using Nat.strongRecOn with
    | _ n ih =>
      intro i a σ ρ w ac hn hI hr ha
      obtain ⟨e, a₁, w₁, hq, harr⟩ := round i a σ hI ρ w ac hr ha b (.inLoop c :: k) cs
      cases e with
      | normal =>
        obtain ⟨ρ', a', σ', k1, k2, k3, k4, i', k5, k6⟩ := hq
        obtain ⟨e₂, a₂, w₂, hq₂, harr₂⟩ := ih (μ i') (hn ▸ k6) i' a' σ' ρ' w₁ a₁ rfl k5 k1 k4
        exact ⟨e₂, a₂, w₂, hq₂.trans k2 k3, .of_steps (Steps.trans harr (.one step_inLoop)) harr₂⟩
      | exit id => exact ⟨_, a₁, w₁, hq, .pass (x := .inLoop c) rfl (fun _ _ => .inl (by simp)) harr⟩
      | goto l => exact ⟨_, a₁, w₁, hq, .pass (x := .inLoop c) rfl (fun _ _ => .inl (by simp)) harr⟩
      | ret => exact ⟨_, a₁, w₁, hq, .pass (x := .inLoop c) rfl (fun _ _ => .inl (by simp)) harr⟩
      | panic ch => exact ⟨_, a₁, w₁, hq, .pass (x := .inLoop c) rfl (fun _ _ => .inl (by simp)) harr⟩
      | outgrown => exact ⟨_, a₁, w₁, hq, .pass (x := .inLoop c) rfl (fun _ _ => .inl (by simp)) harr⟩
  obtain ⟨e, a', w', hq, harr⟩ := key _ b₀ a σ ρ w ac rfl h₀ hr ha
  exact ⟨e, a', w', hq, .of_steps (.one step_loop) harr⟩

theorem range_nodup (n : Nat) : (List.range n).Nodup := List.nodup_range

theorem awp_region {E : Env} (hE : EnvOk E) {id : Nat} {ops : Array Oper} (h : runL E ops σ.nxt (List.range ops.size) a (σ.bump ops.size) (Q .normal)) : AWP E.P (.region id ops false) Q a σ := by
  intro ρ w ac hr ha
  have hr' := hr.bump ops.size
  have h1 := runL_sound hE (List.range ops.size) a _ ρ w ac h hr' ha List.nodup_range (fun i _ hi => by
    cases hp : ρ (σ.nxt + i) with
    | none => rfl
    | some p => have := (hr.bnd _ _ hp).1; omega) (by simp)
  refine wp_region (wpOps_mono (fun e ac' w' he => ?_) _ _ _ h1)
  obtain ⟨rfl, ρ', a', σ', k1, k2, k3, k4, k5⟩ := he
  refine ⟨ρ', a', σ', k1, ⟨k2.le, k2.os, k2.tape, k2.output, k2.size, by have := k2.nxt; simp at this; omega, k2.blk, k2.own⟩, ⟨k3.old, k3.gone⟩, k4, k5⟩

theorem awp_draw {E : Env} (hE : EnvOk E) (hm : E.P.follows .mixedOrders = true) {id : Nat} {ops : Array Oper} {dep : Dep} {L₀ : List Nat} (hs : DrawOk ops dep L₀)
    (h : runD E ops σ.nxt dep L₀ [] a (σ.bump ops.size) (Q .normal)) : AWP E.P (.region id ops true) Q a σ := by
  intro ρ w ac hr ha
  have hr' := hr.bump ops.size
  have hr2 : Rel ρ (σ.bump ops.size) { w with drawn := w.drawn + 1 } := (step_same (w' := { w with drawn := w.drawn + 1 }) hr' ⟨rfl, rfl, rfl⟩ rfl).1
  have hf2 : Frm ρ (σ.bump ops.size) w ρ (σ.bump ops.size) { w with drawn := w.drawn + 1 } := (step_same (w' := { w with drawn := w.drawn + 1 }) hr' ⟨rfl, rfl, rfl⟩ rfl).2
  have h1 := runD_sound hE hs ops.size L₀ (Array.replicate ops.size false) [] a _ ρ { w with drawn := w.drawn + 1 } ac h hr2 ha (List.Sublist.refl _)
    (fun j hj => by
      have : j ∈ L₀ := (hs.mem j).2 hj
      simp [hj, this]) (by simp)
    (fun k o hk ho => absurd ((hs.mem k).2 (Array.getElem?_eq_some_iff.1 ho).1) hk)
    (fun i hi => by
      cases hp : ρ (σ.nxt + i) with
      | none => rfl
      | some p => have := (hr.bnd _ _ hp).1; omega) (by simp)
    (by
      have : L₀.length ≤ (List.range ops.size).length := (List.Nodup.length_le_of_subset hs.nodup fun i hi => List.mem_range.2 ((hs.mem i).1 hi))
      simpa using this)
  refine wp_region_any hm (wpAny_mono (fun e ac' w' he => ?_) _ _ _ _ h1)
  obtain ⟨rfl, ρ', a', σ', k1, k2, k3, k4, k5⟩ := he
  have k2' := hf2.trans k2
  exact ⟨ρ', a', σ', k1, ⟨k2'.le, k2'.os, k2'.tape, k2'.output, k2'.size, by have := k2'.nxt; simp at this; omega, k2'.blk, k2'.own⟩, ⟨k3.old, k3.gone⟩, k4, k5⟩

theorem DfsRel.nil_inv {ρ : LMap} {l : List Deferred} (h : DfsRel ρ [] l) : l = [] := by cases h; rfl


def aRes1 (P : Program) (a : Act) (σ : Heap) : ResultVar → Option Value
  | .tmp t => some (a.tmps.getD t undef)
  | .cell ad t => match a.tmps.getD ad undef with
    | .pointer (some ⟨l, o, none⟩) => match σ.get l with
      | some (.cells c _ _) => partO P t c o
      | _ => none
    | _ => none

def aResL (P : Program) (a : Act) (σ : Heap) : List ResultVar → Option (List Value)
  | [] => some []
  | r :: rs => (aRes1 P a σ r).bind fun v => (aResL P a σ rs).map (v :: ·)

def aOne : List Value → Value
  | [v] => v
  | vs => .tuple vs.toArray

def aRes (P : Program) (fn : Func) (a : Act) (σ : Heap) : Option Value := (aResL P a σ fn.results.toList).map aOne

theorem res1_ok {ρ : LMap} {w : World} {ac : Act} {r : ResultVar} {v : Value} (hr : Rel ρ σ w) (ha : ARel ρ a ac) (h : aRes1 P a σ r = some v) :
    ∃ v', ((match r with | .tmp t => pure (ac.tmps.getD t undef) | .cell a t => do loadVar t (← asAddr (ac.tmps.getD a undef)) : Sem Value)).run P w = .ok v' w ∧ VRel ρ v v' := by
  cases r with
  | tmp t => simp only [aRes1, Option.some.injEq] at h; subst h; exact ⟨_, rfl, getD_rel ha.tmps t⟩
  | cell ad t =>
    simp only [aRes1] at h
    have hg := getD_rel ha.tmps ad
    generalize hx : ac.tmps.getD ad undef = x at hg
    split at h
    case h_2 => cases h
    rename_i l o heq
    rw [heq] at hg
    split at h
    case h_2 => cases h
    rename_i c sz ro hl
    cases hg with
    | ptr hpl =>
      obtain ⟨_, _, C, T, fz, hh, hc, _⟩ := cells_of hr hl hpl
      obtain ⟨v', h1, h2⟩ := run_loadVar hh hc h
      exact ⟨v', by simp only [hx, asAddr, Sem.run_bind, Sem.run_pure, Result.andThen_ok, h1], h2⟩

theorem resL_ok {ρ : LMap} {w : World} (f : ResultVar → Sem Value) (hf : ∀ r v, aRes1 P a σ r = some v → ∃ v', (f r).run P w = .ok v' w ∧ VRel ρ v v') : ∀ (rs : List ResultVar) (vs : List Value), aResL P a σ rs = some vs →
    ∃ vs', (rs.mapM f).run P w = .ok vs' w ∧ VlRel ρ vs vs'
  | [], vs, h => by simp [aResL] at h; subst h; exact ⟨[], by simp, .nil ρ⟩
  | r :: rs, vs, h => by
    simp only [aResL, Option.bind_eq_some_iff] at h
    obtain ⟨v, h1, h2⟩ := h
    obtain ⟨us, h3, rfl⟩ := Option.map_eq_some_iff.1 h2
    obtain ⟨v', k1, k2⟩ := hf r v h1
    obtain ⟨us', k3, k4⟩ := resL_ok f hf rs us h3
    refine ⟨v' :: us', ?_, .cons k2 k4⟩
    simp only [List.mapM_cons, Sem.run_bind, k1, Result.andThen_ok, k3, Sem.run_pure]

def rvSem (tmps : Array Value) : ResultVar → Sem Value
  | .tmp t => pure (tmps.getD t undef)
  | .cell a t => do loadVar t (← asAddr (tmps.getD a undef))

theorem results_eq (fn : Func) (tmps : Array Value) : results fn tmps = (do
    let vs ← fn.results.mapM (rvSem tmps)
    pure (if h : vs.size = 1 then vs[0] else .tuple vs)) := rfl

theorem res_ok {ρ : LMap} {w : World} {ac : Act} {fn : Func} {v : Value} (hr : Rel ρ σ w) (ha : ARel ρ a ac) (h : aRes P fn a σ = some v) :
    ∃ v', (results fn ac.tmps).run P w = .ok v' w ∧ VRel ρ v v' := by
  obtain ⟨vs, h1, rfl⟩ := Option.map_eq_some_iff.1 h
  have key : ∃ vs', VlRel ρ vs vs' ∧ (results fn ac.tmps).run P w = .ok (if h : vs'.toArray.size = 1 then vs'.toArray[0] else .tuple vs'.toArray) w := by
    rw [results_eq, Array.mapM_eq_mapM_toList]
    obtain ⟨vs', k1, k2⟩ := resL_ok (P := P) (a := a) (σ := σ) (ρ := ρ) (w := w) (rvSem ac.tmps) (fun r v hv => by
      obtain ⟨v', q1, q2⟩ := res1_ok (P := P) hr ha hv
      cases r with
      | tmp t => exact ⟨v', q1, q2⟩
      | cell ad t => exact ⟨v', q1, q2⟩) _ _ h1
    refine ⟨vs', k2, ?_⟩
    simp only [Sem.run_bind, Sem.run_map]
    rw [k1]
    rfl
  obtain ⟨vs', k2, hres⟩ := key
  refine ⟨_, hres, ?_⟩
  match vs, vs', k2 with
  | [], vs', k2 => rw [k2.inv_nil]; exact VRel.undef_ ρ
  | [v], vs', k2 =>
    obtain ⟨v', b, rfl, h1, h2⟩ := k2.inv_cons
    rw [h2.inv_nil]
    simpa [aOne] using h1
  | v :: u :: vs, vs', k2 =>
    have h0 := k2.toArray
    have hs : vs'.toArray.size ≠ 1 := by have := k2.1; simp at this ⊢; omega
    rw [dif_neg hs]
    exact .tuple h0.1 h0.2

def aEntry (fn : Func) (args : Array Value) : Act := { tmps := args ++ Array.replicate (fn.ntmps - args.size) undef, defers := [] }

theorem entry_rel {ρ : LMap} {args args' : Array Value} (h : VsRel ρ args args') (fn : Func) : ARel ρ (aEntry fn args) (aEntry fn args') := by
  refine ⟨?_, .nil⟩
  have hr : VlRel ρ (List.replicate (fn.ntmps - args.size) undef) (List.replicate (fn.ntmps - args.size) undef) := by
    refine ⟨rfl, fun i v v' h1 h2 => ?_⟩
    rw [h1] at h2; cases h2
    have := List.eq_of_mem_replicate (List.mem_of_getElem? h1)
    subst this
    exact VRel.undef_ ρ
  have := (h.toList.append hr).toArray
  have e1 : (args.toList ++ List.replicate (fn.ntmps - args.size) undef).toArray = args ++ Array.replicate (fn.ntmps - args.size) undef := by apply Array.ext'; simp
  have e2 : (args'.toList ++ List.replicate (fn.ntmps - args.size) undef).toArray = args' ++ Array.replicate (fn.ntmps - args'.size) undef := by apply Array.ext'; simp [h.1]
  rw [e1, e2] at this
  exact this

def aBody (P : Program) (fn : Func) (R : Value → Heap → Prop) : AQ
  | .normal, a, σ | .ret, a, σ => a.defers = [] ∧ ∃ v, aRes P fn a σ = some v ∧ R v σ
  | _, _, _ => False

theorem acall {f : FuncId} {fn : Func} {c : Code} {args : Array Value} {R : Value → Heap → Prop} (hf : P.funcs[f]? = some fn) (hb : fn.body = some c)
    (h : AWP P c (aBody P fn R) (aEntry fn args) σ) : ACall P f args σ R := by
  intro ρ w args' hr ha
  refine calls_of_wp hf hb (wp_mono (h ρ w _ hr (entry_rel ha fn)) fun e ac' w' hq => ?_)
  obtain ⟨ρ', a', σ', k1, k2, k3, k4, k5⟩ := hq
  have fin : a'.defers = [] → (∃ v, aRes P fn a' σ' = some v ∧ R v σ') → ac'.defers = [] ∧ ∃ v, (results fn ac'.tmps).run P w' = .ok v w' ∧
      ∃ u v' ρ' σ', Ending.returned v = .returned v' ∧ Rel ρ' σ' w' ∧ Frm ρ σ w ρ' σ' w' ∧ Fin ρ σ ρ' σ' ∧ VRel ρ' u v' ∧ R u σ' := by
    rintro hd ⟨u, hu, hR⟩
    have hd' : ac'.defers = [] := DfsRel.nil_inv (hd ▸ k4.defers)
    obtain ⟨v', h1, h2⟩ := res_ok (P := P) k1 k4 hu
    exact ⟨hd', v', h1, u, v', ρ', σ', rfl, k1, k2, k3, h2, hR⟩
  cases e with
  | normal => exact fin k5.1 k5.2
  | ret => exact fin k5.1 k5.2
  | exit id => exact k5.elim
  | goto l => exact k5.elim
  | panic c => exact k5.elim
  | outgrown => exact k5.elim

def ADef (P : Program) (f : FuncId) (args : Array Value) (σ : Heap) (R : Heap → Prop) : Prop :=
  ∀ ρ w args', Rel ρ σ w → VsRel ρ args args' → CallsD P f args' .returning w fun e u' w' =>
    ∃ v' ρ' σ', u' = .returning ∧ e = .returned v' ∧ Rel ρ' σ' w' ∧ Frm ρ σ w ρ' σ' w' ∧ Fin ρ σ ρ' σ' ∧ R σ'

theorem adef {f : FuncId} {fn : Func} {c : Code} {args : Array Value} {R : Heap → Prop} (hf : P.funcs[f]? = some fn) (hb : fn.body = some c)
    (h : AWP P c (aBody P fn fun _ σ => R σ) (aEntry fn args) σ) : ADef P f args σ R := by
  intro ρ w args' hr ha
  refine CallsD.mono (callsD_of_wp (R := fun e w' => ∃ v' ρ' σ', e = .returned v' ∧ Rel ρ' σ' w' ∧ Frm ρ σ w ρ' σ' w' ∧ Fin ρ σ ρ' σ' ∧ R σ') hf hb (wp_mono (h ρ w _ hr (entry_rel ha fn)) fun e ac' w' hq => ?_)) ?_
  · obtain ⟨ρ', a', σ', k1, k2, k3, k4, k5⟩ := hq
    have fin : a'.defers = [] → (∃ v, aRes P fn a' σ' = some v ∧ R σ') → ac'.defers = [] ∧ ∃ v, (results fn ac'.tmps).run P w' = .ok v w' ∧
        ∃ v' ρ' σ', Ending.returned v = .returned v' ∧ Rel ρ' σ' w' ∧ Frm ρ σ w ρ' σ' w' ∧ Fin ρ σ ρ' σ' ∧ R σ' := by
      rintro hd ⟨u, hu, hR⟩
      have hd' : ac'.defers = [] := DfsRel.nil_inv (hd ▸ k4.defers)
      obtain ⟨v', h1, h2⟩ := res_ok (P := P) k1 k4 hu
      exact ⟨hd', v', h1, v', ρ', σ', rfl, k1, k2, k3, hR⟩
    cases e with
    | normal => exact fin k5.1 k5.2
    | ret => exact fin k5.1 k5.2
    | exit id => exact k5.elim
    | goto l => exact k5.elim
    | panic c => exact k5.elim
    | outgrown => exact k5.elim
  · rintro e u' w' ⟨rfl, v', ρ', σ', h1, h2, h3, h4, h5⟩
    exact ⟨v', ρ', σ', rfl, h1, h2, h3, h4, h5⟩

def aLeaves (P : Program) (fn : Func) (a : Act) (R : Value → Heap → Prop) : List Deferred → Heap → Prop
  | [], σ => ∃ v, aRes P fn a σ = some v ∧ R v σ
  | d :: ds, σ => ∃ f cap, d.target = .fn (.func f) cap ∧ ADef P f (d.args ++ cap) σ fun σ' => aLeaves P fn a R ds σ'

def aBodyD (P : Program) (fn : Func) (R : Value → Heap → Prop) : AQ
  | .normal, a, σ | .ret, a, σ => aLeaves P fn a R a.defers σ
  | _, _, _ => False

theorem leaves_ok {E : Env} (hE : EnvOk E) {fn : Func} {a ac : Act} {R : Value → Heap → Prop} {Rc : Ending → World → Prop} (hB : ∀ d ∈ a.defers, ∀ f cap, d.target = .fn (.func f) cap → E.B f = true) : ∀ (ds ds' : List Deferred) (σ : Heap) (ρ : LMap) (w : World),
    (∀ d ∈ ds, d ∈ a.defers) → aLeaves E.P fn a R ds σ → Rel ρ σ w → ARel ρ a ac → DfsRel ρ ds ds' →
    (∀ v v' ρ' σ' w', Rel ρ' σ' w' → Frm ρ σ w ρ' σ' w' → Fin ρ σ ρ' σ' → VRel ρ' v v' → R v σ' → Rc (.returned v') w') → Leaves E.P fn ac.tmps Rc ds' .returning w
  | [], ds', σ, ρ, w, _, h, hr, ha, hd, hR => by
    cases hd
    obtain ⟨v, hv, hRv⟩ := h
    obtain ⟨v', k1, k2⟩ := res_ok (P := E.P) hr ha hv
    exact ⟨v', k1, hR v v' ρ σ w hr (Frm.refl _ _ _) (Fin.refl _ _) k2 hRv⟩
  | d :: ds, ds', σ, ρ, w, hm, h, hr, ha, hd, hR => by
    cases hd with
    | cons hd1 hd2 =>
      rename_i d' ds''
      obtain ⟨f, cap, h1, h2⟩ := h
      obtain ⟨g, c1, c2, e1, e2, e3, e4⟩ := hd1
      rw [h1] at e1
      simp only [Target.fn.injEq, Fn.func.injEq] at e1
      obtain ⟨rfl, rfl⟩ := e1
      have hargs : VsRel ρ (d.args ++ cap) (d'.args ++ c2) := by
        have := (e4.toList.append e3.toList).toArray
        have q1 : (d.args.toList ++ cap.toList).toArray = d.args ++ cap := by apply Array.ext'; simp
        have q2 : (d'.args.toList ++ c2.toList).toArray = d'.args ++ c2 := by apply Array.ext'; simp
        rwa [q1, q2] at this
      refine ⟨by simp, .func f, c2, f, d'.args ++ c2, e2, ?_, ?_⟩
      · rw [e2]
        exact hE.b f (hB d (hm d (List.mem_cons_self ..)) f cap h1) _ w
      · refine (h2 ρ w _ hr hargs).mono ?_
        rintro e u' w' ⟨v', ρ', σ', rfl, rfl, k1, k2, k3, k4⟩
        exact leaves_ok hE hB ds ds'' σ' ρ' w' (fun x hx => hm x (List.mem_cons_of_mem _ hx)) k4 k1 (ha.mono k2.le) (hd2.mono k2.le)
          fun v v' ρ'' σ'' w'' a1 a2 a3 a4 a5 => hR v v' ρ'' σ'' w'' a1 (k2.trans a2) (k3.trans a3 k2.nxt) a4 a5

end
end Go.Proofs.YtfchjhfccnodpaaGreat
end
