/-
  CALLS THAT ARE KNOWN ALREADY, for the evaluator. No condition.
-/
import Derived.Test.YtehmailaabjdjaaGreatEvalRun
namespace Go.Proofs.YtehmailaabjdjaaGreat
set_option linter.unusedSimpArgs false
set_option linter.unusedVariables false

theorem rel_forget {ρ : LMap} {σ τ : Heap} {w : World} (h : Rel ρ σ w) (hs : ∀ l o, τ.get l = some o → σ.get l = some o) (hn : τ.nxt = σ.nxt) : Rel ρ τ w :=
 ⟨fun l o hl => h.dom l o (hs l o hl), fun l l' o o' p p' hne h1 h2 => h.excl l l' o o' p p' hne (hs _ _ h1) (hs _ _ h2), fun l p hl => by rw [hn]; exact h.bnd l p hl⟩

theorem acall_forget {P : Program} {f : FuncId} {args : Array Value} {σ : Heap} {R R' : Value → Heap → Prop} (h : ACall P f args σ R)
  (hr : ∀ v τ, R v τ → ∃ τ', (∀ l o, τ'.get l = some o → τ.get l = some o) ∧ τ'.nxt = τ.nxt ∧ R' v τ') : ACall P f args σ R' := by
 intro ρ w args' h1 h2
 refine (h ρ w args' h1 h2).mono ?_
 rintro e w' ⟨v, v', ρ', τ, he, b, c, d, x, r⟩
 obtain ⟨τ', hs, hn, hR⟩ := hr v τ r
 refine ⟨v, v', ρ', τ', he, rel_forget b hs hn, ⟨c.le, c.os, c.tape, c.output, c.size, by rw [hn]; exact c.nxt, c.blk, ?_⟩, ⟨d.old, fun l hl hg => ?_⟩, x, hR⟩
 ·rintro q k hk ⟨l, o, p, k1, k2, k3, k4⟩
  exact c.own q k hk ⟨l, o, p, hs _ _ k1, k2, k3, k4⟩
 ·cases ht : τ'.get l with
  | none => rfl
  | some o => have h3 := hs l o ht; rw [d.gone l hl hg] at h3; cases h3

abbrev Ent := List (Nat × AObj)

def lk : Ent → Nat → Option AObj
 | [], _ => none
 | (x, o) :: r, l => match lk r l with
  | some o' => some o'
  | none => if l = x then some o else none

def S.puts : Ent → S → Option S
 | [], s => some s
 | (l, o) :: r, s => (s.upd l (some o)).bind (S.puts r)

def S.clears : Ent → S → Option S
 | [], s => some s
 | (l, _) :: r, s => (s.upd l none).bind (S.clears r)

theorem upd_t {s s' : S} {l : Nat} {o : Option AObj} (h : s.upd l o = some s') (x : Nat) : s'.t.get x = if x = l then o else s.t.get x := by
 have := congrArg (fun h => Heap.get h x) (S.upd_heap h)
 simpa [S.heap, Heap.upd_get] using this

theorem upd_n {s s' : S} {l : Nat} {o : Option AObj} (h : s.upd l o = some s') : s'.nxt = s.nxt := by
 have := congrArg Heap.nxt (S.upd_heap h)
 simpa [S.heap] using this

theorem puts_get : ∀ {L : Ent} {s s' : S}, s.puts L = some s' → ∀ l, s'.t.get l = match lk L l with | some o => some o | none => s.t.get l
 | [], s, s', h, l => by cases h; rfl
 | (x, o) :: r, s, s', h, l => by
  simp only [S.puts, Option.bind_eq_some_iff] at h
  obtain ⟨s₁, h1, h2⟩ := h
  rw [puts_get h2 l]
  simp only [lk]
  cases lk r l with
  | some o' => rfl
  | none =>
   simp only
   rw [upd_t h1]
   by_cases e : l = x <;> simp [e]

theorem puts_n : ∀ {L : Ent} {s s' : S}, s.puts L = some s' → s'.nxt = s.nxt
 | [], s, s', h => by cases h; rfl
 | (x, o) :: r, s, s', h => by
  simp only [S.puts, Option.bind_eq_some_iff] at h
  obtain ⟨s₁, h1, h2⟩ := h
  rw [puts_n h2, upd_n h1]

theorem clears_get : ∀ {L : Ent} {s s' : S}, s.clears L = some s' → ∀ l, s'.t.get l = if l ∈ L.map (·.1) then none else s.t.get l
 | [], s, s', h, l => by cases h; simp
 | (x, o) :: r, s, s', h, l => by
  simp only [S.clears, Option.bind_eq_some_iff] at h
  obtain ⟨s₁, h1, h2⟩ := h
  rw [clears_get h2 l, upd_t h1]
  by_cases e : l = x
  ·subst e; simp
  ·simp only [List.map_cons, List.mem_cons, e, false_or, if_false]

theorem lk_mem : ∀ {L : Ent} {l : Nat} {o : AObj}, lk L l = some o → (l, o) ∈ L
 | [], l, o, h => by cases h
 | (x, p) :: r, l, o, h => by
  simp only [lk] at h
  cases hr : lk r l with
  | some o' => rw [hr] at h; cases h; exact List.mem_cons_of_mem _ (lk_mem hr)
  | none =>
   rw [hr] at h
   simp only at h
   split at h
   ·rename_i e; cases h; subst e; exact List.mem_cons_self ..
   ·cases h

theorem lk_none : ∀ {L : Ent} {l : Nat}, lk L l = none → l ∉ L.map (·.1)
 | [], l, _ => by simp
 | (x, p) :: r, l, h => by
  simp only [lk] at h
  cases hr : lk r l with
  | some o' => rw [hr] at h; cases h
  | none =>
   rw [hr] at h
   simp only at h
   split at h
   ·cases h
   ·rename_i e; simpa [e] using lk_none hr

structure Memo where
 f : FuncId
 args : Array Value
 pre : Ent
 n0 : Nat
 val : Value
 post : Ent
 n1 : Nat

def Memo.Ok (E : Env) (m : Memo) : Prop := ACall E.P m.f m.args ⟨lk m.pre, m.n0⟩ fun v τ => v = m.val ∧ τ.nxt = m.n1 ∧ ∀ l o, lk m.post l = some o → τ.get l = some o

def Memo.hit (m : Memo) (f : FuncId) (args : Array Value) (s : S) : Option (Value × S) :=
 if f = m.f then
  if s.nxt = m.n0 && eqVL (eqV 20) args.toList m.args.toList && m.pre.all (fun x => eqO (s.t.get x.1) (some x.2)) then
   ((s.clears m.pre).bind (S.puts m.post)).map fun s' => (m.val, ⟨s'.t, m.n1⟩)
  else none
 else none

theorem Memo.hit_sound {E : Env} {m : Memo} (hm : m.Ok E) {f : FuncId} {args : Array Value} {s s' : S} {v : Value} (h : m.hit f args s = some (v, s')) :
  ACall E.P f args s.heap fun u τ => u = v ∧ τ = s'.heap := by
 unfold Memo.hit at h
 split at h
 case isFalse => cases h
 rename_i hf
 split at h
 case isFalse => cases h
 rename_i hc
 simp only [Bool.and_eq_true, decide_eq_true_eq, List.all_eq_true] at hc
 obtain ⟨⟨hn, ha⟩, hp⟩ := hc
 have hargs : args = m.args := Array.ext' (eqVL_sound (eqV_sound 20) _ _ ha)
 subst hf hargs
 simp only [Option.map_eq_some_iff, Option.bind_eq_some_iff, Prod.mk.injEq] at h
 obtain ⟨s₂, ⟨s₁, h1, h2⟩, rfl, rfl⟩ := h
 let g : Heap := ⟨fun l => if l ∈ m.pre.map (·.1) then none else s.t.get l, 0⟩
 have hg : ∀ l, g.get l = if l ∈ m.pre.map (·.1) then none else s.t.get l := fun _ => rfl
 have hover : s.heap = Heap.over ⟨lk m.pre, m.n0⟩ g := by
  apply Heap.ext'
  ·intro l
   simp only [Heap.over, hg, S.heap]
   by_cases hl : l ∈ m.pre.map (·.1)
   ·rw [if_pos hl]
    simp only
    cases hk : lk m.pre l with
    | none => exact absurd hl (lk_none hk)
    | some o => exact eqO_sound (hp _ (lk_mem hk))
   ·rw [if_neg hl]
    cases hs : s.t.get l with
    | some o => rfl
    | none =>
     simp only
     cases hk : lk m.pre l with
     | none => rfl
     | some o => exact absurd (List.mem_map_of_mem (f := (·.1)) (lk_mem hk)) hl
  ·exact hn
 rw [hover]
 refine acall_forget (frame_over (g := g) ?_ hm) ?_
 ·intro l o hl
  rw [hg] at hl
  split at hl
  ·cases hl
  ·rename_i hnm
   simp only
   cases hk : lk m.pre l with
   | none => rfl
   | some o => exact absurd (List.mem_map_of_mem (f := (·.1)) (lk_mem hk)) hnm
 ·rintro u τ ⟨σ', ⟨rfl, hn1, hpost⟩, hdis, rfl⟩
  refine ⟨S.heap ⟨s₂.t, m.n1⟩, ?_, hn1.symm, rfl, rfl⟩
  intro l o hl
  simp only [S.heap] at hl
  rw [puts_get h2, clears_get h1] at hl
  cases hk : lk m.post l with
  | some o' =>
   rw [hk] at hl
   cases hl
   have h3 := hpost l o hk
   have h4 : g.get l = none := by
    cases hgl : g.get l with
    | none => rfl
    | some x => rw [hdis l x hgl] at h3; cases h3
   rw [Heap.over_none h4]; exact h3
  | none =>
   rw [hk] at hl
   simp only at hl
   exact Heap.over_some (by rw [hg]; exact hl)

def memoCF : List Memo → CF
 | [], _, _, _ => none
 | m :: r, f, args, s => match m.hit f args s with
  | some x => some x
  | none => memoCF r f args s

theorem memoCF_sound {E : Env} : ∀ {M : List Memo}, (∀ m ∈ M, m.Ok E) → CfOk E (memoCF M)
 | [], _, f, args, s, v, s', h => by cases h
 | m :: r, hM, f, args, s, v, s', h => by
  simp only [memoCF] at h
  split at h
  ·rename_i x hx
   cases h
   exact Memo.hit_sound (hM m (List.mem_cons_self ..)) hx
  ·exact memoCF_sound (fun m hm => hM m (List.mem_cons_of_mem _ hm)) f args s v s' h

def Memo.check (E : Env) (T : Tab) (I : CF) (n : Nat) (m : Memo) : Bool :=
 match S.puts m.pre ⟨.leaf, m.n0⟩ with
 | some s => match evFunc E I (evC E T I n) m.f m.args s with
  | some (v, s') => eqV 20 v m.val && decide (s'.nxt = m.n1) && m.post.all fun x => eqO (s'.t.get x.1) (some x.2)
  | none => false
 | none => false

theorem Memo.check_sound {E : Env} {T : Tab} {I : CF} (hE : EnvOk E) (hA : AllOk E T) (hI : CfOk E I) (hm : E.P.follows .mixedOrders = true) {n : Nat} {m : Memo} (h : m.check E T I n = true) : m.Ok E := by
 unfold Memo.check at h
 split at h
 case h_2 => cases h
 rename_i s hs
 split at h
 case h_2 => cases h
 rename_i v s' hr
 simp only [Bool.and_eq_true, decide_eq_true_eq, List.all_eq_true] at h
 obtain ⟨⟨h1, h2⟩, h3⟩ := h
 have hv := eqV_sound 20 _ _ h1
 have key := closed_call hE hA hI hm hr
 have hh : s.heap = ⟨lk m.pre, m.n0⟩ := by
  apply Heap.ext'
  ·intro l
   simp only [S.heap]
   rw [puts_get hs]
   cases lk m.pre l <;> rfl
  ·exact puts_n hs
 rw [hh] at key
 refine key.mono ?_
 rintro u τ ⟨rfl, rfl⟩
 exact ⟨hv, h2, fun l o ho => eqO_sound (h3 _ (lk_mem ho))⟩

end Go.Proofs.YtehmailaabjdjaaGreat
