/-
  MAPS OF STRINGS IN MEMORY: what they hold, looking up, setting, deleting. No condition. / RANGING OVER A MAP, in the walk by rules: whatever entry the tape says. No condition. / A STORE, plain, and in memory; New, Rev, Get, Base, Asked, Watch, Compact by contract. No condition. / A store's New, Rev, Get, Base, Asked, Watch, Compact, by contract. No condition. / A store: what a key may be, a prefix, whether a guard holds, by contract. No condition. / A store: what a txn may be, whether it can be done, by contract. No condition. / A store: whether a txn can be done, by contract. No condition. / A store: a txn, by contract. No condition. / A store's List, by contract: its entries in the order of their keys. No condition. / What a store is worth, plain: its numbers stay small, its entries are what was written. No condition.
-/
import Derived.Test.YtehmailaabjdjaaGreatCalS
import Derived.MapKept
import Derived.Maps.RangeRun
import Derived.Test.YtehmailaabjdjaaGreatLogX
import Derived.Test.YtehmailaabjdjaaGreatSrt
section
open Go.Proofs
namespace Go.Proofs.YtehmailaabjdjaaGreat
open Go.MapKept
set_option linter.unusedSimpArgs false
set_option linter.unusedVariables false
set_option maxRecDepth 100000

variable {α : Type}

def findK (k : Bs) : List (Bs × α) → Option α
 | [] => none
 | x :: r => if x.1 = k then some x.2 else findK k r
def setK (k : Bs) (a : α) : List (Bs × α) → List (Bs × α)
 | [] => [(k, a)]
 | x :: r => if x.1 = k then (k, a) :: r else x :: setK k a r
def delK (k : Bs) : List (Bs × α) → List (Bs × α)
 | [] => []
 | x :: r => if x.1 = k then r else x :: delK k r

def EsR (R : Value → α → Prop) : List MapEntry → List (Bs × α) → Prop
 | [], [] => True
 | e :: es, x :: r => e.key = .string (str x.1) ∧ R e.val x.2 ∧ EsR R es r
 | _, _ => False

theorem EsR.mono {R R' : Value → α → Prop} (hr : ∀ v a, R v a → R' v a) : ∀ {es : List MapEntry} {r : List (Bs × α)}, EsR R es r → EsR R' es r
 | [], [], _ => trivial
 | e :: es, x :: r, h => ⟨h.1, hr _ _ h.2.1, EsR.mono hr h.2.2⟩
 | [], x :: r, h => h.elim
 | e :: es, [], h => h.elim
theorem EsR.append {R : Value → α → Prop} : ∀ {es : List MapEntry} {r : List (Bs × α)} {es' : List MapEntry} {r' : List (Bs × α)}, EsR R es r → EsR R es' r' → EsR R (es ++ es') (r ++ r')
 | [], [], _, _, _, h => h
 | e :: es, x :: r, _, _, h, h' => ⟨h.1, h.2.1, EsR.append h.2.2 h'⟩
 | [], x :: r, _, _, h, _ => h.elim
 | e :: es, [], _, _, h, _ => h.elim
theorem EsR.keys {R : Value → α → Prop} : ∀ {es : List MapEntry} {r : List (Bs × α)}, EsR R es r → es.map (·.key) = (r.map (·.1)).map fun k => .string (str k)
 | [], [], _ => rfl
 | e :: es, x :: r, h => by simp [h.1, EsR.keys h.2.2]
 | [], x :: r, h => h.elim
 | e :: es, [], h => h.elim
theorem same_str (a b : Bs) : Instr.sameNow .string (.string (str a)) (.string (str b)) = some (decide (a = b)) := by
 show some ((str a) == (str b)) = _
 rw [beq_toListBytes, str_eq]

theorem EsR.find {R : Value → α → Prop} {k : Bs} {a : α} {v : Value} (hv : R v a) : ∀ {es : List MapEntry} {r : List (Bs × α)}, EsR R es r → ∀ i,
  (findK k r = none ∧ Instr.findNow .string (.string (str k)) es i = some none ∧ setK k a r = r ++ [(k, a)] ∧ delK k r = r ∧ ∀ e ∈ es, e.key ≠ .string (str k)) ∨
  (∃ j a' e, findK k r = some a' ∧ Instr.findNow .string (.string (str k)) es i = some (some (i + j, e.val)) ∧ es[j]? = some e ∧ e.key = .string (str k) ∧ R e.val a' ∧
   EsR R (es.modify j fun e => { e with key := .string (str k), val := v }) (setK k a r) ∧ EsR R (es.eraseIdx j) (delK k r))
 | [], [], _, i => .inl ⟨rfl, rfl, rfl, rfl, fun e h => by cases h⟩
 | e :: es, x :: r, h, i => by
  obtain ⟨h1, h2, h3⟩ := h
  by_cases hk : x.1 = k
  ·right
   refine ⟨0, x.2, e, by simp [findK, hk], ?_, rfl, by rw [h1, hk], h2, ?_, ?_⟩
   ·simp only [Instr.findNow, h1, same_str, hk, decide_true, Nat.add_zero]
   ·simp only [List.modify_zero_cons, setK, hk, if_true]
    exact ⟨rfl, hv, h3⟩
   ·simp only [List.eraseIdx_cons_zero, delK, hk, if_true]
    exact h3
  ·have hd : decide (k = x.1) = false := decide_eq_false fun e => hk e.symm
   rcases EsR.find (k := k) hv h3 (i + 1) with ⟨f1, f2, f3, f4, f5⟩ | ⟨j, a', e', f1, f2, f3, f4, f5, f6, f7⟩
   ·left
    refine ⟨by simp [findK, hk, f1], ?_, by simp [setK, hk, f3], by simp [delK, hk, f4], fun y hy => ?_⟩
    ·simp only [Instr.findNow, h1, same_str, hd, f2]
    ·rcases List.mem_cons.1 hy with rfl | hy
     ·rw [h1]; intro q; simp only [Value.string.injEq] at q; exact hk (str_inj q)
     ·exact f5 y hy
   ·right
    refine ⟨j + 1, a', e', by simp [findK, hk, f1], ?_, by simpa using f3, f4, f5, ?_, ?_⟩
    ·simp only [Instr.findNow, h1, same_str, hd, f2]
     rw [show i + 1 + j = i + (j + 1) by omega]
    ·simp only [List.modify_succ_cons, setK, hk, if_false]
     exact ⟨h1, h2, f6⟩
    ·simp only [List.eraseIdx_cons_succ, delK, hk, if_false]
     exact ⟨h1, h2, f7⟩
 | [], x :: r, h, _ => h.elim
 | e :: es, [], h, _ => h.elim

def MapAt (g : Gm) (R : Value → α → Prop) (m : Nat) (r : List (Bs × α)) : Prop := ∃ es clock, g m = some (.map es clock) ∧ Stamped es.toArray clock ∧ EsR R es r

section
variable {N : Nat} {f : Nat → Value} {s : Sls} {g : Gm} {n nm : Nat} {k : Sls → Gm → List Nat → List Nat → Prop} {d : Tmp} {ty : TypeId} {pos : String} {af : Array Edge} {gd : Option (Nat × Bool)} {t kt et : TypeId} {x ix : Operand} {R : Value → α → Prop} {m : Nat} {r : List (Bs × α)} {key : Bs} {a : α} {z : Value}

theorem lk_run (ok : Bool) (ht : E6.P.underlying t = some (.map kt et)) (hkt : E6.P.underlying kt = some .string) (hz : zeroP E6.P et = some z) (hx : ov N s x = some (.map (some m))) (hi : ov N s ix = some (.string (str key))) {es : List MapEntry} {c : Nat} (hg : g m = some (.map es c)) {q : Option (Nat × Value)} (hf : Instr.findNow .string (.string (str key)) es 0 = some q)
    (hk : k ((d, lookupVal q z ok) :: s) g [m] []) : ST N f s g n nm ⟨some d, .lookup t x ix ok, ty, pos, af, gd⟩ k := by
  refine ⟨⟨[m], fun _ objs => match objs with
          | [.map es _] => (Instr.findNow .string (.string (str key)) es 0).map fun r => ⟨lookupVal r z ok, none, none⟩
          | _ => none⟩, ⟨lookupVal q z ok, none, none⟩, ?_, ?_, rfl, _, _, Fr_put _ _ _ _ _, rfl, hk⟩
  · simp only [aop, aLookup, ht, plainEv, ov_ok hi, ov_ok hx, Option.bind_some, keyKind, hkt, hz]
    rw [if_pos (show plainV (.string (str key)) = true from rfl)]
    rfl
  · simp only [Prim.run, getAll, hg, Option.bind_some, Option.map_some, hf]

theorem s_lkT (ok : Bool) (ht : E6.P.underlying t = some (.map kt et)) (hkt : E6.P.underlying kt = some .string) (hz : zeroP E6.P et = some z) (hx : ov N s x = some (.map (some m))) (hi : ov N s ix = some (.string (str key))) (hm : MapAt g R m r) (hf : findK key r = some a)
  (hk : ∀ v, R v a → k ((d, match ok with | true => .tuple #[v, .bool true] | false => v) :: s) g [m] []) : ST N f s g n nm ⟨some d, .lookup t x ix ok, ty, pos, af, gd⟩ k := by
 obtain ⟨es, c, hg, hs, he⟩ := hm
 have he' : EsR (fun v b => R v b ∨ True) es r := he.mono fun _ _ h => .inl h
 rcases EsR.find (k := key) (a := a) (v := z) (R := fun v b => R v b ∨ True) (.inr trivial) he' 0 with ⟨f1, _⟩ | ⟨j, a', e, f1, f2, f3, f4, f5, _⟩
 ·rw [f1] at hf; cases hf
 ·rw [f1] at hf; cases hf
  have hR : R e.val a := by
   have : ∀ {es : List MapEntry} {r : List (Bs × α)} {j : Nat} {e : MapEntry}, EsR R es r → es[j]? = some e → e.key = .string (str key) → (es.map (·.key)).Nodup → findK key r = some a → R e.val a := by
    intro es r j e h
    induction es generalizing r j with
    | nil => intro h2; simp at h2
    | cons y es ih =>
     cases r with
     | nil => exact h.elim
     | cons w r =>
      intro h2 h3 h4 h5
      obtain ⟨p1, p2, p3⟩ := h
      rw [List.map_cons, List.nodup_cons] at h4
      cases j with
      | zero =>
       simp only [List.getElem?_cons_zero, Option.some.injEq] at h2
       subst h2
       have : w.1 = key := by rw [p1] at h3; simp only [Value.string.injEq] at h3; exact str_inj h3
       simp only [findK, this, if_true, Option.some.injEq] at h5
       rw [← h5]; exact p2
      | succ j =>
       simp only [List.getElem?_cons_succ] at h2
       have hne : w.1 ≠ key := fun q => h4.1 (by
        rw [p1, q, ← h3]
        exact List.mem_map_of_mem (List.mem_of_getElem? h2))
       simp only [findK, hne, if_false] at h5
       exact ih p3 h2 h3 h4.2 h5
   exact this he f3 f4 hs.2.2 f1
  have := hk e.val hR
  refine lk_run ok ht hkt hz hx hi hg f2 ?_
  cases ok <;> exact this
theorem s_lkF (ok : Bool) (ht : E6.P.underlying t = some (.map kt et)) (hkt : E6.P.underlying kt = some .string) (hz : zeroP E6.P et = some z) (hx : ov N s x = some (.map (some m))) (hi : ov N s ix = some (.string (str key))) (hm : MapAt g R m r) (hf : findK key r = none)
  (hk : k ((d, match ok with | true => .tuple #[z, .bool false] | false => z) :: s) g [m] []) : ST N f s g n nm ⟨some d, .lookup t x ix ok, ty, pos, af, gd⟩ k := by
 obtain ⟨es, c, hg, hs, he⟩ := hm
 cases r with
 | nil =>
  cases es with
  | nil => refine lk_run ok ht hkt hz hx hi hg (q := none) rfl ?_; cases ok <;> exact hk
  | cons e es => exact he.elim
 | cons w r' =>
  rcases EsR.find (k := key) (a := w.2) (v := z) (R := fun v b => R v b ∨ True) (.inr trivial) (he.mono fun _ _ h => .inl h) 0 with ⟨f1, f2, _⟩ | ⟨j, a', e, f1, _⟩
  ·refine lk_run ok ht hkt hz hx hi hg f2 ?_
   cases ok <;> exact hk
  ·rw [f1] at hf; cases hf

theorem s_mset {v : Operand} {w : Value} (ht : E6.P.underlying t = some (.map kt et)) (hkt : E6.P.underlying kt = some .string) (hx : ov N s x = some (.map (some m))) (hi : ov N s ix = some (.string (str key))) (hv : ov N s v = some w) (hw : R w a) (hm : MapAt g R m r)
    (hk : ∀ o, (∀ g' : Gm, g' m = some o → MapAt g' R m (setK key a r)) → (∃ es c, o = .map es c) → k s (gset g m o) [m] [m]) : ST N f s g n nm ⟨none, .mapUpdate t x ix v, ty, pos, af, gd⟩ k := by
  obtain ⟨es, c, hg, hs, he⟩ := hm
  have hrun : ∀ (o : AObj) (q : Option (Nat × Value)), Instr.findNow .string (.string (str key)) es 0 = some q → (match q with
      | some (i, _) => AObj.map (es.modify i fun e => { e with key := .string (str key), val := w }) c
      | none => AObj.map (es ++ [{ key := .string (str key), val := w, born := c }]) (c + 1)) = o → k s (gset g m o) [m] [m] → ST N f s g n nm ⟨none, .mapUpdate t x ix v, ty, pos, af, gd⟩ k := by
    intro o q hf ho hk'
    refine ⟨⟨[m], fun _ objs => match objs with
          | [.map es clock] => (Instr.findNow .string (.string (str key)) es 0).map fun
              | some (i, _) => ⟨undef, some (m, some (.map (es.modify i fun e => { e with key := .string (str key), val := w }) clock)), none⟩
              | none => ⟨undef, some (m, some (.map (es ++ [{ key := .string (str key), val := w, born := clock }]) (clock + 1))), none⟩
          | _ => none⟩, ⟨undef, some (m, some o), none⟩, ?_, ?_, by simp [wrOk], _, _, Fr_put0 _ _ _ _, rfl, hk'⟩
    · simp only [aop, aMapUpdate, ht, plainEv, ov_ok hi, ov_ok hx, ov_ok hv, Option.bind_some, keyKind, hkt]
      rw [if_pos (show plainV (.string (str key)) = true from rfl)]
      rfl
    · simp only [Prim.run, getAll, hg, Option.bind_some, Option.map_some, hf]
      rw [← ho]
      rcases q with _ | ⟨i, u⟩ <;> rfl
  rcases EsR.find (k := key) hw he 0 with ⟨f1, f2, f3, f4, f5⟩ | ⟨j, a', e, f1, f2, f3, f4, f5, f6, f7⟩
  · refine hrun _ none f2 rfl (hk _ (fun g' hg' => ⟨_, _, hg', ?_, ?_⟩) ⟨_, _, rfl⟩)
    · have := stamped_push hs (key := .string (str key)) (val := w) (fun x hx => f5 x (by simpa using hx))
      simpa using this
    · rw [f3]; exact he.append ⟨rfl, hw, trivial⟩
  · rw [Nat.zero_add] at f2
    refine hrun _ _ f2 rfl (hk _ (fun g' hg' => ⟨_, _, hg', ?_, f6⟩) ⟨_, _, rfl⟩)
    have := stamped_modify hs j (fun e => { e with key := .string (str key), val := w }) (fun _ _ => rfl) (fun e' _ h' => by
      have : e' = e := by
        have h' : es.toArray[j]? = some e' := h'
        rw [List.getElem?_toArray, f3] at h'; cases h'; rfl
      rw [this]; exact f4.symm)
    simpa using this

theorem s_mdel {t2 : TypeId} (ht : E6.P.underlying t = some (.map kt et)) (hkt : E6.P.underlying kt = some .string) (hx : ov N s x = some (.map (some m))) (hi : ov N s ix = some (.string (str key))) (hm : MapAt g R m r)
    (hk : ∀ o, (∀ g' : Gm, g' m = some o → MapAt g' R m (delK key r)) → (∃ es c, o = .map es c) → k s (gset g m o) [m] [m]) : ST N f s g n nm ⟨none, .call ⟨.builtin .delete, #[x, ix], #[t, t2]⟩, ty, pos, af, gd⟩ k := by
  obtain ⟨es, c, hg, hs, he⟩ := hm
  have hrun : ∀ (o : AObj) (q : Option (Nat × Value)), Instr.findNow .string (.string (str key)) es 0 = some q → (match q with
      | some (i, _) => AObj.map (es.eraseIdx i) c
      | none => AObj.map es c) = o → k s (gset g m o) [m] [m] → ST N f s g n nm ⟨none, .call ⟨.builtin .delete, #[x, ix], #[t, t2]⟩, ty, pos, af, gd⟩ k := by
    intro o q hf ho hk'
    refine ⟨⟨[m], fun _ objs => match objs with
          | [.map es clock] => (Instr.findNow .string (.string (str key)) es 0).map fun
              | some (i, _) => ⟨.tuple #[], some (m, some (.map (es.eraseIdx i) clock)), none⟩
              | none => ⟨.tuple #[], some (m, some (.map es clock)), none⟩
          | _ => none⟩, ⟨.tuple #[], some (m, some o), none⟩, ?_, ?_, by simp [wrOk], _, _, Fr_put0 _ _ _ _, rfl, hk'⟩
    · simp only [aop, aCall, List.toList_toArray, evList, ov_ok hx, ov_ok hi, Option.bind_some, Option.map_some, aBuiltin, aDelete, ht, keyKind, hkt]
      rw [if_pos (show plainV (.string (str key)) = true from rfl)]
      rfl
    · simp only [Prim.run, getAll, hg, Option.bind_some, Option.map_some, hf]
      rw [← ho]
      rcases q with _ | ⟨i, u⟩ <;> rfl
  cases r with
  | nil =>
    cases es with
    | nil => exact hrun _ none rfl rfl (hk _ (fun g' hg' => ⟨_, _, hg', hs, trivial⟩) ⟨_, _, rfl⟩)
    | cons e es => exact he.elim
  | cons w r' =>
    obtain ⟨e0, es0, rfl⟩ : ∃ e0 es0, es = e0 :: es0 := by
      cases es with
      | nil => exact he.elim
      | cons e0 es0 => exact ⟨_, _, rfl⟩
    rcases EsR.find (k := key) (a := w.2) (v := e0.val) he.2.1 he 0 with ⟨f1, f2, f3, f4, f5⟩ | ⟨j, a', e, f1, f2, f3, f4, f5, f6, f7⟩
    · exact hrun _ none f2 rfl (hk _ (fun g' hg' => ⟨_, _, hg', hs, by rw [f4]; exact he⟩) ⟨_, _, rfl⟩)
    · rw [Nat.zero_add] at f2
      refine hrun _ _ f2 rfl (hk _ (fun g' hg' => ⟨_, _, hg', ?_, f7⟩) ⟨_, _, rfl⟩)
      have := stamped_erase hs j
      simpa using this

theorem s_mm (hk : k ((d, .map (some nm)) :: s) (gset g nm (.map [] 0)) [nm] [nm]) : ST N f s g n nm ⟨some d, .makeMap t none, ty, pos, af, gd⟩ k :=
 ⟨⟨[], fun nm _ => some ⟨.map (some nm), none, some (.map [] 0)⟩⟩, ⟨.map (some nm), none, some (.map [] 0)⟩, by simp only [aop, aMakeMap, Option.map_some], rfl, rfl, _, _, Fr_put _ _ _ _ _, rfl, hk⟩
end

end Go.Proofs.YtehmailaabjdjaaGreat
end

section
open Go.Proofs
namespace Go.Proofs.YtehmailaabjdjaaGreat
open Go.MapKept
open Go.ChangeMaps (setBlock)
set_option linter.unusedSimpArgs false
set_option linter.unusedVariables false
set_option maxRecDepth 100000

section
variable {P : Program} {nm : Nat} {a : Act} {σ : Heap} {K : Act → Heap → Prop} {d : Tmp} {ty : TypeId} {pos : String} {af : Array Edge} {gd : Option (Nat × Bool)} {x : Operand}

theorem nd_range {t kt et : TypeId} {m : Nat} {es : List MapEntry} {clock : Nat} (hu : P.underlying t = some (.map kt et)) (hx : aeval a x = some (.map (some m))) (hm : σ.get m = some (.map es clock))
  (hk : K (a.put (some d) (.pointer (some ⟨nm, 0, none⟩))) (σ.upd nm (some (.mapIter (some m) clock [] clock)))) : NdStep P nm ⟨some d, .range t x, ty, pos, af, gd⟩ a σ K := by
 intro ρ w evc hev hrel hnm hlt
 have hv := hev _ _ hx
 generalize hy : evc x = y at hv
 cases hv with
 | map hpl =>
  rename_i pl
  obtain ⟨es', hh, hes⟩ := map_of hrel hm hpl
  have hle := LMap.le_set (l := nm) (⟨w.heap.size, 0, 0, 0, 0⟩ : Pl) hnm
  obtain ⟨h1, h2⟩ := step_push (w' := w.alloc (.mapIter (some pl.blk) clock #[] clock)) hrel hnm hlt (.mapIter (some pl.blk) clock #[] clock) (.mapIter (some m) clock [] clock) ⟨w.heap.size, 0, 0, 0, 0⟩ rfl ⟨rfl, rfl, rfl⟩ rfl
   ⟨rfl, some pl.blk, heap_alloc_new _ _, .map (hle _ _ hpl)⟩
  have hrun : (execOp evc ⟨some d, .range t x, ty, pos, af, gd⟩).run P w = .ok (.value (.pointer (some ⟨w.heap.size, 0, none⟩))) (w.alloc (.mapIter (some pl.blk) clock #[] clock)) := by
   show (do pure (Next.value (← Instr.range t (evc x))) : Sem Next).run P w = _
   rw [hy, Sem.run_bind, run_range_map w t kt et pl.blk es' clock hu hh]
   rfl
  exact ⟨⟨.pointer (some ⟨nm, 0, none⟩), none, some (.mapIter (some m) clock [] clock)⟩, ⟨_, _, _, _, hrun, rfl, h1, h2, .ptr (o := 0) (p := ⟨w.heap.size, 0, 0, 0, 0⟩) (LMap.set_same _ _ _), fun l hl => LMap.set_ne _ _ hl⟩, fun l hl hn => by
   show (σ.upd nm _).get l = none
   rw [Heap.upd_ne _ _ hl]; exact hn, hk⟩

theorem iter_of {ρ : LMap} {w : World} {l : Nat} {mo : Option Nat} {since stepped : Nat} {seen : List Nat} {p : Pl} (hrel : Rel ρ σ w) (hl : σ.get l = some (.mapIter mo since seen stepped)) (hp : ρ l = some p) : p.off = 0 ∧ ∃ m', w.heap[p.blk]? = some (.mapIter m' since seen.toArray stepped) ∧ VRel ρ (.map mo) (.map m') := by
 obtain ⟨q, hq, hr⟩ := hrel.dom l _ hl
 rw [hp] at hq; cases hq
 exact hr

theorem nd_next {r m since stepped clock : Nat} {seen : List Nat} {es : List MapEntry} (hx : aeval a x = some (.pointer (some ⟨r, 0, none⟩))) (hr : σ.get r = some (.mapIter (some m) since seen stepped)) (hm : σ.get m = some (.map es clock))
  (hold : ∀ e ∈ es, e.born < since) (hsc : since ≤ stepped)
  (hno : (∀ e ∈ es, e.born ∈ seen) → K (a.put (some d) (.tuple #[.bool false])) σ)
  (hyes : ∀ e ∈ es, e.born ∉ seen → K (a.put (some d) (.tuple #[.bool true, e.key, e.val])) (σ.upd r (some (.mapIter (some m) since (seen ++ [e.born]) clock)))) : NdStep P nm ⟨some d, .next x false, ty, pos, af, gd⟩ a σ K := by
 intro ρ w evc hev hrel hnm hlt
 have hv := hev _ _ hx
 generalize hy : evc x = y at hv
 cases hv with
 | ptr hpl =>
  rename_i pl
  obtain ⟨h0, m', h1, h2⟩ := iter_of hrel hr hpl
  cases h2 with
  | map hpm =>
   rename_i pm
   obtain ⟨es', hh, hes⟩ := map_of hrel hm hpm
   have back : ∀ e' ∈ es'.toList, ∃ e ∈ es, ERel ρ e e' := by
    intro e' he'
    obtain ⟨i, hi, rfl⟩ := List.mem_iff_getElem.1 he'
    have hi2 : i < es.length := by rw [hes.1]; simpa using hi
    exact ⟨es[i], List.getElem_mem _, hes.2 i _ _ (List.getElem?_eq_getElem hi2) (by rw [Array.getElem?_eq_getElem (by simpa using hi)]; simp)⟩
   have hold' : ∀ y ∈ es'.toList, y.born < since := fun y hy => by
    obtain ⟨e, he, _, _, _, hb⟩ := back y hy
    rw [hb]; exact hold e he
   have hs : ∀ (nx : Next) (w' : World) (v : Value), (Instr.next (.pointer (some ⟨pl.blk, 0, none⟩)) false ty).run P w = .ok v w' → (execOp evc ⟨some d, .next x false, ty, pos, af, gd⟩).run P w = .ok (.value v) w' := by
    intro nx w' v hv
    show (do pure (Next.value (← Instr.next (evc x) false ty)) : Sem Next).run P w = _
    rw [hy, h0, Sem.run_bind, hv]
    rfl
   rcases run_next_at (P := P) w ty pl.blk pm.blk since stepped seen.toArray es' clock h1 hh hold' hsc with ⟨q1, q2⟩ | ⟨e', he', w1, hw1, q2⟩
   ·refine ⟨⟨.tuple #[.bool false], none, none⟩, ⟨_, _, _, _, hs .skip _ _ q2, rfl, hrel, Frm.refl _ _ _, plainV_rel ρ rfl, fun _ _ => rfl⟩, fun l _ hn => hn, hno fun e he => ?_⟩
    obtain ⟨i, hi, rfl⟩ := List.mem_iff_getElem.1 he
    have hi2 : i < es'.size := by rw [← hes.1]; exact hi
    obtain ⟨_, _, _, hb⟩ := hes.2 i _ _ (List.getElem?_eq_getElem hi) (Array.getElem?_eq_getElem hi2)
    by_cases hc : es[i].born ∈ seen
    ·exact hc
    ·exfalso
     have : es'[i] ∈ (leftOf es' seen.toArray).toList := by
      simp only [leftOf, Array.toList_filter, List.mem_filter]
      refine ⟨by simp, ?_⟩
      rw [hb]; simpa using hc
     have h3 : (leftOf es' seen.toArray).toList = [] := List.eq_nil_of_length_eq_zero (by simpa using q1)
     rw [h3] at this
     cases this
   ·have hl : e' ∈ es'.toList ∧ e'.born ∉ seen := by
     simp only [leftOf, Array.toList_filter, List.mem_filter] at he'
     exact ⟨he'.1, by simpa using he'.2⟩
    obtain ⟨e, he, k1, k2, k3, k4⟩ := back e' hl.1
    have hrel1 : Rel ρ σ w1 := by rcases hw1 with rfl | rfl <;> first | exact hrel | exact ⟨hrel.dom, hrel.excl, hrel.bnd⟩
    have hfrm1 : Frm ρ σ w ρ σ w1 := by rcases hw1 with rfl | rfl <;> exact ⟨ρ.le_refl, rfl, rfl, rfl, Nat.le_refl _, Nat.le_refl _, fun _ _ _ => rfl, fun _ _ _ h => h⟩
    have hh1 : w1.heap = w.heap := by rcases hw1 with rfl | rfl <;> rfl
    have hlt' := (hrel1.bnd _ _ hpl).2
    obtain ⟨s1, s2⟩ := step_write (w' := setBlock w1 pl.blk (.mapIter (some pm.blk) since (seen.toArray.push e'.born) clock)) hrel1 hr rfl hpl ⟨rfl, rfl, rfl⟩ (by simp [setBlock]) (fun b hb => by simp only [setBlock, Array.getElem?_setIfInBounds]; rw [if_neg (fun e => hb e.symm)]) (o := .mapIter (some m) since (seen ++ [e.born]) clock) rfl
     ⟨h0, some pm.blk, by simp only [setBlock]; rw [k4]; simp [hlt'], .map hpm⟩
    refine ⟨⟨.tuple #[.bool true, e.key, e.val], some (r, some (.mapIter (some m) since (seen ++ [e.born]) clock)), none⟩, ⟨_, _, _, _, hs .skip _ _ q2, rfl, s1, hfrm1.trans s2, ?_, fun _ _ => rfl⟩, fun l hl hn => ?_, hyes e he (by rw [← k4]; exact hl.2)⟩
    ·refine VlRel.toArray (a := [.bool true, e.key, e.val]) (a' := [.bool true, e'.key, e'.val]) (.cons (.bool _) (.cons (by rw [k1]; exact plainV_rel ρ k2) (.cons k3 (.nil _)))) |> fun h => .tuple h.1 h.2
    ·show (σ.upd r _).get l = none
     by_cases e2 : l = r
     ·subst e2; rw [hr] at hn; cases hn
     ·rw [Heap.upd_ne _ _ e2]; exact hn

theorem nd_entry {r m since clock : Nat} {seen : List Nat} {es : List MapEntry} {e : MapEntry} (hx : aeval a x = some (.pointer (some ⟨r, 0, none⟩))) (hr : σ.get r = some (.mapIter (some m) since (seen ++ [e.born]) clock)) (hm : σ.get m = some (.map es clock))
  (he : e ∈ es) (hnd : (es.map (·.born)).Nodup) (hk : K (a.put (some d) (.tuple #[e.key, e.val])) σ) : NdStep P nm ⟨some d, .entry x, ty, pos, af, gd⟩ a σ K := by
 intro ρ w evc hev hrel hnm hlt
 have hv := hev _ _ hx
 generalize hy : evc x = y at hv
 cases hv with
 | ptr hpl =>
  rename_i pl
  obtain ⟨h0, m', h1, h2⟩ := iter_of hrel hr hpl
  cases h2 with
  | map hpm =>
   rename_i pm
   obtain ⟨es', hh, hes⟩ := map_of hrel hm hpm
   obtain ⟨i, hi, rfl⟩ := List.mem_iff_getElem.1 he
   have hi2 : i < es'.size := by rw [← hes.1]; exact hi
   obtain ⟨k1, k2, k3, k4⟩ := hes.2 i _ _ (List.getElem?_eq_getElem hi) (Array.getElem?_eq_getElem hi2)
   have hb : es'.toList.map (·.born) = es.map (·.born) := by
    apply List.ext_getElem?
    intro j
    simp only [List.getElem?_map]
    rcases Nat.lt_or_ge j es.length with hj | hj
    ·have h3 : es'[j]? = some (es'[j]'(by rw [← hes.1]; exact hj)) := Array.getElem?_eq_getElem _
     rw [Array.getElem?_toList, List.getElem?_eq_getElem hj, h3]
     simp [(hes.2 j _ _ (List.getElem?_eq_getElem hj) h3).2.2.2]
    ·rw [List.getElem?_eq_none hj, List.getElem?_eq_none (by rw [Array.length_toList, ← hes.1]; exact hj)]
   have hrun := run_entry_at (P := P) w pl.blk pm.blk since seen.toArray es' clock es'[i] (by rw [h1, k4]; simp) hh (by simp) (by rw [hb]; exact hnd)
   have hs : (execOp evc ⟨some d, .entry x, ty, pos, af, gd⟩).run P w = .ok (.value (.tuple #[es'[i].key, es'[i].val])) w := by
    show (do pure (Next.value (← Instr.entry (evc x))) : Sem Next).run P w = _
    rw [hy, h0, Sem.run_bind, hrun]
    rfl
   exact ⟨⟨.tuple #[es[i].key, es[i].val], none, none⟩, ⟨_, _, _, _, hs, rfl, hrel, Frm.refl _ _ _, (VlRel.toArray (a := [es[i].key, es[i].val]) (a' := [es'[i].key, es'[i].val]) (.cons (by rw [k1]; exact plainV_rel ρ k2) (.cons k3 (.nil _)))) |> fun h => .tuple h.1 h.2, fun _ _ => rfl⟩, fun l _ hn => hn, hk⟩
end

section
variable {X : Cx} {k : List Fm} {f : Nat → Value} {s : Sls} {g : Gm} {m j m₀ j₀ i q : Nat} {ops : Array Oper} {os : List Oper} {d : Tmp} {ty : TypeId} {pos : String} {af : Array Edge} {x : Operand}

theorem n_nd {op : Op} (hq : j₀ + i = q) (ha : aop E6 (aeval (Fr X.N f s)) ⟨some d, op, ty, pos, af, none⟩ = none)
  (h : NdStep E6.P (m₀ + q) ⟨some d, op, ty, pos, af, none⟩ (Fr X.N f s) ⟨g, m + j⟩ fun a σ => ∃ s' g', a = Fr X.N f s' ∧ σ = ⟨g', m + j⟩ ∧ RN X k ops m₀ j₀ (i + 1) os f s' g' m j) :
  RN X k ops m₀ j₀ i (⟨some d, op, ty, pos, af, none⟩ :: os) f s g m j := by
 subst hq
 refine ⟨fun hops => ?_⟩
 rw [List.length_cons, List.range'_succ]
 have ho := rn_here hops
 simp only [runL, ho, Region.wanted, if_true, ha]
 rw [← Nat.add_assoc] at h
 refine h.mono fun a σ hh => ?_
 obtain ⟨s', g', rfl, rfl, hR⟩ := hh
 exact hR.out (rn_rest hops)

theorem n_range {t kt et : TypeId} {mm : Nat} {es : List MapEntry} {clock : Nat} (hq : j₀ + i = q) (hu : E6.P.underlying t = some (.map kt et)) (hx : ov X.N s x = some (.map (some mm))) (hm : g mm = some (.map es clock))
  (h : RN X k ops m₀ j₀ (i + 1) os f ((d, .pointer (some ⟨m₀ + q, 0, none⟩)) :: s) (gset g (m₀ + q) (.mapIter (some mm) clock [] clock)) m j) : RN X k ops m₀ j₀ i (⟨some d, .range t x, ty, pos, af, none⟩ :: os) f s g m j :=
 n_nd hq rfl (nd_range hu (ov_ok hx) hm ⟨_, _, Fr_put _ _ _ _ _, rfl, h⟩)

theorem n_next {r mm since stepped clock : Nat} {seen : List Nat} {es : List MapEntry} (hq : j₀ + i = q) (hx : ov X.N s x = some (.pointer (some ⟨r, 0, none⟩))) (hr : g r = some (.mapIter (some mm) since seen stepped)) (hm : g mm = some (.map es clock))
  (hold : ∀ e ∈ es, e.born < since) (hsc : since ≤ stepped)
  (hno : (∀ e ∈ es, e.born ∈ seen) → RN X k ops m₀ j₀ (i + 1) os f ((d, .tuple #[.bool false]) :: s) g m j)
  (hyes : ∀ e ∈ es, e.born ∉ seen → RN X k ops m₀ j₀ (i + 1) os f ((d, .tuple #[.bool true, e.key, e.val]) :: s) (gset g r (.mapIter (some mm) since (seen ++ [e.born]) clock)) m j) : RN X k ops m₀ j₀ i (⟨some d, .next x false, ty, pos, af, none⟩ :: os) f s g m j :=
 n_nd hq rfl (nd_next (ov_ok hx) hr hm hold hsc (fun h => ⟨_, _, Fr_put _ _ _ _ _, rfl, hno h⟩) fun e he hn => ⟨_, _, Fr_put _ _ _ _ _, rfl, hyes e he hn⟩)

theorem n_entry {r mm since clock : Nat} {seen : List Nat} {es : List MapEntry} {e : MapEntry} (hq : j₀ + i = q) (hx : ov X.N s x = some (.pointer (some ⟨r, 0, none⟩))) (hr : g r = some (.mapIter (some mm) since (seen ++ [e.born]) clock)) (hm : g mm = some (.map es clock))
  (he : e ∈ es) (hnd : (es.map (·.born)).Nodup) (h : RN X k ops m₀ j₀ (i + 1) os f ((d, .tuple #[e.key, e.val]) :: s) g m j) : RN X k ops m₀ j₀ i (⟨some d, .entry x, ty, pos, af, none⟩ :: os) f s g m j :=
 n_nd hq rfl (nd_entry (ov_ok hx) hr hm he hnd ⟨_, _, Fr_put _ _ _ _ _, rfl, h⟩)
end

end Go.Proofs.YtehmailaabjdjaaGreat
end

section
open Go.Proofs
namespace Go.Proofs.YtehmailaabjdjaaGreat
set_option linter.unusedSimpArgs false
set_option linter.unusedVariables false
set_option maxRecDepth 100000

structure SEnt where
 key : Bs
 rev : Int
 val : Bs

structure Sto where
 rev : Int
 now : List (Bs × SEnt)
 last : List (Bs × Int)
 log : Log
 reads : Int
 writes : Int

def SEnt.zero : SEnt := ⟨[], 0, []⟩
def entC (e : SEnt) (v : Value) : List Value := [.string (str e.key), .int .i64 e.rev, v]
def EnC (B : Value → List UInt8 → Prop) (c : List Value) (e : SEnt) : Prop := ∃ a p, c = entC e (.slice a e.val.length p) ∧ B (.slice a e.val.length p) e.val ∧ e.val.length ≤ 4000
def EnV (b : Nat) (g : Gm) (v : Value) (e : SEnt) : Prop := ∃ c, v = .agg c.toArray ∧ EnC (BytesNew b g) c e

structure StAt (b : Nat) (g : Gm) (s m1 m2 l : Nat) (sl : Value) (S : Sto) : Prop where
 cell : g s = some (.cells [.int .i64 S.rev, .map (some m1), .map (some m2), .pointer (some ⟨l, 0, none⟩), .int .i64 S.reads, .int .i64 S.writes] 0 false)
 now : MapAt g (EnV b g) m1 S.now
 last : MapAt g (fun v z => v = .int .i64 z) m2 S.last
 log : LogAt b g l sl S.log
 ne : m1 ≠ m2

def FC (r : Nat) (x : Nat) (o : AObj) : Prop := x = r ∧ ∃ c ro, o = .cells c 0 ro
theorem FC.of {r : Nat} {g : Gm} {c : List Value} {ro : Bool} (h : g r = some (.cells c 0 ro)) : ∀ o, g r = some o → FC r r o := fun o ho => ⟨rfl, c, ro, Option.some.inj (ho.symm.trans h)⟩
theorem FC.nob (r : Nat) : NoB (FC r) := fun x cl ro h => by obtain ⟨_, c, q, e⟩ := h; cases e

def FS (s m1 m2 l : Nat) (sl : Value) (x : Nat) (o : AObj) : Prop := ((x = s ∨ x = l) ∧ ∃ c ro, o = .cells c 0 ro) ∨ ((x = m1 ∨ x = m2) ∧ ∃ es c, o = .map es c) ∨ (vname sl = some x ∧ ∃ c ro, o = .cells c 4 ro)
theorem FS.nob (s m1 m2 l : Nat) (sl : Value) : NoB (FS s m1 m2 l sl) := fun x cl ro h => by
 rcases h with ⟨_, c, q, e⟩ | ⟨_, c, q, e⟩ | ⟨_, c, q, e⟩ <;> cases e
theorem FS.no3 (s m1 m2 l : Nat) (sl : Value) (x : Nat) (c : List Value) (ro : Bool) : ¬ FS s m1 m2 l sl x (.cells c 3 ro) := fun h => by
 rcases h with ⟨_, c, q, e⟩ | ⟨_, c, q, e⟩ | ⟨_, c, q, e⟩ <;> cases e
theorem FC.no3 (s : Nat) (x : Nat) (c : List Value) (ro : Bool) : ¬ FC s x (.cells c 3 ro) := fun h => by
 obtain ⟨_, c, q, e⟩ := h; cases e

theorem SlC.kk {F : Nat → AObj → Prop} {g g' : Gm} {n k m : Nat} {v : Value} {cs : List Value} (h : SlC g k v m cs) (hk : Kp F g n g') (hw : WF g n) (hF : ∀ x c ro, ¬ F x (.cells c k ro)) : SlC g' k v m cs := by
 obtain ⟨h1, h2 | h2 | ⟨l, o, c, h2, h3, h4 | ⟨cl, ro, h4, h5, h6⟩⟩⟩ := h
 ·exact ⟨h1, .inl h2⟩
 ·exact ⟨h1, .inr (.inl h2)⟩
 ·exact ⟨h1, .inr (.inr ⟨l, o, c, h2, h3, .inl h4⟩)⟩
 ·exact ⟨h1, .inr (.inr ⟨l, o, c, h2, h3, .inr ⟨cl, ro, hk.at hw h4 (hF _ _ _), h5, h6⟩⟩)⟩

section
variable {F : Nat → AObj → Prop} {g g' : Gm} {n b s m1 m2 l : Nat} {sl : Value} {S : Sto}

theorem EnC.mono {B B' : Value → List UInt8 → Prop} {c : List Value} {e : SEnt} (h : EnC B c e) (hb : ∀ v bs, B v bs → B' v bs) : EnC B' c e := by
 obtain ⟨a, p, h1, h2, h3⟩ := h
 exact ⟨a, p, h1, hb _ _ h2, h3⟩
theorem EnV.mono {b' : Nat} {v : Value} {e : SEnt} (h : EnV b g v e) (hb : ∀ v bs, BytesNew b g v bs → BytesNew b' g' v bs) : EnV b' g' v e := by
 obtain ⟨c, h1, h2⟩ := h
 exact ⟨c, h1, h2.mono hb⟩
theorem MapAt.kp {α : Type} {R R' : Value → α → Prop} {m : Nat} {r : List (Bs × α)} (h : MapAt g R m r) (hk : Kp F g n g') (hw : WF g n) (hm : ∀ es c, ¬ F m (.map es c)) (hr : ∀ v a, R v a → R' v a) : MapAt g' R' m r := by
 obtain ⟨es, c, h1, h2, h3⟩ := h
 exact ⟨es, c, hk.at hw h1 (hm _ _), h2, h3.mono hr⟩
theorem StAt.kp (h : StAt b g s m1 m2 l sl S) (hk : Kp F g n g') (hw : WF g n) (hF : ∀ x cl ro, b ≤ x → ¬ F x (.cells cl 1 ro)) (hs : ∀ c, ¬ F s (.cells c 0 false)) (h1 : ∀ es c, ¬ F m1 (.map es c)) (h2 : ∀ es c, ¬ F m2 (.map es c)) (hl : ∀ c, ¬ F l (.cells c 0 false)) (hsl : Off F g sl) : StAt b g' s m1 m2 l sl S :=
 ⟨hk.at hw h.cell (hs _), h.now.kp hk hw h1 (fun v e he => he.mono fun v bs hb => hb.kpb hk hw hF), h.last.kp hk hw h2 (fun _ _ h => h), ⟨hk.at hw h.log.cell (hl _), h.log.evs.kp hk hw hF hsl⟩, h.ne⟩
theorem StAt.kp0 (h : StAt b g s m1 m2 l sl S) (hk : K0 g n g') (hw : WF g n) : StAt b g' s m1 m2 l sl S := h.kp hk hw (fun _ _ _ _ h => h) (fun _ h => h) (fun _ _ h => h) (fun _ _ h => h) (fun _ h => h) (Off.z g sl)
theorem StAt.nl (h : StAt b g s m1 m2 l sl S) : s ≠ l := fun e => by
 have h1 := h.cell
 rw [e, h.log.cell] at h1
 cases h1
theorem StAt.sm1 (h : StAt b g s m1 m2 l sl S) : s ≠ m1 := fun e => by
 have h1 := h.cell
 obtain ⟨es, c, h2, _⟩ := h.now
 rw [e, h2] at h1; cases h1
theorem StAt.sm2 (h : StAt b g s m1 m2 l sl S) : s ≠ m2 := fun e => by
 have h1 := h.cell
 obtain ⟨es, c, h2, _⟩ := h.last
 rw [e, h2] at h1; cases h1
theorem StAt.lm1 (h : StAt b g s m1 m2 l sl S) : l ≠ m1 := fun e => by
 have h1 := h.log.cell
 obtain ⟨es, c, h2, _⟩ := h.now
 rw [e, h2] at h1; cases h1
theorem StAt.lm2 (h : StAt b g s m1 m2 l sl S) : l ≠ m2 := fun e => by
 have h1 := h.log.cell
 obtain ⟨es, c, h2, _⟩ := h.last
 rw [e, h2] at h1; cases h1
theorem StAt.sv (h : StAt b g s m1 m2 l sl S) : vname sl ≠ some s := h.log.evs.nv h.cell (by decide)
theorem StAt.m1v (h : StAt b g s m1 m2 l sl S) : vname sl ≠ some m1 := fun e => by
 obtain ⟨⟨cs, h1, _⟩, _⟩ := h.log.evs
 obtain ⟨cl, hcl⟩ : ∃ cl, g m1 = some (.cells cl 4 false) := by
  obtain ⟨_, ⟨rfl, _⟩ | ⟨l', o, c, cl, rfl, _, h4, _⟩⟩ := h1
  ·cases e
  ·simp only [vname, Option.some.injEq] at e
   subst e
   exact ⟨cl, h4⟩
 obtain ⟨es, c, h2, _⟩ := h.now
 rw [hcl] at h2; cases h2
theorem StAt.m2v (h : StAt b g s m1 m2 l sl S) : vname sl ≠ some m2 := fun e => by
 obtain ⟨⟨cs, h1, _⟩, _⟩ := h.log.evs
 obtain ⟨cl, hcl⟩ : ∃ cl, g m2 = some (.cells cl 4 false) := by
  obtain ⟨_, ⟨rfl, _⟩ | ⟨l', o, c, cl, rfl, _, h4, _⟩⟩ := h1
  ·cases e
  ·simp only [vname, Option.some.injEq] at e
   subst e
   exact ⟨cl, h4⟩
 obtain ⟨es, c, h2, _⟩ := h.last
 rw [hcl] at h2; cases h2

theorem off_fc {x : Nat} {v : Value} {es : List Evt} (h : EvsOwn b g v es) : Off (FC x) g v := fun y o hy ho hf => by
 obtain ⟨e, c, q, rfl⟩ := hf
 subst e
 exact h.nv ho (by decide) hy
theorem StAt.fc {x : Nat} (h : StAt b g s m1 m2 l sl S) (hk : Kp (FC x) g n g') (hw : WF g n) (hs : s ≠ x) (hl : l ≠ x) : StAt b g' s m1 m2 l sl S :=
 h.kp hk hw (fun y cl ro _ => FC.nob _ y cl ro) (fun c hf => hs hf.1) (fun es c hf => by obtain ⟨_, c', q, e⟩ := hf; cases e) (fun es c hf => by obtain ⟨_, c', q, e⟩ := hf; cases e) (fun c hf => hl hf.1) (off_fc h.log.evs)

theorem StAt.put (h : StAt b g s m1 m2 l sl S) (hw : WF g n) {S' : Sto} (h1 : S'.now = S.now) (h2 : S'.last = S.last) (h3 : S'.log = S.log) :
  StAt b (gset g s (.cells [.int .i64 S'.rev, .map (some m1), .map (some m2), .pointer (some ⟨l, 0, none⟩), .int .i64 S'.reads, .int .i64 S'.writes] 0 false)) s m1 m2 l sl S' := by
 have hk : ∀ o, Kp (FC s) g n (gset g s o) := fun o => Kp.set (Kp.refl _ _ _) (FC.of h.cell) o
 refine ⟨gs_same _ _ _, ?_, ?_, ?_, h.ne⟩
 ·rw [h1]; exact h.now.kp (hk _) hw (fun es c hf => by obtain ⟨_, c', q, e⟩ := hf; cases e) (fun v e he => he.mono fun v bs hb => hb.kp (hk _) hw (FC.nob _))
 ·rw [h2]; exact h.last.kp (hk _) hw (fun es c hf => by obtain ⟨_, c', q, e⟩ := hf; cases e) (fun v a e => e)
 ·rw [h3]; exact h.log.kp (hk _) hw (fun x cl ro _ => FC.nob _ x cl ro) (fun o hf => h.nl hf.1.symm) (fun x o hx ho hf => by
   obtain ⟨e, _⟩ := hf
   subst e
   exact h.sv hx)
end

section
variable {N : Nat} {f : Nat → Value} {s : Sls} {g : Gm} {n nm : Nat} {k : Sls → Gm → List Nat → List Nat → Prop} {d : Tmp} {ty : TypeId} {pos : String} {af : Array Edge} {gd : Option (Nat × Bool)}
theorem s_aadd {x y : Operand} {ts : Array TypeId} {l o sz : Nat} {c c' : List Value} {a z r : Int} (hx : ov N s x = some (.pointer (some ⟨l, o, none⟩))) (hy : ov N s y = some (.int .i64 z)) (hg : g l = some (.cells c sz false)) (hc : c[o]? = some (.int .i64 a)) (hr : a + z = r) (h1 : -9223372036854775808 ≤ r) (h2 : r ≤ 9223372036854775807)
  (hu : upL c o (.int .i64 r) = some c') (hk : k ((d, .int .i64 r) :: s) (gset g l (.cells c' sz false)) [l] [l]) : ST N f s g n nm ⟨some d, .call ⟨.value (.func 100), #[x, y], ts⟩, ty, pos, af, gd⟩ k := by
 have hset : ∀ {c : List Value} {o : Nat} {v : Value} {c' : List Value}, upL c o v = some c' → c.set o v = c' := by
  intro c
  induction c with
  | nil => intro o v c' h; cases h
  | cons y c ih =>
   intro o v c' h
   cases o with
   | zero => simp only [upL, Option.some.injEq] at h; subst h; rfl
   | succ o =>
    simp only [upL] at h
    split at h
    ·rename_i q hq
     cases h
     simp [ih hq]
    ·cases h
 have e1 : pureRun E6.P (Op.intArith .add .i64 a z) = some (.int .i64 r) := by
  subst hr
  show some (Value.int .i64 (IntKind.i64.wrap (a + z))) = _
  rw [wrap_id h1 h2]
 refine ⟨⟨[l], fun _ objs => match objs with
   | [.cells c sz false] => match c[o]? with
    | some (.int k' n) => if IntKind.i64 = k' && IntKind.i64 = IntKind.i64 then (pureRun E6.P (Op.intArith .add .i64 n z)).bind fun v => if plainV v && oneCell v then
      some ⟨v, some (l, some (.cells (c.set o v) sz false)), none⟩ else none else none
    | _ => none
   | _ => none⟩, ⟨.int .i64 r, some (l, some (.cells c' sz false)), none⟩, ?_, ?_, by simp [wrOk], _, _, Fr_put _ _ _ _ _, rfl, hk⟩
 ·have hfun : aeval (Fr N f s) (.func 100) = some (.func (.func 100) #[] #[]) := rfl
  simp only [aop, aCall, List.toList_toArray, evList, ov_ok hx, ov_ok hy, hfun, Option.bind_some, Option.map_some]
  rfl
 ·simp only [Prim.run, getAll, hg, Option.bind_some, Option.map_some, hc, e1]
  rw [hset hu]
  rfl
theorem s_aload {x : Operand} {ts : Array TypeId} {l o sz : Nat} {c : List Value} {ro : Bool} {a : Int} (hx : ov N s x = some (.pointer (some ⟨l, o, none⟩))) (hg : g l = some (.cells c sz ro)) (hc : c[o]? = some (.int .i64 a))
  (hk : k ((d, .int .i64 a) :: s) g [l] []) : ST N f s g n nm ⟨some d, .call ⟨.value (.func 113), #[x], ts⟩, ty, pos, af, gd⟩ k := by
 refine ⟨⟨[l], fun _ objs => match objs with
   | [.cells c _ _] => match c[o]? with
    | some (.int k' n) => if IntKind.i64 = k' then some ⟨.int k' n, none, none⟩ else none
    | _ => none
   | _ => none⟩, ⟨.int .i64 a, none, none⟩, ?_, ?_, rfl, _, _, Fr_put _ _ _ _ _, rfl, hk⟩
 ·have hfun : aeval (Fr N f s) (.func 113) = some (.func (.func 113) #[] #[]) := rfl
  simp only [aop, aCall, List.toList_toArray, evList, ov_ok hx, hfun, Option.bind_some, Option.map_some]
  rfl
 ·simp only [Prim.run, getAll, hg, Option.bind_some, Option.map_some, hc]
  rfl
end

theorem aadd_c {g : Gm} {n l o : Nat} {c c' : List Value} {a r : Int} (hg : g l = some (.cells c 0 false)) (hc : c[o]? = some (.int .i64 a)) (hr : a + 1 = r) (h1 : -9223372036854775808 ≤ r) (h2 : r ≤ 9223372036854775807) (hu : upL c o (.int .i64 r) = some c') :
  C 64 #[.pointer (some ⟨l, o, none⟩), .int .i64 1] g n fun u g' n' => u = .int .i64 r ∧ g' = gset g l (.cells c' 0 false) := by
 refine c_in2 Tryz.func64 rfl Tryz.ntmps64 rfl fun hw => (Na (w_reg 1 rfl rfl (j' := 1) (nA rfl (n_nil (Nc (Na (w_reg 6 rfl rfl (j' := 7) (nM rfl (nN rfl (nO (s_fa rfl fo_125_2 (nM rfl (n_op .no (q := 5) rfl (s_aadd rfl rfl hg hc hr h1 h2 hu (nA rfl (n_nil (Nc (Nf (z_r1 rfl rfl ?_)))))))))))))))))))
 exact ⟨rfl, rfl⟩
theorem aload_c {g : Gm} {n l o : Nat} {c : List Value} {a : Int} (hg : g l = some (.cells c 0 false)) (hc : c[o]? = some (.int .i64 a)) :
  C 93 #[.pointer (some ⟨l, o, none⟩)] g n fun u g' n' => u = .int .i64 a ∧ g' = g := by
 refine c_in1 Tryz.func93 rfl Tryz.ntmps93 rfl fun hw => (Na (w_reg 1 rfl rfl (j' := 1) (nA rfl (n_nil (Nc (Na (w_reg 5 rfl rfl (j' := 6) (nM rfl (nN rfl (nO (s_fa rfl fo_125_2 (n_op .no (q := 4) rfl (s_aload rfl hg hc (nA rfl (n_nil (Nc (Nf (z_r1 rfl rfl ?_))))))))))))))))))
 exact ⟨rfl, rfl⟩

end Go.Proofs.YtehmailaabjdjaaGreat
end

section
open Go.Proofs
namespace Go.Proofs.YtehmailaabjdjaaGreat
set_option linter.unusedSimpArgs false
set_option linter.unusedVariables false
set_option maxRecDepth 100000

def Sto.new : Sto := ⟨0, [], [], ⟨[], 64, 0, 0⟩, 0, 0⟩

theorem copied65_c {g : Gm} {n : Nat} {e : SEnt} {v : Value} (h : BytesAt g v e.val) (hs : e.val.length ≤ 4000) :
  C 65 #[.agg (entC e v).toArray] g n fun u g' n' => ∃ c, u = .agg c.toArray ∧ EnC (BytesNew n g') c e ∧ K0 g n g' := by
 refine c_in1 Tryz.func65 rfl Tryz.ntmps65 rfl fun hw => (Na (w_reg 2 rfl rfl (j' := 2) (n_op .no (q := 0) rfl (s_boxa rfl (n_op .no (q := 1) rfl (s_al zl_28 (n_nil (Nc (Na (w_reg 5 rfl rfl (j' := 7) (nO (s_fa0 rfl fo_28_2 (nO (sL rfl ag_26 ?_))))))))))))))
 refine n_call .no rfl rfl rfl (C.use (clone_c (BytesAt.kp0 h (by repeat (first | exact Kp.refl _ _ _ | refine Kp.new ?_ (by omega) _)) hw) (by omega)) fun v g1 n1 hw1 hn1 hq => ?_)
 obtain ⟨⟨a, c, rfl⟩, h1, k1⟩ := hq
 refine nO (s_fa0 rfl fo_28_2 (nO (s_st rfl rfl sz_26 (by repeat first | exact gS | refine Kp.lt k1 (by omega) ?_ | refine gN (by omega) ?_) rfl rfl (by exact rfl) ?_)))
 refine n_nil (Nc (Na (w_reg 2 rfl rfl (j' := 2) (nO (s_ldf rfl (by repeat first | exact gS | refine Kp.lt k1 (by omega) ?_ | refine gN (by omega) ?_) ag_28 sz_28 (by exact rfl) ?_)))))
 refine nO (s_stw rfl rfl sz_28 rfl (by repeat first | exact gS | refine Kp.lt k1 (by omega) ?_ | refine gN (by omega) ?_) (by exact rfl) rfl ?_)
 refine n_nil (Nc (Nf (z_rc rfl rfl (by repeat first | exact gS | refine Kp.lt k1 (by omega) ?_ | refine gN (by omega) ?_) ag_28 sz_28 (by exact rfl) (by exact Nat.le_of_ble_eq_true rfl) ?_)))
 have k2 : K0 g n g1 := Kp.trans0 (by repeat (first | exact Kp.refl _ _ _ | refine Kp.new ?_ (by omega) _)) k1 (by omega)
 exact ⟨_, rfl, ⟨a, c, rfl, (h1.kpb (n := n1) (F := fun x _ => x < n + 7) (by repeat (first | exact Kp.refl _ _ _ | refine Kp.low ?_ (by omega) _ | refine Kp.new ?_ (by omega) _)) hw1 (fun x _ _ h => by omega)).up (by omega), hs⟩, Kp.new (Kp.new k2 (by omega) _) (by omega) _⟩

theorem WF.gs {g : Gm} {n n' x : Nat} (h : WF g n) (hx : x < n') (hn : n ≤ n') (o : AObj) : WF (gset g x o) n' := fun y p hy => by
 by_cases e : y = x
 ·omega
 ·rw [gs_ne e] at hy; have := h y p hy; omega

section
variable {g : Gm} {n b s m1 m2 l : Nat} {sl : Value} {S : Sto}

theorem st_rev (h : StAt b g s m1 m2 l sl S) : C 26 #[.pointer (some ⟨s, 0, none⟩)] g n fun u g' n' => u = .int .i64 S.rev ∧ K0 g n g' := by
 have hc := h.cell
 refine c_in1 Tryz.func26 rfl Tryz.ntmps26 rfl fun hw => ?_
 have hsn := hw _ _ hc
 refine Na (w_reg 1 rfl rfl (j' := 1) (nA rfl (n_nil (Nc (Na (Na (w_reg 2 rfl rfl (j' := 3) (nM rfl (nO (s_bin rfl rfl (bi_d un_24 rfl) ?_))))))))))
 refine n_nil (Nc (w_no rfl (rfl) (Ne (Nc (Na (w_reg 5 rfl rfl (j' := 8) (nM rfl (nN rfl (nO (s_fa0 rfl fo_127_0 (nO (sL rfl ag_2 ?_))))))))))))
 refine nA rfl (n_nil (Nc (Nf (z_r1 rfl rfl ?_))))
 exact ⟨rfl, (by repeat (first | exact Kp.refl _ _ _ | refine Kp.new ?_ (by omega) _))⟩

theorem st_base (h : StAt b g s m1 m2 l sl S) : C 55 #[.pointer (some ⟨s, 0, none⟩)] g n fun u g' n' => u = .int .i64 S.log.base ∧ K0 g n g' := by
 have hc := h.cell
 refine c_in1 Tryz.func55 rfl Tryz.ntmps55 rfl fun hw => ?_
 have hsn := hw _ _ hc
 refine Na (w_reg 1 rfl rfl (j' := 1) (nA rfl (n_nil (Nc (Na (Na (w_reg 2 rfl rfl (j' := 3) (nM rfl (nO (s_bin rfl rfl (bi_d un_24 rfl) ?_))))))))))
 refine n_nil (Nc (w_no rfl (rfl) (Ne (Nc (Na (w_reg 6 rfl rfl (j' := 9) (nM rfl (nN rfl (nO (s_fa0 rfl fo_127_3 (nO (sL rfl ag_78 ?_))))))))))))
 refine n_call .no rfl rfl rfl (C.use (log_base h.log) fun v g1 n1 hw1 hn1 hq => ?_)
 obtain ⟨rfl, k1⟩ := hq
 refine nA rfl (n_nil (Nc (Nf (z_r1 rfl rfl ?_))))
 exact ⟨rfl, k1.dn (by omega)⟩

theorem st_asked (h : StAt b g s m1 m2 l sl S) : C 59 #[.pointer (some ⟨s, 0, none⟩)] g n fun u g' n' => u = .tuple #[.int .i64 S.reads, .int .i64 S.writes] ∧ K0 g n g' := by
 have hc := h.cell
 refine c_in1 Tryz.func59 rfl Tryz.ntmps59 rfl fun hw => ?_
 have hsn := hw _ _ hc
 refine Na (w_reg 2 rfl rfl (j' := 2) (nA rfl (nA rfl (n_nil (Nc (Na (Na (w_reg 2 rfl rfl (j' := 4) (nM rfl (nO (s_bin rfl rfl (bi_d un_24 rfl) ?_)))))))))))
 refine n_nil (Nc (w_no rfl (rfl) (Ne (Nc (Na (w_drw (T6 59 3) [(0, []), (1, []), (2, []), (4, []), (5, []), (6, []), (3, []), (7, []), (8, []), (9, [])] 10 (by kernel_rfl) rfl rfl (j' := 14) (dM rfl rfl (dO rfl rfl (s_nil rfl ⟨⟨rfl, rfl⟩, (dO rfl rfl (s_fa0 rfl fo_127_4 ⟨⟨rfl, rfl⟩, (dM rfl rfl (dO rfl rfl (s_nil rfl ⟨⟨rfl, rfl⟩, (dO rfl rfl (s_fa0 rfl fo_127_5 ⟨⟨rfl, rfl⟩, (d_call rfl .no rfl rfl rfl call_nil (C.use (aload_c hc (o := 4) rfl) fun v g1 n1 hw1 hn1 hq => ?_))⟩))⟩)))⟩))⟩)))))))))
 obtain ⟨rfl, rfl⟩ := hq
 refine ⟨kept_nil, (d_call rfl .no rfl rfl rfl call_nil (C.use (aload_c hc (o := 5) rfl) fun v g2 n2 hw2 hn2 hq => ?_))⟩
 obtain ⟨rfl, rfl⟩ := hq
 refine ⟨kept_nil, (dO rfl rfl (s_as rfl ⟨⟨rfl, rfl⟩, (dO rfl rfl (s_as rfl ⟨⟨rfl, rfl⟩, (d_nil (Nc (Nf (z_r2 rfl rfl rfl ?_))))⟩))⟩))⟩
 exact ⟨rfl, (by repeat (first | exact Kp.refl _ _ _ | refine Kp.new ?_ (by omega) _))⟩

theorem st_watch {rev : Int} (h : StAt b g s m1 m2 l sl S) (hr : 0 ≤ S.reads ∧ S.reads < 4611686018427387904) (hn : S.log.evs.length < 2 ^ 40) :
  C 45 #[.pointer (some ⟨s, 0, none⟩), .int .i64 rev] g n fun u g' n' => ∃ v, u = .tuple #[v, .int .i64 (S.log.from_ rev).2] ∧ EvsOwn n g' v (S.log.from_ rev).1 ∧ StAt b g' s m1 m2 l sl { S with reads := S.reads + 1 } ∧ Kp (FC s) g n g' := by
 have hc := h.cell
 refine c_in2 Tryz.func45 rfl Tryz.ntmps45 rfl fun hw => ?_
 have hsn := hw _ _ hc
 refine Na (w_reg 2 rfl rfl (j' := 2) (nA rfl (nA rfl (n_nil (Nc (Na (Na (w_reg 2 rfl rfl (j' := 4) (nM rfl (nO (s_bin rfl rfl (bi_d un_24 rfl) ?_)))))))))))
 refine n_nil (Nc (w_no rfl (rfl) (Ne (Nc (Na (w_reg 4 rfl rfl (j' := 8) (nM rfl (nN rfl (nO (s_fa0 rfl fo_127_4 (n_call .no rfl rfl rfl (C.use (aadd_c hc (o := 4) rfl (r := S.reads + 1) rfl (by omega) (by omega) rfl) fun v g1 n1 hw1 hn1 hq => ?_))))))))))))
 obtain ⟨rfl, rfl⟩ := hq
 have h1 : StAt b _ s m1 m2 l sl { S with reads := S.reads + 1 } := h.put hw (S' := { S with reads := S.reads + 1 }) rfl rfl rfl
 refine n_nil ?_
 repeat first | refine Na ?_ | refine Nb ?_ | refine Nc ?_ | refine Nd ?_ | refine Ne ?_
 refine w_gen fun g2 n2 hg2 hn2 hwg2 => ?_
 rw [← hg2] at h1
 have k2 : Kp (FC s) g n g2 := by rw [hg2]; exact Kp.set (Kp.refl _ _ _) (FC.of hc) _
 have hc2 := h1.cell
 clear hg2
 repeat first | refine Na ?_ | refine Nb ?_ | refine Nc ?_ | refine Nd ?_ | refine Ne ?_
 refine w_reg 10 rfl rfl (j' := 10) (nM rfl (nN rfl (nO (s_fa0 rfl fo_127_3 (nO (sL rfl ag_78 ?_))))))
 refine nM rfl (n_call .no rfl rfl rfl (C.use (log_from h1.log hn) fun v g3 n3 hw3 hn3 hq => ?_))
 obtain ⟨v, rfl, hE, k3⟩ := hq
 refine nO (s_ext rfl rfl (nO (s_ext rfl rfl (nA rfl (nA rfl (n_nil (Nc (Nf (z_r2 rfl rfl rfl ?_)))))))))
 exact ⟨v, rfl, hE.up (by omega), h1.kp0 (k3.dn (by omega)) hwg2, k2.trans0 (k3.dn (m := n2) (by omega)) (by omega)⟩

theorem st_compact {rev : Int} (h : StAt b g s m1 m2 l sl S) (hn : S.log.evs.length ≤ 2 ^ 40) :
  C 47 #[.pointer (some ⟨s, 0, none⟩), .int .i64 rev] g n fun u g' n' => ∃ sl', StAt b g' s m1 m2 l sl' { S with log := S.log.cut rev } ∧ vname sl' = vname sl ∧ Kp (FL l sl) g n g' := by
 have hc := h.cell
 refine c_in2 Tryz.func47 rfl Tryz.ntmps47 rfl fun hw => ?_
 have hsn := hw _ _ hc
 refine Na (w_reg 2 rfl rfl (j' := 2) (nM rfl (nO (s_bin rfl rfl (bi_d un_24 rfl) ?_))))
 refine n_nil (Nc (w_yes rfl (rfl) (w_reg 6 rfl rfl (j' := 8) (nM rfl (nN rfl (nO (s_fa0 rfl fo_127_3 (nO (sL rfl ag_78 ?_)))))))))
 refine nM rfl (n_call .no rfl rfl rfl (C.use (log_cut h.log hn) fun v g1 n1 hw1 hn1 hq => ?_))
 obtain ⟨sl', hA, hv, k1⟩ := hq
 refine n_nil ?_
 have k1' := k1.dn (m := n) (by omega)
 refine z_r0 rfl ⟨sl', ⟨k1'.at hw hc (fun hf => by rcases hf.1 with e | e; exact h.nl e; exact h.sv e), h.now.kp k1' hw (fun es c hf => by rcases hf.1 with e | e; exact h.lm1 e.symm; exact h.m1v e) (fun v e he => he.mono fun v bs hb => hb.kp k1' hw (FL.nob _ _)),
  h.last.kp k1' hw (fun es c hf => by rcases hf.1 with e | e; exact h.lm2 e.symm; exact h.m2v e) (fun _ _ e => e), hA, h.ne⟩, hv, k1'⟩

theorem st_get {k : Bs} (h : StAt b g s m1 m2 l sl S) (hr : 0 ≤ S.reads ∧ S.reads < 4611686018427387904) :
  C 25 #[.pointer (some ⟨s, 0, none⟩), .string (str k)] g n fun u g' n' => ∃ c e ok, u = .tuple #[.agg c.toArray, .bool ok] ∧ EnC (BytesNew n g') c e ∧ (findK k S.now = some e ∧ ok = true ∨ findK k S.now = none ∧ e = SEnt.zero ∧ ok = false) ∧
   StAt b g' s m1 m2 l sl { S with reads := S.reads + 1 } ∧ Kp (FC s) g n g' := by
 have hc := h.cell
 refine c_in2 Tryz.func25 rfl Tryz.ntmps25 rfl fun hw => ?_
 have hsn := hw _ _ hc
 have hln := hw _ _ h.log.cell
 refine Na (w_reg 2 rfl rfl (j' := 2) (n_op .no (q := 0) rfl (s_al zl_28 (nA rfl (n_nil (Nc (Na (Na (w_reg 2 rfl rfl (j' := 4) (nM rfl (nO (s_bin rfl rfl (bi_d un_24 rfl) ?_))))))))))))
 refine n_nil (Nc (w_no rfl (rfl) (Ne (Nc (Na (w_reg 4 rfl rfl (j' := 8) (nM rfl (nN rfl (nO (s_fa0 rfl fo_127_4 (n_call .no rfl rfl rfl (C.use (aadd_c ((gs_ne (by omega) _).trans hc) (o := 4) rfl (r := S.reads + 1) rfl (by omega) (by omega) rfl) fun v g1 n1 hw1 hn1 hq => ?_))))))))))))
 obtain ⟨rfl, rfl⟩ := hq
 have h0 : StAt b (gset g (n + 0) (.cells [.string .empty, .int .i64 0, .slice none 0 0] 0 false)) s m1 m2 l sl S := h.kp0 (n := n) (by repeat (first | exact Kp.refl _ _ _ | refine Kp.new ?_ (by omega) _)) hw
 have h1 := h0.put (hw.gs (x := n + 0) (n' := n + 1) (by omega) (by omega) _) (S' := { S with reads := S.reads + 1 }) rfl rfl rfl
 refine n_nil ?_
 repeat first | refine Na ?_ | refine Nb ?_ | refine Nc ?_ | refine Nd ?_ | refine Ne ?_
 refine w_gen fun g2 n2 hg2 hn2 hwg2 => ?_
 rw [← hg2] at h1
 have k2 : Kp (FC s) g n g2 := by rw [hg2]; exact Kp.set (Kp.new (Kp.refl _ _ _) (by omega) _) (FC.of hc) _
 have z2 : g2 n = some (.cells [.string .empty, .int .i64 0, .slice none 0 0] 0 false) := by rw [hg2]; exact (gs_ne (by omega) _).trans (gs_same _ _ _)
 have hc2 := h1.cell
 clear hg2
 rcases hf : findK k S.now with _ | e
 ·repeat first | refine Na ?_ | refine Nb ?_ | refine Nc ?_ | refine Nd ?_ | refine Ne ?_
  refine w_reg 12 rfl rfl (j' := 12) (nM rfl (nN rfl (nO (s_fa0 rfl fo_127_1 (nO (sL rfl ag_120 ?_))))))
  refine nM rfl (n_op .no (q := 5) rfl (s_lkF true un_120 un_9 zp_28 rfl rfl h1.now hf (nM rfl (nO (s_ext rfl rfl (nO (s_ext rfl rfl (n_op .no (q := 9) rfl (s_al zl_28 (nO (sSw rfl rfl sz_28 rfl rfl ?_)))))))))))
  refine nA rfl (n_nil (Nc (Na (w_reg 5 rfl rfl (j' := 17) (nO (sLf rfl ag_28 sz_28 ?_))))))
  refine n_call .no rfl rfl rfl (C.use (copied65_c (e := SEnt.zero) (v := .slice none 0 0) (SlC.nil _ _) (by decide)) fun v g3 n3 hw3 hn3 hq => ?_)
  obtain ⟨c, rfl, hE, k3⟩ := hq
  have k23 : K0 g2 n2 g3 := Kp.trans0 (n' := n2) (by repeat (first | exact Kp.refl _ _ _ | refine Kp.new ?_ (by omega) _)) (k3.dn (by omega)) (by omega)
  have z3 := k23.at0 hwg2 z2
  obtain ⟨a, p, rfl, hB, hle⟩ := hE
  refine nM rfl (nO (sSw rfl rfl sz_28 rfl rfl ?_))
  refine nA rfl (n_nil (Nc (Nf (z_rc1 rfl rfl rfl (by repeat first | exact gS | refine gN (by omega) ?_) ag_28 sz_28 (by exact rfl) (by exact Nat.le_of_ble_eq_true rfl) ?_))))
  exact ⟨_, SEnt.zero, false, rfl, ⟨a, p, rfl, (hB.other (fun e => by have := hB.2 _ e; omega) _).up (by omega), hle⟩, .inr ⟨rfl, rfl, rfl⟩, (h1.kp0 k23 hwg2).fc (n := n3) (Kp.set (Kp.refl (FC n) _ _) (FC.of z3) _) hw3 (by omega) (by omega), Kp.new (k2.trans0 k23 (by omega)) (by omega) _⟩
 ·repeat first | refine Na ?_ | refine Nb ?_ | refine Nc ?_ | refine Nd ?_ | refine Ne ?_
  refine w_reg 12 rfl rfl (j' := 12) (nM rfl (nN rfl (nO (s_fa0 rfl fo_127_1 (nO (sL rfl ag_120 ?_))))))
  refine nM rfl (n_op .no (q := 5) rfl (s_lkT true un_120 un_9 zp_28 rfl rfl h1.now hf fun v hv => ?_))
  obtain ⟨c, rfl, a, p, rfl, hB, hle⟩ := hv
  refine nM rfl (nO (s_ext rfl rfl (nO (s_ext rfl rfl (n_op .no (q := 9) rfl (s_al zl_28 (nO (sSw rfl rfl sz_28 rfl rfl ?_))))))))
  refine nA rfl (n_nil (Nc (Na (w_reg 5 rfl rfl (j' := 17) (nO (sLf rfl ag_28 sz_28 ?_))))))
  refine n_call .no rfl rfl rfl (C.use (copied65_c (e := e) (hB.at.kp0 (n := n2) (by repeat (first | exact Kp.refl _ _ _ | refine Kp.new ?_ (by omega) _)) hwg2) hle) fun v g3 n3 hw3 hn3 hq => ?_)
  obtain ⟨c, rfl, hE, k3⟩ := hq
  have k23 : K0 g2 n2 g3 := Kp.trans0 (n' := n2) (by repeat (first | exact Kp.refl _ _ _ | refine Kp.new ?_ (by omega) _)) (k3.dn (by omega)) (by omega)
  have z3 := k23.at0 hwg2 z2
  obtain ⟨a2, p2, rfl, hB2, hle2⟩ := hE
  refine nM rfl (nO (sSw rfl rfl sz_28 rfl rfl ?_))
  refine nA rfl (n_nil (Nc (Nf (z_rc1 rfl rfl rfl (by repeat first | exact gS | refine gN (by omega) ?_) ag_28 sz_28 (by exact rfl) (by exact Nat.le_of_ble_eq_true rfl) ?_))))
  exact ⟨_, e, true, rfl, ⟨a2, p2, rfl, (hB2.other (fun e => by have := hB2.2 _ e; omega) _).up (by omega), hle⟩, .inl ⟨rfl, rfl⟩, (h1.kp0 k23 hwg2).fc (n := n3) (Kp.set (Kp.refl (FC n) _ _) (FC.of z3) _) hw3 (by omega) (by omega), Kp.new (k2.trans0 k23 (by omega)) (by omega) _⟩
end

end Go.Proofs.YtehmailaabjdjaaGreat
end

section
open Go.Proofs
namespace Go.Proofs.YtehmailaabjdjaaGreat
set_option linter.unusedSimpArgs false
set_option linter.unusedVariables false
set_option maxRecDepth 100000

section
variable {N : Nat} {f : Nat → Value} {s : Sls} {g : Gm} {n nm : Nat} {k : Sls → Gm → List Nat → List Nat → Prop} {d : Tmp} {ty : TypeId} {pos : String} {af : Array Edge} {gd : Option (Nat × Bool)}
theorem str_take (bs : Bs) (j : Nat) (hj : j ≤ bs.length) : (str bs).extract 0 j = str (bs.take j) := by
 have : ((str bs).extract 0 j).data = (str (bs.take j)).data := by
  rw [ByteArray.data_extract]
  simp [str]
 cases h1 : (str bs).extract 0 j
 cases h2 : str (bs.take j)
 rw [h1, h2] at this
 simp only at this
 rw [this]
theorem s_hiS {x hi : Operand} {bs : Bs} {j : Nat} (hx : ov N s x = some (.string (str bs))) (hj : ov N s hi = some (.int .i64 (j : Int))) (hjl : j ≤ bs.length)
  (hk : k ((d, .string (str (bs.take j))) :: s) g [] []) : ST N f s g n nm ⟨some d, .slice 9 x none (some hi) none, ty, pos, af, gd⟩ k := by
 refine st_val (v := .string (str (bs.take j))) rfl ?_ hk
 have hrun : pureRun E6.P (Instr.slice 9 (.string (str bs)) none (some (.int .i64 (j : Int))) none) = some (.string (str (bs.take j))) := by
  unfold Instr.slice
  rw [pureRun_bind E6.P _ _ (pureRun_underlying un_9)]
  have hb : pureRun E6.P (Instr.sliceBounds false (str bs).size (str bs).size none (some (.int .i64 (j : Int))) none) = some (0, j, (str bs).size) := by
   unfold Instr.sliceBounds Instr.sliceBound
   simp only [pureRun_bind2, pureRun_pure, Option.bind_some, asIntOf]
   rw [if_pos ⟨by omega, by rw [str_size]; omega⟩]
   simp only [pureRun_pure, Option.bind_some, Int.toNat_natCast]
  dsimp only
  simp only [Option.isSome_none, Bool.false_eq_true, if_false]
  rw [pureRun_bind E6.P _ _ hb]
  show some (Value.string ((str bs).extract 0 j)) = _
  rw [str_take bs j hjl]
 simp only [aop, aSlice, un_9, plainEv, ov_ok hx, ov_ok hj, Option.bind_some]
 rw [if_pos (show plainV (.string (str bs)) = true from rfl), if_pos (show plainV (.int .i64 (j : Int)) = true from rfl)]
 simp only [Option.bind_some, pureVal, hrun]
 rw [if_pos (show plainV (.string (str (bs.take j))) = true from rfl)]
 rfl
end

section
variable {g : Gm} {n b s m1 m2 l : Nat} {sl : Value} {S : Sto}

theorem key132_c (k : List UInt8) : C 132 #[.string (str k)] g n fun u g' n' => (∃ r, u = .bool r ∧ (r = true ↔ keyOk k)) ∧ K0 g n g' := by
 have hk := str_size k
 refine c_in1 Tryz.func132 rfl Tryz.ntmps132 rfl fun hw => (Na (w_reg 1 rfl rfl (j' := 1) (nA rfl (n_nil ?_))))
 by_cases h1 : 1 ≤ k.length
 ·refine Nc (Na (w_reg 9 rfl rfl (j' := 10) (nM rfl (nO (s_len rfl rfl un_9 rfl (nO (s_bin rfl rfl rfl (nM rfl (nG rfl rfl (decide_eq_true (by omega)) rfl (nY rfl rfl (decide_eq_true (by omega)) (s_len rfl rfl un_9 rfl (nY rfl rfl (decide_eq_true (by omega)) (s_bin rfl rfl rfl (nO (s_pt rfl (decide_eq_true (by omega)) rfl (nA rfl (n_nil (Nc (Nf (z_r1 rfl rfl ?_))))))))))))))))))))
  exact ⟨⟨_, rfl, by simp only [decide_eq_true_eq, keyOk]; omega⟩, (by repeat (first | exact Kp.refl _ _ _ | refine Kp.new ?_ (by omega) _))⟩
 ·refine Nc (Na (w_reg 9 rfl rfl (j' := 10) (nM rfl (nO (s_len rfl rfl un_9 rfl (nO (s_bin rfl rfl rfl (nM rfl (nSk rfl rfl (decide_eq_false (by omega)) rfl 2 rfl (nO (s_pf rfl (decide_eq_false (by omega)) rfl (nA rfl (n_nil (Nc (Nf (z_r1 rfl rfl ?_))))))))))))))))
  exact ⟨⟨_, rfl, by simp [keyOk]; omega⟩, (by repeat (first | exact Kp.refl _ _ _ | refine Kp.new ?_ (by omega) _))⟩

theorem prefix166_c (a p : List UInt8) : C 166 #[.string (str a), .string (str p)] g n fun u g' n' => (∃ r, u = .bool r ∧ (r = true ↔ p <+: a)) ∧ K0 g n g' := by
 have ha := str_size a
 have hp := str_size p
 refine c_in2 Tryz.func166 rfl Tryz.ntmps166 rfl fun hw => (Na (w_reg 1 rfl rfl (j' := 1) (nA rfl (n_nil ?_))))
 by_cases h1 : p.length ≤ a.length
 ·refine Nc (Na (w_reg 14 rfl rfl (j' := 15) (nM rfl (nO (s_len rfl rfl un_9 rfl (nM rfl (nO (s_len rfl rfl un_9 rfl (nO (s_bin rfl rfl rfl (nM rfl (nG rfl rfl (decide_eq_true (by omega)) rfl (nG rfl rfl (decide_eq_true (by omega)) rfl (nY rfl rfl (decide_eq_true (by omega)) (s_len rfl rfl un_9 rfl (n_op (.yes rfl rfl (decide_eq_true (by omega))) (q := 10) rfl (s_hiS (j := (str p).size) rfl rfl (by omega) (nG rfl rfl (decide_eq_true (by omega)) rfl (nY rfl rfl (decide_eq_true (by omega)) (s_bin rfl rfl rfl (nO (s_pt rfl (decide_eq_true (by omega)) rfl (nA rfl (n_nil (Nc (Nf (z_r1 rfl rfl ?_)))))))))))))))))))))))))))
  refine ⟨⟨_, rfl, ?_⟩, (by repeat (first | exact Kp.refl _ _ _ | refine Kp.new ?_ (by omega) _))⟩
  rw [str_eq, decide_eq_true_eq, hp, List.prefix_iff_eq_take]
  exact ⟨fun h => h.symm, fun h => h.symm⟩
 ·refine Nc (Na (w_reg 14 rfl rfl (j' := 15) (nM rfl (nO (s_len rfl rfl un_9 rfl (nM rfl (nO (s_len rfl rfl un_9 rfl (nO (s_bin rfl rfl rfl (nM rfl (nSk rfl rfl (decide_eq_false (by omega)) rfl 5 rfl (nO (s_pf rfl (decide_eq_false (by omega)) rfl (nA rfl (n_nil (Nc (Nf (z_r1 rfl rfl ?_)))))))))))))))))))
  exact ⟨⟨_, rfl, ⟨fun h => (by cases h), fun h => absurd h.length_le h1⟩⟩, (by repeat (first | exact Kp.refl _ _ _ | refine Kp.new ?_ (by omega) _))⟩
theorem prefix_c (a p : List UInt8) : C 133 #[.string (str a), .string (str p)] g n fun u g' n' => (∃ r, u = .bool r ∧ (r = true ↔ p <+: a)) ∧ K0 g n g' := by
 refine c_in2 Tryz.func133 rfl Tryz.ntmps133 rfl fun hw => (Na (w_reg 1 rfl rfl (j' := 1) (nA rfl (n_nil (Nc (Na (w_reg 4 rfl rfl (j' := 5) (nM rfl (nM rfl (n_call .no rfl rfl rfl (C.use (prefix166_c a p) fun v g1 n1 hw1 hn1 hq => ?_)))))))))))
 obtain ⟨⟨r, rfl, hr⟩, k1⟩ := hq
 refine nA rfl (n_nil (Nc (Nf (z_r1 rfl rfl ?_))))
 exact ⟨⟨r, rfl, hr⟩, k1.dn (by omega)⟩

def Sto.holds (S : Sto) (x : Gd) : Prop := if x.under = true then ∀ p ∈ S.last, x.rev < p.2 → ¬ x.key <+: p.1 else ((findK x.key S.now).map SEnt.rev).getD 0 = x.rev

theorem EsR.mem {α : Type} {R : Value → α → Prop} : ∀ {es : List MapEntry} {r : List (Bs × α)}, EsR R es r → (∀ e ∈ es, ∃ p ∈ r, e.key = .string (str p.1) ∧ R e.val p.2) ∧ ∀ p ∈ r, ∃ e ∈ es, e.key = .string (str p.1) ∧ R e.val p.2
 | [], [], _ => ⟨fun e h => (by cases h), fun p h => (by cases h)⟩
 | e :: es, x :: r, h => by
  obtain ⟨h1, h2, h3⟩ := h
  obtain ⟨i1, i2⟩ := EsR.mem h3
  refine ⟨fun y hy => ?_, fun y hy => ?_⟩
  ·rcases List.mem_cons.1 hy with rfl | hy
   ·exact ⟨x, List.mem_cons_self .., h1, h2⟩
   ·obtain ⟨p, a, b⟩ := i1 y hy
    exact ⟨p, List.mem_cons_of_mem _ a, b⟩
  ·rcases List.mem_cons.1 hy with rfl | hy
   ·exact ⟨e, List.mem_cons_self .., h1, h2⟩
   ·obtain ⟨p, a, b⟩ := i2 y hy
    exact ⟨p, List.mem_cons_of_mem _ a, b⟩
 | [], x :: r, h => h.elim
 | e :: es, [], h => h.elim

def toCome (es : List MapEntry) (seen : List Nat) : Nat := (es.filter fun e => !seen.contains e.born).length
theorem toCome_lt {es : List MapEntry} {seen : List Nat} {e : MapEntry} (he : e ∈ es) (hs : e.born ∉ seen) : toCome es (seen ++ [e.born]) < toCome es seen := by
 unfold toCome
 have h1 : (es.filter fun y => !(seen ++ [e.born]).contains y.born) = (es.filter fun y => !seen.contains y.born).filter fun y => decide (y.born ≠ e.born) := by
  rw [List.filter_filter]
  apply List.filter_congr
  intro y _
  simp [Bool.and_comm]
 rw [h1]
 refine Nat.lt_of_le_of_ne (List.length_filter_le _ _) fun h2 => ?_
 have h3 := List.length_filter_eq_length_iff.1 h2 e (by simp [he, hs])
 simp at h3

theorem born_inj : ∀ {es : List MapEntry} {e e' : MapEntry}, (es.map (·.born)).Nodup → e ∈ es → e' ∈ es → e.born = e'.born → e = e'
 | [], e, e', _, h, _, _ => by cases h
 | y :: es, e, e', hn, h1, h2, hb => by
  rw [List.map_cons, List.nodup_cons] at hn
  rcases List.mem_cons.1 h1 with h3 | h3
  ·rcases List.mem_cons.1 h2 with h4 | h4
   ·rw [h3, h4]
   ·exact absurd (by rw [← h3, hb]; exact List.mem_map_of_mem h4) hn.1
  ·rcases List.mem_cons.1 h2 with h4 | h4
   ·exact absurd (by rw [← h4, ← hb]; exact List.mem_map_of_mem h3) hn.1
   ·exact born_inj hn.2 h3 h4 hb

theorem holds_c {x : Gd} (h : StAt b g s m1 m2 l sl S) : C 103 #[.pointer (some ⟨s, 0, none⟩), .agg [.string (str x.key), .int .i64 x.rev, .bool x.under].toArray] g n fun u g' n' => (∃ r, u = .bool r ∧ (r = true ↔ S.holds x)) ∧ K0 g n g' := by
 have hc := h.cell
 refine c_in2 Tryz.func103 rfl Tryz.ntmps103 rfl fun hw => ?_
 have hsn := hw _ _ hc
 refine Na (w_reg 2 rfl rfl (j' := 2) (n_op .no (q := 0) rfl (s_boxa rfl (nA rfl (n_nil (Nc (Na (Na (w_reg 3 rfl rfl (j' := 5) (nO (s_fa0 rfl fo_36_2 (nO (sL rfl ag_4 ?_)))))))))))))
 refine nO (s_not rfl (n_nil ?_))
 by_cases hu : x.under = true
 rotate_left
 ·have hu' : x.under = false := by simpa using hu
  refine Nc (w_yes rfl (by rw [hu']; rfl) ?_)
  have h0 : StAt b (gset g (n + 0) (.cells [.string (str x.key), .int .i64 x.rev, .bool x.under] 0 false)) s m1 m2 l sl S := h.kp0 (n := n) (by repeat (first | exact Kp.refl _ _ _ | refine Kp.new ?_ (by omega) _)) hw
  rcases hf : findK x.key S.now with _ | e
  ·refine Na (w_drw (T6 103 2) [(0, []), (1, []), (2, []), (3, []), (4, [3]), (5, [3]), (6, []), (7, []), (8, [3, 5, 6]), (9, [3, 5, 6]), (10, []), (11, [])] 12 (by kernel_rfl) rfl rfl (j' := 17) (dM rfl rfl (dO rfl rfl (s_nil rfl ⟨⟨rfl, rfl⟩, (dO rfl rfl (s_fa0 rfl fo_127_1 ⟨⟨rfl, rfl⟩, (dT rfl rfl rfl (sL rfl ag_120 ⟨clash_nil, ?_⟩))⟩))⟩))))
   refine dO rfl rfl (s_fa0 rfl fo_36_0 ⟨⟨rfl, rfl⟩, (dT rfl rfl rfl (sL rfl ag_9 ⟨clash_rd rfl, ?_⟩))⟩)
   refine d_tc rfl rfl rfl .no (q := 11) rfl (s_lkF false un_120 un_9 zp_28 rfl rfl h0.now hf ⟨clash_nil, (dO rfl rfl (s_fld rfl ft_28_1 ag_2 rfl ⟨⟨rfl, rfl⟩, (dO rfl rfl (s_fa0 rfl fo_36_1 ⟨⟨rfl, rfl⟩, (dT rfl rfl rfl (sL rfl ag_2 ⟨clash_rd rfl, ?_⟩))⟩))⟩))⟩)
   refine dO rfl rfl (s_bin rfl rfl rfl ⟨⟨rfl, rfl⟩, (dO rfl rfl (s_as rfl ⟨⟨rfl, rfl⟩, (d_nil (Nc (Nf (z_r1 rfl rfl ?_))))⟩))⟩)
   exact ⟨⟨_, rfl, by simp [Sto.holds, hu, hf]⟩, (by repeat (first | exact Kp.refl _ _ _ | refine Kp.new ?_ (by omega) _))⟩
  ·refine Na (w_drw (T6 103 2) [(0, []), (1, []), (2, []), (3, []), (4, [3]), (5, [3]), (6, []), (7, []), (8, [3, 5, 6]), (9, [3, 5, 6]), (10, []), (11, [])] 12 (by kernel_rfl) rfl rfl (j' := 17) (dM rfl rfl (dO rfl rfl (s_nil rfl ⟨⟨rfl, rfl⟩, (dO rfl rfl (s_fa0 rfl fo_127_1 ⟨⟨rfl, rfl⟩, (dT rfl rfl rfl (sL rfl ag_120 ⟨clash_nil, ?_⟩))⟩))⟩))))
   refine dO rfl rfl (s_fa0 rfl fo_36_0 ⟨⟨rfl, rfl⟩, (dT rfl rfl rfl (sL rfl ag_9 ⟨clash_rd rfl, ?_⟩))⟩)
   refine d_tc rfl rfl rfl .no (q := 11) rfl (s_lkT false un_120 un_9 zp_28 rfl rfl h0.now hf fun v hv => ⟨clash_nil, ?_⟩)
   obtain ⟨c, rfl, a, p, rfl, hB, hle⟩ := hv
   refine dO rfl rfl (s_fld rfl ft_28_1 ag_2 rfl ⟨⟨rfl, rfl⟩, (dO rfl rfl (s_fa0 rfl fo_36_1 ⟨⟨rfl, rfl⟩, (dT rfl rfl rfl (sL rfl ag_2 ⟨clash_rd rfl, ?_⟩))⟩))⟩)
   refine dO rfl rfl (s_bin rfl rfl rfl ⟨⟨rfl, rfl⟩, (dO rfl rfl (s_as rfl ⟨⟨rfl, rfl⟩, (d_nil (Nc (Nf (z_r1 rfl rfl ?_))))⟩))⟩)
   exact ⟨⟨_, rfl, by simp [Sto.holds, hu, hf]⟩, (by repeat (first | exact Kp.refl _ _ _ | refine Kp.new ?_ (by omega) _))⟩
 ·refine Nc (w_no rfl (by rw [hu]; rfl) ?_)
  obtain ⟨es, clock, hm, hst, hes⟩ := h.last
  have hmn := hw _ _ hm
  refine Ne (Nc (Na (Na (w_reg 5 rfl rfl (j' := 10) (nM rfl (nN rfl (nO (s_fa0 rfl fo_127_2 (nO (sL rfl ag_69 ?_))))))))))
  refine n_range (q := 9) rfl un_69 rfl (by repeat first | exact gS | exact hm | refine gN (by omega) ?_) (n_nil ?_)
  repeat first | refine Na ?_ | refine Nb ?_ | refine Nc ?_ | refine Nd ?_ | refine Ne ?_
  refine w_loop (β := List Nat) (fun _ => [(3, .pointer (some ⟨n, 0, none⟩)), (25, .pointer (some ⟨n + 9, 0, none⟩))])
   (fun seen g' n' => n + 10 ≤ n' ∧ K0 g n g' ∧ g' n = some (.cells [.string (str x.key), .int .i64 x.rev, .bool x.under] 0 false) ∧ g' (n + 9) = some (.mapIter (some m2) clock seen clock) ∧ ∀ e ∈ es, e.born ∈ seen → ∀ p : Bs × Int, e.key = .string (str p.1) → e.val = .int .i64 p.2 → x.rev < p.2 → ¬ x.key <+: p.1) (toCome es) [] ⟨rfl, rfl, trivial⟩ ⟨by omega, (by repeat (first | exact Kp.refl _ _ _ | refine Kp.new ?_ (by omega) _)), (by repeat first | exact gS | refine gN (by omega) ?_), gs_same _ _ _, fun e _ h => by cases h⟩ ?_
  rintro seen f gL nL hwL ⟨hnL, kL, cL, iL, hall⟩
  have mL := kL.at0 hw hm
  have hmL := hwL _ _ mL
  have hm9 : m2 ≠ n + 9 := by omega
  repeat first | refine Na ?_ | refine Nb ?_ | refine Nc ?_ | refine Nd ?_ | refine Ne ?_
  refine w_reg 2 rfl rfl (j' := 2) (n_next (q := 0) rfl rfl iL mL (fun e he => hst.1 e (by simpa using he)) (Nat.le_refl _) (fun hno => ?_) (fun e he hns => ?_))
  ·refine nO (s_ext rfl rfl (n_nil (Nc (Na (w_no rfl (rfl) ?_)))))
   refine w_exit rfl ?_
   repeat first | refine Na ?_ | refine Nb ?_ | refine Nc ?_ | refine Nd ?_ | refine Ne ?_
   refine w_reg 1 rfl rfl (j' := 3) (nA rfl (n_nil (Nc (Nf (z_r1 rfl rfl ?_)))))
   refine ⟨⟨_, rfl, fun _ => ?_, fun _ => rfl⟩, kL⟩
   unfold Sto.holds
   rw [if_pos hu]
   intro p hp hlt
   obtain ⟨e, he, e1, e2⟩ := (EsR.mem hes).2 p hp
   exact hall e he (hno e he) p e1 e2 hlt
  ·have hnew : ∀ e' ∈ es, e'.born ∈ seen ++ [e.born] → e'.born ∈ seen ∨ e' = e := fun e' he' hb => by
    rcases List.mem_append.1 hb with hb | hb
    ·exact .inl hb
    ·exact .inr (born_inj hst.2.1 he' he (List.mem_singleton.1 hb))
   have hlt2 := toCome_lt he hns
   obtain ⟨p, hp, e1, e2⟩ := (EsR.mem hes).1 e he
   obtain ⟨ek, ev, eb⟩ := e
   simp only at e1 e2
   subst e1 e2
   have kI : K0 g n (gset gL (n + 9) (.mapIter (some m2) clock (seen ++ [eb]) clock)) := Kp.new kL (by omega) _
   have hall2 : (x.rev < p.2 → ¬ x.key <+: p.1) → ∀ e' ∈ es, e'.born ∈ seen ++ [eb] → ∀ p : Bs × Int, e'.key = .string (str p.1) → e'.val = .int .i64 p.2 → x.rev < p.2 → ¬ x.key <+: p.1 := fun hq e' he' hb p' k1 k2 hl => by
    rcases hnew e' he' hb with hb | rfl
    ·exact hall e' he' hb p' k1 k2 hl
    ·simp only [Value.string.injEq, Value.int.injEq, true_and] at k1 k2
     have := str_inj k1
     rw [← this]
     exact hq (by rw [k2]; exact hl)
   refine nO (s_ext rfl rfl (n_nil (Nc (Na (w_yes rfl (rfl) (Ne (Nc (Nb (Na (w_reg 5 rfl rfl (j' := 7) (n_entry (q := 2) rfl (e := ⟨.string (str p.1), .int .i64 p.2, eb⟩) rfl (gs_same _ _ _) ((gs_ne hm9 _).trans mL) he hst.2.1 (nO (s_ext rfl rfl (nO (s_ext rfl rfl (nA rfl (nA rfl (n_nil ?_))))))))))))))))))
   by_cases hlt : x.rev < p.2
   ·refine Nc (Na (w_reg 10 rfl rfl (j' := 17) (nM rfl (nO (s_fa0 rfl fo_36_1 (nO (sL rfl ag_2 ?_)))))))
    refine nO (s_bin rfl rfl rfl (nM rfl (nG rfl rfl (decide_eq_true hlt) rfl (nY rfl rfl (decide_eq_true hlt) (s_fa0 rfl fo_36_0 (nY rfl rfl (decide_eq_true hlt) (sL rfl ag_9 ?_)))))))
    refine n_call (.yes rfl rfl (decide_eq_true hlt)) rfl rfl rfl (C.use (prefix_c p.1 x.key) fun v g2 n2 hw2 hn2 hq => ?_)
    obtain ⟨⟨r, rfl, hr⟩, k2⟩ := hq
    have kI2 := kI.trans0 (k2.dn (m := nL) (by omega)) (by omega)
    by_cases hpx : x.key <+: p.1
    ·obtain rfl : r = true := hr.2 hpx
     refine nO (s_pt rfl (decide_eq_true hlt) rfl (n_nil (Nc (w_yes rfl (rfl) (Na (w_reg 1 rfl rfl (j' := 1) (nA rfl (n_nil (Nc (Nf (z_r1 rfl rfl ?_)))))))))))
     refine ⟨⟨_, rfl, ⟨fun h => (by cases h), fun h => ?_⟩⟩, kI2⟩
     unfold Sto.holds at h
     rw [if_pos hu] at h
     exact absurd hpx (h p hp hlt)
    ·have hrf : r = false := by
      cases r with
      | false => rfl
      | true => exact absurd (hr.1 rfl) hpx
     subst hrf
     refine nO (s_pt rfl (decide_eq_true hlt) rfl (n_nil (Nc (w_no rfl (rfl) ?_))))
     repeat first | refine Na ?_ | refine Nb ?_ | refine Nc ?_ | refine Nd ?_ | refine Ne ?_
     exact z_round (seen ++ [eb]) ⟨rfl, rfl, trivial⟩ ⟨by omega, kI2, k2.lt (by omega) ((gs_ne (by omega) _).trans cL), k2.lt (by omega) (gs_same _ _ _), hall2 fun _ => hpx⟩ hlt2
   ·refine Nc (Na (w_reg 10 rfl rfl (j' := 17) (nM rfl (nO (s_fa0 rfl fo_36_1 (nO (sL rfl ag_2 ?_)))))))
    refine nO (s_bin rfl rfl rfl (nM rfl (nSk rfl rfl (decide_eq_false hlt) rfl 3 rfl (nO (s_pf rfl (decide_eq_false hlt) rfl (n_nil (Nc (w_no rfl (rfl) ?_))))))))
    repeat first | refine Na ?_ | refine Nb ?_ | refine Nc ?_ | refine Nd ?_ | refine Ne ?_
    exact z_round (seen ++ [eb]) ⟨rfl, rfl, trivial⟩ ⟨by omega, kI, (gs_ne (by omega) _).trans cL, gs_same _ _ _, hall2 fun h => absurd h hlt⟩ hlt2
end

end Go.Proofs.YtehmailaabjdjaaGreat
end

section
open Go.Proofs
namespace Go.Proofs.YtehmailaabjdjaaGreat
set_option linter.unusedSimpArgs false
set_option linter.unusedVariables false
set_option maxRecDepth 100000

def Wr.ok (x : Wr) : Prop := keyOk x.key ∧ ¬ (x.gone = true ∧ 0 < x.val.length) ∧ x.val.length ≤ 4000
def txnMay (gs : List Gd) (ws : List Wr) : Prop := gs.length ≤ 20 ∧ 1 ≤ ws.length ∧ ws.length ≤ 64 ∧ (∀ x ∈ gs, keyOk x.key ∧ 0 ≤ x.rev) ∧ (∀ x ∈ ws, x.ok) ∧ (ws.map Wr.key).Nodup

theorem GdsRd.kk {F : Nat → AObj → Prop} {g g' : Gm} {n : Nat} {v : Value} {gs : List Gd} (h : GdsRd g v gs) (hk : Kp F g n g') (hw : WF g n) (hF : ∀ x c ro, ¬ F x (.cells c 3 ro)) : GdsRd g' v gs := by
 obtain ⟨cs, h1, h2⟩ := h
 exact ⟨cs, h1.kk hk hw hF, h2⟩
theorem WrsRd.kk {F : Nat → AObj → Prop} {g g' : Gm} {n : Nat} {v : Value} {ws : List Wr} (h : WrsRd g v ws) (hk : Kp F g n g') (hw : WF g n) (hF : ∀ x c ro, ¬ F x (.cells c 3 ro)) (hb : NoB F) : WrsRd g' v ws := by
 obtain ⟨cs, h1, h2⟩ := h
 exact ⟨cs, h1.kk hk hw hF, h2.mono fun c x _ hx => hx.mono fun _ _ k => k.kp hk hw hb⟩

theorem findK_set {α : Type} (k k' : Bs) (a : α) : ∀ r : List (Bs × α), findK k (setK k' a r) = if k' = k then some a else findK k r
 | [] => by simp [setK, findK]
 | x :: r => by
  have ih := findK_set k k' a r
  by_cases h : x.1 = k'
  ·by_cases h2 : k' = k
   ·simp [setK, findK, h, h2]
   ·have : x.1 ≠ k := fun e => h2 (h.symm.trans e)
    simp [setK, findK, h, h2]
  ·by_cases h2 : x.1 = k
   ·have h3 : ¬ k' = k := fun e => h (h2.trans e.symm)
    show findK k (if x.1 = k' then (k', a) :: r else x :: setK k' a r) = _
    rw [if_neg h, if_neg h3]
    simp only [findK, h2, if_true]
   ·simp only [setK, h, if_false, findK, h2, ih]

section
variable {g : Gm} {n b s m1 m2 l : Nat} {sl : Value} {S : Sto}

theorem take_nodup {ws : List Wr} {i : Nat} (hi : i < ws.length) (h : ((ws.take i).map Wr.key).Nodup) (hn : ws[i].key ∉ (ws.take i).map Wr.key) : ((ws.take (i + 1)).map Wr.key).Nodup := by
 rw [List.take_succ_eq_append_getElem hi, List.map_append, List.nodup_append]
 refine ⟨h, by simp, fun a ha c hc => ?_⟩
 simp only [List.map_cons, List.map_nil, List.mem_singleton] at hc
 subst hc
 exact fun e => hn (by rw [← e]; exact ha)
theorem nodup_take {ws : List Wr} {i : Nat} (hi : i < ws.length) (h : (ws.map Wr.key).Nodup) : ws[i].key ∉ (ws.take i).map Wr.key := by
 have h1 : ((ws.take (i + 1)).map Wr.key).Nodup := by
  rw [List.map_take]; exact h.sublist (List.take_sublist _ _)
 rw [List.take_succ_eq_append_getElem hi, List.map_append, List.nodup_append] at h1
 intro hm
 exact h1.2.2 _ hm _ (by simp) rfl

theorem may102_c {gv wv : Value} {gs : List Gd} {ws : List Wr} (h1 : GdsRd g gv gs) (h2 : WrsRd g wv ws) :
  C 102 #[.agg [gv, wv].toArray] g n fun u g' n' => (∃ r, u = .bool r ∧ (r = true ↔ txnMay gs ws)) ∧ K0 g n g' := by
 obtain ⟨a1, c1, rfl⟩ := h1.len
 obtain ⟨a2, c2, rfl⟩ := h2.len
 refine c_in1 Tryz.func102 rfl Tryz.ntmps102 rfl fun hw => (Na (w_reg 2 rfl rfl (j' := 2) (n_op .no (q := 0) rfl (s_boxa rfl (nA rfl (n_nil ?_))))))
 by_cases d1 : gs.length ≤ 20
 rotate_left
 ·refine Nc (Na (Na (w_reg 16 rfl rfl (j' := 18) (nO (s_fa0 rfl fo_42_0 (nO (sL rfl ag_37 ?_)))))))
  refine nO (s_len rfl rfl un_37 rfl (nO (s_bin rfl rfl rfl (nM rfl (nSk rfl rfl (decide_eq_true (by omega)) rfl 3 rfl (nO (s_pt rfl (decide_eq_true (by omega)) rfl (nM rfl (nSk rfl rfl (rfl) rfl 3 rfl (nO (s_pt rfl (rfl) rfl (n_nil (Nc (w_yes rfl (rfl) (Na (w_reg 1 rfl rfl (j' := 19) (nA rfl (n_nil (Nc (Nf (z_r1 rfl rfl ?_)))))))))))))))))))))
  exact ⟨⟨_, rfl, ⟨fun h => (by cases h), fun h => absurd h.1 d1⟩⟩, (by repeat (first | exact Kp.refl _ _ _ | refine Kp.new ?_ (by omega) _))⟩
 by_cases d0 : 1 ≤ ws.length
 rotate_left
 ·refine Nc (Na (Na (w_reg 16 rfl rfl (j' := 18) (nO (s_fa0 rfl fo_42_0 (nO (sL rfl ag_37 ?_)))))))
  refine nO (s_len rfl rfl un_37 rfl (nO (s_bin rfl rfl rfl (nM rfl (nY rfl rfl (decide_eq_false (by omega)) (s_fa0 rfl fo_42_1 (nY rfl rfl (decide_eq_false (by omega)) (sL rfl ag_40 ?_))))))))
  refine nY rfl rfl (decide_eq_false (by omega)) (s_len rfl rfl un_40 rfl (nY rfl rfl (decide_eq_false (by omega)) (s_bin rfl rfl rfl (nO (s_pf rfl (decide_eq_false (by omega)) rfl (nM rfl (nSk rfl rfl (decide_eq_true (by omega)) rfl 3 rfl (nO (s_pt rfl (decide_eq_true (by omega)) rfl (n_nil (Nc (w_yes rfl (rfl) (Na (w_reg 1 rfl rfl (j' := 19) (nA rfl (n_nil (Nc (Nf (z_r1 rfl rfl ?_)))))))))))))))))))
  exact ⟨⟨_, rfl, ⟨fun h => (by cases h), fun h => absurd h.2.1 d0⟩⟩, (by repeat (first | exact Kp.refl _ _ _ | refine Kp.new ?_ (by omega) _))⟩
 by_cases d2 : ws.length ≤ 64
 rotate_left
 ·refine Nc (Na (Na (w_reg 16 rfl rfl (j' := 18) (nO (s_fa0 rfl fo_42_0 (nO (sL rfl ag_37 ?_)))))))
  refine nO (s_len rfl rfl un_37 rfl (nO (s_bin rfl rfl rfl (nM rfl (nY rfl rfl (decide_eq_false (by omega)) (s_fa0 rfl fo_42_1 (nY rfl rfl (decide_eq_false (by omega)) (sL rfl ag_40 ?_))))))))
  refine nY rfl rfl (decide_eq_false (by omega)) (s_len rfl rfl un_40 rfl (nY rfl rfl (decide_eq_false (by omega)) (s_bin rfl rfl rfl (nO (s_pf rfl (decide_eq_false (by omega)) rfl (nM rfl (nY rfl rfl (decide_eq_false (by omega)) (s_fa0 rfl fo_42_1 (nY rfl rfl (decide_eq_false (by omega)) (sL rfl ag_40 ?_))))))))))
  refine nY rfl rfl (decide_eq_false (by omega)) (s_len rfl rfl un_40 rfl (nY rfl rfl (decide_eq_false (by omega)) (s_bin rfl rfl rfl (nO (s_pf rfl (decide_eq_false (by omega)) rfl (n_nil (Nc (w_yes rfl (decide_eq_true (by omega)) (Na (w_reg 1 rfl rfl (j' := 19) (nA rfl (n_nil (Nc (Nf (z_r1 rfl rfl ?_)))))))))))))))
  exact ⟨⟨_, rfl, ⟨fun h => (by cases h), fun h => absurd h.2.2.1 d2⟩⟩, (by repeat (first | exact Kp.refl _ _ _ | refine Kp.new ?_ (by omega) _))⟩
 refine Nc (Na (Na (w_reg 16 rfl rfl (j' := 18) (nO (s_fa0 rfl fo_42_0 (nO (sL rfl ag_37 ?_)))))))
 refine nO (s_len rfl rfl un_37 rfl (nO (s_bin rfl rfl rfl (nM rfl (nY rfl rfl (decide_eq_false (by omega)) (s_fa0 rfl fo_42_1 (nY rfl rfl (decide_eq_false (by omega)) (sL rfl ag_40 ?_))))))))
 refine nY rfl rfl (decide_eq_false (by omega)) (s_len rfl rfl un_40 rfl (nY rfl rfl (decide_eq_false (by omega)) (s_bin rfl rfl rfl (nO (s_pf rfl (decide_eq_false (by omega)) rfl (nM rfl (nY rfl rfl (decide_eq_false (by omega)) (s_fa0 rfl fo_42_1 (nY rfl rfl (decide_eq_false (by omega)) (sL rfl ag_40 ?_))))))))))
 refine nY rfl rfl (decide_eq_false (by omega)) (s_len rfl rfl un_40 rfl (nY rfl rfl (decide_eq_false (by omega)) (s_bin rfl rfl rfl (nO (s_pf rfl (decide_eq_false (by omega)) rfl (n_nil (Nc (w_no rfl (decide_eq_false (by omega)) (Ne (Nc (Na (Na (w_reg 4 rfl rfl (j' := 22) (nO (s_fa0 rfl fo_42_0 (nO (sL rfl ag_37 ?_)))))))))))))))))
 refine nO (s_len rfl rfl un_37 rfl (nM rfl (n_nil ?_)))
 refine z_seq ?_
 refine z_meet (β := Unit) (fun _ => [(1, .pointer (some ⟨n, 0, none⟩))]) (fun _ g' n' => n + 1 ≤ n' ∧ K0 g n g' ∧ g' n = some (.cells [.slice a1 gs.length c1, .slice a2 ws.length c2] 0 false) ∧ ∀ x ∈ gs, keyOk x.key ∧ 0 ≤ x.rev) ?_ ?_
 ·repeat first | refine Na ?_ | refine Nb ?_ | refine Nc ?_ | refine Nd ?_ | refine Ne ?_
  refine w_loop (β := Nat) (fun i => [(1, .pointer (some ⟨n, 0, none⟩)), (25, .slice a1 gs.length c1), (26, .int .i64 gs.length), (27, .int .i64 i)])
   (fun i g' n' => i ≤ gs.length ∧ n + 1 ≤ n' ∧ K0 g n g' ∧ g' n = some (.cells [.slice a1 gs.length c1, .slice a2 ws.length c2] 0 false) ∧ ∀ j, (h : j < gs.length) → j < i → keyOk gs[j].key ∧ 0 ≤ gs[j].rev) (fun i => gs.length - i) 0 ⟨rfl, rfl, rfl, rfl, trivial⟩ ⟨by omega, by omega, (by repeat (first | exact Kp.refl _ _ _ | refine Kp.new ?_ (by omega) _)), gs_same _ _ _, fun j _ h => absurd h (by omega)⟩ ?_
  rintro i f gL nL hwL ⟨hi, hnL, kL, hcell, ht⟩
  repeat first | refine Na ?_ | refine Nb ?_ | refine Nc ?_ | refine Nd ?_ | refine Ne ?_
  refine w_reg 1 rfl rfl (j' := 1) (nO (s_bin rfl rfl rfl (n_nil (Nc (Na (w_if rfl (fun hb => ?_) (fun hb => ?_)))))))
  ·have hi : i < gs.length := by simpa using hb
   obtain ⟨l3, o3, c3, cl3, ro3, x1, x2, x0, x5⟩ := (h1.kp0 kL hw).at hi
   cases x1
   have hx2 := hwL _ _ x2
   repeat first | refine Na ?_ | refine Nb ?_ | refine Nc ?_ | refine Nd ?_ | refine Ne ?_
   refine w_reg 4 rfl rfl (j' := 5) (nO (s_ia rfl rfl el_37 (by first | assumption | omega) (nO (sLa rfl ag_36 sz_36 ?_))))
   refine n_op .no (q := 3) rfl (s_al zl_36 (nO (sSw rfl rfl sz_36 rfl rfl ?_)))
   refine n_nil (Nc (Na (w_reg 9 rfl rfl (j' := 14) (nO (s_fa0 rfl fo_36_0 (nO (sL rfl ag_9 ?_)))))))
   refine n_call .no rfl rfl rfl (C.use (key132_c _) fun v g2 n2 hw2 hn2 hq => ?_)
   obtain ⟨⟨r, rfl, hr⟩, k2⟩ := hq
   have k3 : K0 gL nL g2 := Kp.trans0 (by repeat (first | exact Kp.refl _ _ _ | refine Kp.new ?_ (by omega) _)) k2 (by omega)
   by_cases e1 : keyOk gs[i].key
   ·obtain rfl : r = true := hr.2 e1
    by_cases e2 : 0 ≤ gs[i].rev
    ·refine nO (s_not rfl (nM rfl (nY rfl rfl (rfl) (s_fa0 rfl fo_36_1 (nY rfl rfl (rfl) (s_ld rfl (by repeat first | exact gS | refine Kp.lt k2 (by omega) ?_ | refine gN (by omega) ?_) ag_2 (by first | exact rfl) ?_))))))
     refine nY rfl rfl (rfl) (s_bin rfl rfl rfl (nO (s_pf rfl (rfl) rfl (n_nil (Nc (w_no rfl (decide_eq_false (by omega)) ?_))))))
     repeat first | refine Na ?_ | refine Nb ?_ | refine Nc ?_ | refine Nd ?_ | refine Ne ?_
     repeat first | refine Na ?_ | refine Nb ?_ | refine Nc ?_ | refine Nd ?_ | refine Ne ?_
     refine w_reg 2 rfl rfl (j' := 2) (nO (s_bin rfl rfl (by first | exact bi_inc (by omega) | exact bi_add rfl (by omega) (by omega)) ?_))
     refine nM rfl (n_nil ?_)
     exact z_round (i + 1) ⟨rfl, rfl, rfl, rfl, trivial⟩ ⟨hi, by omega, kL.trans0 k3 (by omega), k3.at0 hwL hcell, fun j hj hlt => by
      by_cases e : j = i
      ·subst e; exact ⟨e1, e2⟩
      ·exact ht j hj (by omega)⟩ (by omega)
    ·refine nO (s_not rfl (nM rfl (nY rfl rfl (rfl) (s_fa0 rfl fo_36_1 (nY rfl rfl (rfl) (s_ld rfl (by repeat first | exact gS | refine Kp.lt k2 (by omega) ?_ | refine gN (by omega) ?_) ag_2 (by first | exact rfl) ?_))))))
     refine nY rfl rfl (rfl) (s_bin rfl rfl rfl (nO (s_pf rfl (rfl) rfl (n_nil (Nc (w_yes rfl (decide_eq_true (by omega)) (Na (w_reg 1 rfl rfl (j' := 1) (nA rfl (n_nil (Nc (Nf (z_r1 rfl rfl ?_)))))))))))))
     exact ⟨⟨_, rfl, ⟨fun h => (by cases h), fun h => absurd (h.2.2.2.1 _ (List.getElem_mem hi)).2 e2⟩⟩, kL.trans0 k3 (by omega)⟩
   ·have : r = false := by
     cases r with
     | false => rfl
     | true => exact absurd (hr.1 rfl) e1
    subst this
    refine nO (s_not rfl (nM rfl (nSk rfl rfl (rfl) rfl 2 rfl (nO (s_pt rfl (rfl) rfl (n_nil (Nc (w_yes rfl (rfl) (Na (w_reg 1 rfl rfl (j' := 1) (nA rfl (n_nil (Nc (Nf (z_r1 rfl rfl ?_)))))))))))))))
    exact ⟨⟨_, rfl, ⟨fun h => (by cases h), fun h => absurd (h.2.2.2.1 _ (List.getElem_mem hi)).1 e1⟩⟩, kL.trans0 k3 (by omega)⟩
  ·refine w_exit rfl ?_
   have : i = gs.length := by simp at hb; omega
   subst this
   exact z_met () ⟨rfl, trivial⟩ ⟨by omega, kL, hcell, fun x hx => by
    obtain ⟨j, hj, rfl⟩ := List.mem_iff_getElem.1 hx
    exact ht j hj hj⟩
 rintro _ f g5 n5 hw5 ⟨hn5, k5, hcell, hg⟩
 repeat first | refine Na ?_ | refine Nb ?_ | refine Nc ?_ | refine Nd ?_ | refine Ne ?_
 refine w_reg 2 rfl rfl (j' := 2) (n_op .no (q := 0) rfl (s_mm (nA rfl (n_nil (Nc (Na (Na (w_reg 4 rfl rfl (j' := 6) (nO (s_fa0 rfl fo_42_1 (nO (sL rfl ag_40 ?_))))))))))))
 refine nO (s_len rfl rfl un_40 rfl (nM rfl (n_nil ?_)))
 repeat first | refine Na ?_ | refine Nb ?_ | refine Nc ?_ | refine Nd ?_ | refine Ne ?_
 refine w_loop (β := Nat) (fun i => [(5, .map (some (n5 + 0))), (43, .slice a2 ws.length c2), (44, .int .i64 ws.length), (45, .int .i64 i)])
  (fun i g' n' => i ≤ ws.length ∧ n5 + 1 ≤ n' ∧ K0 g n g' ∧ (∃ r, MapAt g' (fun v (a : Bool) => v = .bool a) n5 r ∧ ∀ k, findK k r = if k ∈ (ws.take i).map Wr.key then some true else none) ∧ ((ws.take i).map Wr.key).Nodup ∧ ∀ j, (h : j < ws.length) → j < i → ws[j].ok) (fun i => ws.length - i) 0 ⟨rfl, rfl, rfl, rfl, trivial⟩
  ⟨by omega, by omega, Kp.new k5 (by omega) _, ⟨[], ⟨[], 0, gs_same _ _ _, MapKept.stamped_empty 0, trivial⟩, fun k => by simp [findK]⟩, by simp, fun j _ h => absurd h (by omega)⟩ ?_
 rintro i f gL nL hwL ⟨hi, hnL, kL, ⟨r, hM, hfind⟩, hnd, ht⟩
 repeat first | refine Na ?_ | refine Nb ?_ | refine Nc ?_ | refine Nd ?_ | refine Ne ?_
 refine w_reg 1 rfl rfl (j' := 1) (nO (s_bin rfl rfl rfl (n_nil (Nc (Na (w_if rfl (fun hb => ?_) (fun hb => ?_)))))))
 ·have hi : i < ws.length := by simpa using hb
  obtain ⟨l3, o3, c3, cl3, ro3, p3, q3, x1, x2, x0, x5, x6⟩ := (h2.kp0 kL hw).at hi
  cases x1
  have hx2 := hwL _ _ x2
  repeat first | refine Na ?_ | refine Nb ?_ | refine Nc ?_ | refine Nd ?_ | refine Ne ?_
  refine w_reg 4 rfl rfl (j' := 5) (nO (s_ia rfl rfl el_40 (by first | assumption | omega) (nO (sLa rfl ag_39 sz_39 ?_))))
  refine n_op .no (q := 3) rfl (s_al zl_39 (nO (sSw rfl rfl sz_39 rfl rfl ?_)))
  refine n_nil (Nc (Na (Na (w_reg 26 rfl rfl (j' := 31) (nO (s_fa0 rfl fo_39_0 (nO (sL rfl ag_9 ?_))))))))
  refine n_call .no rfl rfl rfl (C.use (key132_c _) fun v g2 n2 hw2 hn2 hq => ?_)
  obtain ⟨⟨q, rfl, hq⟩, k2⟩ := hq
  have k3 : K0 gL nL g2 := Kp.trans0 (by repeat (first | exact Kp.refl _ _ _ | refine Kp.new ?_ (by omega) _)) k2 (by omega)
  by_cases e1 : keyOk ws[i].key
  rotate_left
  ·have : q = false := by
    cases q with
    | false => rfl
    | true => exact absurd (hq.1 rfl) e1
   subst this
   refine nO (s_not rfl (nM rfl (nSk rfl rfl (rfl) rfl 3 rfl (nO (s_pt rfl (rfl) rfl (nM rfl (nSk rfl rfl (rfl) rfl 2 rfl (n_skU rfl rfl (n_skU rfl rfl (n_skU rfl rfl (n_skU rfl rfl (n_sk rfl rfl (rfl) (nO (s_pt rfl (rfl) rfl (nM rfl (nSk rfl rfl (rfl) rfl 3 rfl (nO (s_pt rfl (rfl) rfl (n_nil (Nc (w_yes rfl (rfl) (Na (w_reg 1 rfl rfl (j' := 1) (nA rfl (n_nil (Nc (Nf (z_r1 rfl rfl ?_))))))))))))))))))))))))))))
   exact ⟨⟨_, rfl, ⟨fun h => (by cases h), fun h => absurd (h.2.2.2.2.1 _ (List.getElem_mem hi)).1 e1⟩⟩, kL.trans0 k3 (by omega)⟩
  obtain rfl : q = true := hq.2 e1
  have hM2 : MapAt g2 (fun v (a : Bool) => v = .bool a) n5 r := hM.kp k3 hwL (fun _ _ h => h) (fun _ _ h => h)
  by_cases e2 : ws[i].key ∈ (ws.take i).map Wr.key
  ·have hf : findK ws[i].key r = some true := by rw [hfind, if_pos e2]
   refine nO (s_not rfl (nM rfl (nG rfl rfl (rfl) rfl (nY rfl rfl (rfl) (s_fa0 rfl fo_39_0 (nY rfl rfl (rfl) (s_ld rfl (by repeat first | exact gS | refine Kp.lt k2 (by omega) ?_ | refine gN (by omega) ?_) ag_9 (by first | exact rfl) ?_)))))))
   refine n_op (.yes rfl rfl (rfl)) (q := 13) rfl (s_lkT false un_225 un_9 zp_4 rfl rfl hM2 hf fun v hv => ?_)
   subst hv
   refine nO (s_pf rfl (rfl) rfl (nM rfl (nSk rfl rfl (rfl) rfl 2 rfl (n_skU rfl rfl (n_skU rfl rfl (n_skU rfl rfl (n_skU rfl rfl (n_sk rfl rfl (rfl) (nO (s_pt rfl (rfl) rfl (nM rfl (nSk rfl rfl (rfl) rfl 3 rfl (nO (s_pt rfl (rfl) rfl (n_nil (Nc (w_yes rfl (rfl) (Na (w_reg 1 rfl rfl (j' := 1) (nA rfl (n_nil (Nc (Nf (z_r1 rfl rfl ?_))))))))))))))))))))))))
   exact ⟨⟨_, rfl, ⟨fun h => (by cases h), fun h => absurd e2 (nodup_take hi h.2.2.2.2.2)⟩⟩, kL.trans0 k3 (by omega)⟩
  have hf : findK ws[i].key r = none := by rw [hfind, if_neg e2]
  refine nO (s_not rfl (nM rfl (nG rfl rfl (rfl) rfl (nY rfl rfl (rfl) (s_fa0 rfl fo_39_0 (nY rfl rfl (rfl) (s_ld rfl (by repeat first | exact gS | refine Kp.lt k2 (by omega) ?_ | refine gN (by omega) ?_) ag_9 (by first | exact rfl) ?_)))))))
  refine n_op (.yes rfl rfl (rfl)) (q := 13) rfl (s_lkF false un_225 un_9 zp_4 rfl rfl hM2 hf ?_)
  by_cases e3 : ws[i].gone = true ∧ 0 < ws[i].val.length
  ·refine nO (s_pf rfl (rfl) rfl (nM rfl (nY rfl rfl (rfl) (s_fa0 rfl fo_39_2 (nY rfl rfl (rfl) (s_ld rfl (by repeat first | exact gS | refine Kp.lt k2 (by omega) ?_ | refine gN (by omega) ?_) ag_4 (by first | exact rfl) ?_))))))
   refine nG rfl rfl (rfl) rfl (nY rfl rfl (e3.1) (s_fa0 rfl fo_39_1 (nY rfl rfl (e3.1) (s_ld rfl (by repeat first | exact gS | refine Kp.lt k2 (by omega) ?_ | refine gN (by omega) ?_) ag_26 (by first | exact rfl) ?_))))
   refine nY rfl rfl (e3.1) (s_len rfl rfl un_26 rfl (nY rfl rfl (e3.1) (s_bin rfl rfl rfl (nY rfl rfl (rfl) (s_pt rfl (e3.1) rfl (nO (s_pf rfl (rfl) rfl (nM rfl (nSk rfl rfl (decide_eq_true (by omega)) rfl 3 rfl (nO (s_pt rfl (decide_eq_true (by omega)) rfl (n_nil (Nc (w_yes rfl (rfl) (Na (w_reg 1 rfl rfl (j' := 1) (nA rfl (n_nil (Nc (Nf (z_r1 rfl rfl ?_)))))))))))))))))))))
   exact ⟨⟨_, rfl, ⟨fun h => (by cases h), fun h => absurd e3 (h.2.2.2.2.1 _ (List.getElem_mem hi)).2.1⟩⟩, kL.trans0 k3 (by omega)⟩
  have hfs : ∀ k, findK k (setK ws[i].key true r) = if k ∈ (ws.take (i + 1)).map Wr.key then some true else none := fun k => by
   rw [findK_set, hfind, List.take_succ_eq_append_getElem hi, List.map_append]
   by_cases h : ws[i].key = k
   ·subst h; simp
   ·have h' : ¬ k = ws[i].key := fun e => h e.symm
    simp [h, h']
  by_cases e4 : ws[i].gone = true
  ·have e5 : ws[i].val.length = 0 := by
    rcases Nat.eq_zero_or_pos ws[i].val.length with h | h
    ·exact h
    ·exact absurd ⟨e4, h⟩ e3
   refine nO (s_pf rfl (rfl) rfl (nM rfl (nY rfl rfl (rfl) (s_fa0 rfl fo_39_2 (nY rfl rfl (rfl) (s_ld rfl (by repeat first | exact gS | refine Kp.lt k2 (by omega) ?_ | refine gN (by omega) ?_) ag_4 (by first | exact rfl) ?_))))))
   refine nG rfl rfl (rfl) rfl (nY rfl rfl (e4) (s_fa0 rfl fo_39_1 (nY rfl rfl (e4) (s_ld rfl (by repeat first | exact gS | refine Kp.lt k2 (by omega) ?_ | refine gN (by omega) ?_) ag_26 (by first | exact rfl) ?_))))
   refine nY rfl rfl (e4) (s_len rfl rfl un_26 rfl (nY rfl rfl (e4) (s_bin rfl rfl rfl (nY rfl rfl (rfl) (s_pt rfl (e4) rfl (nO (s_pf rfl (rfl) rfl (nM rfl (nY rfl rfl (decide_eq_false (by omega)) (s_fa0 rfl fo_39_1 (nY rfl rfl (decide_eq_false (by omega)) (s_ld rfl (by repeat first | exact gS | refine Kp.lt k2 (by omega) ?_ | refine gN (by omega) ?_) ag_26 (by first | exact rfl) ?_))))))))))))
   refine nY rfl rfl (decide_eq_false (by omega)) (s_len rfl rfl un_26 rfl (nY rfl rfl (decide_eq_false (by omega)) (s_bin rfl rfl rfl (nO (s_pf rfl (decide_eq_false (by omega)) rfl (n_nil (Nc (w_no rfl (decide_eq_false (by omega)) (Ne (Nc (w_reg 4 rfl rfl (j' := 4) (nM rfl (nO (s_fa0 rfl fo_39_0 (nO (s_ld rfl (by repeat first | exact gS | refine Kp.lt k2 (by omega) ?_ | refine gN (by omega) ?_) ag_9 (by first | exact rfl) ?_))))))))))))))))
   refine n_op .no (q := 3) rfl (s_mset (a := true) un_225 un_9 rfl rfl rfl rfl hM2 fun o ho hoo => (n_nil ?_))
   repeat first | refine Na ?_ | refine Nb ?_ | refine Nc ?_ | refine Nd ?_ | refine Ne ?_
   repeat first | refine Na ?_ | refine Nb ?_ | refine Nc ?_ | refine Nd ?_ | refine Ne ?_
   refine w_reg 2 rfl rfl (j' := 6) (nO (s_bin rfl rfl (by first | exact bi_inc (by omega) | exact bi_add rfl (by omega) (by omega)) ?_))
   refine nM rfl (n_nil ?_)
   exact z_round (i + 1) ⟨rfl, rfl, rfl, rfl, trivial⟩ ⟨hi, by omega, Kp.new (kL.trans0 k3 (by omega)) (by omega) _, ⟨_, ho _ (gs_same _ _ _), hfs⟩, take_nodup hi hnd e2, fun j hj hlt => by
    by_cases e : j = i
    ·subst e; exact ⟨e1, e3, by omega⟩
    ·exact ht j hj (by omega)⟩ (by omega)
  ·have e4' : ws[i].gone = false := by simpa using e4
   by_cases e5 : ws[i].val.length ≤ 4000
   ·refine nO (s_pf rfl (rfl) rfl (nM rfl (nY rfl rfl (rfl) (s_fa0 rfl fo_39_2 (nY rfl rfl (rfl) (s_ld rfl (by repeat first | exact gS | refine Kp.lt k2 (by omega) ?_ | refine gN (by omega) ?_) ag_4 (by first | exact rfl) ?_))))))
    refine nG rfl rfl (rfl) rfl (nSk rfl rfl (e4') rfl 3 rfl (nY rfl rfl (rfl) (s_pf rfl (e4') rfl (nO (s_pf rfl (rfl) rfl (nM rfl (nY rfl rfl (rfl) (s_fa0 rfl fo_39_1 (nY rfl rfl (rfl) (s_ld rfl (by repeat first | exact gS | refine Kp.lt k2 (by omega) ?_ | refine gN (by omega) ?_) ag_26 (by first | exact rfl) ?_))))))))))
    refine nY rfl rfl (rfl) (s_len rfl rfl un_26 rfl (nY rfl rfl (rfl) (s_bin rfl rfl rfl (nO (s_pf rfl (rfl) rfl (n_nil (Nc (w_no rfl (decide_eq_false (by omega)) (Ne (Nc (w_reg 4 rfl rfl (j' := 4) (nM rfl (nO (s_fa0 rfl fo_39_0 (nO (s_ld rfl (by repeat first | exact gS | refine Kp.lt k2 (by omega) ?_ | refine gN (by omega) ?_) ag_9 (by first | exact rfl) ?_))))))))))))))))
    refine n_op .no (q := 3) rfl (s_mset (a := true) un_225 un_9 rfl rfl rfl rfl hM2 fun o ho hoo => (n_nil ?_))
    repeat first | refine Na ?_ | refine Nb ?_ | refine Nc ?_ | refine Nd ?_ | refine Ne ?_
    repeat first | refine Na ?_ | refine Nb ?_ | refine Nc ?_ | refine Nd ?_ | refine Ne ?_
    refine w_reg 2 rfl rfl (j' := 6) (nO (s_bin rfl rfl (by first | exact bi_inc (by omega) | exact bi_add rfl (by omega) (by omega)) ?_))
    refine nM rfl (n_nil ?_)
    exact z_round (i + 1) ⟨rfl, rfl, rfl, rfl, trivial⟩ ⟨hi, by omega, Kp.new (kL.trans0 k3 (by omega)) (by omega) _, ⟨_, ho _ (gs_same _ _ _), hfs⟩, take_nodup hi hnd e2, fun j hj hlt => by
     by_cases e : j = i
     ·subst e; exact ⟨e1, e3, e5⟩
     ·exact ht j hj (by omega)⟩ (by omega)
   ·refine nO (s_pf rfl (rfl) rfl (nM rfl (nY rfl rfl (rfl) (s_fa0 rfl fo_39_2 (nY rfl rfl (rfl) (s_ld rfl (by repeat first | exact gS | refine Kp.lt k2 (by omega) ?_ | refine gN (by omega) ?_) ag_4 (by first | exact rfl) ?_))))))
    refine nG rfl rfl (rfl) rfl (nSk rfl rfl (e4') rfl 3 rfl (nY rfl rfl (rfl) (s_pf rfl (e4') rfl (nO (s_pf rfl (rfl) rfl (nM rfl (nY rfl rfl (rfl) (s_fa0 rfl fo_39_1 (nY rfl rfl (rfl) (s_ld rfl (by repeat first | exact gS | refine Kp.lt k2 (by omega) ?_ | refine gN (by omega) ?_) ag_26 (by first | exact rfl) ?_))))))))))
    refine nY rfl rfl (rfl) (s_len rfl rfl un_26 rfl (nY rfl rfl (rfl) (s_bin rfl rfl rfl (nO (s_pf rfl (rfl) rfl (n_nil (Nc (w_yes rfl (decide_eq_true (by omega)) (Na (w_reg 1 rfl rfl (j' := 1) (nA rfl (n_nil (Nc (Nf (z_r1 rfl rfl ?_)))))))))))))))
    exact ⟨⟨_, rfl, ⟨fun h => (by cases h), fun h => absurd (h.2.2.2.2.1 _ (List.getElem_mem hi)).2.2 e5⟩⟩, kL.trans0 k3 (by omega)⟩
 ·refine w_exit rfl ?_
  repeat first | refine Na ?_ | refine Nb ?_ | refine Nc ?_ | refine Nd ?_ | refine Ne ?_
  refine w_reg 1 rfl rfl (j' := 2) (nA rfl (n_nil (Nc (Nf (z_r1 rfl rfl ?_)))))
  have : i = ws.length := by simp at hb; omega
  subst this
  rw [List.take_length] at hnd
  exact ⟨⟨_, rfl, ⟨fun _ => ⟨d1, d0, d2, hg, fun x hx => by
   obtain ⟨j, hj, rfl⟩ := List.mem_iff_getElem.1 hx
   exact ht j hj hj, hnd⟩, fun _ => rfl⟩⟩, kL⟩
end

end Go.Proofs.YtehmailaabjdjaaGreat
end

section
open Go.Proofs
namespace Go.Proofs.YtehmailaabjdjaaGreat
set_option linter.unusedSimpArgs false
set_option linter.unusedVariables false
set_option maxRecDepth 100000

open Classical in
noncomputable def Sto.can (S : Sto) (gs : List Gd) (ws : List Wr) : Int :=
 if ¬ txnMay gs ws then 1 else if ∃ x ∈ gs, ¬ S.holds x then 6 else if ∃ w ∈ ws, w.gone = true ∧ findK w.key S.now = none then 3 else 0

theorem can_form {S : Sto} {gs : List Gd} {ws : List Wr} (h : ¬ txnMay gs ws) : S.can gs ws = 1 := if_pos h
theorem can_guard {S : Sto} {gs : List Gd} {ws : List Wr} (h : txnMay gs ws) (h2 : ∃ x ∈ gs, ¬ S.holds x) : S.can gs ws = 6 := by
 rw [Sto.can, if_neg (fun k => k h), if_pos h2]
theorem can_none {S : Sto} {gs : List Gd} {ws : List Wr} (h : txnMay gs ws) (h2 : ∀ x ∈ gs, S.holds x) (h3 : ∃ w ∈ ws, w.gone = true ∧ findK w.key S.now = none) : S.can gs ws = 3 := by
 rw [Sto.can, if_neg (fun k => k h), if_neg (fun ⟨x, hx, k⟩ => k (h2 x hx)), if_pos h3]
theorem can_ok {S : Sto} {gs : List Gd} {ws : List Wr} (h : txnMay gs ws) (h2 : ∀ x ∈ gs, S.holds x) (h3 : ∀ w ∈ ws, w.gone = true → findK w.key S.now ≠ none) : S.can gs ws = 0 := by
 rw [Sto.can, if_neg (fun k => k h), if_neg (fun ⟨x, hx, k⟩ => k (h2 x hx)), if_neg (fun ⟨w, hw, a, b⟩ => h3 w hw a b)]

section
variable {g : Gm} {n b s m1 m2 l : Nat} {sl : Value} {S : Sto}

theorem can_c {gv wv : Value} {gs : List Gd} {ws : List Wr} (h : StAt b g s m1 m2 l sl S) (h1 : GdsRd g gv gs) (h2 : WrsRd g wv ws) :
  C 66 #[.pointer (some ⟨s, 0, none⟩), .agg [gv, wv].toArray] g n fun u g' n' => u = .int .i64 (S.can gs ws) ∧ K0 g n g' := by
 obtain ⟨a1, c1, rfl⟩ := h1.len
 obtain ⟨a2, c2, rfl⟩ := h2.len
 refine c_in2 Tryz.func66 rfl Tryz.ntmps66 rfl fun hw => ?_
 have hsn := hw _ _ h.cell
 refine Na (w_reg 2 rfl rfl (j' := 2) (n_op .no (q := 0) rfl (s_boxa rfl (nA rfl (n_nil (Nc (Na (Na (w_reg 3 rfl rfl (j' := 5) (nO (sLf rfl ag_42 sz_42 ?_)))))))))))
 refine n_call .no rfl rfl rfl (C.use (may102_c (h1.kp0 (n := n) (by repeat (first | exact Kp.refl _ _ _ | refine Kp.new ?_ (by omega) _)) hw) (h2.kp0 (n := n) (by repeat (first | exact Kp.refl _ _ _ | refine Kp.new ?_ (by omega) _)) hw)) fun v g1 n1 hw1 hn1 hq => ?_)
 obtain ⟨⟨r, rfl, hr⟩, k1⟩ := hq
 have k01 : K0 g n g1 := Kp.trans0 (n' := n) (by repeat (first | exact Kp.refl _ _ _ | refine Kp.new ?_ (by omega) _)) (k1.dn (by omega)) (by omega)
 have c1' := k1.lt (by omega) (show gset g (n + 0) (.cells [.slice a1 gs.length c1, .slice a2 ws.length c2] 0 false) n = _ from gs_same _ _ _)
 refine nO (s_not rfl (n_nil ?_))
 by_cases hm : txnMay gs ws
 rotate_left
 ·have : r = false := by
   cases r with
   | false => rfl
   | true => exact absurd (hr.1 rfl) hm
  subst this
  refine Nc (w_yes rfl (rfl) (Na (w_reg 1 rfl rfl (j' := 1) (nA rfl (n_nil (Nc (Nf (z_r1 rfl rfl ?_))))))))
  exact ⟨by rw [can_form hm], k01⟩
 obtain rfl : r = true := hr.2 hm
 refine Nc (w_no rfl (rfl) (Ne (Nc (Na (Na (w_reg 4 rfl rfl (j' := 4) (nO (s_fa0 rfl fo_42_0 (nO (sL rfl ag_37 ?_))))))))))
 refine nO (s_len rfl rfl un_37 rfl (nM rfl (n_nil ?_)))
 refine z_seq ?_
 have hlg := hm.1
 have hlw := hm.2.2.1
 refine z_meet (β := Unit) (fun _ => [(0, .pointer (some ⟨s, 0, none⟩)), (3, .pointer (some ⟨n, 0, none⟩))]) (fun _ g' n' => n + 1 ≤ n' ∧ K0 g n g' ∧ g' n = some (.cells [.slice a1 gs.length c1, .slice a2 ws.length c2] 0 false) ∧ ∀ x ∈ gs, S.holds x) ?_ ?_
 ·repeat first | refine Na ?_ | refine Nb ?_ | refine Nc ?_ | refine Nd ?_ | refine Ne ?_
  refine w_loop (β := Nat) (fun i => [(0, .pointer (some ⟨s, 0, none⟩)), (3, .pointer (some ⟨n, 0, none⟩)), (15, .slice a1 gs.length c1), (16, .int .i64 gs.length), (17, .int .i64 i)])
   (fun i g' n' => i ≤ gs.length ∧ n + 1 ≤ n' ∧ K0 g n g' ∧ g' n = some (.cells [.slice a1 gs.length c1, .slice a2 ws.length c2] 0 false) ∧ ∀ j, (h : j < gs.length) → j < i → S.holds gs[j]) (fun i => gs.length - i) 0 ⟨rfl, rfl, rfl, rfl, rfl, trivial⟩ ⟨by omega, by omega, k01, c1', fun j _ h => absurd h (by omega)⟩ ?_
  rintro i f gL nL hwL ⟨hi, hnL, kL, hcell, ht⟩
  repeat first | refine Na ?_ | refine Nb ?_ | refine Nc ?_ | refine Nd ?_ | refine Ne ?_
  refine w_reg 1 rfl rfl (j' := 1) (nO (s_bin rfl rfl rfl (n_nil (Nc (Na (w_if rfl (fun hb => ?_) (fun hb => ?_)))))))
  ·have hi : i < gs.length := by simpa using hb
   obtain ⟨l3, o3, c3, cl3, ro3, x1, x2, x0, x5⟩ := (h1.kp0 kL hw).at hi
   cases x1
   have hx2 := hwL _ _ x2
   repeat first | refine Na ?_ | refine Nb ?_ | refine Nc ?_ | refine Nd ?_ | refine Ne ?_
   refine w_reg 4 rfl rfl (j' := 5) (nO (s_ia rfl rfl el_37 (by first | assumption | omega) (nO (sLa rfl ag_36 sz_36 ?_))))
   refine n_op .no (q := 3) rfl (s_al zl_36 (nO (sSw rfl rfl sz_36 rfl rfl ?_)))
   refine n_nil (Nc (Na (w_reg 4 rfl rfl (j' := 9) (nM rfl (nO (sLf rfl ag_36 sz_36 ?_))))))
   refine n_call .no rfl rfl rfl (C.use (holds_c (x := gs[i]) ((h.kp0 kL hw).kp0 (n := nL) (by repeat (first | exact Kp.refl _ _ _ | refine Kp.new ?_ (by omega) _)) hwL)) fun v g2 n2 hw2 hn2 hq => ?_)
   obtain ⟨⟨r, rfl, hr⟩, k2⟩ := hq
   have k3 : K0 gL nL g2 := Kp.trans0 (by repeat (first | exact Kp.refl _ _ _ | refine Kp.new ?_ (by omega) _)) k2 (by omega)
   by_cases e1 : S.holds gs[i]
   ·obtain rfl : r = true := hr.2 e1
    refine nO (s_not rfl (n_nil (Nc (w_no rfl (rfl) ?_))))
    repeat first | refine Na ?_ | refine Nb ?_ | refine Nc ?_ | refine Nd ?_ | refine Ne ?_
    repeat first | refine Na ?_ | refine Nb ?_ | refine Nc ?_ | refine Nd ?_ | refine Ne ?_
    refine w_reg 2 rfl rfl (j' := 2) (nO (s_bin rfl rfl (by first | exact bi_inc (by omega) | exact bi_add rfl (by omega) (by omega)) ?_))
    refine nM rfl (n_nil ?_)
    exact z_round (i + 1) ⟨rfl, rfl, rfl, rfl, rfl, trivial⟩ ⟨hi, by omega, kL.trans0 k3 (by omega), k3.at0 hwL hcell, fun j hj hlt => by
     by_cases e : j = i
     ·subst e; exact e1
     ·exact ht j hj (by omega)⟩ (by omega)
   ·have : r = false := by
     cases r with
     | false => rfl
     | true => exact absurd (hr.1 rfl) e1
    subst this
    refine nO (s_not rfl (n_nil (Nc (w_yes rfl (rfl) (Na (w_reg 1 rfl rfl (j' := 1) (nA rfl (n_nil (Nc (Nf (z_r1 rfl rfl ?_)))))))))))
    exact ⟨by rw [can_guard hm ⟨_, List.getElem_mem hi, e1⟩], kL.trans0 k3 (by omega)⟩
  ·refine w_exit rfl ?_
   have : i = gs.length := by simp at hb; omega
   subst this
   exact z_met () ⟨rfl, rfl, trivial⟩ ⟨by omega, kL, hcell, fun x hx => by
    obtain ⟨j, hj, rfl⟩ := List.mem_iff_getElem.1 hx
    exact ht j hj hj⟩
 rintro _ f g5 n5 hw5 ⟨hn5, k5, hcell, hg⟩
 repeat first | refine Na ?_ | refine Nb ?_ | refine Nc ?_ | refine Nd ?_ | refine Ne ?_
 refine w_reg 4 rfl rfl (j' := 4) (nO (s_fa0 rfl fo_42_1 (nO (sL rfl ag_40 ?_))))
 refine nO (s_len rfl rfl un_40 rfl (nM rfl (n_nil ?_)))
 repeat first | refine Na ?_ | refine Nb ?_ | refine Nc ?_ | refine Nd ?_ | refine Ne ?_
 refine w_loop (β := Nat) (fun i => [(0, .pointer (some ⟨s, 0, none⟩)), (27, .slice a2 ws.length c2), (28, .int .i64 ws.length), (29, .int .i64 i)])
  (fun i g' n' => i ≤ ws.length ∧ n + 1 ≤ n' ∧ K0 g n g' ∧ ∀ j, (h : j < ws.length) → j < i → ws[j].gone = true → findK ws[j].key S.now ≠ none) (fun i => ws.length - i) 0 ⟨rfl, rfl, rfl, rfl, trivial⟩
  ⟨by omega, by omega, k5, fun j _ h => absurd h (by omega)⟩ ?_
 rintro i f gL nL hwL ⟨hi, hnL, kL, ht⟩
 repeat first | refine Na ?_ | refine Nb ?_ | refine Nc ?_ | refine Nd ?_ | refine Ne ?_
 refine w_reg 1 rfl rfl (j' := 1) (nO (s_bin rfl rfl rfl (n_nil (Nc (Na (w_if rfl (fun hb => ?_) (fun hb => ?_)))))))
 ·have hi : i < ws.length := by simpa using hb
  obtain ⟨l3, o3, c3, cl3, ro3, p3, q3, x1, x2, x0, x5, x6⟩ := (h2.kp0 kL hw).at hi
  cases x1
  have hx2 := hwL _ _ x2
  have hL := h.kp0 kL hw
  have hcL := hL.cell
  repeat first | refine Na ?_ | refine Nb ?_ | refine Nc ?_ | refine Nd ?_ | refine Ne ?_
  refine w_reg 4 rfl rfl (j' := 5) (nO (s_ia rfl rfl el_40 (by first | assumption | omega) (nO (sLa rfl ag_39 sz_39 ?_))))
  refine n_op .no (q := 3) rfl (s_al zl_39 (nO (sSw rfl rfl sz_39 rfl rfl ?_)))
  refine n_nil ?_
  repeat first | refine Na ?_ | refine Nb ?_ | refine Nc ?_ | refine Nd ?_ | refine Ne ?_
  refine w_gen fun g6 n6 hg6 hn6 hwg6 => ?_
  have k6 : K0 gL nL g6 := by rw [hg6]; exact (by repeat (first | exact Kp.refl _ _ _ | refine Kp.new ?_ (by omega) _))
  have c6 : g6 (nL + 3) = some (.cells (wrC ws[i] (.slice p3 ws[i].val.length q3)) 0 false) := by rw [hg6]; exact gs_same _ _ _
  have hL6 := hL.kp0 k6 hwL
  have hc6 := hL6.cell
  have hn36 := hwg6 _ _ c6
  clear hg6
  rcases hf : findK ws[i].key S.now with _ | e
  ·repeat first | refine Na ?_ | refine Nb ?_ | refine Nc ?_ | refine Nd ?_ | refine Ne ?_
   refine w_drw (T6 66 12) [(0, []), (1, []), (2, []), (3, []), (4, [3]), (5, [3]), (6, []), (7, []), (8, []), (9, []), (10, [3, 5, 6]), (11, []), (12, [])] 13 (by kernel_rfl) rfl rfl (j' := 13) (dM rfl rfl (dO rfl rfl (s_nil rfl ⟨⟨rfl, rfl⟩, (dO rfl rfl (s_fa0 rfl fo_127_1 ⟨⟨rfl, rfl⟩, (dT rfl rfl rfl (sL rfl ag_120 ⟨clash_nil, ?_⟩))⟩))⟩)))
   refine dO rfl rfl (s_fa0 rfl fo_39_0 ⟨⟨rfl, rfl⟩, (dT rfl rfl rfl (sL rfl ag_9 ⟨clash_rd rfl, ?_⟩))⟩)
   refine d_tc rfl rfl rfl .no (q := 6) rfl (s_lkF true un_120 un_9 zp_28 rfl rfl hL6.now hf ⟨clash_nil, (dM rfl rfl (dO rfl rfl (s_ext rfl rfl ⟨⟨rfl, rfl⟩, (dO rfl rfl (s_ext rfl rfl ⟨⟨rfl, rfl⟩, (d_al rfl rfl rfl .no (q := 10) rfl (s_al zl_28 (dT rfl rfl rfl (sSw rfl rfl sz_28 rfl rfl ⟨clash_nil, ?_⟩))))⟩))⟩)))⟩)
   refine dO rfl rfl (s_as rfl ⟨⟨rfl, rfl⟩, (d_nil ?_)⟩)
   by_cases hgo : ws[i].gone = true
   ·refine Nc (Na (w_reg 6 rfl rfl (j' := 19) (nO (s_fa0 rfl fo_39_2 (nO (sL rfl ag_4 ?_))))))
    refine nM rfl (nG rfl rfl (hgo) rfl (nY rfl rfl (hgo) (s_not rfl (nO (s_pt rfl (hgo) rfl (n_nil (Nc (w_yes rfl (rfl) (Na (w_reg 1 rfl rfl (j' := 20) (nA rfl (n_nil (Nc (Nf (z_r1 rfl rfl ?_)))))))))))))))
    exact ⟨by rw [can_none hm hg ⟨_, List.getElem_mem hi, hgo, hf⟩], Kp.trans0 (n' := n6) (kL.trans0 k6 (by omega)) (by repeat (first | exact Kp.refl _ _ _ | refine Kp.new ?_ (by omega) _)) (by omega)⟩
   ·refine Nc (Na (w_reg 6 rfl rfl (j' := 19) (nO (s_fa0 rfl fo_39_2 (nO (sL rfl ag_4 ?_))))))
    refine nM rfl (n_sk rfl rfl ((by simpa using hgo)) (n_sk rfl rfl ((by simpa using hgo)) (nO (s_pf rfl ((by simpa using hgo)) rfl (n_nil (Nc (w_no rfl (rfl) ?_)))))))
    repeat first | refine Na ?_ | refine Nb ?_ | refine Nc ?_ | refine Nd ?_ | refine Ne ?_
    repeat first | refine Na ?_ | refine Nb ?_ | refine Nc ?_ | refine Nd ?_ | refine Ne ?_
    refine w_reg 2 rfl rfl (j' := 21) (nO (s_bin rfl rfl (by first | exact bi_inc (by omega) | exact bi_add rfl (by omega) (by omega)) ?_))
    refine nM rfl (n_nil ?_)
    exact z_round (i + 1) ⟨rfl, rfl, rfl, rfl, trivial⟩ ⟨hi, by omega, Kp.trans0 (n' := n6) (kL.trans0 k6 (by omega)) (by repeat (first | exact Kp.refl _ _ _ | refine Kp.new ?_ (by omega) _)) (by omega), fun j hj hlt hq => by
     by_cases e : j = i
     ·subst e; exact absurd hq hgo
     ·exact ht j hj (by omega) hq⟩ (by omega)
  ·repeat first | refine Na ?_ | refine Nb ?_ | refine Nc ?_ | refine Nd ?_ | refine Ne ?_
   refine w_drw (T6 66 12) [(0, []), (1, []), (2, []), (3, []), (4, [3]), (5, [3]), (6, []), (7, []), (8, []), (9, []), (10, [3, 5, 6]), (11, []), (12, [])] 13 (by kernel_rfl) rfl rfl (j' := 13) (dM rfl rfl (dO rfl rfl (s_nil rfl ⟨⟨rfl, rfl⟩, (dO rfl rfl (s_fa0 rfl fo_127_1 ⟨⟨rfl, rfl⟩, (dT rfl rfl rfl (sL rfl ag_120 ⟨clash_nil, ?_⟩))⟩))⟩)))
   refine dO rfl rfl (s_fa0 rfl fo_39_0 ⟨⟨rfl, rfl⟩, (dT rfl rfl rfl (sL rfl ag_9 ⟨clash_rd rfl, ?_⟩))⟩)
   refine d_tc rfl rfl rfl .no (q := 6) rfl (s_lkT true un_120 un_9 zp_28 rfl rfl hL6.now hf fun v hv => ⟨clash_nil, ?_⟩)
   obtain ⟨c, rfl, a, p, rfl, hB, hle⟩ := hv
   refine dM rfl rfl (dO rfl rfl (s_ext rfl rfl ⟨⟨rfl, rfl⟩, (dO rfl rfl (s_ext rfl rfl ⟨⟨rfl, rfl⟩, (d_al rfl rfl rfl .no (q := 10) rfl (s_al zl_28 (dT rfl rfl rfl (sSw rfl rfl sz_28 rfl rfl ⟨clash_nil, ?_⟩))))⟩))⟩))
   refine dO rfl rfl (s_as rfl ⟨⟨rfl, rfl⟩, (d_nil ?_)⟩)
   have hro : ∀ j, (h : j < ws.length) → j < i + 1 → ws[j].gone = true → findK ws[j].key S.now ≠ none := fun j hj hlt hq => by
    by_cases e' : j = i
    ·subst e'; rw [hf]; exact fun h => by cases h
    ·exact ht j hj (by omega) hq
   by_cases hgo : ws[i].gone = true
   ·refine Nc (Na (w_reg 6 rfl rfl (j' := 19) (nO (s_fa0 rfl fo_39_2 (nO (sL rfl ag_4 ?_))))))
    refine nM rfl (nG rfl rfl (hgo) rfl (nY rfl rfl (hgo) (s_not rfl (nO (s_pt rfl (hgo) rfl (n_nil (Nc (w_no rfl (rfl) ?_))))))))
    repeat first | refine Na ?_ | refine Nb ?_ | refine Nc ?_ | refine Nd ?_ | refine Ne ?_
    repeat first | refine Na ?_ | refine Nb ?_ | refine Nc ?_ | refine Nd ?_ | refine Ne ?_
    refine w_reg 2 rfl rfl (j' := 21) (nO (s_bin rfl rfl (by first | exact bi_inc (by omega) | exact bi_add rfl (by omega) (by omega)) ?_))
    refine nM rfl (n_nil ?_)
    exact z_round (i + 1) ⟨rfl, rfl, rfl, rfl, trivial⟩ ⟨hi, by omega, Kp.trans0 (n' := n6) (kL.trans0 k6 (by omega)) (by repeat (first | exact Kp.refl _ _ _ | refine Kp.new ?_ (by omega) _)) (by omega), hro⟩ (by omega)
   ·refine Nc (Na (w_reg 6 rfl rfl (j' := 19) (nO (s_fa0 rfl fo_39_2 (nO (sL rfl ag_4 ?_))))))
    refine nM rfl (n_sk rfl rfl ((by simpa using hgo)) (n_sk rfl rfl ((by simpa using hgo)) (nO (s_pf rfl ((by simpa using hgo)) rfl (n_nil (Nc (w_no rfl (rfl) ?_)))))))
    repeat first | refine Na ?_ | refine Nb ?_ | refine Nc ?_ | refine Nd ?_ | refine Ne ?_
    repeat first | refine Na ?_ | refine Nb ?_ | refine Nc ?_ | refine Nd ?_ | refine Ne ?_
    refine w_reg 2 rfl rfl (j' := 21) (nO (s_bin rfl rfl (by first | exact bi_inc (by omega) | exact bi_add rfl (by omega) (by omega)) ?_))
    refine nM rfl (n_nil ?_)
    exact z_round (i + 1) ⟨rfl, rfl, rfl, rfl, trivial⟩ ⟨hi, by omega, Kp.trans0 (n' := n6) (kL.trans0 k6 (by omega)) (by repeat (first | exact Kp.refl _ _ _ | refine Kp.new ?_ (by omega) _)) (by omega), hro⟩ (by omega)
 ·refine w_exit rfl ?_
  repeat first | refine Na ?_ | refine Nb ?_ | refine Nc ?_ | refine Nd ?_ | refine Ne ?_
  refine w_reg 1 rfl rfl (j' := 2) (nA rfl (n_nil (Nc (Nf (z_r1 rfl rfl ?_)))))
  have : i = ws.length := by simp at hb; omega
  subst this
  exact ⟨by rw [can_ok hm hg fun w hw => by
   obtain ⟨j, hj, rfl⟩ := List.mem_iff_getElem.1 hw
   exact ht j hj hj], kL⟩
end

end Go.Proofs.YtehmailaabjdjaaGreat
end

section
open Go.Proofs
namespace Go.Proofs.YtehmailaabjdjaaGreat
set_option linter.unusedSimpArgs false
set_option linter.unusedVariables false
set_option maxRecDepth 100000

def Sto.put1 (r : Int) (T : Sto) (w : Wr) : Sto := { T with last := setK w.key r T.last, now := if w.gone = true then delK w.key T.now else setK w.key ⟨w.key, r, w.val⟩ T.now }
def evtW (r : Int) (w : Wr) : Evt := ⟨r, w.key, w.val, w.gone⟩
noncomputable def Sto.txn (S : Sto) (gs : List Gd) (ws : List Wr) : Sto × Int × Int :=
 if S.can gs ws = 0 then ({ ws.foldl (Sto.put1 (S.rev + 1)) { S with rev := S.rev + 1, writes := S.writes + 1 } with log := S.log.add (ws.map (evtW (S.rev + 1))) }, S.rev + 1, 0)
 else ({ S with writes := S.writes + 1 }, 0, S.can gs ws)

theorem puts_same (r : Int) : ∀ (ws : List Wr) (T : Sto), (ws.foldl (Sto.put1 r) T).rev = T.rev ∧ (ws.foldl (Sto.put1 r) T).log = T.log ∧ (ws.foldl (Sto.put1 r) T).reads = T.reads ∧ (ws.foldl (Sto.put1 r) T).writes = T.writes
 | [], T => ⟨rfl, rfl, rfl, rfl⟩
 | w :: ws, T => by
  obtain ⟨h1, h2, h3, h4⟩ := puts_same r ws (T.put1 r w)
  exact ⟨h1, h2, h3, h4⟩
theorem can_may {S : Sto} {gs : List Gd} {ws : List Wr} (h : S.can gs ws = 0) : txnMay gs ws := by
 by_cases hm : txnMay gs ws
 ·exact hm
 ·rw [can_form hm] at h; cases h

theorem Kp.tr' {F : Nat → AObj → Prop} {g g' g'' : Gm} {n n' : Nat} (h : Kp F g n g') (k : Kp F g' n' g'') (hn : n ≤ n') : Kp F g n g'' := h.trans k hn fun _ _ _ h _ => h

section
variable {g g' : Gm} {n n' b s m1 m2 l : Nat} {sl : Value} {S : Sto}

theorem FL.fs (h : StAt b g s m1 m2 l sl S) (hk : Kp (FL l sl) g n g') : Kp (FS s m1 m2 l sl) g n g' := hk.mono fun x o _ ho hf => by
 rcases hf.1 with e | e
 ·subst e
  rw [h.log.cell] at ho
  exact .inl ⟨.inr rfl, _, _, (Option.some.inj ho).symm⟩
 ·obtain ⟨⟨cs, h1, _⟩, _⟩ := h.log.evs
  obtain ⟨_, ⟨rfl, _⟩ | ⟨l', o', c, cl, rfl, _, h4, _⟩⟩ := h1
  ·cases e
  ·simp only [vname, Option.some.injEq] at e
   subst e
   rw [h4] at ho
   exact .inr (.inr ⟨rfl, _, _, (Option.some.inj ho).symm⟩)
theorem FC.fs (hk : Kp (FC s) g n g') : Kp (FS s m1 m2 l sl) g n g' := hk.mono fun x o _ _ hf => .inl ⟨.inl hf.1, hf.2⟩

theorem StAt.setLast {o : AObj} {r : List (Bs × Int)} (h : StAt b g s m1 m2 l sl S) (hw : WF g n) (ho : ∀ g' : Gm, g' m2 = some o → MapAt g' (fun v (z : Int) => v = .int .i64 z) m2 r) : StAt b (gset g m2 o) s m1 m2 l sl { S with last := r } ∧ Kp (FS s m1 m2 l sl) g n (gset g m2 o) := by
 obtain ⟨es, c, hm, _⟩ := h.last
 have hk : Kp (fun x o => x = m2 ∧ ∃ es c, o = AObj.map es c) g n (gset g m2 o) := Kp.set (Kp.refl _ _ _) (fun o ho => ⟨rfl, es, c, Option.some.inj (ho.symm.trans hm)⟩) o
 refine ⟨⟨(gs_ne h.sm2 _).trans h.cell, h.now.kp hk hw (fun es c hf => h.ne hf.1) (fun v e he => he.mono fun v bs hb => hb.kp hk hw fun x cl ro hf => by obtain ⟨_, _, _, e⟩ := hf; cases e), ho _ (gs_same _ _ _), ⟨(gs_ne h.lm2 _).trans h.log.cell, h.log.evs.kp hk hw (fun x cl ro _ hf => by obtain ⟨_, _, _, e⟩ := hf; cases e) (fun x o hx _ hf => by
  obtain ⟨e, _⟩ := hf
  subst e
  exact h.m2v hx)⟩, h.ne⟩, hk.mono fun x o _ _ hf => .inr (.inl ⟨.inr hf.1, hf.2⟩)⟩
theorem StAt.setNow {o : AObj} {r : List (Bs × SEnt)} (h : StAt b g s m1 m2 l sl S) (hw : WF g n) (ho : ∀ g' : Gm, g' m1 = some o → MapAt g' (EnV b g) m1 r) : StAt b (gset g m1 o) s m1 m2 l sl { S with now := r } ∧ Kp (FS s m1 m2 l sl) g n (gset g m1 o) := by
 obtain ⟨es, c, hm, _⟩ := h.now
 have hk : Kp (fun x o => x = m1 ∧ ∃ es c, o = AObj.map es c) g n (gset g m1 o) := Kp.set (Kp.refl _ _ _) (fun o ho => ⟨rfl, es, c, Option.some.inj (ho.symm.trans hm)⟩) o
 refine ⟨⟨(gs_ne h.sm1 _).trans h.cell, ?_, h.last.kp hk hw (fun es c hf => h.ne hf.1.symm) (fun _ _ e => e), ⟨(gs_ne h.lm1 _).trans h.log.cell, h.log.evs.kp hk hw (fun x cl ro _ hf => by obtain ⟨_, _, _, e⟩ := hf; cases e) (fun x o hx _ hf => by
  obtain ⟨e, _⟩ := hf
  subst e
  exact h.m1v hx)⟩, h.ne⟩, hk.mono fun x o _ _ hf => .inr (.inl ⟨.inl hf.1, hf.2⟩)⟩
 obtain ⟨es, c, q1, q2, q3⟩ := ho _ (gs_same g m1 o)
 exact ⟨es, c, q1, q2, q3.mono fun v e he => he.mono fun v bs hb => hb.kp hk hw fun x cl ro hf => by obtain ⟨_, _, _, e⟩ := hf; cases e⟩

theorem FS.no0 {x : Nat} {c : List Value} {ro : Bool} (h1 : x ≠ s) (h2 : x ≠ l) : ¬ FS s m1 m2 l sl x (.cells c 0 ro) := fun h => by
 rcases h with ⟨e, _⟩ | ⟨_, _, _, e⟩ | ⟨_, _, _, e⟩
 ·omega
 ·cases e
 ·cases e
theorem StAt.setLog {sl' : Value} {L : Log} (h : StAt b g s m1 m2 l sl S) (hw : WF g n) (hk : Kp (FL l sl) g n g') (hA : LogAt b g' l sl' L) : StAt b g' s m1 m2 l sl' { S with log := L } :=
 ⟨hk.at hw h.cell (fun hf => by rcases hf.1 with e | e; exact h.nl e; exact h.sv e), h.now.kp hk hw (fun es c hf => by rcases hf.1 with e | e; exact h.lm1 e.symm; exact h.m1v e) (fun v e he => he.mono fun v bs hb => hb.kp hk hw (FL.nob _ _)),
  h.last.kp hk hw (fun es c hf => by rcases hf.1 with e | e; exact h.lm2 e.symm; exact h.m2v e) (fun _ _ e => e), hA, h.ne⟩
theorem off_fs {v : Value} {es : List Evt} (h : EvsW g v es) (hx : ∀ x, vname v = some x → vname sl ≠ some x) : Off (FS s m1 m2 l sl) g v := fun x o hv ho hf => by
 obtain ⟨cs, ⟨_, ⟨rfl, _⟩ | ⟨l', o', c, cl, rfl, _, h4, _⟩⟩, _⟩ := h
 ·cases hv
 ·simp only [vname, Option.some.injEq] at hv
  subst hv
  rw [h4] at ho; cases ho
  rcases hf with ⟨_, _, _, e⟩ | ⟨_, _, _, e⟩ | ⟨e, _⟩
  ·cases e
  ·cases e
  ·exact hx _ rfl e
theorem txn_may {L : Log} {r q : Int} {ws : List Wr} (hr : r = q + 1) (hl : L.last ≤ q) (hw : 1 ≤ ws.length) : L.may (ws.map (evtW r)) := by
 cases ws with
 | nil => simp at hw
 | cons w ws =>
  refine ⟨⟨evtW r w, ws.map (evtW r), rfl, ?_⟩, ?_⟩
  ·show L.last < r
   omega
  ·intro i h
   simp only [List.length_map] at h
   simp only [List.getElem_map]
   exact Int.le_refl _
def FVs (v : Value) (x : Nat) (o : AObj) : Prop := vname v = some x ∧ ∃ c ro, o = .cells c 4 ro
theorem FVs.nob (v : Value) : NoB (FVs v) := fun x cl ro h => by obtain ⟨_, c, q, e⟩ := h; cases e
theorem EvsW.fvs {v : Value} {es : List Evt} (h : EvsW g v es) {x : Nat} (hx : vname v = some x) : ∀ o, g x = some o → FVs v x o := fun o ho => by
 obtain ⟨cs, ⟨_, ⟨rfl, _⟩ | ⟨l', o', c, cl, rfl, _, h4, _⟩⟩, _⟩ := h
 ·cases hx
 ·refine ⟨hx, ?_⟩
  simp only [vname, Option.some.injEq] at hx
  subst hx
  rw [h4] at ho; cases ho
  exact ⟨_, _, rfl⟩
theorem StAt.fvs {v : Value} (h : StAt b g s m1 m2 l sl S) (hk : Kp (FVs v) g n g') (hw : WF g n) (hv : ∀ x, vname v = some x → vname sl ≠ some x) : StAt b g' s m1 m2 l sl S :=
 h.kp hk hw (fun y cl ro _ => FVs.nob _ y cl ro) (fun c hf => by obtain ⟨_, c', q, e⟩ := hf; cases e) (fun es c hf => by obtain ⟨_, c', q, e⟩ := hf; cases e) (fun es c hf => by obtain ⟨_, c', q, e⟩ := hf; cases e) (fun c hf => by obtain ⟨_, c', q, e⟩ := hf; cases e)
  fun x o hx _ hf => hv x hf.1 hx
theorem put1_rev (r : Int) (T : Sto) (w : Wr) : (T.put1 r w).rev = T.rev := rfl

theorem st_txn {gv wv : Value} {gs : List Gd} {ws : List Wr} (h : StAt b g s m1 m2 l sl S) (hb : b ≤ n) (hwr : 0 ≤ S.writes ∧ S.writes < 4611686018427387904) (hrv : 0 ≤ S.rev ∧ S.rev < 4611686018427387904) (hla : S.log.last ≤ S.rev) (hlen : S.log.evs.length < 2 ^ 30) (hmo : 0 ≤ S.log.most)
  (h1 : GdsRd g gv gs) (h2 : WrsRd g wv ws) :
  C 27 #[.pointer (some ⟨s, 0, none⟩), .agg [gv, wv].toArray] g n fun u g' n' => ∃ sl', u = .tuple #[.int .i64 (S.txn gs ws).2.1, .int .i64 (S.txn gs ws).2.2] ∧ StAt b g' s m1 m2 l sl' (S.txn gs ws).1 ∧ Mvd n sl sl' ∧ Kp (FS s m1 m2 l sl) g n g' := by
 obtain ⟨a1, c1, rfl⟩ := h1.len
 obtain ⟨a2, c2, rfl⟩ := h2.len
 have hc := h.cell
 refine c_in2 Tryz.func27 rfl Tryz.ntmps27 rfl fun hw => ?_
 have hsn := hw _ _ hc
 have hln := hw _ _ h.log.cell
 refine Na (w_reg 3 rfl rfl (j' := 3) (n_op .no (q := 0) rfl (s_boxa rfl (nA rfl (nA rfl (n_nil (Nc (Na (Na (w_reg 2 rfl rfl (j' := 5) (nM rfl (nO (s_bin rfl rfl (bi_d un_24 rfl) ?_)))))))))))))
 refine n_nil (Nc (w_no rfl (rfl) (Ne (Nc (Na (w_reg 4 rfl rfl (j' := 9) (nM rfl (nN rfl (nO (s_fa0 rfl fo_127_5 (n_call .no rfl rfl rfl (C.use (aadd_c ((gs_ne (by omega) _).trans hc) (o := 5) rfl (r := S.writes + 1) rfl (by omega) (by omega) rfl) fun v g1 n1 hw1 hn1 hq => ?_))))))))))))
 obtain ⟨rfl, rfl⟩ := hq
 have hq0 : StAt b (gset g (n + 0) (.cells [.slice a1 gs.length c1, .slice a2 ws.length c2] 0 false)) s m1 m2 l sl S := h.kp0 (n := n) (by repeat (first | exact Kp.refl _ _ _ | refine Kp.new ?_ (by omega) _)) hw
 have hq := hq0.put (hw.gs (x := n + 0) (n' := n + 1) (by omega) (by omega) _) (S' := { S with writes := S.writes + 1 }) rfl rfl rfl
 refine n_nil ?_
 repeat first | refine Na ?_ | refine Nb ?_ | refine Nc ?_ | refine Nd ?_ | refine Ne ?_
 refine w_gen fun g2 n2 hg2 hn2 hwg2 => ?_
 rw [← hg2] at hq
 have k2 : Kp (FC s) g n g2 := by rw [hg2]; exact Kp.set (Kp.new (Kp.refl _ _ _) (by omega) _) (FC.of hc) _
 have c2' : g2 n = some (.cells [.slice a1 gs.length c1, .slice a2 ws.length c2] 0 false) := by rw [hg2]; exact (gs_ne (by omega) _).trans (gs_same _ _ _)
 have hG2 := h1.kk k2 hw (FC.no3 _)
 have hW2 := h2.kk k2 hw (FC.no3 _) (FC.nob _)
 clear hg2 hq0
 repeat first | refine Na ?_ | refine Nb ?_ | refine Nc ?_ | refine Nd ?_ | refine Ne ?_
 refine w_reg 4 rfl rfl (j' := 4) (nM rfl (nO (sLf rfl ag_42 sz_42 ?_)))
 refine n_call .no rfl rfl rfl (C.use (can_c hq hG2 hW2) fun v g3 n3 hw3 hn3 hq => ?_)
 obtain ⟨rfl, k3⟩ := hq
 have hq3 := hq.kp0 (k3.dn (m := n2) (by omega)) hwg2
 have c3' := (k3.dn (m := n2) (by omega)).at0 hwg2 c2'
 have k3' : Kp (FC s) g n g3 := k2.trans0 (k3.dn (m := n2) (by omega)) (by omega)
 have ecan : Sto.can { S with writes := S.writes + 1 } gs ws = S.can gs ws := rfl
 rw [ecan]
 refine nA rfl (n_nil (Nc (Na (w_reg 2 rfl rfl (j' := 2) (nM rfl (nO (s_bin rfl rfl rfl (n_nil ?_))))))))
 by_cases h0 : S.can gs ws = 0
 rotate_left
 ·refine Nc (w_yes rfl (bne_iff_ne.2 h0) (Na (w_reg 3 rfl rfl (j' := 5) (nM rfl (nA rfl (nA rfl (n_nil (Nc (Nf (z_r2 rfl rfl rfl ?_))))))))))
  have e : S.txn gs ws = ({ S with writes := S.writes + 1 }, 0, S.can gs ws) := if_neg h0
  rw [e]
  exact ⟨sl, rfl, hq3, Mvd.refl _ _, FC.fs k3'⟩
 refine Nc (w_no rfl (bne_eq_false_iff_eq.2 h0) ?_)
 have hm := can_may h0
 have hlw := hm.2.2.1
 have hc3 := hq3.cell
 have hsn3 := hw3 _ _ hc3
 refine Ne (Nc (Na (w_reg 8 rfl rfl (j' := 10) (nM rfl (nN rfl (nO (s_fa0 rfl fo_127_0 (nO (sL rfl ag_2 ?_)))))))))
 refine nO (s_bin rfl rfl (r := .int .i64 (S.rev + 1)) (by first | exact bi_add (by omega) (by omega) (by omega) | exact bi_add rfl (by omega) (by omega)) ?_)
 refine nN rfl (nO (s_fa0 rfl fo_127_0 (nO (sS rfl rfl sz_2 rfl rfl ?_))))
 refine n_nil ?_
 repeat first | refine Na ?_ | refine Nb ?_ | refine Nc ?_ | refine Nd ?_ | refine Ne ?_
 refine w_gen fun g4 n4 hg4 hn4 hwg4 => ?_
 obtain ⟨T0, hT0⟩ : ∃ T0 : Sto, T0 = { S with rev := S.rev + 1, writes := S.writes + 1 } := ⟨_, rfl⟩
 obtain ⟨r, hr⟩ : ∃ r : Int, r = S.rev + 1 := ⟨_, rfl⟩
 have hq4 : StAt b g4 s m1 m2 l sl T0 := by rw [hg4, hT0]; exact hq3.put hw3 (S' := { S with rev := S.rev + 1, writes := S.writes + 1 }) rfl rfl rfl
 have k34 : Kp (FC s) g3 n3 g4 := by rw [hg4]; exact Kp.set (Kp.refl _ _ _) (FC.of hc3) _
 have k4 : Kp (FC s) g n g4 := k3'.tr' k34 (by omega)
 have c4' : g4 n = some (.cells [.slice a1 gs.length c1, .slice a2 ws.length c2] 0 false) := k34.at hw3 c3' (fun hf => by have := hf.1; omega)
 have hW4 := h2.kk k4 hw (FC.no3 _) (FC.nob _)
 have hT0r : T0.rev = r := by rw [hT0, hr]
 clear hg4 hq hq3 hG2 hW2 hc3
 have hsl4 : ∀ x, vname sl = some x → x < n4 := fun x hx => by
  obtain ⟨⟨cs, hh, _⟩, _⟩ := hq4.log.evs
  exact hh.lt hwg4 hx
 repeat first | refine Na ?_ | refine Nb ?_ | refine Nc ?_ | refine Nd ?_ | refine Ne ?_
 refine w_reg 1 rfl rfl (j' := 1) (nA rfl (n_nil (Nc (Na (Na (w_reg 4 rfl rfl (j' := 5) (nO (s_fa0 rfl fo_42_1 (nO (sL rfl ag_40 ?_))))))))))
 refine nO (s_len rfl rfl un_40 rfl (nM rfl (n_nil ?_)))
 repeat first | refine Na ?_ | refine Nb ?_ | refine Nc ?_ | refine Nd ?_ | refine Ne ?_
 refine w_loop (β := Nat × Value) (fun x => [(0, .pointer (some ⟨s, 0, none⟩)), (7, x.2), (30, .slice a2 ws.length c2), (31, .int .i64 ws.length), (32, .int .i64 x.1)])
  (fun x g' n' => x.1 ≤ ws.length ∧ n4 ≤ n' ∧ StAt b g' s m1 m2 l sl ((ws.take x.1).foldl (Sto.put1 r) T0) ∧ Kp (FS s m1 m2 l sl) g4 n4 g' ∧ EvsW g' x.2 ((ws.take x.1).map (evtW r)) ∧ (∀ y, vname x.2 = some y → n4 ≤ y)) (fun x => ws.length - x.1) (0, .slice none 0 0) ⟨rfl, rfl, rfl, rfl, rfl, trivial⟩
  ⟨by simp, by omega, hq4, Kp.refl _ _ _, EvsW.nil _, (fun y hy => by cases hy)⟩ ?_
 rintro ⟨i, ve⟩ f gL nL hwL ⟨hi, hnL, hL, kL, hE, hve⟩
 simp only at hi hL hE hve
 repeat first | refine Na ?_ | refine Nb ?_ | refine Nc ?_ | refine Nd ?_ | refine Ne ?_
 refine w_reg 1 rfl rfl (j' := 1) (nO (s_bin rfl rfl rfl (n_nil (Nc (Na (w_if rfl (fun hb => ?_) (fun hb => ?_)))))))
 ·have hi : i < ws.length := by simpa using hb
  have hWL := hW4.kk kL hwg4 (FS.no3 _ _ _ _ _) (FS.nob _ _ _ _ _)
  obtain ⟨l3, o3, c3, cl3, ro3, p3, q3, x1, x2, x0, x5, x6⟩ := hWL.at hi
  cases x1
  have hx2 := hwL _ _ x2
  obtain ⟨w, hwi⟩ : ∃ w, w = ws[i] := ⟨_, rfl⟩
  have hwok : w.ok := by rw [hwi]; exact hm.2.2.2.2.1 _ (List.getElem_mem hi)
  rw [← hwi] at x5 x6
  have hwlen : w.val.length ≤ 4000 := hwok.2.2
  obtain ⟨T, hT⟩ : ∃ T, T = (ws.take i).foldl (Sto.put1 r) T0 := ⟨_, rfl⟩
  have hTr : T.rev = r := by rw [hT, (puts_same r _ _).1, hT0r]
  rw [← hT] at hL
  have hLc := hL.cell
  rw [hTr] at hLc
  repeat first | refine Na ?_ | refine Nb ?_ | refine Nc ?_ | refine Nd ?_ | refine Ne ?_
  refine w_reg 4 rfl rfl (j' := 5) (nO (s_ia rfl rfl el_40 (by first | assumption | omega) (nO (sLa rfl ag_39 sz_39 ?_))))
  refine n_op .no (q := 3) rfl (s_al zl_39 (nO (sSw rfl rfl sz_39 rfl rfl ?_)))
  refine n_nil ?_
  repeat first | refine Na ?_ | refine Nb ?_ | refine Nc ?_ | refine Nd ?_ | refine Ne ?_
  refine w_gen fun g5 n5 hg5 hn5 hwg5 => ?_
  have k5 : K0 gL nL g5 := by rw [hg5]; exact (by repeat (first | exact Kp.refl _ _ _ | refine Kp.new ?_ (by omega) _))
  have c5 : g5 (nL + 3) = some (.cells (wrC w (.slice p3 w.val.length q3)) 0 false) := by rw [hg5]; exact gs_same _ _ _
  clear hg5
  have h5 := hL.kp0 k5 hwL
  have hE5 := hE.kp0 k5 hwL
  have x6' := x6.kp0 k5 hwL
  have hc5 := k5.at0 hwL hLc
  clear hL hLc x2 x5 x6

  repeat first | refine Na ?_ | refine Nb ?_ | refine Nc ?_ | refine Nd ?_ | refine Ne ?_
  refine w_drw (T6 27 12) [(0, []), (1, []), (2, []), (3, []), (4, [3]), (5, [3]), (6, [3, 5]), (7, [3, 5]), (8, [3, 5]), (9, [3, 5]), (10, [])] 11 (by kernel_rfl) rfl rfl (j' := 11) (dM rfl rfl (dO rfl rfl (s_nil rfl ⟨⟨rfl, rfl⟩, (dO rfl rfl (s_fa0 rfl fo_127_2 ⟨⟨rfl, rfl⟩, (dT rfl rfl rfl (sL rfl ag_69 ⟨clash_nil, ?_⟩))⟩))⟩)))
  refine dO rfl rfl (s_fa0 rfl fo_39_0 ⟨⟨rfl, rfl⟩, (dT rfl rfl rfl (sL rfl ag_9 ⟨clash_rd rfl, ?_⟩))⟩)
  refine dM rfl rfl (dO rfl rfl (s_nil rfl ⟨⟨rfl, rfl⟩, (dO rfl rfl (s_fa0 rfl fo_127_0 ⟨⟨rfl, rfl⟩, (dT rfl rfl rfl (sL rfl ag_2 ⟨clash_rd rfl, ?_⟩))⟩))⟩))
  refine d_tc rfl rfl rfl .no (q := 10) rfl (s_mset (a := r) un_69 un_9 rfl rfl rfl rfl h5.last fun o ho hoo => ⟨clash_nil, ?_⟩)
  obtain ⟨h6, k6⟩ := h5.setLast hwg5 ho
  refine d_nil ?_
  repeat first | refine Na ?_ | refine Nb ?_ | refine Nc ?_ | refine Nd ?_ | refine Ne ?_
  refine w_gen fun g6 n6 hg6 hn6 hwg6 => ?_
  rw [← hg6] at h6 k6
  have c6 : g6 (nL + 3) = some (.cells (wrC w (.slice p3 w.val.length q3)) 0 false) := k6.at hwg5 c5 (FS.no0 (by omega) (by omega))
  have hE6 := hE5.kp k6 hwg5 (FS.nob _ _ _ _ _) (off_fs hE5 fun x hx hs => by have := hve _ hx; have := hsl4 _ hs; omega)
  have x6'' := x6'.kp k6 hwg5 (FS.nob _ _ _ _ _)
  have k46 : Kp (FS s m1 m2 l sl) g4 n4 g6 := (kL.trans0 k5 (by omega)).tr' k6 (by omega)
  have hc6 := h6.cell
  clear hg6 ho hoo h5 hE5 x6' c5 hc5
  obtain ⟨T', hT'⟩ : ∃ T', T' = T.put1 r w := ⟨_, rfl⟩
  have hTr' : T'.rev = r := by rw [hT', put1_rev, hTr]
  rw [show ({ T with last := setK w.key r T.last } : Sto).rev = r from hTr] at hc6
  repeat first | refine Na ?_ | refine Nb ?_ | refine Nc ?_ | refine Nd ?_ | refine Ne ?_
  refine w_reg 2 rfl rfl (j' := 2) (nO (s_fa0 rfl fo_39_2 (nO (sL rfl ag_4 ?_))))
  refine n_nil ?_
  refine z_seq ?_
  refine z_meet (β := Unit) (fun _ => [(0, .pointer (some ⟨s, 0, none⟩)), (7, ve), (9, .pointer (some ⟨nL + 3, 0, none⟩)), (30, .slice (some ⟨l3, o3, none⟩) ws.length c2), (31, .int .i64 ws.length), (32, .int .i64 i)])
   (fun _ g' n' => n6 ≤ n' ∧ StAt b g' s m1 m2 l sl T' ∧ Kp (FS s m1 m2 l sl) g6 n6 g') ?_ ?_
  ·rcases hg : w.gone with _ | _
   ·repeat first | refine Na ?_ | refine Nb ?_ | refine Nc ?_ | refine Nd ?_ | refine Ne ?_
    refine w_no rfl (rfl) ?_
    repeat first | refine Na ?_ | refine Nb ?_ | refine Nc ?_ | refine Nd ?_ | refine Ne ?_
    refine w_drw (T6 27 15) [(0, []), (1, []), (2, []), (3, []), (4, [3]), (5, [3]), (6, [3, 5]), (7, [3, 5]), (8, [3, 5, 7]), (9, [3, 5, 7]), (10, [3, 5, 7]), (11, [3, 5, 7]), (12, [3, 5, 7, 11]), (13, [3, 5, 7, 11]), (14, [3, 5]), (15, [3, 5]), (16, [])] 17 (by kernel_rfl) rfl rfl (j' := 19) (dM rfl rfl (dO rfl rfl (s_nil rfl ⟨⟨rfl, rfl⟩, (dO rfl rfl (s_fa0 rfl fo_127_1 ⟨⟨rfl, rfl⟩, (dT rfl rfl rfl (sL rfl ag_120 ⟨clash_nil, ?_⟩))⟩))⟩)))
    refine dO rfl rfl (s_fa0 rfl fo_39_0 ⟨⟨rfl, rfl⟩, (dT rfl rfl rfl (sL rfl ag_9 ⟨clash_rd rfl, ?_⟩))⟩)
    refine dO rfl rfl (s_fa0 rfl fo_39_0 ⟨⟨rfl, rfl⟩, (dT rfl rfl rfl (sL rfl ag_9 ⟨clash_rd rfl, ?_⟩))⟩)
    refine dM rfl rfl (dO rfl rfl (s_nil rfl ⟨⟨rfl, rfl⟩, (dO rfl rfl (s_fa0 rfl fo_127_0 ⟨⟨rfl, rfl⟩, (dT rfl rfl rfl (sL rfl ag_2 ⟨clash_rd rfl, ?_⟩))⟩))⟩))
    refine dO rfl rfl (s_fa0 rfl fo_39_1 ⟨⟨rfl, rfl⟩, (dT rfl rfl rfl (sL rfl ag_26 ⟨clash_rd rfl, ?_⟩))⟩)
    refine dO rfl rfl (s_bld pl_28 zl_28 rfl rfl rfl ⟨⟨rfl, rfl⟩, (d_call rfl .no rfl rfl rfl (call_rd rfl) (C.use (copied65_c (e := ⟨w.key, r, w.val⟩) (x6''.kp0 (n := n6) (by repeat (first | exact Kp.refl _ _ _ | refine Kp.new ?_ (by omega) _)) hwg6) hwlen) fun v g7 n7 hw7 hn7 hq => ?_))⟩)
    obtain ⟨c7, rfl, hE7, k7⟩ := hq
    refine ⟨?_, ?_⟩
    ·repeat' (first | exact trivial | exact kept1 k7 (by omega) hc6 | exact kept1 k7 (by omega) c6 | apply And.intro)
    have k67 : K0 g6 n6 g7 := Kp.trans0 (n' := n6) (by repeat (first | exact Kp.refl _ _ _ | refine Kp.new ?_ (by omega) _)) (k7.dn (by omega)) (by omega)
    have h7 := h6.kp0 k67 hwg6
    refine d_tc rfl rfl rfl .no (q := 18) rfl (s_mset (a := (⟨w.key, r, w.val⟩ : SEnt)) un_120 un_9 rfl rfl rfl ⟨c7, rfl, hE7.mono fun v bs hb => hb.up (by omega)⟩ h7.now fun o ho hoo => ⟨clash_nil, (d_nil ?_)⟩)
    obtain ⟨h8, k8⟩ := h7.setNow hw7 ho
    exact z_met () ⟨rfl, rfl, rfl, rfl, rfl, rfl, trivial⟩ ⟨by omega, by rw [hT', Sto.put1, hg]; exact h8, (Kp.z k67).tr' k8 (by omega)⟩
   ·repeat first | refine Na ?_ | refine Nb ?_ | refine Nc ?_ | refine Nd ?_ | refine Ne ?_
    refine w_yes rfl (rfl) ?_
    repeat first | refine Na ?_ | refine Nb ?_ | refine Nc ?_ | refine Nd ?_ | refine Ne ?_
    refine w_drw (T6 27 14) [(0, []), (1, []), (2, []), (3, []), (4, [3]), (5, [3]), (6, [])] 7 (by kernel_rfl) rfl rfl (j' := 9) (dM rfl rfl (dO rfl rfl (s_nil rfl ⟨⟨rfl, rfl⟩, (dO rfl rfl (s_fa0 rfl fo_127_1 ⟨⟨rfl, rfl⟩, (dT rfl rfl rfl (sL rfl ag_120 ⟨clash_nil, ?_⟩))⟩))⟩)))
    refine dO rfl rfl (s_fa0 rfl fo_39_0 ⟨⟨rfl, rfl⟩, (dT rfl rfl rfl (sL rfl ag_9 ⟨clash_rd rfl, ?_⟩))⟩)
    refine d_tc rfl rfl rfl .no (q := 8) rfl (s_mdel un_120 un_9 rfl rfl h6.now fun o ho hoo => ⟨clash_nil, (d_nil ?_)⟩)
    obtain ⟨h7, k7⟩ := h6.setNow hwg6 ho
    exact z_met () ⟨rfl, rfl, rfl, rfl, rfl, rfl, trivial⟩ ⟨by omega, by rw [hT', Sto.put1, hg]; exact h7, k7⟩
  rintro _ f g7 n7 hw7 ⟨hn7, h7, k7⟩
  have c7 := k7.at hwg6 c6 (FS.no0 (by omega) (by omega))
  have hE7 := hE6.kp k7 hwg6 (FS.nob _ _ _ _ _) (off_fs hE6 fun x hx hs => by have := hve _ hx; have := hsl4 _ hs; omega)
  have x67 := x6''.kp k7 hwg6 (FS.nob _ _ _ _ _)
  have k47 : Kp (FS s m1 m2 l sl) g4 n4 g7 := k46.tr' k7 (by omega)
  have hc7 := h7.cell
  rw [hTr'] at hc7
  clear h6 hc6 c6 hE6 x6'' k46 k7
  repeat first | refine Na ?_ | refine Nb ?_ | refine Nc ?_ | refine Nd ?_ | refine Ne ?_
  refine w_drw (T6 27 16) [(0, []), (1, []), (2, []), (3, []), (4, []), (5, [4]), (6, [4]), (7, [4, 6]), (8, [4, 6]), (9, [4, 6, 8]), (10, [4, 6, 8]), (11, []), (12, []), (13, []), (14, [])] 15 (by kernel_rfl) rfl rfl (j' := 15) (dM rfl rfl (dM rfl rfl (dO rfl rfl (s_nil rfl ⟨⟨rfl, rfl⟩, (dO rfl rfl (s_fa0 rfl fo_127_0 ⟨⟨rfl, rfl⟩, (dT rfl rfl rfl (sL rfl ag_2 ⟨clash_nil, ?_⟩))⟩))⟩))))
  refine dO rfl rfl (s_fa0 rfl fo_39_0 ⟨⟨rfl, rfl⟩, (dT rfl rfl rfl (sL rfl ag_9 ⟨clash_rd rfl, ?_⟩))⟩)
  refine dO rfl rfl (s_fa0 rfl fo_39_1 ⟨⟨rfl, rfl⟩, (dT rfl rfl rfl (sL rfl ag_26 ⟨clash_rd rfl, ?_⟩))⟩)
  refine dO rfl rfl (s_fa0 rfl fo_39_2 ⟨⟨rfl, rfl⟩, (dT rfl rfl rfl (sL rfl ag_4 ⟨clash_rd rfl, ?_⟩))⟩)
  refine dO rfl rfl (s_bld pl_82 zl_82 rfl rfl rfl ⟨⟨rfl, rfl⟩, (d_al rfl rfl rfl .no (q := 12) rfl (s_bs el_65 ez_65 rfl rfl rfl ?_))⟩)
  obtain ⟨cs, hs, hR⟩ := id hE7
  rw [List.length_map, List.length_take_of_le (by omega)] at hs
  refine d_tc rfl rfl rfl .no (q := 13) rfl (s_app app65 rfl rfl (hs.kp0 (n := n7) (by repeat (first | exact Kp.refl _ _ _ | refine Kp.new ?_ (by omega) _)) hw7) (src_one (gs_same _ _ _) rfl) rfl (by omega) fun a8 c8 g8 tc8 wr8 hrow hgr => ⟨clash_nil, (dO rfl rfl (s_as rfl ⟨⟨rfl, rfl⟩, (d_nil ?_)⟩))⟩)
  repeat first | refine Na ?_ | refine Nb ?_ | refine Nc ?_ | refine Nd ?_ | refine Ne ?_
  repeat first | refine Na ?_ | refine Nb ?_ | refine Nc ?_ | refine Nd ?_ | refine Ne ?_
  refine w_reg 2 rfl rfl (j' := 17) (nO (s_bin rfl rfl (by first | exact bi_inc (by omega) | exact bi_add rfl (by omega) (by omega)) ?_))
  refine nM rfl (n_nil ?_)
  have kA : Kp (FVs ve) g7 n7 g8 := hgr.kp (by repeat (first | exact Kp.refl _ _ _ | refine Kp.new ?_ (by omega) _)) (by omega) fun y hy => .inr (hE7.fvs hy)
  have kB : Kp (FS s m1 m2 l sl) g4 n4 g8 := hgr.kp (Kp.trans0 (n' := n7) k47 (by repeat (first | exact Kp.refl _ _ _ | refine Kp.new ?_ (by omega) _)) (by omega)) (by omega) fun y hy => .inl (hve y hy)
  have h8 : StAt b g8 s m1 m2 l sl T' := h7.fvs kA hw7 (fun x hx hs => by have := hve _ hx; have := hsl4 _ hs; omega)
  refine z_round (i + 1, .slice a8 (i + 1) c8) ⟨rfl, rfl, rfl, rfl, rfl, trivial⟩ ⟨hi, by omega, ?_, kB, ?_, fun y hy => ?_⟩ (by simp only; omega)
  ·simp only
   rw [List.take_succ_eq_append_getElem hi, List.foldl_append, ← hT, ← hwi]
   show StAt b g8 s m1 m2 l sl (T.put1 r w)
   rw [← hT']
   exact h8
  ·simp only
   rw [List.take_succ_eq_append_getElem hi, List.map_append, ← hwi]
   refine ⟨cs ++ evtC (evtW r w) (.slice p3 w.val.length q3), ?_, Rows.append (hR.mono fun c x _ hx => hx.mono fun _ _ k => k.kp kA hw7 (FVs.nob _)) (Rows.one rfl ⟨p3, q3, rfl, x67.kp kA hw7 (FVs.nob _), (show w.val.length ≤ _ by omega)⟩)⟩
   rw [List.length_append, List.length_map, List.length_take_of_le (by omega)]
   exact hrow
  ·rcases hgr.name with e | e | e
   ·rw [e] at hy; cases hy
   ·rw [e] at hy; exact hve y hy
   ·rw [e] at hy; cases hy; omega
 refine w_exit rfl ?_
 have hin : i = ws.length := by simp at hb; omega
 subst hin
 rw [List.take_length] at hL hE
 have hTr : (ws.foldl (Sto.put1 r) T0).rev = r := by rw [(puts_same r _ _).1, hT0r]
 have hTl : (ws.foldl (Sto.put1 r) T0).log = S.log := by rw [(puts_same r _ _).2.1, hT0]
 have hLc := hL.cell
 rw [hTr] at hLc
 have hLl := hL.log
 rw [hTl] at hLl
 repeat first | refine Na ?_ | refine Nb ?_ | refine Nc ?_ | refine Nd ?_ | refine Ne ?_
 refine w_reg 6 rfl rfl (j' := 7) (nM rfl (nN rfl (nO (s_fa0 rfl fo_127_3 (nO (sL rfl ag_78 ?_))))))
 refine nM rfl (n_call .no rfl rfl rfl (C.use (log_add_yes hLl (by omega) hE.rd (fun x hx hs => by have := hve _ hx; have := hsl4 _ hs; omega) (by rw [List.length_map]; omega) hmo (txn_may hr hla hm.2.1)) fun v g5 n5 hw5 hn5 hq => ?_))
 obtain ⟨rfl, sl', hA5, hM5, k5⟩ := hq
 refine n_nil ?_
 have k5' := k5.dn (m := nL) (by omega)
 have h5 := hL.setLog hwL k5' hA5
 have hc5 := h5.cell
 rw [show ({ ws.foldl (Sto.put1 r) T0 with log := S.log.add (ws.map (evtW r)) } : Sto).rev = r from hTr] at hc5
 refine Nc (Na (w_reg 6 rfl rfl (j' := 6) (nM rfl (nN rfl (nO (s_fa0 rfl fo_127_0 (nO (sL rfl ag_2 ?_))))))))
 refine nA rfl (nA rfl (n_nil (Nc (Nf (z_r2 rfl rfl rfl ?_)))))
 have e : S.txn gs ws = ({ ws.foldl (Sto.put1 r) T0 with log := S.log.add (ws.map (evtW r)) }, r, 0) := by rw [Sto.txn, if_pos h0, hT0, hr]
 rw [e]
 have kE : Kp (FS s m1 m2 l sl) g n gL := (FC.fs k4).tr' kL (by omega)
 exact ⟨sl', rfl, h5, Mvd.up hM5 (by omega), kE.tr' (FL.fs hL k5') (by omega)⟩
end

end Go.Proofs.YtehmailaabjdjaaGreat
end

section
open Go.Proofs
namespace Go.Proofs.YtehmailaabjdjaaGreat
set_option linter.unusedSimpArgs false
set_option linter.unusedVariables false
set_option maxRecDepth 100000

theorem app48 : AppT E6.P 48 48 3 48 := ⟨28, _, un_48, sz_28, by_28, zp_28, rfl, by decide, by decide, by rw [un_48]; rfl⟩

def StrsAt (g : Gm) (v : Value) (ks : List Bs) : Prop := SlC g 1 v ks.length (ks.map strV1)
theorem StrsAt.at {g : Gm} {v : Value} {ks : List Bs} {i : Nat} (h : StrsAt g v ks) (hi : i < ks.length) : ∃ l o c cl ro, v = .slice (some ⟨l, o, none⟩) ks.length c ∧ g l = some (.cells cl 1 ro) ∧ cl[o + i * 1]? = some (.string (str ks[i])) :=
 SlC.at1 h hi (by rw [List.getElem?_map, List.getElem?_eq_getElem hi]; rfl)
theorem StrsAt.kp0 {g g' : Gm} {n : Nat} {v : Value} {ks : List Bs} (h : StrsAt g v ks) (hk : K0 g n g') (hw : WF g n) : StrsAt g' v ks := SlC.kp0 h hk hw
theorem StrsAt.len {g : Gm} {v : Value} {ks : List Bs} (h : StrsAt g v ks) : ∃ a c, v = .slice a ks.length c := by
 obtain ⟨a, c, e, _⟩ := SlC.len h
 exact ⟨a, c, e⟩

theorem keys68_c {g : Gm} {n m : Nat} : C 68 #[.map (some m)] g n fun u g' n' => ∃ r, u = .func (.func 106) #[] #[.pointer (some ⟨r, 0, none⟩)] ∧ g' r = some (.cells [.map (some m)] 0 false) ∧ K0 g n g' := by
 refine c_in1 Tryz.func68 rfl Tryz.ntmps68 rfl fun hw => (Na (w_reg 2 rfl rfl (j' := 2) (n_op .no (q := 0) rfl (s_box rfl rfl (nA rfl (n_nil (Nc (Na (w_reg 2 rfl rfl (j' := 4) (nO (s_mf rfl rfl rfl (nA rfl (n_nil (Nc (Nf (z_r1 rfl rfl ?_))))))))))))))))
 exact ⟨_, rfl, gs_same _ _ _, (by repeat (first | exact Kp.refl _ _ _ | refine Kp.new ?_ (by omega) _))⟩

theorem sorted_c {g : Gm} {n r m : Nat} {α : Type} {R : Value → α → Prop} {x : List (Bs × α)} (hr : g r = some (.cells [.map (some m)] 0 false)) (hm : MapAt g R m x) (hsz : ∀ e ∈ x, e.1.length ≤ maxLen) (hlen : x.length ≤ 2 ^ 40) :
  C 67 #[.func (.func 106) #[] #[.pointer (some ⟨r, 0, none⟩)]] g n fun u g' n' => StrsAt g' u (sortK (x.map (·.1))) ∧ K0 g n g' := by
 obtain ⟨es, c, h1, h2, h3⟩ := hm
 refine C.of (sorted_acall (σ := ⟨g, n⟩) (r := r) (m := m) (ks := x.map (·.1)) hr h1 (by rw [h3.keys]; rfl) (fun k hk => ?_) h2 (by rw [List.length_map]; exact hlen)) ?_
 ·obtain ⟨e, he, rfl⟩ := List.mem_map.1 hk
  exact hsz e he
 ·rintro u τ (⟨e, rfl, rfl⟩ | ⟨e, rfl, rfl⟩)
  ·rw [e]
   refine ⟨?_, Kp.refl _ _ _⟩
   simp [StrsAt, sortK]
   exact SlC.nil _ _
  ·have hl : (sortK (x.map (·.1))).length = (x.map (·.1)).length := List.length_mergeSort _
   refine ⟨⟨by simp [hl], .inr (.inr ⟨n, 0, _, by rw [hl], Nat.le_of_eq hl, .inr ⟨_, false, gs_same _ _ _, by rw [List.length_map]; omega, ?_⟩⟩)⟩, Kp.new (Kp.refl _ _ _) (Nat.le_refl n) _⟩
   rw [List.drop_zero, List.take_of_length_le (by rw [List.length_map]; omega)]

structure EntsOwn (b : Nat) (g : Gm) (v : Value) (es : List SEnt) : Prop where
 row : ∃ cs, SlOwn g 3 v es.length cs ∧ Rows 3 (EnC (BytesNew b g)) cs es
 from_ : ∀ l, vname v = some l → b ≤ l

theorem EntsOwn.nil (b : Nat) (g : Gm) : EntsOwn b g (.slice none 0 0) [] := ⟨⟨[], SlOwn.nil _ _, rfl⟩, fun l h => by cases h⟩
theorem EntsOwn.len {b : Nat} {g : Gm} {v : Value} {es : List SEnt} (h : EntsOwn b g v es) : ∃ a c, v = .slice a es.length c := by
 obtain ⟨⟨cs, h1, _⟩, _⟩ := h
 obtain ⟨a, c, e, _⟩ := h1.slc.len
 exact ⟨a, c, e⟩
theorem EntsOwn.up {g : Gm} {b b' : Nat} {v : Value} {es : List SEnt} (h : EntsOwn b g v es) (hb : b' ≤ b) : EntsOwn b' g v es := by
 obtain ⟨⟨cs, h1, h2⟩, h3⟩ := h
 exact ⟨⟨cs, h1, h2.mono fun c x _ hx => hx.mono fun _ _ k => k.up hb⟩, fun l hl => Nat.le_trans hb (h3 l hl)⟩
theorem EntsOwn.lt {g : Gm} {n b : Nat} {v : Value} {es : List SEnt} (h : EntsOwn b g v es) (hw : WF g n) {x : Nat} (hx : vname v = some x) : x < n := by
 obtain ⟨⟨cs, h1, _⟩, _⟩ := h
 exact h1.lt hw hx
def FN (v : Value) (x : Nat) (o : AObj) : Prop := vname v = some x ∧ ∃ c ro, o = .cells c 3 ro
theorem FN.nob (v : Value) : NoB (FN v) := fun x cl ro h => by obtain ⟨_, c, q, e⟩ := h; cases e
theorem EntsOwn.fn {g : Gm} {b : Nat} {v : Value} {es : List SEnt} (h : EntsOwn b g v es) {x : Nat} (hx : vname v = some x) : ∀ o, g x = some o → FN v x o := fun o ho => by
 obtain ⟨⟨cs, ⟨_, ⟨rfl, _⟩ | ⟨l', o', c, cl, rfl, _, h4, _⟩⟩, _⟩, _⟩ := h
 ·cases hx
 ·refine ⟨hx, ?_⟩
  simp only [vname, Option.some.injEq] at hx
  subst hx
  rw [h4] at ho; cases ho
  exact ⟨_, _, rfl⟩
theorem ents_app {F : Nat → AObj → Prop} {b q n1 n2 : Nat} {g1 g2 g' : Gm} {xs : List SEnt} {e : SEnt} {cs c : List Value} {w' : Value} (hR : Rows 3 (EnC (BytesNew b g1)) cs xs) (hw1 : WF g1 n1) (hF : Kp F g1 n1 g') (hFb : NoB F)
  (hnew : EnC (BytesNew q g2) c e) (hw2 : WF g2 n2) (hK : Kp (fun x _ => x < q) g2 n2 g') (hb : b ≤ q) (hrow : SlOwn g' 3 w' (xs.length + 1) (cs ++ c)) (hfrom : ∀ l, vname w' = some l → b ≤ l) : EntsOwn b g' w' (xs ++ [e]) := by
 refine ⟨⟨cs ++ c, by rw [List.length_append]; exact hrow, Rows.append (hR.mono fun c x _ hx => hx.mono fun _ _ k => k.kp hF hw1 hFb) (Rows.one ?_ (hnew.mono fun v bs k => (k.kpb hK hw2 fun x _ _ hx => by omega).up hb))⟩, hfrom⟩
 obtain ⟨a, p, rfl, _⟩ := hnew
 rfl

noncomputable def Sto.list (S : Sto) : List SEnt := (sortK (S.now.map (·.1))).map fun k => (findK k S.now).getD SEnt.zero
theorem findK_mem {α : Type} {k : Bs} : ∀ {r : List (Bs × α)}, k ∈ r.map (·.1) → ∃ a, findK k r = some a
 | [], h => by cases h
 | x :: r, h => by
  by_cases e : x.1 = k
  ·exact ⟨x.2, by simp [findK, e]⟩
  ·simp only [findK, e, if_false]
   rw [List.map_cons, List.mem_cons] at h
   rcases h with h | h
   ·exact absurd h.symm e
   ·exact findK_mem h

theorem st_list {g : Gm} {n b s m1 m2 l : Nat} {sl : Value} {S : Sto} (h : StAt b g s m1 m2 l sl S) (hr : 0 ≤ S.reads ∧ S.reads < 4611686018427387904) (hn : S.now.length ≤ 2 ^ 40) (hk : ∀ e ∈ S.now, e.1.length ≤ 2 ^ 30) :
  C 29 #[.pointer (some ⟨s, 0, none⟩)] g n fun u g' n' => EntsOwn n g' u S.list ∧ StAt b g' s m1 m2 l sl { S with reads := S.reads + 1 } ∧ Kp (FC s) g n g' := by
 have hc := h.cell
 refine c_in1 Tryz.func29 rfl Tryz.ntmps29 rfl fun hw => ?_
 have hsn := hw _ _ hc
 refine Na (w_reg 1 rfl rfl (j' := 1) (nA rfl (n_nil (Nc (Na (Na (w_reg 2 rfl rfl (j' := 3) (nM rfl (nO (s_bin rfl rfl (bi_d un_24 rfl) ?_))))))))))
 refine n_nil (Nc (w_no rfl (rfl) (Ne (Nc (Na (w_reg 4 rfl rfl (j' := 7) (nM rfl (nN rfl (nO (s_fa0 rfl fo_127_4 (n_call .no rfl rfl rfl (C.use (aadd_c hc (o := 4) rfl (r := S.reads + 1) rfl (by omega) (by omega) rfl) fun v g1 n1 hw1 hn1 hq => ?_))))))))))))
 obtain ⟨rfl, rfl⟩ := hq
 have h1 : StAt b _ s m1 m2 l sl { S with reads := S.reads + 1 } := h.put hw (S' := { S with reads := S.reads + 1 }) rfl rfl rfl
 refine n_nil ?_
 repeat first | refine Na ?_ | refine Nb ?_ | refine Nc ?_ | refine Nd ?_ | refine Ne ?_
 refine w_gen fun g2 n2 hg2 hn2 hwg2 => ?_
 rw [← hg2] at h1
 have k2 : Kp (FC s) g n g2 := by rw [hg2]; exact Kp.set (Kp.refl _ _ _) (FC.of hc) _
 have hc2 := h1.cell
 clear hg2
 repeat first | refine Na ?_ | refine Nb ?_ | refine Nc ?_ | refine Nd ?_ | refine Ne ?_
 refine w_reg 1 rfl rfl (j' := 1) (nA rfl (n_nil (Nc (Na (Na (w_reg 8 rfl rfl (j' := 9) (nM rfl (nN rfl (nO (s_fa0 rfl fo_127_1 (nO (sL rfl ag_120 ?_))))))))))))
 refine n_call .no rfl rfl rfl (C.use (keys68_c) fun v g3 n3 hw3 hn3 hq => ?_)
 obtain ⟨r, rfl, hr3, k3⟩ := hq
 refine n_call .no rfl rfl rfl ?_
 have k3' := k3.dn (m := n2) (by omega)
 have h3 := h1.kp0 k3' hwg2
 refine C.use (sorted_c hr3 h3.now (fun e he => Nat.le_trans (hk e he) (by decide)) hn) fun v g4 n4 hw4 hn4 hq => ?_
 obtain ⟨hS4, k4⟩ := hq
 obtain ⟨ks, hks⟩ : ∃ ks, ks = sortK (S.now.map (·.1)) := ⟨_, rfl⟩
 have hkm : ∀ k ∈ ks, k ∈ S.now.map (·.1) := fun k hk => by
  rw [hks] at hk
  exact (List.mergeSort_perm _ _).mem_iff.1 hk
 have hkl : ks.length ≤ 2 ^ 40 := by
  rw [hks, sortK, List.length_mergeSort, List.length_map]; exact hn
 have hlist : S.list = ks.map fun k => (findK k S.now).getD SEnt.zero := by rw [Sto.list, hks]
 have e : sortK (({ S with reads := S.reads + 1 } : Sto).now.map (·.1)) = ks := hks.symm
 rw [e] at hS4
 obtain ⟨a4, c4, rfl⟩ := hS4.len
 refine nO (s_len rfl rfl un_52 rfl (nM rfl (n_nil ?_)))
 have k24 : K0 g2 n2 g4 := k3'.trans0 (k4.dn (m := n3) (by omega)) (by omega)
 have h4 := h1.kp0 k24 hwg2
 have hk4 : Kp (FC s) g n g4 := k2.trans0 k24 (by omega)
 clear k3 k3' h3 k4 hr3
 repeat first | refine Na ?_ | refine Nb ?_ | refine Nc ?_ | refine Nd ?_ | refine Ne ?_
 refine w_loop (β := Nat × Value) (fun x => [(0, .pointer (some ⟨s, 0, none⟩)), (3, x.2), (17, .slice a4 ks.length c4), (18, .int .i64 ks.length), (19, .int .i64 x.1)])
  (fun x g' n' => x.1 ≤ ks.length ∧ n4 ≤ n' ∧ K0 g4 n4 g' ∧ EntsOwn n4 g' x.2 ((ks.take x.1).map fun k => (findK k S.now).getD SEnt.zero)) (fun x => ks.length - x.1) (0, .slice none 0 0) ⟨rfl, rfl, rfl, rfl, rfl, trivial⟩
  ⟨by simp, by omega, Kp.refl _ _ _, EntsOwn.nil _ _⟩ ?_
 rintro ⟨i, ve⟩ f gL nL hwL ⟨hi, hnL, kL, hE⟩
 simp only at hi hE
 repeat first | refine Na ?_ | refine Nb ?_ | refine Nc ?_ | refine Nd ?_ | refine Ne ?_
 refine w_reg 1 rfl rfl (j' := 1) (nO (s_bin rfl rfl rfl (n_nil (Nc (Na (w_if rfl (fun hb => ?_) (fun hb => ?_)))))))
 ·have hi : i < ks.length := by simpa using hb
  have hL := h4.kp0 kL hw4
  have hLc := hL.cell
  obtain ⟨l5, o5, c5, cl5, ro5, x1, x2, x3⟩ := (hS4.kp0 kL hw4).at hi
  cases x1
  obtain ⟨k, hki⟩ : ∃ k, k = ks[i] := ⟨_, rfl⟩
  have hmem : k ∈ ks := by rw [hki]; exact List.getElem_mem hi
  rw [← hki] at x3
  repeat first | refine Na ?_ | refine Nb ?_ | refine Nc ?_ | refine Nd ?_ | refine Ne ?_
  refine w_reg 3 rfl rfl (j' := 4) (nO (s_ia rfl rfl el_52 (by first | assumption | omega) (nO (sL rfl ag_9 ?_))))
  refine nA rfl (n_nil (Nc (w_reg 11 rfl rfl (j' := 15) (nM rfl (nM rfl (nN rfl (nO (s_fa0 rfl fo_127_1 (nO (sL rfl ag_120 ?_))))))))))
  refine nM rfl ?_
  obtain ⟨e, hf⟩ := findK_mem (hkm k hmem)
  have hf : findK k ({ S with reads := S.reads + 1 } : Sto).now = some e := hf
  refine n_op .no (q := 10) rfl (s_lkT false un_120 un_9 zp_28 rfl rfl hL.now hf fun v hv => ?_)
  obtain ⟨c, rfl, a, p, rfl, hB, hle⟩ := hv
  refine n_call .no rfl rfl rfl (C.use (copied65_c (e := e) (hB.at.kp0 (n := nL) (by repeat (first | exact Kp.refl _ _ _ | refine Kp.new ?_ (by omega) _)) hwL) hle) fun v g5 n5 hw5 hn5 hq => ?_)
  obtain ⟨c, rfl, h5, k5⟩ := hq
  have k5' : K0 gL nL g5 := Kp.trans0 (n' := nL) (by repeat (first | exact Kp.refl _ _ _ | refine Kp.new ?_ (by omega) _)) (k5.dn (by omega)) (by omega)
  obtain ⟨⟨cs, hs, hR⟩, hfrom⟩ := id hE
  rw [List.length_map, List.length_take_of_le (by omega)] at hs
  have h5' := h5
  obtain ⟨a5, p5, rfl, h6, h7⟩ := h5
  refine n_op .no (q := 12) rfl (s_bs el_48 ez_48 rfl rfl rfl (n_op .no (q := 13) rfl (s_app app48 rfl rfl (hs.kp0 (n := nL) (Kp.new k5' (by omega) _) hwL) (src_one (gs_same _ _ _) rfl) rfl (by omega) fun a8 c8 g8 tc8 wr8 hrow hgr => (nA rfl (n_nil ?_)))))
  repeat first | refine Na ?_ | refine Nb ?_ | refine Nc ?_ | refine Nd ?_ | refine Ne ?_
  repeat first | refine Na ?_ | refine Nb ?_ | refine Nc ?_ | refine Nd ?_ | refine Ne ?_
  refine w_reg 2 rfl rfl (j' := 2) (nO (s_bin rfl rfl (by first | exact bi_inc (by omega) | exact bi_add rfl (by omega) (by omega)) ?_))
  refine nM rfl (n_nil ?_)
  have kF : Kp (FN ve) gL nL g8 := hgr.kp (Kp.new k5'.z (by omega) _) (by omega) fun l hl => .inr (hE.fn hl)
  refine z_round (i + 1, .slice a8 (i + 1) c8) ⟨rfl, rfl, rfl, rfl, rfl, trivial⟩ ⟨hi, by omega, ?_, ?_⟩ (by simp only; omega)
  ·exact fun x o hx ho _ => kF x o (by omega) (kL.lt hx ho) fun hF => by have := hfrom _ hF.1; omega
  ·simp only
   have e1 : ((ks.take (i + 1)).map fun k => (findK k S.now).getD SEnt.zero) = ((ks.take i).map fun k => (findK k S.now).getD SEnt.zero) ++ [e] := by
    rw [List.take_succ_eq_append_getElem hi, List.map_append, ← hki]
    have : findK k S.now = some e := hf
    simp [this]
   rw [e1]
   refine ents_app hR hwL kF (FN.nob _) h5' hw5 (hgr.low ((Kp.refl _ _ _).low (by omega) _) (by omega) fun x hx => ?_) (by omega) (by rw [List.length_map, List.length_take_of_le (by omega)]; exact hrow) fun x hx => ?_
   ·have := hE.lt hwL hx; omega
   ·rcases hgr.name with e | e | e
    ·rw [e] at hx; cases hx
    ·rw [e] at hx; exact hfrom _ hx
    ·rw [e] at hx; cases hx; omega
 refine w_exit rfl ?_
 have hin : i = ks.length := by simp at hb; omega
 subst hin
 rw [List.take_length] at hE
 repeat first | refine Na ?_ | refine Nb ?_ | refine Nc ?_ | refine Nd ?_ | refine Ne ?_
 refine w_reg 2 rfl rfl (j' := 3) (nM rfl (nA rfl (n_nil (Nc (Nf (z_r1 rfl rfl ?_))))))
 refine ⟨?_, h4.kp0 kL hw4, hk4.trans0 kL (by omega)⟩
 rw [hlist]
 exact hE.up (by omega)

end Go.Proofs.YtehmailaabjdjaaGreat
end

section
open Go.Proofs
namespace Go.Proofs.YtehmailaabjdjaaGreat
set_option linter.unusedSimpArgs false
set_option linter.unusedVariables false
set_option maxRecDepth 100000

theorem trim_most : ∀ (k : Nat) (L : Log), (Log.trim k L).evs.length ≤ L.evs.length ∧ (Log.trim k L).most = L.most ∧ (Log.trim k L).last = L.last
 | 0, L => ⟨Nat.le_refl _, rfl, rfl⟩
 | k + 1, L => by
  unfold Log.trim
  split
  ·split
   ·exact ⟨Nat.le_refl _, rfl, rfl⟩
   ·rename_i e r he
    obtain ⟨h1, h2, h3⟩ := trim_most k (L.cut e.rev)
    exact ⟨Nat.le_trans h1 (List.length_filter_le _ _), h2, h3⟩
  ·exact ⟨Nat.le_refl _, rfl, rfl⟩
theorem add_most (L : Log) (es : List Evt) : (L.add es).evs.length ≤ L.evs.length + es.length ∧ (L.add es).most = L.most ∧ (L.add es).last = lastRev es := by
 obtain ⟨h1, h2, h3⟩ := trim_most (L.evs.length + es.length) (L.put es)
 exact ⟨Nat.le_trans h1 (by show (L.evs ++ es).length ≤ _; rw [List.length_append]; omega), h2, h3⟩
theorem lastRev_map (r : Int) : ∀ {ws : List Wr}, 1 ≤ ws.length → lastRev (ws.map (evtW r)) = r
 | [w], _ => rfl
 | w :: w' :: ws, _ => lastRev_map r (ws := w' :: ws) (by simp)

theorem setK_mem {α : Type} {k : Bs} {a : α} {e : Bs × α} : ∀ {r : List (Bs × α)}, e ∈ setK k a r → e = (k, a) ∨ e ∈ r
 | [], h => .inl (by simpa [setK] using h)
 | x :: r, h => by
  unfold setK at h
  split at h
  ·rcases List.mem_cons.1 h with h | h
   ·exact .inl h
   ·exact .inr (List.mem_cons_of_mem _ h)
  ·rcases List.mem_cons.1 h with h | h
   ·exact .inr (by rw [h]; exact List.mem_cons_self ..)
   ·exact (setK_mem h).imp id (List.mem_cons_of_mem _)
theorem delK_mem {α : Type} {k : Bs} {e : Bs × α} : ∀ {r : List (Bs × α)}, e ∈ delK k r → e ∈ r
 | [], h => h
 | x :: r, h => by
  unfold delK at h
  split at h
  ·exact List.mem_cons_of_mem _ h
  ·rcases List.mem_cons.1 h with h | h
   ·rw [h]; exact List.mem_cons_self ..
   ·exact List.mem_cons_of_mem _ (delK_mem h)
theorem setK_len {α : Type} {k : Bs} {a : α} : ∀ {r : List (Bs × α)}, (setK k a r).length ≤ r.length + 1
 | [] => Nat.le_refl _
 | x :: r => by
  unfold setK
  split
  ·simp
  ·have := setK_len (k := k) (a := a) (r := r)
   simp; omega
theorem delK_len {α : Type} {k : Bs} : ∀ {r : List (Bs × α)}, (delK k r).length ≤ r.length
 | [] => Nat.le_refl _
 | x :: r => by
  unfold delK
  split
  ·simp
  ·have := delK_len (k := k) (r := r)
   simp; omega

structure Sto.Inv (S : Sto) (N : Nat) : Prop where
 rev : 0 ≤ S.rev ∧ S.rev ≤ N
 reads : 0 ≤ S.reads ∧ S.reads ≤ N
 writes : 0 ≤ S.writes ∧ S.writes ≤ N
 last : S.log.last ≤ S.rev
 most : S.log.most = 64
 len : S.log.evs.length ≤ 64 * N
 nlen : S.now.length ≤ 64 * N
 now : ∀ e ∈ S.now, keyOk e.1 ∧ e.2.key = e.1 ∧ 0 < e.2.rev ∧ e.2.rev ≤ S.rev

namespace Sto
variable {S : Sto} {N M : Nat} {gs : List Gd} {ws : List Wr}
theorem Inv.new : Sto.new.Inv 0 := ⟨⟨by decide, by decide⟩, ⟨by decide, by decide⟩, ⟨by decide, by decide⟩, by decide, rfl, Nat.le_refl _, Nat.le_refl _, fun e h => by cases h⟩
theorem Inv.up (h : S.Inv N) (hm : N ≤ M) : S.Inv M :=
 ⟨⟨h.rev.1, by have := h.rev; omega⟩, ⟨h.reads.1, by have := h.reads; omega⟩, ⟨h.writes.1, by have := h.writes; omega⟩, h.last, h.most, by have := h.len; omega, by have := h.nlen; omega, h.now⟩
theorem Inv.read (h : S.Inv N) : ({ S with reads := S.reads + 1 } : Sto).Inv (N + 1) :=
 ⟨⟨h.rev.1, by have := h.rev; show S.rev ≤ _; omega⟩, ⟨by have := h.reads; show 0 ≤ S.reads + 1; omega, by have := h.reads; show S.reads + 1 ≤ _; omega⟩, ⟨h.writes.1, by have := h.writes; show S.writes ≤ _; omega⟩, h.last, h.most, by have := h.len; show S.log.evs.length ≤ _; omega, by have := h.nlen; show S.now.length ≤ _; omega, h.now⟩
theorem Inv.cut (h : S.Inv N) (r : Int) : ({ S with log := S.log.cut r } : Sto).Inv N :=
 ⟨h.rev, h.reads, h.writes, h.last, h.most, Nat.le_trans (List.length_filter_le _ _) h.len, h.nlen, h.now⟩

theorem puts_now (r : Int) (hr : 0 < r) : ∀ (ws : List Wr) (T : Sto), (∀ w ∈ ws, keyOk w.key) → (∀ e ∈ T.now, keyOk e.1 ∧ e.2.key = e.1 ∧ 0 < e.2.rev ∧ e.2.rev ≤ r) →
  (∀ e ∈ (ws.foldl (Sto.put1 r) T).now, keyOk e.1 ∧ e.2.key = e.1 ∧ 0 < e.2.rev ∧ e.2.rev ≤ r) ∧ (ws.foldl (Sto.put1 r) T).now.length ≤ T.now.length + ws.length
 | [], T, _, h => ⟨h, Nat.le_refl _⟩
 | w :: ws, T, hk, h => by
  have h1 : ∀ e ∈ (T.put1 r w).now, keyOk e.1 ∧ e.2.key = e.1 ∧ 0 < e.2.rev ∧ e.2.rev ≤ r := by
   intro e he
   unfold Sto.put1 at he
   simp only at he
   split at he
   ·exact h e (delK_mem he)
   ·rcases setK_mem he with rfl | he
    ·exact ⟨hk w (List.mem_cons_self ..), rfl, hr, Int.le_refl _⟩
    ·exact h e he
  have h2 : (T.put1 r w).now.length ≤ T.now.length + 1 := by
   unfold Sto.put1
   simp only
   split
   ·exact Nat.le_trans delK_len (Nat.le_succ _)
   ·exact setK_len
  obtain ⟨h3, h4⟩ := puts_now r hr ws (T.put1 r w) (fun w' hw' => hk w' (List.mem_cons_of_mem _ hw')) h1
  exact ⟨h3, by rw [List.foldl_cons, List.length_cons]; omega⟩

theorem Inv.txn (h : S.Inv N) : (S.txn gs ws).1.Inv (N + 1) := by
 have h1 := h.rev
 have h2 := h.writes
 have h3 := h.reads
 have h4 := h.len
 have h5 := h.nlen
 unfold Sto.txn
 split
 ·rename_i hc
  have hm := can_may hc
  obtain ⟨p1, p2, p3, p4⟩ := puts_same (S.rev + 1) ws ({ S with rev := S.rev + 1, writes := S.writes + 1 } : Sto)
  obtain ⟨q1, q2⟩ := puts_now (S.rev + 1) (by omega) ws ({ S with rev := S.rev + 1, writes := S.writes + 1 } : Sto) (fun w hw => (hm.2.2.2.2.1 w hw).1) (fun e he => by
   obtain ⟨a, b, c, d⟩ := h.now e he
   exact ⟨a, b, c, by omega⟩)
  obtain ⟨l1, l2, l3⟩ := add_most S.log (ws.map (evtW (S.rev + 1)))
  rw [List.length_map] at l1
  have hw := hm.2.2.1
  refine ⟨?_, ?_, ?_, ?_, l2.trans h.most, ?_, ?_, ?_⟩
  ·simp only; rw [p1]; simp only; omega
  ·simp only; rw [p3]; simp only; omega
  ·simp only; rw [p4]; simp only; omega
  ·simp only; rw [l3, lastRev_map _ hm.2.1, p1]; exact Int.le_refl _
  ·simp only; omega
  ·simp only at q2 ⊢; omega
  ·simp only; rw [p1]; exact q1
 ·refine ⟨⟨h1.1, by simp only; omega⟩, ⟨h3.1, by simp only; omega⟩, ⟨by simp only; omega, by simp only; omega⟩, h.last, h.most, ?_, ?_, h.now⟩
  ·show S.log.evs.length ≤ _; omega
  ·show S.now.length ≤ _; omega

theorem txn_one {w : Wr} (h : S.can gs [w] = 0) : (S.txn gs [w]).2 = (S.rev + 1, 0) ∧ (S.txn gs [w]).1.rev = S.rev + 1 ∧ (S.txn gs [w]).1.now = (if w.gone = true then delK w.key S.now else setK w.key ⟨w.key, S.rev + 1, w.val⟩ S.now) ∧
  (S.txn gs [w]).1.last = setK w.key (S.rev + 1) S.last ∧ (S.txn gs [w]).1.log = S.log.add [evtW (S.rev + 1) w] := by
 unfold Sto.txn
 rw [if_pos h]
 exact ⟨rfl, rfl, rfl, rfl, rfl⟩
theorem txn_no (h : S.can gs ws ≠ 0) : S.txn gs ws = ({ S with writes := S.writes + 1 }, 0, S.can gs ws) := if_neg h
theorem may_one {gs : List Gd} {w : Wr} (h1 : gs.length ≤ 20) (h2 : ∀ x ∈ gs, keyOk x.key ∧ 0 ≤ x.rev) (h3 : w.ok) : txnMay gs [w] := ⟨h1, by simp, by simp, h2, fun x hx => by rw [List.mem_singleton.1 hx]; exact h3, by simp⟩
end Sto

section
variable {g : Gm} {n b s m1 m2 l N : Nat} {sl : Value} {S : Sto}

theorem gds_one {x : Gd} {j : Nat} {ro : Bool} (h : g j = some (.cells (gdC x) 3 ro)) : GdsRd g (.slice (some ⟨j, 0, none⟩) 1 1) [x] :=
 ⟨gdC x, ⟨rfl, .inr (.inr ⟨j, 0, 1, rfl, Nat.le_refl _, .inr ⟨gdC x, ro, h, Nat.le_refl _, rfl⟩⟩)⟩, Rows.one rfl rfl⟩
theorem wrs_one {x : Wr} {j : Nat} {ro : Bool} {a : Option Addr} {p : Nat} (h : g j = some (.cells (wrC x (.slice a x.val.length p)) 3 ro)) (hv : BytesAt g (.slice a x.val.length p) x.val) : WrsRd g (.slice (some ⟨j, 0, none⟩) 1 1) [x] :=
 ⟨_, ⟨rfl, .inr (.inr ⟨j, 0, 1, rfl, Nat.le_refl _, .inr ⟨_, ro, h, Nat.le_refl _, rfl⟩⟩)⟩, Rows.one rfl ⟨a, p, rfl, hv⟩⟩

theorem st_txn_i {gv wv : Value} {gs : List Gd} {ws : List Wr} (h : StAt b g s m1 m2 l sl S) (hi : S.Inv N) (hN : N ≤ 1000000) (hb : b ≤ n) (h1 : GdsRd g gv gs) (h2 : WrsRd g wv ws) :
  C 27 #[.pointer (some ⟨s, 0, none⟩), .agg [gv, wv].toArray] g n fun u g' n' => ∃ sl', u = .tuple #[.int .i64 (S.txn gs ws).2.1, .int .i64 (S.txn gs ws).2.2] ∧ StAt b g' s m1 m2 l sl' (S.txn gs ws).1 ∧ Mvd n sl sl' ∧ Kp (FS s m1 m2 l sl) g n g' :=
 st_txn h hb (by have := hi.writes; omega) (by have := hi.rev; omega) hi.last (by have := hi.len; omega) (by rw [hi.most]; decide) h1 h2
theorem st_get_i {k : Bs} (h : StAt b g s m1 m2 l sl S) (hi : S.Inv N) (hN : N ≤ 1000000) :
  C 25 #[.pointer (some ⟨s, 0, none⟩), .string (str k)] g n fun u g' n' => ∃ c e ok, u = .tuple #[.agg c.toArray, .bool ok] ∧ EnC (BytesNew n g') c e ∧ (findK k S.now = some e ∧ ok = true ∨ findK k S.now = none ∧ e = SEnt.zero ∧ ok = false) ∧
   StAt b g' s m1 m2 l sl { S with reads := S.reads + 1 } ∧ Kp (FC s) g n g' :=
 st_get h (by have := hi.reads; omega)
theorem st_list_i (h : StAt b g s m1 m2 l sl S) (hi : S.Inv N) (hN : N ≤ 1000000) :
  C 29 #[.pointer (some ⟨s, 0, none⟩)] g n fun u g' n' => EntsOwn n g' u S.list ∧ StAt b g' s m1 m2 l sl { S with reads := S.reads + 1 } ∧ Kp (FC s) g n g' :=
 st_list h (by have := hi.reads; omega) (by have := hi.nlen; omega) fun e he => by have := (hi.now e he).1.2; omega
theorem st_watch_i {rev : Int} (h : StAt b g s m1 m2 l sl S) (hi : S.Inv N) (hN : N ≤ 1000000) :
  C 45 #[.pointer (some ⟨s, 0, none⟩), .int .i64 rev] g n fun u g' n' => ∃ v, u = .tuple #[v, .int .i64 (S.log.from_ rev).2] ∧ EvsOwn n g' v (S.log.from_ rev).1 ∧ StAt b g' s m1 m2 l sl { S with reads := S.reads + 1 } ∧ Kp (FC s) g n g' :=
 st_watch h (by have := hi.reads; omega) (by have := hi.len; omega)
end

end Go.Proofs.YtehmailaabjdjaaGreat
end
