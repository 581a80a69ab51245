/-
  STEPS OF THE ABSTRACT HEAP: a new block, a write into one, a name that dies, a row that moves to a new name in its place. No condition.
-/
import Derived.Test.YtehmailaabjdjaaGreatCore
namespace Go.Proofs.YtehmailaabjdjaaGreat
set_option linter.unusedSimpArgs false
set_option linter.unusedVariables false

def LMap.set (ρ : LMap) (l : Nat) (p : Pl) : LMap := fun x => if x = l then some p else ρ x
theorem LMap.set_same (ρ : LMap) (l : Nat) (p : Pl) : ρ.set l p l = some p := by simp [LMap.set]
theorem LMap.set_ne (ρ : LMap) {l x : Nat} (p : Pl) (h : x ≠ l) : ρ.set l p x = ρ x := by simp [LMap.set, h]
theorem LMap.le_set {ρ : LMap} {l : Nat} (p : Pl) (h : ρ l = none) : ρ.le (ρ.set l p) := by
 intro x q hx
 by_cases e : x = l
 ·subst e; rw [h] at hx; cases hx
 ·rw [LMap.set_ne _ _ e]; exact hx

structure Same (w w' : World) : Prop where
 os : w'.os = w.os
 tape : w'.tape = w.tape
 output : w'.output = w.output

theorem Same.refl (w : World) : Same w w := ⟨rfl, rfl, rfl⟩

theorem Rel.get_none {ρ : LMap} {σ : Heap} {w : World} (h : Rel ρ σ w) {l : Nat} (hl : ρ l = none) : σ.get l = none := by
 cases hg : σ.get l with
 | none => rfl
 | some o => obtain ⟨p, hp, _⟩ := h.dom l o hg; rw [hl] at hp; cases hp

theorem step_same {ρ : LMap} {σ : Heap} {w w' : World} (h : Rel ρ σ w) (hs : Same w w') (hh : w'.heap = w.heap) : Rel ρ σ w' ∧ Frm ρ σ w ρ σ w' :=
  ⟨⟨fun l o hl => let ⟨p, hp, hr⟩ := h.dom l o hl; ⟨p, hp, hr.mono ρ.le_refl (by rw [hh])⟩, h.excl, fun l p hl => let ⟨a, b⟩ := h.bnd l p hl; ⟨a, by rw [hh]; exact b⟩⟩,
   ⟨ρ.le_refl, hs.os, hs.tape, hs.output, by rw [hh]; exact Nat.le_refl _, Nat.le_refl _, fun _ _ _ => by rw [hh], fun _ _ _ x => x⟩⟩

theorem step_push {ρ : LMap} {σ : Heap} {w w' : World} (h : Rel ρ σ w) {nm : Nat} (hn : ρ nm = none) (hlt : nm < σ.nxt) (O : Obj) (o : AObj) (p : Pl)
  (hp : p.blk = w.heap.size) (hs : Same w w') (hh : w'.heap = w.heap.push O) (hre : Real (ρ.set nm p) p w' o) :
  Rel (ρ.set nm p) (σ.upd nm (some o)) w' ∧ Frm ρ σ w (ρ.set nm p) (σ.upd nm (some o)) w' := by
 have hle := LMap.le_set p hn
 have hold : ∀ b, b < w.heap.size → w'.heap[b]? = w.heap[b]? := fun b hb => by rw [hh, Array.getElem?_push, if_neg (by omega)]
 refine ⟨⟨?_, ?_, ?_⟩, ⟨hle, hs.os, hs.tape, hs.output, by rw [hh]; simp, Nat.le_refl _, fun b hb _ => hold b hb, ?_⟩⟩
 ·intro l x hl
  by_cases e : l = nm
  ·subst e
   rw [Heap.upd_same] at hl; cases hl
   exact ⟨p, LMap.set_same _ _ _, hre⟩
  ·rw [Heap.upd_ne _ _ e] at hl
   obtain ⟨q, hq, hr⟩ := h.dom l x hl
   exact ⟨q, hle _ _ hq, hr.mono hle (hold _ (h.bnd _ _ hq).2)⟩
 ·intro l l' x x' q q' hne h1 h2 hx hq hq'
  by_cases e : l = nm
  ·subst e
   rw [LMap.set_same] at hq; cases hq
   rw [LMap.set_ne _ _ (Ne.symm hne)] at hq'
   have := (h.bnd _ _ hq').2
   omega
  ·rw [LMap.set_ne _ _ e] at hq
   by_cases e' : l' = nm
   ·subst e'
    rw [LMap.set_same] at hq'; cases hq'
    have := (h.bnd _ _ hq).2
    omega
   ·rw [LMap.set_ne _ _ e'] at hq'
    rw [Heap.upd_ne _ _ e] at h1
    rw [Heap.upd_ne _ _ e'] at h2
    exact h.excl l l' x x' q q' hne h1 h2 hx hq hq'
 ·intro l q hq
  by_cases e : l = nm
  ·subst e
   rw [LMap.set_same] at hq; cases hq
   exact ⟨hlt, by rw [hh, hp]; simp⟩
  ·rw [LMap.set_ne _ _ e] at hq
   obtain ⟨a, b⟩ := h.bnd _ _ hq
   exact ⟨a, by rw [hh]; simp; omega⟩
 ·rintro q b hb ⟨l, x, r, h1, h2, h3, h4⟩
  by_cases e : l = nm
  ·subst e
   rw [LMap.set_same] at h3; cases h3
   omega
  ·rw [LMap.set_ne _ _ e] at h3
   rw [Heap.upd_ne _ _ e] at h1
   exact ⟨l, x, r, h1, h2, h3, h4⟩

theorem step_write {ρ : LMap} {σ : Heap} {w w' : World} (h : Rel ρ σ w) {l : Nat} {o₀ o : AObj} {p : Pl} (hl : σ.get l = some o₀) (ho₀ : o₀.owned = true) (hp : ρ l = some p)
  (hs : Same w w') (hsz : w'.heap.size = w.heap.size) (hb : ∀ b, b ≠ p.blk → w'.heap[b]? = w.heap[b]?) (ho : o.owned = true) (hre : Real ρ p w' o) :
  Rel ρ (σ.upd l (some o)) w' ∧ Frm ρ σ w ρ (σ.upd l (some o)) w' := by
 refine ⟨⟨?_, ?_, ?_⟩, ⟨ρ.le_refl, hs.os, hs.tape, hs.output, by omega, Nat.le_refl _, fun b _ hno => hb b fun e => hno ⟨l, o₀, p, hl, ho₀, hp, e.symm⟩, ?_⟩⟩
 ·intro x y hx
  by_cases e : x = l
  ·subst e
   rw [Heap.upd_same] at hx; cases hx
   exact ⟨p, hp, hre⟩
  ·rw [Heap.upd_ne _ _ e] at hx
   obtain ⟨q, hq, hr⟩ := h.dom x y hx
   exact ⟨q, hq, hr.mono ρ.le_refl (hb _ (fun hbb => h.excl l x o₀ y p q (Ne.symm e) hl hx ho₀ hp hq hbb.symm))⟩
 ·intro a b x y q q' hne h1 h2 hx hq hq'
  by_cases e : a = l
  ·subst e
   rw [Heap.upd_ne _ _ (Ne.symm hne)] at h2
   rw [hp] at hq; cases hq
   exact h.excl _ b o₀ y p q' hne hl h2 ho₀ hp hq'
  ·rw [Heap.upd_ne _ _ e] at h1
   by_cases e' : b = l
   ·subst e'
    rw [hp] at hq'; cases hq'
    exact fun hbb => h.excl _ a o₀ x p q (Ne.symm hne) hl h1 ho₀ hp hq hbb.symm
   ·rw [Heap.upd_ne _ _ e'] at h2
    exact h.excl a b x y q q' hne h1 h2 hx hq hq'
 ·intro x q hq
  obtain ⟨a, b⟩ := h.bnd x q hq
  exact ⟨a, by omega⟩
 ·rintro q b hb' ⟨x, y, r, h1, h2, h3, h4⟩
  by_cases e : x = l
  ·subst e
   rw [Heap.upd_same] at h1; cases h1
   rw [hp] at h3; cases h3
   exact ⟨_, o₀, p, hl, by rw [ho₀, ← h2, ho], hp, h4⟩
  ·rw [Heap.upd_ne _ _ e] at h1
   exact ⟨x, y, r, h1, h2, h3, h4⟩

theorem step_kill {ρ : LMap} {σ : Heap} {w : World} (h : Rel ρ σ w) (l : Nat) : Rel ρ (σ.upd l none) w ∧ Frm ρ σ w ρ (σ.upd l none) w := by
 have hsub : ∀ x o, (σ.upd l none).get x = some o → σ.get x = some o := by
  intro x o hx
  by_cases e : x = l
  ·subst e; rw [Heap.upd_same] at hx; cases hx
  ·rwa [Heap.upd_ne _ _ e] at hx
 exact ⟨⟨fun x o hx => h.dom x o (hsub x o hx), fun a b x y q q' hne h1 h2 => h.excl a b x y q q' hne (hsub _ _ h1) (hsub _ _ h2), h.bnd⟩,
  ⟨ρ.le_refl, rfl, rfl, rfl, Nat.le_refl _, Nat.le_refl _, fun _ _ _ => rfl, fun q b _ ⟨x, y, r, h1, h2⟩ => ⟨x, y, r, hsub _ _ h1, h2⟩⟩⟩

theorem step_move {ρ : LMap} {σ : Heap} {w w' : World} (h : Rel ρ σ w) {l nm : Nat} {o₀ o : AObj} {p p' : Pl} (hl : σ.get l = some o₀) (ho₀ : o₀.owned = true) (hp : ρ l = some p)
  (hn : ρ nm = none) (hlt : nm < σ.nxt) (hpp : p'.blk = p.blk)
  (hs : Same w w') (hsz : w'.heap.size = w.heap.size) (hb : ∀ b, b ≠ p.blk → w'.heap[b]? = w.heap[b]?) (ho : o.owned = true) (hre : Real (ρ.set nm p') p' w' o) :
  Rel (ρ.set nm p') ((σ.upd l none).upd nm (some o)) w' ∧ Frm ρ σ w (ρ.set nm p') ((σ.upd l none).upd nm (some o)) w' := by
 have hle := LMap.le_set p' hn
 have hnl : nm ≠ l := by intro e; subst e; rw [hn] at hp; cases hp
 have hsub : ∀ x y, x ≠ nm → ((σ.upd l none).upd nm (some o)).get x = some y → x ≠ l ∧ σ.get x = some y := by
  intro x y hx hy
  rw [Heap.upd_ne _ _ hx] at hy
  by_cases e : x = l
  ·subst e; rw [Heap.upd_same] at hy; cases hy
  ·rw [Heap.upd_ne _ _ e] at hy; exact ⟨e, hy⟩
 refine ⟨⟨?_, ?_, ?_⟩, ⟨hle, hs.os, hs.tape, hs.output, by omega, Nat.le_refl _, fun b _ hno => hb b fun e => hno ⟨l, o₀, p, hl, ho₀, hp, e.symm⟩, ?_⟩⟩
 ·intro x y hx
  by_cases e : x = nm
  ·subst e
   rw [Heap.upd_same] at hx; cases hx
   exact ⟨p', LMap.set_same _ _ _, hre⟩
  ·obtain ⟨hxl, hy⟩ := hsub x y e hx
   obtain ⟨q, hq, hr⟩ := h.dom x y hy
   exact ⟨q, hle _ _ hq, hr.mono hle (hb _ (fun hbb => h.excl l x o₀ y p q (Ne.symm hxl) hl hy ho₀ hp hq hbb.symm))⟩
 ·intro a b x y q q' hne h1 h2 hx hq hq'
  by_cases e : a = nm
  ·subst e
   obtain ⟨hbl, hy⟩ := hsub b y (Ne.symm hne) h2
   rw [LMap.set_same] at hq; cases hq
   rw [LMap.set_ne _ _ (Ne.symm hne)] at hq'
   rw [hpp]
   exact h.excl l b o₀ y p q' (Ne.symm hbl) hl hy ho₀ hp hq'
  ·obtain ⟨hal, hxx⟩ := hsub a x e h1
   rw [LMap.set_ne _ _ e] at hq
   by_cases e' : b = nm
   ·subst e'
    rw [LMap.set_same] at hq'; cases hq'
    rw [hpp]
    exact fun hbb => h.excl l a o₀ x p q (Ne.symm hal) hl hxx ho₀ hp hq hbb.symm
   ·obtain ⟨hbl, hy⟩ := hsub b y e' h2
    rw [LMap.set_ne _ _ e'] at hq'
    exact h.excl a b x y q q' hne hxx hy hx hq hq'
 ·intro x q hq
  by_cases e : x = nm
  ·subst e
   rw [LMap.set_same] at hq; cases hq
   exact ⟨hlt, by rw [hpp, hsz]; exact (h.bnd _ _ hp).2⟩
  ·rw [LMap.set_ne _ _ e] at hq
   obtain ⟨a, b⟩ := h.bnd x q hq
   exact ⟨a, by omega⟩
 ·rintro q b hb' ⟨x, y, r, h1, h2, h3, h4⟩
  by_cases e : x = nm
  ·subst e
   rw [Heap.upd_same] at h1; cases h1
   rw [LMap.set_same] at h3; cases h3
   exact ⟨l, o₀, p, hl, by rw [ho₀, ← h2, ho], hp, by rw [← hpp]; exact h4⟩
  ·obtain ⟨hxl, hy⟩ := hsub x y e h1
   rw [LMap.set_ne _ _ e] at h3
   exact ⟨x, y, r, hy, h2, h3, h4⟩

end Go.Proofs.YtehmailaabjdjaaGreat
