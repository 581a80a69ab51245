/-
  FROM THE WORLD TO AN ABSTRACT HEAP: what came in as names that are read alone; what a law answers, in the world. No condition.
-/
import Derived.Test.YtehmailaabjdjaaGreatChecked
import Derived.Test.YtehmailaabjdjaaGreatLogX
import Derived.WalkKit
import Derived.ProofKit
import Derived.OpenShut
import Derived.ShutString
import Derived.ChangeOld
import Derived.Below
namespace Go.Proofs.YtehmailaabjdjaaGreat
open Go.ChangeShapes Go.WideShapes Go.ChangeAt Go.RowKit
set_option linter.unusedVariables false
set_option linter.unusedSimpArgs false
set_option maxRecDepth 100000

theorem own : ownKnob Tryz.prog.godebug = none := by kernel_rfl
theorem laidOut : laidOutB Tryz.prog = true := by kernel_rfl

def Ro (σ : Heap) : Prop := ∀ l o, σ.get l = some o → o.owned = false

theorem lift_of {f : FuncId} {args args' : Array Value} {ρ : LMap} {g : Gm} {n : Nat} {w : World} (h : C f args g n fun u _ _ => u = .bool true) (hrel : Rel ρ ⟨g, n⟩ w) (hargs : VsRel ρ args args') (hro : Ro ⟨g, n⟩) :
  Calls Tryz.prog f args' w fun e w' => e = .returned (.bool true) ∧ Below w.heap.size w w' := by
 refine (h.out ρ w args' hrel hargs).mono ?_
 rintro e w' ⟨v, v', ρ', σ', rfl, h1, h2, h3, h4, h5⟩
 have h5 : v = .bool true := h5
 subst h5
 cases h4
 exact ⟨rfl, h2.os, h2.tape, h2.output, h2.size, fun b hb => h2.blk b hb fun ⟨l, o, p, k1, k2, _⟩ => by rw [hro l o k1] at k2; cases k2⟩

structure Grow (ρ : LMap) (σ : Heap) (ρ' : LMap) (σ' : Heap) : Prop where
 le : ρ.le ρ'
 sub : ∀ l o, σ.get l = some o → σ'.get l = some o
 wf : σ.nxt ≤ σ'.nxt

theorem Grow.refl (ρ : LMap) (σ : Heap) : Grow ρ σ ρ σ := ⟨LMap.le_refl ρ, fun _ _ h => h, Nat.le_refl _⟩
theorem Grow.trans {a b c : LMap} {x y z : Heap} (h : Grow a x b y) (k : Grow b y c z) : Grow a x c z := ⟨LMap.le_trans h.le k.le, fun l o q => k.sub l o (h.sub l o q), Nat.le_trans h.wf k.wf⟩

theorem grow_one {ρ : LMap} {σ : Heap} {w : World} (h : Rel ρ σ w) (hro : Ro σ) (p : Pl) (hp : p.blk < w.heap.size) (o : Option AObj) (ho : ∀ x, o = some x → x.owned = false ∧ Real (ρ.set σ.nxt p) p w x) :
  let σ' : Heap := ⟨fun l => if l = σ.nxt then o else σ.get l, σ.nxt + 1⟩
  Rel (ρ.set σ.nxt p) σ' w ∧ Grow ρ σ (ρ.set σ.nxt p) σ' ∧ Ro σ' := by
 have hn : ρ σ.nxt = none := by
  cases hq : ρ σ.nxt with
  | none => rfl
  | some q => exact absurd (h.bnd _ _ hq).1 (Nat.lt_irrefl _)
 have hle := LMap.le_set (l := σ.nxt) p hn
 have hg : ∀ l x, (if l = σ.nxt then o else σ.get l) = some x → (l = σ.nxt ∧ o = some x) ∨ (l ≠ σ.nxt ∧ σ.get l = some x) := by
  intro l x hx
  by_cases e : l = σ.nxt
  ·rw [if_pos e] at hx; exact .inl ⟨e, hx⟩
  ·rw [if_neg e] at hx; exact .inr ⟨e, hx⟩
 have hro' : Ro ⟨fun l => if l = σ.nxt then o else σ.get l, σ.nxt + 1⟩ := by
  intro l x hx
  rcases hg l x hx with ⟨_, e⟩ | ⟨_, e⟩
  ·exact (ho x e).1
  ·exact hro l x e
 refine ⟨⟨?_, ?_, ?_⟩, ⟨hle, ?_, Nat.le_succ _⟩, hro'⟩
 ·intro l x hx
  rcases hg l x hx with ⟨rfl, e⟩ | ⟨_, e⟩
  ·exact ⟨p, LMap.set_same _ _ _, (ho x e).2⟩
  ·obtain ⟨q, hq, hr⟩ := h.dom l x e
   exact ⟨q, hle _ _ hq, hr.mono hle rfl⟩
 ·intro l l' x x' q q' _ h1 _ hx
  rw [hro' l x h1] at hx; cases hx
 ·intro l q hq
  by_cases e : l = σ.nxt
  ·subst e
   rw [LMap.set_same] at hq; cases hq
   exact ⟨Nat.lt_succ_self _, hp⟩
  ·rw [LMap.set_ne _ _ e] at hq
   obtain ⟨a, b⟩ := h.bnd _ _ hq
   exact ⟨Nat.lt_succ_of_lt a, b⟩
 ·intro l x hx
  have : l ≠ σ.nxt := Nat.ne_of_lt (h.lt hx)
  show (if l = σ.nxt then o else σ.get l) = some x
  rw [if_neg this]; exact hx

theorem rel_none (w : World) : Rel (fun _ => none) ⟨fun _ => none, 0⟩ w := ⟨fun l o h => (by cases h), fun l l' o o' p p' _ h => (by cases h), fun l p h => (by cases h)⟩
theorem ro_none : Ro ⟨fun _ => none, 0⟩ := fun l o h => (by cases h)

theorem reads_bytes {H : Type} {enc : TypeId × Value → H} {W : World} {v : Value} {d : DataW H} {ps : List MemPlace} {sp : Nat → Bool} (hv : Value.okWide Tryz.prog W .any 0 26 v) (h : DataW.Trod enc Tryz.prog W 0 sp true 26 v d ps) (hsp : ∀ b, sp b = true)
  {ρ : LMap} {σ : Heap} (hrel : Rel ρ σ W) (hro : Ro σ) : ∃ ρ' σ' u bs, Rel ρ' σ' W ∧ Grow ρ σ ρ' σ' ∧ Ro σ' ∧ VRel ρ' u v ∧ BytesAt σ'.get u bs ∧ bs.length ≤ maxLen := by
 obtain ⟨a, len, cap, rfl⟩ := okWide_slice Tryz.underlying26 hv
 have hsp' : sp = fun _ => true := funext hsp
 subst hsp'
 obtain ⟨fuel, hf⟩ := h
 rcases open_ints Tryz.underlying26 Tryz.underlying5 (by kernel_rfl) hf with ⟨hcs, _⟩ | ⟨x, l, c, zs, hcs, _, hl, hm, hz, _, hcell, hwz⟩
 ·simp [Value.cells] at hcs
  obtain ⟨rfl, rfl, rfl⟩ := hcs
  exact ⟨ρ, σ, .slice none 0 0, [], hrel, Grow.refl _ _, hro, .sliceNil 0 0, SlC.nil _ _, Nat.zero_le _⟩
 ·simp [Value.cells] at hcs
  obtain ⟨rfl, rfl, rfl⟩ := hcs
  have hz' : zs.length = cap := by simpa using hz
  have hok : Cell.ok Tryz.prog W .any 0 26 (.slice (some x) len cap) := by
   have := hv
   simp only [Value.okWide, Tryz.underlying26, Cell.okWide] at this
   exact this
  simp only [Cell.ok, Tryz.underlying26] at hok
  obtain ⟨_, _, _, hspot, row, cells, hshape, _⟩ := hok
  obtain ⟨b, off, spot⟩ := x
  simp only at hspot hshape
  subst hspot
  have hblk : b < W.heap.size := by
   rcases Nat.lt_or_ge b W.heap.size with h | h
   ·exact h
   ·simp [World.shape?, Array.getElem?_eq_none h] at hshape
  let p : Pl := ⟨b, off, 0, 1, cap⟩
  let bs : List UInt8 := (zs.take len).map fun z => UInt8.ofNat z.toNat
  have hbs : bs.length = len := by simp [bs]; omega
  by_cases h0 : len = 0
  ·subst h0
   obtain ⟨r1, r2, r3⟩ := grow_one hrel hro p hblk none (fun x hx => by cases hx)
   refine ⟨_, _, .slice (some ⟨σ.nxt, 0, none⟩) 0 cap, [], r1, r2, r3, ?_, ⟨rfl, .inr (.inr ⟨σ.nxt, 0, cap, rfl, Nat.zero_le _, .inl rfl⟩)⟩, Nat.zero_le _⟩
   have := VRel.slice (ρ := ρ.set σ.nxt p) (l := σ.nxt) (o := 0) (n := 0) (c := cap) (c' := cap) (p := p) (LMap.set_same _ _ _) (.inl rfl)
   simpa [p] using this
  ·have hc0 := hcell 0 (by omega)
   obtain ⟨C, T, fz, hh⟩ : ∃ C T fz, W.heap[b]? = some (.cells C T fz) := by
    simp only [Addr.add, World.cell?] at hc0
    split at hc0
    ·rename_i C T fz heq; exact ⟨C, T, fz, heq⟩
    ·cases hc0
   have hcc : ∀ i, i < cap → C[off + i]? = some (.int .u8 (zs.getD i 0)) := by
    intro i hi
    have := hcell i (by omega)
    have e : Addr.add ⟨b, off, none⟩ i = ⟨b, off + i, none⟩ := by
     unfold Addr.add
     split
     ·rename_i h; subst h; rfl
     ·rfl
    rw [e] at this
    simpa [World.cell?, hh] using this
   obtain ⟨r1, r2, r3⟩ := grow_one hrel hro p hblk (some (.cells (zs.map fun z => .int .u8 z) 1 true)) (fun x hx => by
    cases hx
    refine ⟨rfl, by simp [p, hz'], ⟨rfl, fun h => by cases h⟩, C, T, fz, hh, fun i v hi => ?_, fun h => by cases h⟩
    rw [List.getElem?_map] at hi
    obtain ⟨z, hz1, rfl⟩ := Option.map_eq_some_iff.1 hi
    have hlt : i < zs.length := by
     rcases Nat.lt_or_ge i zs.length with h | h
     ·exact h
     ·rw [List.getElem?_eq_none h] at hz1; cases hz1
    refine ⟨_, hcc i (by omega), ?_⟩
    rw [List.getD_eq_getElem?_getD, hz1]
    exact .int _ _)
   refine ⟨_, _, .slice (some ⟨σ.nxt, 0, none⟩) len cap, bs, r1, r2, r3, ?_, ⟨by rw [u8c_length, Nat.mul_one], .inr (.inr ⟨σ.nxt, 0, cap, by rw [hbs], by omega, .inr ⟨zs.map fun z => .int .u8 z, true, if_pos rfl, by simp; omega, ?_⟩⟩)⟩, by omega⟩
   ·have := VRel.slice (ρ := ρ.set σ.nxt p) (l := σ.nxt) (o := 0) (n := len) (c := cap) (c' := cap) (p := p) (LMap.set_same _ _ _) (.inl rfl)
    simpa [p] using this
   ·rw [List.drop_zero, Nat.mul_one, hbs, ← List.map_take, u8c, List.map_map]
    refine List.map_congr_left fun z hz => ?_
    have hw := hwz z (List.mem_of_mem_take hz)
    have hw' : 0 ≤ z ∧ z ≤ 255 := by
     simp only [Lit.wf, Bool.and_eq_true, decide_eq_true_eq] at hw
     have h1 : IntKind.u8.min = 0 := rfl
     have h2 : IntKind.u8.max = 255 := rfl
     omega
    have e : ((UInt8.ofNat z.toNat).toNat : Int) = z := by
     rw [UInt8.toNat_ofNat']
     omega
    simp only [Function.comp]
    rw [e]

end Go.Proofs.YtehmailaabjdjaaGreat
