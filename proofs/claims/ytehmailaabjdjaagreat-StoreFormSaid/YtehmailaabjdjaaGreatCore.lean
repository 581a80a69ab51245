/-
  THE ABSTRACT HEAP. Names of blocks in place of block numbers, room behind a slice's length hidden. What a world is to an abstract heap (Rel), what a step leaves alone (Frm), what a call does, said of abstract heaps (ACall). No condition.
-/
import Derived.WalkKit
import Derived.Defers
namespace Go.Proofs.YtehmailaabjdjaaGreat
set_option linter.unusedSimpArgs false
set_option linter.unusedVariables false

structure Pl where
 blk : Nat
 off : Nat
 ext : Nat
 sz : Nat
 len : Nat

abbrev LMap := Nat → Option Pl

def LMap.le (ρ ρ' : LMap) : Prop := ∀ l p, ρ l = some p → ρ' l = some p

theorem LMap.le_refl (ρ : LMap) : ρ.le ρ := fun _ _ h => h
theorem LMap.le_trans {a b c : LMap} (h : a.le b) (k : b.le c) : a.le c := fun l p q => k l p (h l p q)

inductive VRel (ρ : LMap) : Value → Value → Prop where
 | bool (b : Bool) : VRel ρ (.bool b) (.bool b)
 | int (k : IntKind) (n : Int) : VRel ρ (.int k n) (.int k n)
 | float (k : FloatKind) (b : Nat) : VRel ρ (.float k b) (.float k b)
 | string (s : ByteArray) : VRel ρ (.string s) (.string s)
 | ptrNil : VRel ρ (.pointer none) (.pointer none)
 | ptr {l o : Nat} {p : Pl} : ρ l = some p → VRel ρ (.pointer (some ⟨l, o, none⟩)) (.pointer (some ⟨p.blk, p.off + o, none⟩))
 | sliceNil (n c : Nat) : VRel ρ (.slice none n c) (.slice none n c)
 | slice {l o n c c' : Nat} {p : Pl} : ρ l = some p → (c' = c ∨ (o + c * p.sz = p.len ∧ c' = c + p.ext)) →
   VRel ρ (.slice (some ⟨l, o, none⟩) n c) (.slice (some ⟨p.blk, p.off + o, none⟩) n c')
 | slice0 {l o o' : Nat} {p : Pl} : ρ l = some p → VRel ρ (.slice (some ⟨l, o, none⟩) 0 0) (.slice (some ⟨p.blk, o', none⟩) 0 0)
 | sliceE {l o s : Nat} {a' : Addr} : VRel ρ (.slice (some ⟨l, o, some s⟩) 0 0) (.slice (some a') 0 0)
 | mapNil : VRel ρ (.map none) (.map none)
 | map {r : Nat} {p : Pl} : ρ r = some p → VRel ρ (.map (some r)) (.map (some p.blk))
 | func {f : FuncId} {a b a' b' : Array Value} : a.size = a'.size → b.size = b'.size →
   (∀ (i : Nat) (v v' : Value), a[i]? = some v → a'[i]? = some v' → VRel ρ v v') → (∀ (i : Nat) (v v' : Value), b[i]? = some v → b'[i]? = some v' → VRel ρ v v') →
   VRel ρ (.func (.func f) a b) (.func (.func f) a' b')
 | nilFunc : VRel ρ .nilFunc .nilFunc
 | nilIface : VRel ρ .nilIface .nilIface
 | agg {a a' : Array Value} : a.size = a'.size → (∀ (i : Nat) (v v' : Value), a[i]? = some v → a'[i]? = some v' → VRel ρ v v') → VRel ρ (.agg a) (.agg a')
 | tuple {a a' : Array Value} : a.size = a'.size → (∀ (i : Nat) (v v' : Value), a[i]? = some v → a'[i]? = some v' → VRel ρ v v') → VRel ρ (.tuple a) (.tuple a')

theorem VRel.mono {ρ ρ' : LMap} (hle : ρ.le ρ') {v v' : Value} (h : VRel ρ v v') : VRel ρ' v v' := by
 induction h with
 | bool b => exact .bool b
 | int k n => exact .int k n
 | float k b => exact .float k b
 | string s => exact .string s
 | ptrNil => exact .ptrNil
 | ptr h => exact .ptr (hle _ _ h)
 | sliceNil n c => exact .sliceNil n c
 | slice h hc => exact .slice (hle _ _ h) hc
 | slice0 h => exact .slice0 (hle _ _ h)
 | sliceE => exact .sliceE
 | mapNil => exact .mapNil
 | map h => exact .map (hle _ _ h)
 | func ha hb _ _ ia ib => exact .func ha hb ia ib
 | nilFunc => exact .nilFunc
 | nilIface => exact .nilIface
 | agg hs _ ih => exact .agg hs ih
 | tuple hs _ ih => exact .tuple hs ih

def VsRel (ρ : LMap) (a a' : Array Value) : Prop := a.size = a'.size ∧ ∀ (i : Nat) (v v' : Value), a[i]? = some v → a'[i]? = some v' → VRel ρ v v'
def VlRel (ρ : LMap) (a a' : List Value) : Prop := a.length = a'.length ∧ ∀ (i : Nat) (v v' : Value), a[i]? = some v → a'[i]? = some v' → VRel ρ v v'

theorem VsRel.mono {ρ ρ' : LMap} (hle : ρ.le ρ') {a a' : Array Value} (h : VsRel ρ a a') : VsRel ρ' a a' := ⟨h.1, fun i v v' h1 h2 => (h.2 i v v' h1 h2).mono hle⟩
theorem VlRel.mono {ρ ρ' : LMap} (hle : ρ.le ρ') {a a' : List Value} (h : VlRel ρ a a') : VlRel ρ' a a' := ⟨h.1, fun i v v' h1 h2 => (h.2 i v v' h1 h2).mono hle⟩

theorem VsRel.toList {ρ : LMap} {a a' : Array Value} (h : VsRel ρ a a') : VlRel ρ a.toList a'.toList :=
 ⟨by simpa using h.1, fun i v v' h1 h2 => h.2 i v v' (by simpa using h1) (by simpa using h2)⟩
theorem VlRel.toArray {ρ : LMap} {a a' : List Value} (h : VlRel ρ a a') : VsRel ρ a.toArray a'.toArray :=
 ⟨by simpa using h.1, fun i v v' h1 h2 => h.2 i v v' (by simpa using h1) (by simpa using h2)⟩

theorem VsRel.get {ρ : LMap} {a a' : Array Value} (h : VsRel ρ a a') {i : Nat} {v : Value} (hi : a[i]? = some v) : ∃ v', a'[i]? = some v' ∧ VRel ρ v v' := by
 have hlt : i < a.size := by
  rcases Nat.lt_or_ge i a.size with h | h
  ·exact h
  ·rw [Array.getElem?_eq_none h] at hi; cases hi
 have h2 : a'[i]? = some (a'[i]'(h.1 ▸ hlt)) := Array.getElem?_eq_getElem _
 exact ⟨_, h2, h.2 i _ _ hi h2⟩
theorem VsRel.getNone {ρ : LMap} {a a' : Array Value} (h : VsRel ρ a a') {i : Nat} (hi : a[i]? = none) : a'[i]? = none := by
 rw [Array.getElem?_eq_none_iff] at hi ⊢
 rw [← h.1]; exact hi
theorem VlRel.get {ρ : LMap} {a a' : List Value} (h : VlRel ρ a a') {i : Nat} {v : Value} (hi : a[i]? = some v) : ∃ v', a'[i]? = some v' ∧ VRel ρ v v' := by
 have hlt : i < a.length := by
  rcases Nat.lt_or_ge i a.length with h | h
  ·exact h
  ·rw [List.getElem?_eq_none h] at hi; cases hi
 have h2 : a'[i]? = some (a'[i]'(h.1 ▸ hlt)) := List.getElem?_eq_getElem _
 exact ⟨_, h2, h.2 i _ _ hi h2⟩

theorem VlRel.nil (ρ : LMap) : VlRel ρ [] [] := ⟨rfl, fun i v v' h => by simp at h⟩
theorem VlRel.cons {ρ : LMap} {v v' : Value} {a a' : List Value} (h : VRel ρ v v') (t : VlRel ρ a a') : VlRel ρ (v :: a) (v' :: a') := by
 refine ⟨by simpa using t.1, fun i x x' h1 h2 => ?_⟩
 cases i with
 | zero => simp at h1 h2; subst h1; subst h2; exact h
 | succ i => simp at h1 h2; exact t.2 i x x' h1 h2
theorem VlRel.append {ρ : LMap} {a a' b b' : List Value} (h : VlRel ρ a a') (t : VlRel ρ b b') : VlRel ρ (a ++ b) (a' ++ b') := by
 refine ⟨by simp [h.1, t.1], fun i x x' h1 h2 => ?_⟩
 rcases Nat.lt_or_ge i a.length with hi | hi
 ·rw [List.getElem?_append_left hi] at h1
  rw [List.getElem?_append_left (h.1 ▸ hi)] at h2
  exact h.2 i x x' h1 h2
 ·rw [List.getElem?_append_right hi] at h1
  rw [List.getElem?_append_right (h.1 ▸ hi)] at h2
  rw [← h.1] at h2
  exact t.2 _ x x' h1 h2
theorem VlRel.take {ρ : LMap} {a a' : List Value} (h : VlRel ρ a a') (n : Nat) : VlRel ρ (a.take n) (a'.take n) := by
 refine ⟨by simp [h.1], fun i x x' h1 h2 => ?_⟩
 rw [List.getElem?_take] at h1 h2
 split at h1
 ·rename_i hlt; rw [if_pos hlt] at h2; exact h.2 i x x' h1 h2
 ·cases h1
theorem VlRel.drop {ρ : LMap} {a a' : List Value} (h : VlRel ρ a a') (n : Nat) : VlRel ρ (a.drop n) (a'.drop n) := by
 refine ⟨by simp [h.1], fun i x x' h1 h2 => ?_⟩
 rw [List.getElem?_drop] at h1 h2
 exact h.2 _ x x' h1 h2
theorem VlRel.inv_cons {ρ : LMap} {v : Value} {a b : List Value} (h : VlRel ρ (v :: a) b) : ∃ v' a', b = v' :: a' ∧ VRel ρ v v' ∧ VlRel ρ a a' := by
 cases b with
 | nil => have := h.1; simp at this
 | cons v' a' => exact ⟨v', a', rfl, h.2 0 v v' rfl rfl, by have := h.1; simpa using this, fun i x x' h1 h2 => h.2 (i + 1) x x' (by simpa using h1) (by simpa using h2)⟩
theorem VlRel.inv_nil {ρ : LMap} {b : List Value} (h : VlRel ρ [] b) : b = [] := by
 cases b with
 | nil => rfl
 | cons v' a' => have := h.1; simp at this

def plainL (f : Value → Bool) : List Value → Bool
 | [] => true
 | v :: r => f v && plainL f r

def plainN : Nat → Value → Bool
 | _, .bool _ | _, .int .. | _, .float .. | _, .string _ | _, .pointer none | _, .slice none _ _ | _, .map none | _, .nilFunc | _, .nilIface => true
 | n + 1, .agg a => plainL (plainN n) a.toList
 | n + 1, .tuple a => plainL (plainN n) a.toList
 | _, _ => false

theorem plainL_get {f : Value → Bool} : ∀ {l : List Value} (_ : plainL f l = true) {i : Nat} {v : Value}, l[i]? = some v → f v = true
 | [], _, i, v, h => by simp at h
 | x :: r, hp, 0, v, h => by simp [plainL] at hp h; exact h ▸ hp.1
 | x :: r, hp, i + 1, v, h => by simp [plainL] at hp h; exact plainL_get hp.2 h

theorem plainN_rel (ρ : LMap) (n : Nat) : ∀ (v : Value), plainN n v = true → VRel ρ v v := by
 induction n with
 | zero =>
  intro v h
  cases v with
  | bool b => exact .bool b
  | int k m => exact .int k m
  | float k b => exact .float k b
  | complex k a b => simp [plainN] at h
  | string s => exact .string s
  | pointer a => cases a with
   | none => exact .ptrNil
   | some a => simp [plainN] at h
  | slice a n c => cases a with
   | none => exact .sliceNil n c
   | some a => simp [plainN] at h
  | map a => cases a with
   | none => exact .mapNil
   | some a => simp [plainN] at h
  | chan a => simp [plainN] at h
  | func f a b => simp [plainN] at h
  | nilFunc => exact .nilFunc
  | iface t v => simp [plainN] at h
  | nilIface => exact .nilIface
  | agg a => simp [plainN] at h
  | tuple a => simp [plainN] at h
 | succ n ih =>
  intro v h
  cases v with
  | bool b => exact .bool b
  | int k m => exact .int k m
  | float k b => exact .float k b
  | complex k a b => simp [plainN] at h
  | string s => exact .string s
  | pointer a => cases a with
   | none => exact .ptrNil
   | some a => simp [plainN] at h
  | slice a n c => cases a with
   | none => exact .sliceNil n c
   | some a => simp [plainN] at h
  | map a => cases a with
   | none => exact .mapNil
   | some a => simp [plainN] at h
  | chan a => simp [plainN] at h
  | func f a b => simp [plainN] at h
  | nilFunc => exact .nilFunc
  | iface t v => simp [plainN] at h
  | nilIface => exact .nilIface
  | agg a =>
   refine .agg rfl fun i v v' h1 h2 => ?_
   rw [h1] at h2; cases h2
   exact ih v (plainL_get (l := a.toList) (by simpa [plainN] using h) (i := i) (by simpa using h1))
  | tuple a =>
   refine .tuple rfl fun i v v' h1 h2 => ?_
   rw [h1] at h2; cases h2
   exact ih v (plainL_get (l := a.toList) (by simpa [plainN] using h) (i := i) (by simpa using h1))

theorem plainA_eq {ρ : LMap} {n : Nat} (ih : ∀ v v', plainN n v = true → VRel ρ v v' → v' = v) {a a' : Array Value} (h : plainL (plainN n) a.toList = true) (hs : a.size = a'.size)
  (hr : ∀ (i : Nat) (v v' : Value), a[i]? = some v → a'[i]? = some v' → VRel ρ v v') : a' = a := by
 refine Array.ext (by omega) fun i h1 h2 => ?_
 have e1 : a[i]? = some a[i] := Array.getElem?_eq_getElem h2
 have e2 : a'[i]? = some a'[i] := Array.getElem?_eq_getElem h1
 exact ih _ _ (plainL_get h (i := i) (by rw [Array.getElem?_toList]; exact e1)) (hr i _ _ e1 e2)

theorem plainN_eq {ρ : LMap} (n : Nat) : ∀ (v v' : Value), plainN n v = true → VRel ρ v v' → v' = v := by
 induction n with
 | zero => intro v v' h k; cases k <;> first | rfl | simp [plainN] at h
 | succ n ih =>
  intro v v' h k
  cases k with
  | agg hs hr => rw [plainA_eq ih (by simpa [plainN] using h) hs hr]
  | tuple hs hr => rw [plainA_eq ih (by simpa [plainN] using h) hs hr]
  | _ => first | rfl | simp [plainN] at h

def plainV (v : Value) : Bool := plainN 20 v
theorem plainV_rel {v : Value} (ρ : LMap) (h : plainV v = true) : VRel ρ v v := plainN_rel ρ 20 v h
theorem plainV_eq {ρ : LMap} {v v' : Value} (h : plainV v = true) (k : VRel ρ v v') : v' = v := plainN_eq 20 v v' h k

inductive AObj where
 | cells (c : List Value) (sz : Nat) (ro : Bool)
 | map (es : List MapEntry) (clock : Nat)
 | mapIter (m : Option Nat) (since : Nat) (seen : List Nat) (stepped : Nat)

def AObj.owned : AObj → Bool
 | .cells _ _ ro => !ro
 | _ => true

structure Heap where
 get : Nat → Option AObj
 nxt : Nat

def Heap.upd (σ : Heap) (l : Nat) (o : Option AObj) : Heap := { σ with get := fun x => if x = l then o else σ.get x }
def Heap.bump (σ : Heap) (n : Nat) : Heap := { σ with nxt := σ.nxt + n }

@[simp] theorem Heap.upd_nxt (σ : Heap) (l : Nat) (o : Option AObj) : (σ.upd l o).nxt = σ.nxt := rfl
@[simp] theorem Heap.bump_nxt (σ : Heap) (n : Nat) : (σ.bump n).nxt = σ.nxt + n := rfl
@[simp] theorem Heap.bump_get (σ : Heap) (n : Nat) : (σ.bump n).get = σ.get := rfl
theorem Heap.upd_get (σ : Heap) (l : Nat) (o : Option AObj) (x : Nat) : (σ.upd l o).get x = if x = l then o else σ.get x := rfl
@[simp] theorem Heap.upd_same (σ : Heap) (l : Nat) (o : Option AObj) : (σ.upd l o).get l = o := by simp [Heap.upd_get]
theorem Heap.upd_ne (σ : Heap) {l x : Nat} (o : Option AObj) (h : x ≠ l) : (σ.upd l o).get x = σ.get x := by simp [Heap.upd_get, h]

def ERel (ρ : LMap) (e e' : MapEntry) : Prop := e'.key = e.key ∧ plainV e.key = true ∧ VRel ρ e.val e'.val ∧ e'.born = e.born
def EsRel (ρ : LMap) (es : List MapEntry) (es' : Array MapEntry) : Prop := es.length = es'.size ∧ ∀ (i : Nat) (e e' : MapEntry), es[i]? = some e → es'[i]? = some e' → ERel ρ e e'

theorem EsRel.mono {ρ ρ' : LMap} (hle : ρ.le ρ') {a : List MapEntry} {a' : Array MapEntry} (h : EsRel ρ a a') : EsRel ρ' a a' :=
 ⟨h.1, fun i e e' h1 h2 => let ⟨k1, k2, k3, k4⟩ := h.2 i e e' h1 h2; ⟨k1, k2, k3.mono hle, k4⟩⟩

def Thawed (n : Nat) (fz : Nat × Nat) : Prop := fz.1 = fz.2 ∨ n ≤ fz.1

theorem Thawed.not {n : Nat} {fz : Nat × Nat} (h : Thawed n fz) {i : Nat} (hi : i < n) : ¬ (fz.1 ≤ i ∧ i < fz.2) := by
 rcases h with h | h <;> omega

def Szd (p : Pl) (sz : Nat) : Prop := p.sz = sz ∧ (sz = 0 → p.off = 0)

def Real (ρ : LMap) (p : Pl) (w : World) : AObj → Prop
 | .cells c sz ro => p.len = c.length ∧ Szd p sz ∧ ∃ C T fz, w.heap[p.blk]? = some (.cells C T fz) ∧ (∀ i v, c[i]? = some v → ∃ v', C[p.off + i]? = some v' ∧ VRel ρ v v') ∧
   (ro = false → p.off + p.len + p.ext * p.sz ≤ C.size ∧ Thawed C.size fz)
 | .map es clock => ∃ es', w.heap[p.blk]? = some (.map es' clock) ∧ EsRel ρ es es'
 | .mapIter m since seen stepped => p.off = 0 ∧ ∃ m', w.heap[p.blk]? = some (.mapIter m' since seen.toArray stepped) ∧ VRel ρ (.map m) (.map m')

theorem Real.mono {ρ ρ' : LMap} (hle : ρ.le ρ') {p : Pl} {w w' : World} (hb : w'.heap[p.blk]? = w.heap[p.blk]?) {o : AObj} (h : Real ρ p w o) : Real ρ' p w' o := by
 cases o with
 | cells c sz ro =>
  obtain ⟨h1, h0, C, T, fz, h2, h3, h4⟩ := h
  exact ⟨h1, h0, C, T, fz, hb ▸ h2, fun i v hi => let ⟨v', a, b⟩ := h3 i v hi; ⟨v', a, b.mono hle⟩, h4⟩
 | map es clock => obtain ⟨es', h1, h2⟩ := h; exact ⟨es', hb ▸ h1, h2.mono hle⟩
 | mapIter m since seen stepped => obtain ⟨h0, m', h1, h2⟩ := h; exact ⟨h0, m', hb ▸ h1, h2.mono hle⟩

structure Rel (ρ : LMap) (σ : Heap) (w : World) : Prop where
 dom : ∀ l o, σ.get l = some o → ∃ p, ρ l = some p ∧ Real ρ p w o
 excl : ∀ l l' o o' p p', l ≠ l' → σ.get l = some o → σ.get l' = some o' → o.owned = true → ρ l = some p → ρ l' = some p' → p.blk ≠ p'.blk
 bnd : ∀ l p, ρ l = some p → l < σ.nxt ∧ p.blk < w.heap.size

theorem Rel.lt {ρ : LMap} {σ : Heap} {w : World} (h : Rel ρ σ w) {l : Nat} {o : AObj} (hl : σ.get l = some o) : l < σ.nxt :=
 let ⟨_, hp, _⟩ := h.dom l o hl; (h.bnd l _ hp).1

theorem Rel.bump {ρ : LMap} {σ : Heap} {w : World} (h : Rel ρ σ w) (n : Nat) : Rel ρ (σ.bump n) w :=
 ⟨h.dom, h.excl, fun l p hl => let ⟨a, b⟩ := h.bnd l p hl; ⟨by simp; omega, b⟩⟩

def Occ (ρ : LMap) (σ : Heap) (q : Bool) (b : Nat) : Prop := ∃ l o p, σ.get l = some o ∧ o.owned = q ∧ ρ l = some p ∧ p.blk = b
abbrev Owned (ρ : LMap) (σ : Heap) (b : Nat) : Prop := Occ ρ σ true b

structure Frm (ρ : LMap) (σ : Heap) (w : World) (ρ' : LMap) (σ' : Heap) (w' : World) : Prop where
 le : ρ.le ρ'
 os : w'.os = w.os
 tape : w'.tape = w.tape
 output : w'.output = w.output
 size : w.heap.size ≤ w'.heap.size
 nxt : σ.nxt ≤ σ'.nxt
 blk : ∀ b, b < w.heap.size → ¬ Owned ρ σ b → w'.heap[b]? = w.heap[b]?
 own : ∀ q b, b < w.heap.size → Occ ρ' σ' q b → Occ ρ σ q b

theorem Frm.refl (ρ : LMap) (σ : Heap) (w : World) : Frm ρ σ w ρ σ w := ⟨ρ.le_refl, rfl, rfl, rfl, Nat.le_refl _, Nat.le_refl _, fun _ _ _ => rfl, fun _ _ _ h => h⟩

theorem Frm.trans {ρ ρ₁ ρ₂ : LMap} {σ σ₁ σ₂ : Heap} {w w₁ w₂ : World} (h : Frm ρ σ w ρ₁ σ₁ w₁) (k : Frm ρ₁ σ₁ w₁ ρ₂ σ₂ w₂) : Frm ρ σ w ρ₂ σ₂ w₂ where
 le := LMap.le_trans h.le k.le
 os := k.os.trans h.os
 tape := k.tape.trans h.tape
 output := k.output.trans h.output
 size := Nat.le_trans h.size k.size
 nxt := Nat.le_trans h.nxt k.nxt
 blk := fun b hb hn => (k.blk b (Nat.lt_of_lt_of_le hb h.size) (fun ho => hn (h.own _ b hb ho))).trans (h.blk b hb hn)
 own := fun q b hb ho => h.own q b hb (k.own q b (Nat.lt_of_lt_of_le hb h.size) ho)

structure Fin (ρ : LMap) (σ : Heap) (ρ' : LMap) (σ' : Heap) : Prop where
 old : ∀ l, l < σ.nxt → ρ' l = ρ l
 gone : ∀ l, l < σ.nxt → σ.get l = none → σ'.get l = none

theorem Fin.refl (ρ : LMap) (σ : Heap) : Fin ρ σ ρ σ := ⟨fun _ _ => rfl, fun _ _ h => h⟩
theorem Fin.trans {ρ ρ₁ ρ₂ : LMap} {σ σ₁ σ₂ : Heap} (h : Fin ρ σ ρ₁ σ₁) (k : Fin ρ₁ σ₁ ρ₂ σ₂) (hn : σ.nxt ≤ σ₁.nxt) : Fin ρ σ ρ₂ σ₂ :=
 ⟨fun l hl => (k.old l (by omega)).trans (h.old l hl), fun l hl hg => k.gone l (by omega) (h.gone l hl hg)⟩

def ACall (P : Program) (f : FuncId) (args : Array Value) (σ : Heap) (R : Value → Heap → Prop) : Prop :=
 ∀ ρ w args', Rel ρ σ w → VsRel ρ args args' → Calls P f args' w fun e w' =>
  ∃ v v' ρ' σ', e = .returned v' ∧ Rel ρ' σ' w' ∧ Frm ρ σ w ρ' σ' w' ∧ Fin ρ σ ρ' σ' ∧ VRel ρ' v v' ∧ R v σ'

theorem ACall.mono {P : Program} {f : FuncId} {args : Array Value} {σ : Heap} {R R' : Value → Heap → Prop} (h : ACall P f args σ R)
  (hr : ∀ v σ', R v σ' → R' v σ') : ACall P f args σ R' :=
 fun ρ w args' h1 h2 => (h ρ w args' h1 h2).mono fun _ _ ⟨v, v', ρ', σ', a, b, c, d, e, r⟩ => ⟨v, v', ρ', σ', a, b, c, d, e, hr _ _ r⟩

def Heap.WF (σ : Heap) : Prop := ∀ l o, σ.get l = some o → l < σ.nxt

def Gone (σ σ' : Heap) : Prop := ∀ l, l < σ.nxt → σ.get l = none → σ'.get l = none

theorem ACall.strong {P : Program} {f : FuncId} {args : Array Value} {σ : Heap} {R : Value → Heap → Prop} (h : ACall P f args σ R) :
  ACall P f args σ fun v σ' => R v σ' ∧ σ'.WF ∧ σ.nxt ≤ σ'.nxt ∧ Gone σ σ' :=
 fun ρ w args' h1 h2 => (h ρ w args' h1 h2).mono fun _ _ ⟨v, v', ρ', σ', a, b, c, d, e, r⟩ => ⟨v, v', ρ', σ', a, b, c, d, e, r, fun _ _ hl => b.lt hl, c.nxt, d.gone⟩

theorem ACall.wf {P : Program} {f : FuncId} {args : Array Value} {σ : Heap} {R : Value → Heap → Prop} (h : σ.WF → ACall P f args σ R) : ACall P f args σ R :=
 fun ρ w args' h1 h2 => h (fun _ _ hl => h1.lt hl) ρ w args' h1 h2

theorem ACall.some {P : Program} {f : FuncId} {args args' : Array Value} {σ : Heap} {R : Value → Heap → Prop} {ρ : LMap} {w : World} (h : ACall P f args σ R) (hr : Rel ρ σ w) (ha : VsRel ρ args args') :
  ∃ v v' ρ' σ' w', Rel ρ' σ' w' ∧ Frm ρ σ w ρ' σ' w' ∧ Fin ρ σ ρ' σ' ∧ VRel ρ' v v' ∧ R v σ' := by
 obtain ⟨e, w', fr, ⟨v, v', ρ', σ', _, b, c, d, x, r⟩, _⟩ := h ρ w args' hr ha []
 exact ⟨v, v', ρ', σ', w', b, c, d, x, r⟩

def Heap.over (σ g : Heap) : Heap := { get := fun l => match g.get l with | some o => some o | none => σ.get l, nxt := σ.nxt }

theorem Heap.over_some {σ g : Heap} {l : Nat} {o : AObj} (h : g.get l = some o) : (σ.over g).get l = some o := by simp [Heap.over, h]
theorem Heap.over_none {σ g : Heap} {l : Nat} (h : g.get l = none) : (σ.over g).get l = σ.get l := by simp [Heap.over, h]

theorem frame_over {P : Program} {f : FuncId} {args : Array Value} {σ g : Heap} {R : Value → Heap → Prop} (hd : ∀ l o, g.get l = some o → σ.get l = none)
  (h : ACall P f args σ R) : ACall P f args (σ.over g) fun v τ => ∃ σ', R v σ' ∧ (∀ l o, g.get l = some o → σ'.get l = none) ∧ τ = σ'.over g := by
 intro ρ w args' hrel hargs
 have hsub : ∀ l o, σ.get l = some o → (σ.over g).get l = some o := by
  intro l o hl
  cases hg : g.get l with
  | none => rw [Heap.over_none hg]; exact hl
  | some o' => rw [hd l o' hg] at hl; cases hl
 have hrel' : Rel ρ σ w := ⟨fun l o hl => hrel.dom l o (hsub l o hl), fun l l' o o' p p' hne h1 h2 => hrel.excl l l' o o' p p' hne (hsub _ _ h1) (hsub _ _ h2), hrel.bnd⟩
 refine (h ρ w args' hrel' hargs).mono ?_
 rintro e w' ⟨v, v', ρ', σ', he, hR', hF, hN, hv, hr⟩
 have hgblk : ∀ l o p, g.get l = some o → ρ l = some p → p.blk < w.heap.size ∧ ¬ Owned ρ σ p.blk := by
  intro l o p hl hp
  refine ⟨(hrel.bnd l p hp).2, ?_⟩
  rintro ⟨l2, o2, p2, h2, ho2, hp2, hb2⟩
  refine hrel.excl l2 l o2 o p2 p ?_ (hsub _ _ h2) (Heap.over_some hl) ho2 hp2 hp hb2
  intro e; subst e; rw [hd _ _ hl] at h2; cases h2
 have hgdom : ∀ l o, g.get l = some o → ∃ p, ρ l = some p ∧ ρ' l = some p ∧ Real ρ' p w' o := by
  intro l o hl
  obtain ⟨p, hp, hre⟩ := hrel.dom l o (Heap.over_some hl)
  obtain ⟨hb, hno⟩ := hgblk l o p hl hp
  exact ⟨p, hp, hF.le _ _ hp, hre.mono hF.le (hF.blk _ hb hno)⟩
 refine ⟨v, v', ρ', σ'.over g, he, ⟨?_, ?_, hR'.bnd⟩, ⟨hF.le, hF.os, hF.tape, hF.output, hF.size, hF.nxt, ?_, ?_⟩, ⟨hN.old, ?_⟩, hv, σ', hr, ?_, rfl⟩
 ·intro l o hl
  cases hg : g.get l with
  | none => rw [Heap.over_none hg] at hl; exact hR'.dom l o hl
  | some o' =>
   rw [Heap.over_some hg] at hl; cases hl
   obtain ⟨p, _, h2, h3⟩ := hgdom l o hg
   exact ⟨p, h2, h3⟩
 ·intro l l' o o' p p' hne h1 h2 ho hp hp'
  cases hg : g.get l with
  | none =>
   rw [Heap.over_none hg] at h1
   cases hg' : g.get l' with
   | none => rw [Heap.over_none hg'] at h2; exact hR'.excl l l' o o' p p' hne h1 h2 ho hp hp'
   | some x =>
    obtain ⟨q, hq, hq', _⟩ := hgdom l' x hg'
    rw [hq'] at hp'; have hp' := Option.some.inj hp'; subst hp'
    obtain ⟨hb, hno⟩ := hgblk l' x q hg' hq
    intro hbb
    exact hno (hF.own _ _ hb ⟨l, o, p, h1, ho, hp, hbb⟩)
  | some x =>
   rw [Heap.over_some hg] at h1; cases h1
   obtain ⟨q, hq, hq', _⟩ := hgdom l o hg
   rw [hq'] at hp; have hp := Option.some.inj hp; subst hp
   obtain ⟨hb, hno⟩ := hgblk l o q hg hq
   cases hg' : g.get l' with
   | none =>
    rw [Heap.over_none hg'] at h2
    intro hbb
    obtain ⟨l2, o2, p2, a1, a2, a3, a4⟩ := hF.own o'.owned _ hb ⟨l', o', p', h2, rfl, hp', hbb.symm⟩
    refine hrel.excl l l2 o o2 q p2 ?_ (Heap.over_some hg) (hsub _ _ a1) ho hq a3 a4.symm
    intro e; subst e; rw [hd _ _ hg] at a1; cases a1
   | some y =>
    rw [Heap.over_some hg'] at h2; cases h2
    obtain ⟨q', hq2, hq2', _⟩ := hgdom l' o' hg'
    rw [hq2'] at hp'; have hp' := Option.some.inj hp'; subst hp'
    exact hrel.excl l l' o o' q q' hne (Heap.over_some hg) (Heap.over_some hg') ho hq hq2
 ·intro b hb hno
  refine hF.blk b hb fun ⟨l, o, p, h1, h2, h3, h4⟩ => hno ⟨l, o, p, hsub l o h1, h2, h3, h4⟩
 ·rintro qq b hb ⟨l, o, p, h1, h2, h3, h4⟩
  cases hg : g.get l with
  | none =>
   rw [Heap.over_none hg] at h1
   obtain ⟨l2, o2, p2, a1, a2, a3, a4⟩ := hF.own qq b hb ⟨l, o, p, h1, h2, h3, h4⟩
   exact ⟨l2, o2, p2, hsub _ _ a1, a2, a3, a4⟩
  | some x =>
   rw [Heap.over_some hg] at h1; cases h1
   obtain ⟨q, hq, hq', _⟩ := hgdom l o hg
   rw [hq'] at h3; have h3 := Option.some.inj h3; subst h3
   exact ⟨l, o, q, Heap.over_some hg, h2, hq, h4⟩
 ·intro l hl hn
  cases hg : g.get l with
  | none => rw [Heap.over_none hg] at hn ⊢; exact hN.gone l hl hn
  | some x => rw [Heap.over_some hg] at hn; cases hn
 ·intro l o hl
  obtain ⟨q, hq, _, _⟩ := hgdom l o hl
  exact hN.gone l (hrel.bnd _ _ hq).1 (hd _ _ hl)

end Go.Proofs.YtehmailaabjdjaaGreat
