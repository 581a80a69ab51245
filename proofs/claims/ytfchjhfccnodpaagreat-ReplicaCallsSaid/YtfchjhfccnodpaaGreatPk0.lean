/-
  THE ABSTRACT HEAP. Names of blocks in place of block numbers, room behind a slice's length hidden. What a world is to an abstract heap (Rel), what a step leaves alone (Frm), what a call does, said of abstract heaps (ACall). No condition. / STEPS OF THE ABSTRACT HEAP: a new block, a write into one, a name that dies, a row that moves to a new name in its place. No condition. / THE OPERATIONS, SAID OF ABSTRACT HEAPS: what each reads, and what it makes of that. No condition. / THE OPERATIONS ARE WHAT THE MODEL DOES (first part): values, reads, stores, new blocks. No condition. / THE OPERATIONS ARE WHAT THE MODEL DOES (second part): new blocks, built values, places, comparisons. No condition. / THE OPERATIONS ARE WHAT THE MODEL DOES (third part): slices made and cut, places of fields and elements, conversions. No condition. / THE OPERATIONS ARE WHAT THE MODEL DOES (fourth part): append, clear, conversions of strings. No condition. / THE OPERATIONS ARE WHAT THE MODEL DOES (fifth part): maps, lengths, the library's functions without a body; all together. No condition. / THE OPERATIONS ARE WHAT THE MODEL DOES (sixth part): what is left, and all together. No condition. / REGIONS, SAID OF ABSTRACT HEAPS: operations in the order of the text; operations whose order is drawn: one order stands for all, where those that no edge parts touch nothing of each other's. No condition.
-/
import Derived.WalkKit
import Derived.Defers
import Derived.Laws.IdiomStrings
import Derived.RegionTactic
section
namespace Go.Proofs.YtfchjhfccnodpaaGreat
set_option linter.unusedSimpArgs false
set_option linter.unusedVariables false

structure Pl where
  blk : Nat
  off : Nat
  ext : Nat
  sz : Nat
  len : Nat

abbrev LMap := Nat → Option Pl

def LMap.le (ρ ρ' : LMap) : Prop := ∀ l p, ρ l = some p → ρ' l = some p

theorem LMap.le_refl (ρ : LMap) : ρ.le ρ := fun _ _ h => h
theorem LMap.le_trans {a b c : LMap} (h : a.le b) (k : b.le c) : a.le c := fun l p q => k l p (h l p q)

inductive VRel (ρ : LMap) : Value → Value → Prop where
  | bool (b : Bool) : VRel ρ (.bool b) (.bool b)
  | int (k : IntKind) (n : Int) : VRel ρ (.int k n) (.int k n)
  | float (k : FloatKind) (b : Nat) : VRel ρ (.float k b) (.float k b)
  | string (s : ByteArray) : VRel ρ (.string s) (.string s)
  | ptrNil : VRel ρ (.pointer none) (.pointer none)
  | ptr {l o : Nat} {p : Pl} : ρ l = some p → VRel ρ (.pointer (some ⟨l, o, none⟩)) (.pointer (some ⟨p.blk, p.off + o, none⟩))
  | sliceNil (n c : Nat) : VRel ρ (.slice none n c) (.slice none n c)
  | slice {l o n c c' : Nat} {p : Pl} : ρ l = some p → (c' = c ∨ (o + c * p.sz = p.len ∧ c' = c + p.ext)) →
      VRel ρ (.slice (some ⟨l, o, none⟩) n c) (.slice (some ⟨p.blk, p.off + o, none⟩) n c')
  | slice0 {l o o' : Nat} {p : Pl} : ρ l = some p → VRel ρ (.slice (some ⟨l, o, none⟩) 0 0) (.slice (some ⟨p.blk, o', none⟩) 0 0)
  | sliceE {l o s : Nat} {a' : Addr} : VRel ρ (.slice (some ⟨l, o, some s⟩) 0 0) (.slice (some a') 0 0)
  | mapNil : VRel ρ (.map none) (.map none)
  | map {r : Nat} {p : Pl} : ρ r = some p → VRel ρ (.map (some r)) (.map (some p.blk))
  | func {f : FuncId} {a b a' b' : Array Value} : a.size = a'.size → b.size = b'.size →
      (∀ (i : Nat) (v v' : Value), a[i]? = some v → a'[i]? = some v' → VRel ρ v v') → (∀ (i : Nat) (v v' : Value), b[i]? = some v → b'[i]? = some v' → VRel ρ v v') →
      VRel ρ (.func (.func f) a b) (.func (.func f) a' b')
  | nilFunc : VRel ρ .nilFunc .nilFunc
  | nilIface : VRel ρ .nilIface .nilIface
  | agg {a a' : Array Value} : a.size = a'.size → (∀ (i : Nat) (v v' : Value), a[i]? = some v → a'[i]? = some v' → VRel ρ v v') → VRel ρ (.agg a) (.agg a')
  | tuple {a a' : Array Value} : a.size = a'.size → (∀ (i : Nat) (v v' : Value), a[i]? = some v → a'[i]? = some v' → VRel ρ v v') → VRel ρ (.tuple a) (.tuple a')

theorem VRel.mono {ρ ρ' : LMap} (hle : ρ.le ρ') {v v' : Value} (h : VRel ρ v v') : VRel ρ' v v' := by
  induction h with
  | bool b => exact .bool b
  | int k n => exact .int k n
  | float k b => exact .float k b
  | string s => exact .string s
  | ptrNil => exact .ptrNil
  | ptr h => exact .ptr (hle _ _ h)
  | sliceNil n c => exact .sliceNil n c
  | slice h hc => exact .slice (hle _ _ h) hc
  | slice0 h => exact .slice0 (hle _ _ h)
  | sliceE => exact .sliceE
  | mapNil => exact .mapNil
  | map h => exact .map (hle _ _ h)
  | func ha hb _ _ ia ib => exact .func ha hb ia ib
  | nilFunc => exact .nilFunc
  | nilIface => exact .nilIface
  | agg hs _ ih => exact .agg hs ih
  | tuple hs _ ih => exact .tuple hs ih

def VsRel (ρ : LMap) (a a' : Array Value) : Prop := a.size = a'.size ∧ ∀ (i : Nat) (v v' : Value), a[i]? = some v → a'[i]? = some v' → VRel ρ v v'
def VlRel (ρ : LMap) (a a' : List Value) : Prop := a.length = a'.length ∧ ∀ (i : Nat) (v v' : Value), a[i]? = some v → a'[i]? = some v' → VRel ρ v v'

theorem VsRel.mono {ρ ρ' : LMap} (hle : ρ.le ρ') {a a' : Array Value} (h : VsRel ρ a a') : VsRel ρ' a a' := ⟨h.1, fun i v v' h1 h2 => (h.2 i v v' h1 h2).mono hle⟩
theorem VlRel.mono {ρ ρ' : LMap} (hle : ρ.le ρ') {a a' : List Value} (h : VlRel ρ a a') : VlRel ρ' a a' := ⟨h.1, fun i v v' h1 h2 => (h.2 i v v' h1 h2).mono hle⟩

theorem VsRel.toList {ρ : LMap} {a a' : Array Value} (h : VsRel ρ a a') : VlRel ρ a.toList a'.toList :=
  ⟨by simpa using h.1, fun i v v' h1 h2 => h.2 i v v' (by simpa using h1) (by simpa using h2)⟩
theorem VlRel.toArray {ρ : LMap} {a a' : List Value} (h : VlRel ρ a a') : VsRel ρ a.toArray a'.toArray :=
  ⟨by simpa using h.1, fun i v v' h1 h2 => h.2 i v v' (by simpa using h1) (by simpa using h2)⟩

theorem VsRel.get {ρ : LMap} {a a' : Array Value} (h : VsRel ρ a a') {i : Nat} {v : Value} (hi : a[i]? = some v) : ∃ v', a'[i]? = some v' ∧ VRel ρ v v' := by
  have hlt : i < a.size := by
    rcases Nat.lt_or_ge i a.size with h | h
    · exact h
    · rw [Array.getElem?_eq_none h] at hi; cases hi
  have h2 : a'[i]? = some (a'[i]'(h.1 ▸ hlt)) := Array.getElem?_eq_getElem _
  exact ⟨_, h2, h.2 i _ _ hi h2⟩
theorem VsRel.getNone {ρ : LMap} {a a' : Array Value} (h : VsRel ρ a a') {i : Nat} (hi : a[i]? = none) : a'[i]? = none := by
  rw [Array.getElem?_eq_none_iff] at hi ⊢
  rw [← h.1]; exact hi
theorem VlRel.get {ρ : LMap} {a a' : List Value} (h : VlRel ρ a a') {i : Nat} {v : Value} (hi : a[i]? = some v) : ∃ v', a'[i]? = some v' ∧ VRel ρ v v' := by
  have hlt : i < a.length := by
    rcases Nat.lt_or_ge i a.length with h | h
    · exact h
    · rw [List.getElem?_eq_none h] at hi; cases hi
  have h2 : a'[i]? = some (a'[i]'(h.1 ▸ hlt)) := List.getElem?_eq_getElem _
  exact ⟨_, h2, h.2 i _ _ hi h2⟩

theorem VlRel.nil (ρ : LMap) : VlRel ρ [] [] := ⟨rfl, fun i v v' h => by simp at h⟩
theorem VlRel.cons {ρ : LMap} {v v' : Value} {a a' : List Value} (h : VRel ρ v v') (t : VlRel ρ a a') : VlRel ρ (v :: a) (v' :: a') := by
  refine ⟨by simpa using t.1, fun i x x' h1 h2 => ?_⟩
  cases i with
  | zero => simp at h1 h2; subst h1; subst h2; exact h
  | succ i => simp at h1 h2; exact t.2 i x x' h1 h2
theorem VlRel.append {ρ : LMap} {a a' b b' : List Value} (h : VlRel ρ a a') (t : VlRel ρ b b') : VlRel ρ (a ++ b) (a' ++ b') := by
  refine ⟨by simp [h.1, t.1], fun i x x' h1 h2 => ?_⟩
  rcases Nat.lt_or_ge i a.length with hi | hi
  · rw [List.getElem?_append_left hi] at h1
    rw [List.getElem?_append_left (h.1 ▸ hi)] at h2
    exact h.2 i x x' h1 h2
  · rw [List.getElem?_append_right hi] at h1
    rw [List.getElem?_append_right (h.1 ▸ hi)] at h2
    rw [← h.1] at h2
    exact t.2 _ x x' h1 h2
theorem VlRel.take {ρ : LMap} {a a' : List Value} (h : VlRel ρ a a') (n : Nat) : VlRel ρ (a.take n) (a'.take n) := by
  refine ⟨by simp [h.1], fun i x x' h1 h2 => ?_⟩
  rw [List.getElem?_take] at h1 h2
  split at h1
  · rename_i hlt; rw [if_pos hlt] at h2; exact h.2 i x x' h1 h2
  · cases h1
theorem VlRel.drop {ρ : LMap} {a a' : List Value} (h : VlRel ρ a a') (n : Nat) : VlRel ρ (a.drop n) (a'.drop n) := by
  refine ⟨by simp [h.1], fun i x x' h1 h2 => ?_⟩
  rw [List.getElem?_drop] at h1 h2
  exact h.2 _ x x' h1 h2
theorem VlRel.inv_cons {ρ : LMap} {v : Value} {a b : List Value} (h : VlRel ρ (v :: a) b) : ∃ v' a', b = v' :: a' ∧ VRel ρ v v' ∧ VlRel ρ a a' := by
  cases b with
  | nil => have := h.1; simp at this
  | cons v' a' => exact ⟨v', a', rfl, h.2 0 v v' rfl rfl, by have := h.1; simpa using this, fun i x x' h1 h2 => h.2 (i + 1) x x' (by simpa using h1) (by simpa using h2)⟩
theorem VlRel.inv_nil {ρ : LMap} {b : List Value} (h : VlRel ρ [] b) : b = [] := by
  cases b with
  | nil => rfl
  | cons v' a' => have := h.1; simp at this

def plainL (f : Value → Bool) : List Value → Bool
  | [] => true
  | v :: r => f v && plainL f r

def plainN : Nat → Value → Bool
  | _, .bool _ | _, .int .. | _, .float .. | _, .string _ | _, .pointer none | _, .slice none _ _ | _, .map none | _, .nilFunc | _, .nilIface => true
  | n + 1, .agg a => plainL (plainN n) a.toList
  | n + 1, .tuple a => plainL (plainN n) a.toList
  | _, _ => false

theorem plainL_get {f : Value → Bool} : ∀ {l : List Value} (_ : plainL f l = true) {i : Nat} {v : Value}, l[i]? = some v → f v = true
  | [], _, i, v, h => by simp at h
  | x :: r, hp, 0, v, h => by simp [plainL] at hp h; exact h ▸ hp.1
  | x :: r, hp, i + 1, v, h => by simp [plainL] at hp h; exact plainL_get hp.2 h

theorem plainN_rel (ρ : LMap) (n : Nat) : ∀ (v : Value), plainN n v = true → VRel ρ v v := by
  induction n with
  | zero =>
    intro v h
    cases v with
    | bool b => exact .bool b
    | int k m => exact .int k m
    | float k b => exact .float k b
    | complex k a b => simp [plainN] at h
    | string s => exact .string s
    | pointer a => cases a with
      | none => exact .ptrNil
      | some a => simp [plainN] at h
    | slice a n c => cases a with
      | none => exact .sliceNil n c
      | some a => simp [plainN] at h
    | map a => cases a with
      | none => exact .mapNil
      | some a => simp [plainN] at h
    | chan a => simp [plainN] at h
    | func f a b => simp [plainN] at h
    | nilFunc => exact .nilFunc
    | iface t v => simp [plainN] at h
    | nilIface => exact .nilIface
    | agg a => simp [plainN] at h
    | tuple a => simp [plainN] at h
  | succ n ih =>
    intro v h
    cases v with
    | bool b => exact .bool b
    | int k m => exact .int k m
    | float k b => exact .float k b
    | complex k a b => simp [plainN] at h
    | string s => exact .string s
    | pointer a => cases a with
      | none => exact .ptrNil
      | some a => simp [plainN] at h
    | slice a n c => cases a with
      | none => exact .sliceNil n c
      | some a => simp [plainN] at h
    | map a => cases a with
      | none => exact .mapNil
      | some a => simp [plainN] at h
    | chan a => simp [plainN] at h
    | func f a b => simp [plainN] at h
    | nilFunc => exact .nilFunc
    | iface t v => simp [plainN] at h
    | nilIface => exact .nilIface
    | agg a =>
      refine .agg rfl fun i v v' h1 h2 => ?_
      rw [h1] at h2; cases h2
      exact ih v (plainL_get (l := a.toList) (by simpa [plainN] using h) (i := i) (by simpa using h1))
    | tuple a =>
      refine .tuple rfl fun i v v' h1 h2 => ?_
      rw [h1] at h2; cases h2
      exact ih v (plainL_get (l := a.toList) (by simpa [plainN] using h) (i := i) (by simpa using h1))

theorem plainA_eq {ρ : LMap} {n : Nat} (ih : ∀ v v', plainN n v = true → VRel ρ v v' → v' = v) {a a' : Array Value} (h : plainL (plainN n) a.toList = true) (hs : a.size = a'.size)
    (hr : ∀ (i : Nat) (v v' : Value), a[i]? = some v → a'[i]? = some v' → VRel ρ v v') : a' = a := by
  refine Array.ext (by omega) fun i h1 h2 => ?_
  have e1 : a[i]? = some a[i] := Array.getElem?_eq_getElem h2
  have e2 : a'[i]? = some a'[i] := Array.getElem?_eq_getElem h1
  exact ih _ _ (plainL_get h (i := i) (by rw [Array.getElem?_toList]; exact e1)) (hr i _ _ e1 e2)

theorem plainN_eq {ρ : LMap} (n : Nat) : ∀ (v v' : Value), plainN n v = true → VRel ρ v v' → v' = v := by
  induction n with
  | zero => intro v v' h k; cases k <;> first | rfl | simp [plainN] at h
  | succ n ih =>
    intro v v' h k
    cases k with
    | agg hs hr => rw [plainA_eq ih (by simpa [plainN] using h) hs hr]
    | tuple hs hr => rw [plainA_eq ih (by simpa [plainN] using h) hs hr]
    | _ => first | rfl | simp [plainN] at h

def plainV (v : Value) : Bool := plainN 20 v
theorem plainV_rel {v : Value} (ρ : LMap) (h : plainV v = true) : VRel ρ v v := plainN_rel ρ 20 v h
theorem plainV_eq {ρ : LMap} {v v' : Value} (h : plainV v = true) (k : VRel ρ v v') : v' = v := plainN_eq 20 v v' h k

inductive AObj where
  | cells (c : List Value) (sz : Nat) (ro : Bool)
  | map (es : List MapEntry) (clock : Nat)
  | mapIter (m : Option Nat) (since : Nat) (seen : List Nat) (stepped : Nat)

def AObj.owned : AObj → Bool
  | .cells _ _ ro => !ro
  | _ => true

structure Heap where
  get : Nat → Option AObj
  nxt : Nat

def Heap.upd (σ : Heap) (l : Nat) (o : Option AObj) : Heap := { σ with get := fun x => if x = l then o else σ.get x }
def Heap.bump (σ : Heap) (n : Nat) : Heap := { σ with nxt := σ.nxt + n }

@[simp] theorem Heap.upd_nxt (σ : Heap) (l : Nat) (o : Option AObj) : (σ.upd l o).nxt = σ.nxt := rfl
@[simp] theorem Heap.bump_nxt (σ : Heap) (n : Nat) : (σ.bump n).nxt = σ.nxt + n := rfl
@[simp] theorem Heap.bump_get (σ : Heap) (n : Nat) : (σ.bump n).get = σ.get := rfl
theorem Heap.upd_get (σ : Heap) (l : Nat) (o : Option AObj) (x : Nat) : (σ.upd l o).get x = if x = l then o else σ.get x := rfl
@[simp] theorem Heap.upd_same (σ : Heap) (l : Nat) (o : Option AObj) : (σ.upd l o).get l = o := by simp [Heap.upd_get]
theorem Heap.upd_ne (σ : Heap) {l x : Nat} (o : Option AObj) (h : x ≠ l) : (σ.upd l o).get x = σ.get x := by simp [Heap.upd_get, h]

def ERel (ρ : LMap) (e e' : MapEntry) : Prop := e'.key = e.key ∧ plainV e.key = true ∧ VRel ρ e.val e'.val ∧ e'.born = e.born
def EsRel (ρ : LMap) (es : List MapEntry) (es' : Array MapEntry) : Prop := es.length = es'.size ∧ ∀ (i : Nat) (e e' : MapEntry), es[i]? = some e → es'[i]? = some e' → ERel ρ e e'

theorem EsRel.mono {ρ ρ' : LMap} (hle : ρ.le ρ') {a : List MapEntry} {a' : Array MapEntry} (h : EsRel ρ a a') : EsRel ρ' a a' :=
  ⟨h.1, fun i e e' h1 h2 => let ⟨k1, k2, k3, k4⟩ := h.2 i e e' h1 h2; ⟨k1, k2, k3.mono hle, k4⟩⟩

def Thawed (n : Nat) (fz : Nat × Nat) : Prop := fz.1 = fz.2 ∨ n ≤ fz.1

theorem Thawed.not {n : Nat} {fz : Nat × Nat} (h : Thawed n fz) {i : Nat} (hi : i < n) : ¬ (fz.1 ≤ i ∧ i < fz.2) := by
  rcases h with h | h <;> omega

def Szd (p : Pl) (sz : Nat) : Prop := p.sz = sz ∧ (sz = 0 → p.off = 0)

def Real (ρ : LMap) (p : Pl) (w : World) : AObj → Prop
  | .cells c sz ro => p.len = c.length ∧ Szd p sz ∧ ∃ C T fz, w.heap[p.blk]? = some (.cells C T fz) ∧ (∀ i v, c[i]? = some v → ∃ v', C[p.off + i]? = some v' ∧ VRel ρ v v') ∧
      (ro = false → p.off + p.len + p.ext * p.sz ≤ C.size ∧ Thawed C.size fz)
  | .map es clock => ∃ es', w.heap[p.blk]? = some (.map es' clock) ∧ EsRel ρ es es'
  | .mapIter m since seen stepped => p.off = 0 ∧ ∃ m', w.heap[p.blk]? = some (.mapIter m' since seen.toArray stepped) ∧ VRel ρ (.map m) (.map m')

theorem Real.mono {ρ ρ' : LMap} (hle : ρ.le ρ') {p : Pl} {w w' : World} (hb : w'.heap[p.blk]? = w.heap[p.blk]?) {o : AObj} (h : Real ρ p w o) : Real ρ' p w' o := by
  cases o with
  | cells c sz ro =>
    obtain ⟨h1, h0, C, T, fz, h2, h3, h4⟩ := h
    exact ⟨h1, h0, C, T, fz, hb ▸ h2, fun i v hi => let ⟨v', a, b⟩ := h3 i v hi; ⟨v', a, b.mono hle⟩, h4⟩
  | map es clock => obtain ⟨es', h1, h2⟩ := h; exact ⟨es', hb ▸ h1, h2.mono hle⟩
  | mapIter m since seen stepped => obtain ⟨h0, m', h1, h2⟩ := h; exact ⟨h0, m', hb ▸ h1, h2.mono hle⟩

structure Rel (ρ : LMap) (σ : Heap) (w : World) : Prop where
  dom : ∀ l o, σ.get l = some o → ∃ p, ρ l = some p ∧ Real ρ p w o
  excl : ∀ l l' o o' p p', l ≠ l' → σ.get l = some o → σ.get l' = some o' → o.owned = true → ρ l = some p → ρ l' = some p' → p.blk ≠ p'.blk
  bnd : ∀ l p, ρ l = some p → l < σ.nxt ∧ p.blk < w.heap.size

theorem Rel.lt {ρ : LMap} {σ : Heap} {w : World} (h : Rel ρ σ w) {l : Nat} {o : AObj} (hl : σ.get l = some o) : l < σ.nxt :=
  let ⟨_, hp, _⟩ := h.dom l o hl; (h.bnd l _ hp).1

theorem Rel.bump {ρ : LMap} {σ : Heap} {w : World} (h : Rel ρ σ w) (n : Nat) : Rel ρ (σ.bump n) w :=
  ⟨h.dom, h.excl, fun l p hl => let ⟨a, b⟩ := h.bnd l p hl; ⟨by simp; omega, b⟩⟩

def Occ (ρ : LMap) (σ : Heap) (q : Bool) (b : Nat) : Prop := ∃ l o p, σ.get l = some o ∧ o.owned = q ∧ ρ l = some p ∧ p.blk = b
abbrev Owned (ρ : LMap) (σ : Heap) (b : Nat) : Prop := Occ ρ σ true b

structure Frm (ρ : LMap) (σ : Heap) (w : World) (ρ' : LMap) (σ' : Heap) (w' : World) : Prop where
  le : ρ.le ρ'
  os : w'.os = w.os
  tape : w'.tape = w.tape
  output : w'.output = w.output
  size : w.heap.size ≤ w'.heap.size
  nxt : σ.nxt ≤ σ'.nxt
  blk : ∀ b, b < w.heap.size → ¬ Owned ρ σ b → w'.heap[b]? = w.heap[b]?
  own : ∀ q b, b < w.heap.size → Occ ρ' σ' q b → Occ ρ σ q b

theorem Frm.refl (ρ : LMap) (σ : Heap) (w : World) : Frm ρ σ w ρ σ w := ⟨ρ.le_refl, rfl, rfl, rfl, Nat.le_refl _, Nat.le_refl _, fun _ _ _ => rfl, fun _ _ _ h => h⟩

theorem Frm.trans {ρ ρ₁ ρ₂ : LMap} {σ σ₁ σ₂ : Heap} {w w₁ w₂ : World} (h : Frm ρ σ w ρ₁ σ₁ w₁) (k : Frm ρ₁ σ₁ w₁ ρ₂ σ₂ w₂) : Frm ρ σ w ρ₂ σ₂ w₂ where
  le := LMap.le_trans h.le k.le
  os := k.os.trans h.os
  tape := k.tape.trans h.tape
  output := k.output.trans h.output
  size := Nat.le_trans h.size k.size
  nxt := Nat.le_trans h.nxt k.nxt
  blk := fun b hb hn => (k.blk b (Nat.lt_of_lt_of_le hb h.size) (fun ho => hn (h.own _ b hb ho))).trans (h.blk b hb hn)
  own := fun q b hb ho => h.own q b hb (k.own q b (Nat.lt_of_lt_of_le hb h.size) ho)

structure Fin (ρ : LMap) (σ : Heap) (ρ' : LMap) (σ' : Heap) : Prop where
  old : ∀ l, l < σ.nxt → ρ' l = ρ l
  gone : ∀ l, l < σ.nxt → σ.get l = none → σ'.get l = none

theorem Fin.refl (ρ : LMap) (σ : Heap) : Fin ρ σ ρ σ := ⟨fun _ _ => rfl, fun _ _ h => h⟩
theorem Fin.trans {ρ ρ₁ ρ₂ : LMap} {σ σ₁ σ₂ : Heap} (h : Fin ρ σ ρ₁ σ₁) (k : Fin ρ₁ σ₁ ρ₂ σ₂) (hn : σ.nxt ≤ σ₁.nxt) : Fin ρ σ ρ₂ σ₂ :=
  ⟨fun l hl => (k.old l (by omega)).trans (h.old l hl), fun l hl hg => k.gone l (by omega) (h.gone l hl hg)⟩

def ACall (P : Program) (f : FuncId) (args : Array Value) (σ : Heap) (R : Value → Heap → Prop) : Prop :=
  ∀ ρ w args', Rel ρ σ w → VsRel ρ args args' → Calls P f args' w fun e w' =>
    ∃ v v' ρ' σ', e = .returned v' ∧ Rel ρ' σ' w' ∧ Frm ρ σ w ρ' σ' w' ∧ Fin ρ σ ρ' σ' ∧ VRel ρ' v v' ∧ R v σ'

theorem ACall.mono {P : Program} {f : FuncId} {args : Array Value} {σ : Heap} {R R' : Value → Heap → Prop} (h : ACall P f args σ R)
    (hr : ∀ v σ', R v σ' → R' v σ') : ACall P f args σ R' :=
  fun ρ w args' h1 h2 => (h ρ w args' h1 h2).mono fun _ _ ⟨v, v', ρ', σ', a, b, c, d, e, r⟩ => ⟨v, v', ρ', σ', a, b, c, d, e, hr _ _ r⟩

def Heap.WF (σ : Heap) : Prop := ∀ l o, σ.get l = some o → l < σ.nxt

def Gone (σ σ' : Heap) : Prop := ∀ l, l < σ.nxt → σ.get l = none → σ'.get l = none

theorem ACall.strong {P : Program} {f : FuncId} {args : Array Value} {σ : Heap} {R : Value → Heap → Prop} (h : ACall P f args σ R) :
    ACall P f args σ fun v σ' => R v σ' ∧ σ'.WF ∧ σ.nxt ≤ σ'.nxt ∧ Gone σ σ' :=
  fun ρ w args' h1 h2 => (h ρ w args' h1 h2).mono fun _ _ ⟨v, v', ρ', σ', a, b, c, d, e, r⟩ => ⟨v, v', ρ', σ', a, b, c, d, e, r, fun _ _ hl => b.lt hl, c.nxt, d.gone⟩

theorem ACall.wf {P : Program} {f : FuncId} {args : Array Value} {σ : Heap} {R : Value → Heap → Prop} (h : σ.WF → ACall P f args σ R) : ACall P f args σ R :=
  fun ρ w args' h1 h2 => h (fun _ _ hl => h1.lt hl) ρ w args' h1 h2

theorem ACall.some {P : Program} {f : FuncId} {args args' : Array Value} {σ : Heap} {R : Value → Heap → Prop} {ρ : LMap} {w : World} (h : ACall P f args σ R) (hr : Rel ρ σ w) (ha : VsRel ρ args args') :
    ∃ v v' ρ' σ' w', Rel ρ' σ' w' ∧ Frm ρ σ w ρ' σ' w' ∧ Fin ρ σ ρ' σ' ∧ VRel ρ' v v' ∧ R v σ' := by
  obtain ⟨e, w', fr, ⟨v, v', ρ', σ', _, b, c, d, x, r⟩, _⟩ := h ρ w args' hr ha []
  exact ⟨v, v', ρ', σ', w', b, c, d, x, r⟩

def Heap.over (σ g : Heap) : Heap := { get := fun l => match g.get l with | some o => some o | none => σ.get l, nxt := σ.nxt }

theorem Heap.over_some {σ g : Heap} {l : Nat} {o : AObj} (h : g.get l = some o) : (σ.over g).get l = some o := by simp [Heap.over, h]
theorem Heap.over_none {σ g : Heap} {l : Nat} (h : g.get l = none) : (σ.over g).get l = σ.get l := by simp [Heap.over, h]

theorem frame_over {P : Program} {f : FuncId} {args : Array Value} {σ g : Heap} {R : Value → Heap → Prop} (hd : ∀ l o, g.get l = some o → σ.get l = none)
    (h : ACall P f args σ R) : ACall P f args (σ.over g) fun v τ => ∃ σ', R v σ' ∧ (∀ l o, g.get l = some o → σ'.get l = none) ∧ τ = σ'.over g := by
  intro ρ w args' hrel hargs
  have hsub : ∀ l o, σ.get l = some o → (σ.over g).get l = some o := by
    intro l o hl
    cases hg : g.get l with
    | none => rw [Heap.over_none hg]; exact hl
    | some o' => rw [hd l o' hg] at hl; cases hl
  have hrel' : Rel ρ σ w := ⟨fun l o hl => hrel.dom l o (hsub l o hl), fun l l' o o' p p' hne h1 h2 => hrel.excl l l' o o' p p' hne (hsub _ _ h1) (hsub _ _ h2), hrel.bnd⟩
  refine (h ρ w args' hrel' hargs).mono ?_
  rintro e w' ⟨v, v', ρ', σ', he, hR', hF, hN, hv, hr⟩
  have hgblk : ∀ l o p, g.get l = some o → ρ l = some p → p.blk < w.heap.size ∧ ¬ Owned ρ σ p.blk := by
    intro l o p hl hp
    refine ⟨(hrel.bnd l p hp).2, ?_⟩
    rintro ⟨l2, o2, p2, h2, ho2, hp2, hb2⟩
    refine hrel.excl l2 l o2 o p2 p ?_ (hsub _ _ h2) (Heap.over_some hl) ho2 hp2 hp hb2
    intro e; subst e; rw [hd _ _ hl] at h2; cases h2
  have hgdom : ∀ l o, g.get l = some o → ∃ p, ρ l = some p ∧ ρ' l = some p ∧ Real ρ' p w' o := by
    intro l o hl
    obtain ⟨p, hp, hre⟩ := hrel.dom l o (Heap.over_some hl)
    obtain ⟨hb, hno⟩ := hgblk l o p hl hp
    exact ⟨p, hp, hF.le _ _ hp, hre.mono hF.le (hF.blk _ hb hno)⟩
  refine ⟨v, v', ρ', σ'.over g, he, ⟨?_, ?_, hR'.bnd⟩, ⟨hF.le, hF.os, hF.tape, hF.output, hF.size, hF.nxt, ?_, ?_⟩, ⟨hN.old, ?_⟩, hv, σ', hr, ?_, rfl⟩
  · intro l o hl
    cases hg : g.get l with
    | none => rw [Heap.over_none hg] at hl; exact hR'.dom l o hl
    | some o' =>
      rw [Heap.over_some hg] at hl; cases hl
      obtain ⟨p, _, h2, h3⟩ := hgdom l o hg
      exact ⟨p, h2, h3⟩
  · intro l l' o o' p p' hne h1 h2 ho hp hp'
    cases hg : g.get l with
    | none =>
      rw [Heap.over_none hg] at h1
      cases hg' : g.get l' with
      | none => rw [Heap.over_none hg'] at h2; exact hR'.excl l l' o o' p p' hne h1 h2 ho hp hp'
      | some x =>
        obtain ⟨q, hq, hq', _⟩ := hgdom l' x hg'
        rw [hq'] at hp'; have hp' := Option.some.inj hp'; subst hp'
        obtain ⟨hb, hno⟩ := hgblk l' x q hg' hq
        intro hbb
        exact hno (hF.own _ _ hb ⟨l, o, p, h1, ho, hp, hbb⟩)
    | some x =>
      rw [Heap.over_some hg] at h1; cases h1
      obtain ⟨q, hq, hq', _⟩ := hgdom l o hg
      rw [hq'] at hp; have hp := Option.some.inj hp; subst hp
      obtain ⟨hb, hno⟩ := hgblk l o q hg hq
      cases hg' : g.get l' with
      | none =>
        rw [Heap.over_none hg'] at h2
        intro hbb
        obtain ⟨l2, o2, p2, a1, a2, a3, a4⟩ := hF.own o'.owned _ hb ⟨l', o', p', h2, rfl, hp', hbb.symm⟩
        refine hrel.excl l l2 o o2 q p2 ?_ (Heap.over_some hg) (hsub _ _ a1) ho hq a3 a4.symm
        intro e; subst e; rw [hd _ _ hg] at a1; cases a1
      | some y =>
        rw [Heap.over_some hg'] at h2; cases h2
        obtain ⟨q', hq2, hq2', _⟩ := hgdom l' o' hg'
        rw [hq2'] at hp'; have hp' := Option.some.inj hp'; subst hp'
        exact hrel.excl l l' o o' q q' hne (Heap.over_some hg) (Heap.over_some hg') ho hq hq2
  · intro b hb hno
    refine hF.blk b hb fun ⟨l, o, p, h1, h2, h3, h4⟩ => hno ⟨l, o, p, hsub l o h1, h2, h3, h4⟩
  · rintro qq b hb ⟨l, o, p, h1, h2, h3, h4⟩
    cases hg : g.get l with
    | none =>
      rw [Heap.over_none hg] at h1
      obtain ⟨l2, o2, p2, a1, a2, a3, a4⟩ := hF.own qq b hb ⟨l, o, p, h1, h2, h3, h4⟩
      exact ⟨l2, o2, p2, hsub _ _ a1, a2, a3, a4⟩
    | some x =>
      rw [Heap.over_some hg] at h1; cases h1
      obtain ⟨q, hq, hq', _⟩ := hgdom l o hg
      rw [hq'] at h3; have h3 := Option.some.inj h3; subst h3
      exact ⟨l, o, q, Heap.over_some hg, h2, hq, h4⟩
  · intro l hl hn
    cases hg : g.get l with
    | none => rw [Heap.over_none hg] at hn ⊢; exact hN.gone l hl hn
    | some x => rw [Heap.over_some hg] at hn; cases hn
  · intro l o hl
    obtain ⟨q, hq, _, _⟩ := hgdom l o hl
    exact hN.gone l (hrel.bnd _ _ hq).1 (hd _ _ hl)

end Go.Proofs.YtfchjhfccnodpaaGreat
end

section
namespace Go.Proofs.YtfchjhfccnodpaaGreat
set_option linter.unusedSimpArgs false
set_option linter.unusedVariables false

def LMap.set (ρ : LMap) (l : Nat) (p : Pl) : LMap := fun x => if x = l then some p else ρ x
theorem LMap.set_same (ρ : LMap) (l : Nat) (p : Pl) : ρ.set l p l = some p := by simp [LMap.set]
theorem LMap.set_ne (ρ : LMap) {l x : Nat} (p : Pl) (h : x ≠ l) : ρ.set l p x = ρ x := by simp [LMap.set, h]
theorem LMap.le_set {ρ : LMap} {l : Nat} (p : Pl) (h : ρ l = none) : ρ.le (ρ.set l p) := by
  intro x q hx
  by_cases e : x = l
  · subst e; rw [h] at hx; cases hx
  · rw [LMap.set_ne _ _ e]; exact hx

structure Same (w w' : World) : Prop where
  os : w'.os = w.os
  tape : w'.tape = w.tape
  output : w'.output = w.output

theorem Same.refl (w : World) : Same w w := ⟨rfl, rfl, rfl⟩

theorem Rel.get_none {ρ : LMap} {σ : Heap} {w : World} (h : Rel ρ σ w) {l : Nat} (hl : ρ l = none) : σ.get l = none := by
  cases hg : σ.get l with
  | none => rfl
  | some o => obtain ⟨p, hp, _⟩ := h.dom l o hg; rw [hl] at hp; cases hp

theorem step_same {ρ : LMap} {σ : Heap} {w w' : World} (h : Rel ρ σ w) (hs : Same w w') (hh : w'.heap = w.heap) : Rel ρ σ w' ∧ Frm ρ σ w ρ σ w' :=
  ⟨⟨fun l o hl => let ⟨p, hp, hr⟩ := h.dom l o hl; ⟨p, hp, hr.mono ρ.le_refl (by rw [hh])⟩, h.excl, fun l p hl => let ⟨a, b⟩ := h.bnd l p hl; ⟨a, by rw [hh]; exact b⟩⟩,
   ⟨ρ.le_refl, hs.os, hs.tape, hs.output, by rw [hh]; exact Nat.le_refl _, Nat.le_refl _, fun _ _ _ => by rw [hh], fun _ _ _ x => x⟩⟩

theorem step_push {ρ : LMap} {σ : Heap} {w w' : World} (h : Rel ρ σ w) {nm : Nat} (hn : ρ nm = none) (hlt : nm < σ.nxt) (O : Obj) (o : AObj) (p : Pl)
    (hp : p.blk = w.heap.size) (hs : Same w w') (hh : w'.heap = w.heap.push O) (hre : Real (ρ.set nm p) p w' o) :
    Rel (ρ.set nm p) (σ.upd nm (some o)) w' ∧ Frm ρ σ w (ρ.set nm p) (σ.upd nm (some o)) w' := by
  have hle := LMap.le_set p hn
  have hold : ∀ b, b < w.heap.size → w'.heap[b]? = w.heap[b]? := fun b hb => by rw [hh, Array.getElem?_push, if_neg (by omega)]
  refine ⟨⟨?_, ?_, ?_⟩, ⟨hle, hs.os, hs.tape, hs.output, by rw [hh]; simp, Nat.le_refl _, fun b hb _ => hold b hb, ?_⟩⟩
  · intro l x hl
    by_cases e : l = nm
    · subst e
      rw [Heap.upd_same] at hl; cases hl
      exact ⟨p, LMap.set_same _ _ _, hre⟩
    · rw [Heap.upd_ne _ _ e] at hl
      obtain ⟨q, hq, hr⟩ := h.dom l x hl
      exact ⟨q, hle _ _ hq, hr.mono hle (hold _ (h.bnd _ _ hq).2)⟩
  · intro l l' x x' q q' hne h1 h2 hx hq hq'
    by_cases e : l = nm
    · subst e
      rw [LMap.set_same] at hq; cases hq
      rw [LMap.set_ne _ _ (Ne.symm hne)] at hq'
      have := (h.bnd _ _ hq').2
      omega
    · rw [LMap.set_ne _ _ e] at hq
      by_cases e' : l' = nm
      · subst e'
        rw [LMap.set_same] at hq'; cases hq'
        have := (h.bnd _ _ hq).2
        omega
      · rw [LMap.set_ne _ _ e'] at hq'
        rw [Heap.upd_ne _ _ e] at h1
        rw [Heap.upd_ne _ _ e'] at h2
        exact h.excl l l' x x' q q' hne h1 h2 hx hq hq'
  · intro l q hq
    by_cases e : l = nm
    · subst e
      rw [LMap.set_same] at hq; cases hq
      exact ⟨hlt, by rw [hh, hp]; simp⟩
    · rw [LMap.set_ne _ _ e] at hq
      obtain ⟨a, b⟩ := h.bnd _ _ hq
      exact ⟨a, by rw [hh]; simp; omega⟩
  · rintro q b hb ⟨l, x, r, h1, h2, h3, h4⟩
    by_cases e : l = nm
    · subst e
      rw [LMap.set_same] at h3; cases h3
      omega
    · rw [LMap.set_ne _ _ e] at h3
      rw [Heap.upd_ne _ _ e] at h1
      exact ⟨l, x, r, h1, h2, h3, h4⟩

theorem step_write {ρ : LMap} {σ : Heap} {w w' : World} (h : Rel ρ σ w) {l : Nat} {o₀ o : AObj} {p : Pl} (hl : σ.get l = some o₀) (ho₀ : o₀.owned = true) (hp : ρ l = some p)
    (hs : Same w w') (hsz : w'.heap.size = w.heap.size) (hb : ∀ b, b ≠ p.blk → w'.heap[b]? = w.heap[b]?) (ho : o.owned = true) (hre : Real ρ p w' o) :
    Rel ρ (σ.upd l (some o)) w' ∧ Frm ρ σ w ρ (σ.upd l (some o)) w' := by
  refine ⟨⟨?_, ?_, ?_⟩, ⟨ρ.le_refl, hs.os, hs.tape, hs.output, by omega, Nat.le_refl _, fun b _ hno => hb b fun e => hno ⟨l, o₀, p, hl, ho₀, hp, e.symm⟩, ?_⟩⟩
  · intro x y hx
    by_cases e : x = l
    · subst e
      rw [Heap.upd_same] at hx; cases hx
      exact ⟨p, hp, hre⟩
    · rw [Heap.upd_ne _ _ e] at hx
      obtain ⟨q, hq, hr⟩ := h.dom x y hx
      exact ⟨q, hq, hr.mono ρ.le_refl (hb _ (fun hbb => h.excl l x o₀ y p q (Ne.symm e) hl hx ho₀ hp hq hbb.symm))⟩
  · intro a b x y q q' hne h1 h2 hx hq hq'
    by_cases e : a = l
    · subst e
      rw [Heap.upd_ne _ _ (Ne.symm hne)] at h2
      rw [hp] at hq; cases hq
      exact h.excl _ b o₀ y p q' hne hl h2 ho₀ hp hq'
    · rw [Heap.upd_ne _ _ e] at h1
      by_cases e' : b = l
      · subst e'
        rw [hp] at hq'; cases hq'
        exact fun hbb => h.excl _ a o₀ x p q (Ne.symm hne) hl h1 ho₀ hp hq hbb.symm
      · rw [Heap.upd_ne _ _ e'] at h2
        exact h.excl a b x y q q' hne h1 h2 hx hq hq'
  · intro x q hq
    obtain ⟨a, b⟩ := h.bnd x q hq
    exact ⟨a, by omega⟩
  · rintro q b hb' ⟨x, y, r, h1, h2, h3, h4⟩
    by_cases e : x = l
    · subst e
      rw [Heap.upd_same] at h1; cases h1
      rw [hp] at h3; cases h3
      exact ⟨_, o₀, p, hl, by rw [ho₀, ← h2, ho], hp, h4⟩
    · rw [Heap.upd_ne _ _ e] at h1
      exact ⟨x, y, r, h1, h2, h3, h4⟩

theorem step_kill {ρ : LMap} {σ : Heap} {w : World} (h : Rel ρ σ w) (l : Nat) : Rel ρ (σ.upd l none) w ∧ Frm ρ σ w ρ (σ.upd l none) w := by
  have hsub : ∀ x o, (σ.upd l none).get x = some o → σ.get x = some o := by
    intro x o hx
    by_cases e : x = l
    · subst e; rw [Heap.upd_same] at hx; cases hx
    · rwa [Heap.upd_ne _ _ e] at hx
  exact ⟨⟨fun x o hx => h.dom x o (hsub x o hx), fun a b x y q q' hne h1 h2 => h.excl a b x y q q' hne (hsub _ _ h1) (hsub _ _ h2), h.bnd⟩,
    ⟨ρ.le_refl, rfl, rfl, rfl, Nat.le_refl _, Nat.le_refl _, fun _ _ _ => rfl, fun q b _ ⟨x, y, r, h1, h2⟩ => ⟨x, y, r, hsub _ _ h1, h2⟩⟩⟩

theorem step_move {ρ : LMap} {σ : Heap} {w w' : World} (h : Rel ρ σ w) {l nm : Nat} {o₀ o : AObj} {p p' : Pl} (hl : σ.get l = some o₀) (ho₀ : o₀.owned = true) (hp : ρ l = some p)
    (hn : ρ nm = none) (hlt : nm < σ.nxt) (hpp : p'.blk = p.blk)
    (hs : Same w w') (hsz : w'.heap.size = w.heap.size) (hb : ∀ b, b ≠ p.blk → w'.heap[b]? = w.heap[b]?) (ho : o.owned = true) (hre : Real (ρ.set nm p') p' w' o) :
    Rel (ρ.set nm p') ((σ.upd l none).upd nm (some o)) w' ∧ Frm ρ σ w (ρ.set nm p') ((σ.upd l none).upd nm (some o)) w' := by
  have hle := LMap.le_set p' hn
  have hnl : nm ≠ l := by intro e; subst e; rw [hn] at hp; cases hp
  have hsub : ∀ x y, x ≠ nm → ((σ.upd l none).upd nm (some o)).get x = some y → x ≠ l ∧ σ.get x = some y := by
    intro x y hx hy
    rw [Heap.upd_ne _ _ hx] at hy
    by_cases e : x = l
    · subst e; rw [Heap.upd_same] at hy; cases hy
    · rw [Heap.upd_ne _ _ e] at hy; exact ⟨e, hy⟩
  refine ⟨⟨?_, ?_, ?_⟩, ⟨hle, hs.os, hs.tape, hs.output, by omega, Nat.le_refl _, fun b _ hno => hb b fun e => hno ⟨l, o₀, p, hl, ho₀, hp, e.symm⟩, ?_⟩⟩
  · intro x y hx
    by_cases e : x = nm
    · subst e
      rw [Heap.upd_same] at hx; cases hx
      exact ⟨p', LMap.set_same _ _ _, hre⟩
    · obtain ⟨hxl, hy⟩ := hsub x y e hx
      obtain ⟨q, hq, hr⟩ := h.dom x y hy
      exact ⟨q, hle _ _ hq, hr.mono hle (hb _ (fun hbb => h.excl l x o₀ y p q (Ne.symm hxl) hl hy ho₀ hp hq hbb.symm))⟩
  · intro a b x y q q' hne h1 h2 hx hq hq'
    by_cases e : a = nm
    · subst e
      obtain ⟨hbl, hy⟩ := hsub b y (Ne.symm hne) h2
      rw [LMap.set_same] at hq; cases hq
      rw [LMap.set_ne _ _ (Ne.symm hne)] at hq'
      rw [hpp]
      exact h.excl l b o₀ y p q' (Ne.symm hbl) hl hy ho₀ hp hq'
    · obtain ⟨hal, hxx⟩ := hsub a x e h1
      rw [LMap.set_ne _ _ e] at hq
      by_cases e' : b = nm
      · subst e'
        rw [LMap.set_same] at hq'; cases hq'
        rw [hpp]
        exact fun hbb => h.excl l a o₀ x p q (Ne.symm hal) hl hxx ho₀ hp hq hbb.symm
      · obtain ⟨hbl, hy⟩ := hsub b y e' h2
        rw [LMap.set_ne _ _ e'] at hq'
        exact h.excl a b x y q q' hne hxx hy hx hq hq'
  · intro x q hq
    by_cases e : x = nm
    · subst e
      rw [LMap.set_same] at hq; cases hq
      exact ⟨hlt, by rw [hpp, hsz]; exact (h.bnd _ _ hp).2⟩
    · rw [LMap.set_ne _ _ e] at hq
      obtain ⟨a, b⟩ := h.bnd x q hq
      exact ⟨a, by omega⟩
  · rintro q b hb' ⟨x, y, r, h1, h2, h3, h4⟩
    by_cases e : x = nm
    · subst e
      rw [Heap.upd_same] at h1; cases h1
      rw [LMap.set_same] at h3; cases h3
      exact ⟨l, o₀, p, hl, by rw [ho₀, ← h2, ho], hp, by rw [← hpp]; exact h4⟩
    · obtain ⟨hxl, hy⟩ := hsub x y e h1
      rw [LMap.set_ne _ _ e] at h3
      exact ⟨x, y, r, hy, h2, h3, h4⟩

end Go.Proofs.YtfchjhfccnodpaaGreat
end

section
namespace Go.Proofs.YtfchjhfccnodpaaGreat
set_option linter.unusedSimpArgs false
set_option linter.unusedVariables false

def pureRun {α : Type} (P : Program) : Sem α → Option α
  | .pure a => some a
  | .program k => pureRun P (k P)
  | _ => none

theorem pureRun_run {α : Type} {P : Program} {s : Sem α} {a : α} (h : pureRun P s = some a) (w : World) : s.run P w = .ok a w := by
  induction s with
  | pure b => simp [pureRun] at h; subst h; rfl
  | program k ih => simp [pureRun] at h; simp only [Sem.run]; exact ih P h
  | _ => simp [pureRun] at h

structure Eff where
  val : Value
  wr : Option (Nat × Option AObj)
  new : Option AObj

def Heap.wr (σ : Heap) : Option (Nat × Option AObj) → Heap
  | some (l, o) => σ.upd l o
  | none => σ
def Heap.nw (σ : Heap) (nm : Nat) : Option AObj → Heap
  | some o => σ.upd nm (some o)
  | none => σ
def Heap.app (σ : Heap) (nm : Nat) (e : Eff) : Heap := (σ.wr e.wr).nw nm e.new

structure Prim where
  reads : List Nat
  act : Nat → List AObj → Option Eff

def Prim.ofVal (v : Value) : Prim := ⟨[], fun _ _ => some ⟨v, none, none⟩⟩
def Prim.newCells (c : List Value) (sz : Nat) : Prim := ⟨[], fun nm _ => some ⟨.pointer (some ⟨nm, 0, none⟩), none, some (.cells c sz false)⟩⟩
def Prim.newSlice (c : List Value) (sz n : Nat) : Prim := ⟨[], fun nm _ => some ⟨.slice (some ⟨nm, 0, none⟩) n n, none, some (.cells c sz false)⟩⟩

def getAll (g : Nat → Option AObj) : List Nat → Option (List AObj)
  | [] => some []
  | l :: r => (g l).bind fun o => (getAll g r).map (o :: ·)

def Prim.run (p : Prim) (σ : Heap) (nm : Nat) : Option Eff := (getAll σ.get p.reads).bind (p.act nm)

def aeval (a : Act) : Operand → Option Value
  | .tmp t => some (a.tmps.getD t undef)
  | .const v => if plainV v then some v else none
  | .func f => some (.func (.func f) #[] #[])
  | .global _ => none

abbrev Ev := Operand → Option Value

def szO (P : Program) (t : TypeId) : Option Nat := (P.info? t).map (·.size)
def bytesO (P : Program) (t : TypeId) : Option Nat := (P.info? t).map (·.bytes)
def zeroO (P : Program) (t : TypeId) : Option Value := (P.info? t).bind (·.zero)
def aggO (P : Program) (t : TypeId) : Option Bool := (P.underlying t).map fun | .struct _ => true | .array _ _ => true | _ => false
def zeroP (P : Program) (t : TypeId) : Option Value := (zeroO P t).bind fun z => if plainV z then some z else none

def partO (P : Program) (t : TypeId) (c : List Value) (o : Nat) : Option Value :=
  (aggO P t).bind fun
    | true => (szO P t).bind fun s => if o + s ≤ c.length then some (.agg ((c.drop o).take s).toArray) else none
    | false => c[o]?

def splice (c : List Value) (o : Nat) (vs : List Value) : List Value := c.take o ++ vs ++ c.drop (o + vs.length)

def oneCell : Value → Bool
  | .agg _ => false
  | .tuple _ => false
  | _ => true

def plainEv (ev : Ev) (x : Operand) : Option Value := (ev x).bind fun v => if plainV v then some v else none
def pureVal (P : Program) (s : Sem Value) : Option Prim := (pureRun P s).bind fun v => if plainV v then some (.ofVal v) else none

def nilCmp (P : Program) (t : TypeId) (a b : Value) : Bool :=
  match P.underlying t, a, b with
  | some (.pointer _), .pointer (some _), .pointer none => true
  | some (.slice _), .slice (some _) _ _, .slice none _ _ => true
  | some (.map _ _), .map (some _), .map none => true
  | some (.func _ _ _), .func _ _ _, .nilFunc => true
  | _, _, _ => false

def aBin (P : Program) (ev : Ev) (op : BinOp) (t : TypeId) (x y : Operand) : Option Prim :=
  (ev x).bind fun a => (ev y).bind fun b =>
    if plainV a && plainV b then pureVal P (do eqGuard op t x y a b; binOp op t a b)
    else if nilCmp P t a b then match op with
      | .eql => some (.ofVal (.bool false))
      | .neq => some (.ofVal (.bool true))
      | _ => none
    else none

def placesO (P : Program) (t : TypeId) : Option (Nat → Option (Nat × Nat)) :=
  (P.underlying t).bind fun
    | .struct fields => (pureRun P (fields.mapM fun f => do pure (f.offset, ← sizeOf f.type))).map fun ps => (ps[·]?)
    | .array _ elem => (szO P elem).map fun size => fun i => some (i * size, size)
    | _ => none

def evParts (ev : Ev) : List (Nat × Operand) → Option (List (Nat × Value))
  | [] => some []
  | (i, x) :: r => (ev x).bind fun v => (evParts ev r).map ((i, v) :: ·)
def evList (ev : Ev) : List Operand → Option (List Value)
  | [] => some []
  | x :: r => (ev x).bind fun v => (evList ev r).map (v :: ·)

def aBuild (P : Program) (ev : Ev) (t : TypeId) (parts : Array (Nat × Operand)) : Option Prim :=
  (zeroP P t).bind fun z => (placesO P t).bind fun pl => (evParts ev parts.toList).bind fun ps => (Instr.fill pl z.cells ps).map fun cs => .ofVal (.agg cs)

def aBuildSlice (P : Program) (ev : Ev) (t : TypeId) (len : Nat) (parts : Array (Nat × Operand)) : Option Prim :=
  match P.underlying t with
  | some (.slice elem) =>
    (szO P elem).bind fun size => (zeroP P elem).bind fun z => (evParts ev parts.toList).bind fun ps =>
      if len * size ≤ 2 ^ 24 && 0 < size && z.cells.size = size && plainL plainV z.cells.toList then
        (Instr.fill (fun i => some (i * size, size)) ((Array.range (len * size)).map (z.cells[· % z.cells.size]!)) ps).map fun cs => .newSlice cs.toList size len
      else none
  | _ => none

def aLoad (P : Program) (ev : Ev) (t : TypeId) (a : Operand) : Option Prim :=
  (ev a).bind fun
    | .pointer (some ⟨l, o, none⟩) => some ⟨[l], fun _ objs => match objs with
        | [.cells c _ _] => (partO P t c o).map fun v => ⟨v, none, none⟩
        | _ => none⟩
    | _ => none

def aStore (P : Program) (ev : Ev) (t : TypeId) (a x : Operand) : Option Prim :=
  (ev a).bind fun
    | .pointer (some ⟨l, o, none⟩) => (ev x).bind fun v => (szO P t).bind fun s =>
        if v.cells.size = s && plainL oneCell v.cells.toList then
          some ⟨[l], fun _ objs => match objs with
            | [.cells c sz false] => if o + s ≤ c.length then some ⟨undef, some (l, some (.cells (splice c o v.cells.toList) sz false)), none⟩ else none
            | _ => none⟩
        else none
    | _ => none

def aNil (ev : Ev) (x : Operand) : Option Prim :=
  (ev x).bind fun
    | .pointer (some a) => some (.ofVal (.pointer (some a)))
    | .func (.func f) a b => some (.ofVal (.func (.func f) a b))
    | _ => none

def bytesOf : List Value → ByteArray → Option ByteArray
  | [], acc => some acc
  | .int .u8 n :: r, acc => bytesOf r (acc.push (UInt8.ofNat n.toNat))
  | _ :: _, _ => none

def aConvert (P : Program) (ev : Ev) (src dst : TypeId) (x : Operand) : Option Prim :=
  (ev x).bind fun v => match P.underlying src, P.underlying dst, v with
    | some .string, some (.slice e), .string s =>
      match P.underlying e with
      | some (.int .u8) => some (.newSlice (s.data.toList.map fun b => .int .u8 b.toNat) 1 s.size)
      | _ => none
    | some (.slice e), some .string, .slice none _ _ =>
      match P.underlying e with
      | some (.int .u8) => some (.ofVal (.string .empty))
      | _ => none
    | some (.slice e), some .string, .slice (some ⟨_, _, some _⟩) 0 _ =>
      match P.underlying e with
      | some (.int .u8) => some (.ofVal (.string .empty))
      | _ => none
    | some (.slice e), some .string, .slice (some ⟨l, o, none⟩) n _ =>
      match P.underlying e with
      | some (.int .u8) => if n = 0 then some (.ofVal (.string .empty)) else some ⟨[l], fun _ objs => match objs with
          | [.cells c _ _] => if o + n ≤ c.length then
              (bytesOf ((c.drop o).take n) ByteArray.empty).map fun s => ⟨.string s, none, none⟩ else none
          | _ => none⟩
      | _ => none
    | some (.slice _), some (.slice e), .slice (some ⟨l, o, none⟩) n c =>
      match P.underlying e with
      | some (.int .u8) => if src == dst then some ⟨[l], fun _ objs => match objs with
          | [.cells cl sz false] => some ⟨.slice (some ⟨l, o, none⟩) n c, some (l, some (.cells cl sz false)), none⟩
          | _ => none⟩ else none
      | _ => none
    | some (.pointer t), some .unsafePointer, .pointer (some ⟨l, o, none⟩) => (szO P t).bind fun s =>
      if s = 0 then none else some ⟨[l], fun _ objs => match objs with
          | [.cells cl _ _] => if o < cl.length then some ⟨.pointer (some ⟨l, o, none⟩), none, none⟩ else none
          | _ => none⟩
    | _, _, v => if plainV v then pureVal P (convert src dst v) else none

def aMakeFunc (ev : Ev) (fn : Fn) (first captured : Array Operand) : Option Prim :=
  match fn with
  | .func f => (evList ev first.toList).bind fun a => (evList ev captured.toList).map fun b => .ofVal (.func (.func f) a.toArray b.toArray)
  | _ => none

def aMakeMap (P : Program) (ev : Ev) (t : TypeId) (r : Option Operand) : Option Prim :=
  match r with
  | none => some ⟨[], fun nm _ => some ⟨.map (some nm), none, some (.map [] 0)⟩⟩
  | some x => (ev x).bind fun
    | .int _ _ => match P.underlying t with
      | some (.map _ _) => some ⟨[], fun nm _ => some ⟨.map (some nm), none, some (.map [] 0)⟩⟩
      | _ => none
    | _ => none

def aMakeSlice (P : Program) (ev : Ev) (t : TypeId) (len cap : Operand) : Option Prim :=
  match P.underlying t with
  | some (.slice elem) =>
    (ev len).bind fun
      | .int _ l => (ev cap).bind fun
        | .int _ c => (szO P elem).bind fun size => (bytesO P elem).bind fun by_ => (zeroP P elem).bind fun z =>
          if 0 ≤ l && l ≤ c && c ≤ 2 ^ 40 && by_ * c ≤ 2 ^ 47 && 0 < size && z.cells.size = size && plainL plainV z.cells.toList then
            some ⟨[], fun nm _ => some ⟨.slice (some ⟨nm, 0, none⟩) l.toNat c.toNat, none, some (.cells ((Array.range (c.toNat * size)).map (z.cells[· % z.cells.size]!)).toList size false)⟩⟩
          else none
        | _ => none
      | _ => none
  | _ => none

def boundO (ev : Ev) (x : Option Operand) (dflt y : Nat) : Option Nat :=
  match x with
  | none => if dflt ≤ y then some dflt else none
  | some x => (ev x).bind fun
    | .int _ i => if 0 ≤ i ∧ i ≤ y then some i.toNat else none
    | _ => none

def aSlice (P : Program) (ev : Ev) (t : TypeId) (x : Operand) (lo hi mx : Option Operand) : Option Prim :=
  match P.underlying t with
  | some .string => (plainEv ev x).bind fun v => match lo, hi, mx with
      | none, none, none => pureVal P (Instr.slice t v none none none)
      | some a, none, none => (plainEv ev a).bind fun a => pureVal P (Instr.slice t v (some a) none none)
      | none, some b, none => (plainEv ev b).bind fun b => pureVal P (Instr.slice t v none (some b) none)
      | some a, some b, none => (plainEv ev a).bind fun a => (plainEv ev b).bind fun b => pureVal P (Instr.slice t v (some a) (some b) none)
      | _, _, _ => none
  | some (.slice elem) => (szO P elem).bind fun size => (ev x).bind fun
      | .slice none 0 0 => (boundO ev mx 0 0).bind fun m => (boundO ev hi 0 m).bind fun h => (boundO ev lo 0 h).bind fun _ => if mx.isSome && hi.isNone then none else some (.ofVal (.slice none 0 0))
      | .slice (some ⟨l, o, some s⟩) 0 0 => (boundO ev mx 0 0).bind fun m => (boundO ev hi 0 m).bind fun h => (boundO ev lo 0 h).bind fun _ => if mx.isSome && hi.isNone then none else some (.ofVal (.slice (some ⟨l, o, some s⟩) 0 0))
      | .slice (some ⟨l, o, none⟩) n c => match mx with
        | some _ => (boundO ev mx c c).bind fun m => if hi.isNone then none else (boundO ev hi n m).bind fun h => (boundO ev lo 0 h).bind fun a =>
            some (.ofVal (.slice (some ⟨l, if m = a then o else o + a * size, none⟩) (h - a) (m - a)))
        | none => (boundO ev hi n c).bind fun h => (boundO ev lo 0 h).bind fun a =>
            if a = 0 then some (.ofVal (.slice (some ⟨l, o, none⟩) h c)) else
            some ⟨[l], fun _ objs => match objs with
              | [.cells _ sz _] => if sz = size then some ⟨.slice (some ⟨l, o + a * size, none⟩) (h - a) (c - a), none, none⟩ else none
              | _ => none⟩
      | _ => none
  | some (.array n elem) => (szO P elem).bind fun size => (ev x).bind fun
      | .pointer (some ⟨l, o, none⟩) => if mx.isSome then none else (boundO ev hi n n).bind fun h => (boundO ev lo 0 h).bind fun a =>
          some (.ofVal (.slice (some ⟨l, if n = a then o else o + a * size, none⟩) (h - a) (n - a)))
      | _ => none
  | _ => none

def aFieldAddr (P : Program) (ev : Ev) (s : TypeId) (x : Operand) (f : Nat) : Option Prim :=
  match P.underlying s with
  | some (.struct fields) => (fields[f]?).bind fun fd => (ev x).bind fun
      | .pointer (some ⟨l, o, none⟩) => (szO P fd.type).bind fun z => if z = 0 then none else some (.ofVal (.pointer (some ⟨l, o + fd.offset, none⟩)))
      | _ => none
  | _ => none

def aField (P : Program) (ev : Ev) (s : TypeId) (x : Operand) (f : Nat) : Option Prim :=
  match P.underlying s with
  | some (.struct fields) => (fields[f]?).bind fun fd => (ev x).bind fun
      | .agg cs => (partO P fd.type cs.toList fd.offset).map .ofVal
      | _ => none
  | _ => none

def aIndexAddr (P : Program) (ev : Ev) (t : TypeId) (x ix : Operand) : Option Prim :=
  (ev ix).bind fun
    | .int _ i => match P.underlying t with
      | some (.slice elem) => (szO P elem).bind fun size => (ev x).bind fun
          | .slice (some ⟨l, o, none⟩) n _ => if 0 ≤ i ∧ i < n then some (.ofVal (.pointer (some ⟨l, o + i.toNat * size, none⟩))) else none
          | _ => none
      | some (.array n elem) => (szO P elem).bind fun size => (ev x).bind fun
          | .pointer (some ⟨l, o, none⟩) => if 0 ≤ i ∧ i < n then some (.ofVal (.pointer (some ⟨l, o + i.toNat * size, none⟩))) else none
          | _ => none
      | _ => none
    | _ => none

def aIndex (P : Program) (ev : Ev) (t : TypeId) (x ix : Operand) : Option Prim :=
  (ev ix).bind fun
    | .int k i => match P.underlying t with
      | some .string => (plainEv ev x).bind fun s => pureVal P (Instr.index t s (.int k i))
      | some (.array n elem) => (szO P elem).bind fun size => (ev x).bind fun
          | .agg cs => if 0 ≤ i ∧ i < n then (partO P elem cs.toList (i.toNat * size)).map .ofVal else none
          | _ => none
      | _ => none
    | _ => none

def aExtract (ev : Ev) (t : Operand) (i : Nat) : Option Prim :=
  (ev t).bind fun
    | .tuple vs => (vs[i]?).map .ofVal
    | _ => none

def keyKind (P : Program) (kt : TypeId) (k : Value) : Option TypeDesc :=
  (P.underlying kt).bind fun d => match d, k with
    | .string, .string _ => some d
    | .int _, .int _ _ => some d
    | _, _ => none

def lookupVal (found : Option (Nat × Value)) (z : Value) (ok : Bool) : Value :=
  match found with
  | some (_, v) => if ok then .tuple #[v, .bool true] else v
  | none => if ok then .tuple #[z, .bool false] else z

def aLookup (P : Program) (ev : Ev) (t : TypeId) (x ix : Operand) (ok : Bool) : Option Prim :=
  match P.underlying t with
  | some (.map kt et) => (plainEv ev ix).bind fun k => (keyKind P kt k).bind fun d => (zeroP P et).bind fun z => (ev x).bind fun
      | .map none => some (.ofVal (lookupVal none z ok))
      | .map (some m) => some ⟨[m], fun _ objs => match objs with
          | [.map es _] => (Instr.findNow d k es 0).map fun r => ⟨lookupVal r z ok, none, none⟩
          | _ => none⟩
      | _ => none
  | _ => none

def aMapUpdate (P : Program) (ev : Ev) (t : TypeId) (m key x : Operand) : Option Prim :=
  match P.underlying t with
  | some (.map kt _) => (plainEv ev key).bind fun k => (keyKind P kt k).bind fun d => (ev x).bind fun v => (ev m).bind fun
      | .map (some m) => some ⟨[m], fun _ objs => match objs with
          | [.map es clock] => (Instr.findNow d k es 0).map fun
              | some (i, _) => ⟨undef, some (m, some (.map (es.modify i fun e => { e with key := k, val := v }) clock)), none⟩
              | none => ⟨undef, some (m, some (.map (es ++ [{ key := k, val := v, born := clock }]) (clock + 1))), none⟩
          | _ => none⟩
      | _ => none
  | _ => none

def aMapEntry (P : Program) (ev : Ev) (t : TypeId) (m key : Operand) : Option Prim :=
  match P.underlying t with
  | some (.map kt et) => (plainEv ev key).bind fun k => (keyKind P kt k).bind fun d => (zeroP P et).bind fun z => (ev m).bind fun
      | .map (some m) => some ⟨[m], fun _ objs => match objs with
          | [.map es clock] => (Instr.findNow d k es 0).map fun
              | some (i, v) => ⟨.tuple #[v, .int .i64 (((es[i]?).map (·.born)).getD 0)], some (m, some (.map (es.modify i fun e => { e with key := k }) clock)), none⟩
              | none => ⟨.tuple #[z, .int .i64 clock], some (m, some (.map (es ++ [{ key := k, val := z, born := clock }]) (clock + 1))), none⟩
          | _ => none⟩
      | _ => none
  | _ => none

def aEntryStore (ev : Ev) (m st x : Operand) : Option Prim :=
  (ev m).bind fun
    | .map (some m) => (ev st).bind fun
      | .int _ b => (ev x).bind fun v => some ⟨[m], fun _ objs => match objs with
          | [.map es clock] => (es.findIdx? (fun e => (e.born : Int) == b)).map fun i => ⟨undef, some (m, some (.map (es.modify i fun e => { e with val := v }) clock)), none⟩
          | _ => none⟩
      | _ => none
    | _ => none

def aDelete (P : Program) (t : TypeId) (mv k : Value) : Option Prim :=
  match P.underlying t with
  | some (.map kt _) => if plainV k then (keyKind P kt k).bind fun d => match mv with
      | .map none => some (.ofVal (.tuple #[]))
      | .map (some m) => some ⟨[m], fun _ objs => match objs with
          | [.map es clock] => (Instr.findNow d k es 0).map fun
              | some (i, _) => ⟨.tuple #[], some (m, some (.map (es.eraseIdx i) clock)), none⟩
              | none => ⟨.tuple #[], some (m, some (.map es clock)), none⟩
          | _ => none⟩
      | _ => none
    else none
  | _ => none

def aLen (P : Program) (t : TypeId) (x : Value) : Option Prim :=
  match P.underlying t, x with
  | some .string, .string s => some (.ofVal (.int .i64 s.size))
  | some (.array n _), _ => some (.ofVal (.int .i64 n))
  | some (.slice _), .slice _ n _ => some (.ofVal (.int .i64 n))
  | some (.map _ _), .map none => some (.ofVal (.int .i64 0))
  | some (.map _ _), .map (some m) => some ⟨[m], fun _ objs => match objs with
      | [.map es _] => some ⟨.int .i64 es.length, none, none⟩
      | _ => none⟩
  | _, _ => none

def srcOf (size : Nat) : Value → Option (List Nat × (List AObj → Option (List Value)) × Nat)
  | .slice none 0 _ => some ([], fun _ => some [], 0)
  | .slice (some ⟨_, _, some _⟩) 0 _ => some ([], fun _ => some [], 0)
  | .slice (some ⟨l, o, none⟩) n _ => if n = 0 then some ([], fun _ => some [], 0) else
      some ([l], fun objs => match objs with
        | [.cells c _ _] => if o + n * size ≤ c.length then some ((c.drop o).take (n * size)) else none
        | _ => none, n)
  | .string s => if size = 1 then some ([], fun _ => some (s.data.toList.map fun b => .int .u8 b.toNat), s.size) else none
  | _ => none

def isSeqT : Option TypeDesc → Bool
  | some (.slice _) => true
  | some .string => true
  | _ => false

def growFits (c need by_ : Nat) : Bool := if c = 0 then need * by_ ≤ 2 ^ 47 else need * by_ ≤ 2 ^ 46

def aAppend (P : Program) (t u : TypeId) (s x : Value) : Option Prim :=
  match P.underlying t with
  | some (.slice elem) => (szO P elem).bind fun size => (bytesO P elem).bind fun by_ => (zeroP P elem).bind fun z =>
    if !(0 < size && 0 < by_ && z.cells.size = size && isSeqT (P.underlying u)) then none else
    (srcOf size x).bind fun (rs, get, m) =>
      match s with
      | .slice none 0 0 =>
        if m = 0 then some (.ofVal (.slice none 0 0)) else
        if m * by_ ≤ 2 ^ 47 then some ⟨rs, fun nm objs => (get objs).map fun c => ⟨.slice (some ⟨nm, 0, none⟩) m m, none, some (.cells c size false)⟩⟩ else none
      | .slice (some ⟨l, o, none⟩) n c =>
        if n ≤ c then
          if m = 0 then some (.ofVal (.slice (some ⟨l, o, none⟩) n c)) else
          if n + m ≤ c then some ⟨l :: rs, fun _ objs => match objs with
            | .cells cl sz false :: rest => (get rest).bind fun src => if plainL oneCell src && o + (n + m) * size ≤ cl.length then
                some ⟨.slice (some ⟨l, o, none⟩) (n + m) c, some (l, some (.cells (splice cl (o + n * size) src) sz false)), none⟩ else none
            | _ => none⟩
          else some ⟨l :: rs, fun nm objs => match objs with
            | .cells cl sz ro :: rest => (get rest).bind fun src =>
              if sz = size && plainL oneCell src && o + n * size ≤ cl.length then
                if ro then
                  if o + c * sz ≠ cl.length && growFits c (n + m) by_ then
                    some ⟨.slice (some ⟨nm, 0, none⟩) (n + m) (n + m), none, some (.cells ((cl.drop o).take (n * size) ++ src) size false)⟩ else none
                else if (n + m) * by_ ≤ 2 ^ 46 then
                  some ⟨.slice (some ⟨nm, 0, none⟩) (n + m) (n + m), some (l, none), some (.cells ((cl.drop o).take (n * size) ++ src) size false)⟩ else none
              else none
            | _ => none⟩
        else none
      | _ => none
  | _ => none

def aCopy (P : Program) (t : TypeId) (d s : Value) : Option Prim :=
  match P.underlying t with
  | some (.slice elem) => (szO P elem).bind fun size => (srcOf size s).bind fun (rs, get, m) =>
      match d with
      | .slice (some ⟨l, o, none⟩) n _ => if m ≤ n && 0 < m then
          some ⟨l :: rs, fun _ objs => match objs with
            | .cells cl sz false :: rest => (get rest).bind fun src => if plainL oneCell src && o + m * size ≤ cl.length then
                some ⟨.int .i64 m, some (l, some (.cells (splice cl o src) sz false)), none⟩ else none
            | _ => none⟩ else none
      | _ => none
  | _ => none

def aClear (P : Program) (t : TypeId) (x : Value) : Option Prim :=
  match P.underlying t with
  | some (.slice elem) => match x with
    | .slice none _ _ => some (.ofVal (.tuple #[]))
    | .slice (some ⟨l, o, none⟩) n _ => if n = 0 then some (.ofVal (.tuple #[])) else (szO P elem).bind fun size => (zeroP P elem).bind fun z =>
      if z.cells.size = size && plainL oneCell z.cells.toList && plainL plainV z.cells.toList then
        some ⟨[l], fun _ objs => match objs with
          | [.cells c sz false] => if o + n * size ≤ c.length then some ⟨.tuple #[], some (l, some (.cells (splice c o (Builtin.zeroCells z.cells n).toList) sz false)), none⟩ else none
          | _ => none⟩
      else none
    | _ => none
  | _ => none

def aBuiltin (P : Program) (b : Builtin) (ts : Array TypeId) (ty : TypeId) (args : List Value) : Option Prim :=
  match b, ts.toList, args with
  | .len, [t], [x] => aLen P t x
  | .append, [t, u], [s, x] => aAppend P t u s x
  | .delete, [t, _], [m, k] => aDelete P t m k
  | .clear, [t], [x] => aClear P t x
  | .copy, [t, _], [d, s] => aCopy P t d s
  | .min, _, args => if plainL plainV args then pureVal P (Builtin.min_ ts ty args.toArray) else none
  | .max, _, args => if plainL plainV args then pureVal P (Builtin.max_ ts ty args.toArray) else none
  | _, _, _ => none

inductive XKind where
  | add (k : IntKind)
  | load (k : IntKind)
  | store (k : IntKind)
  | cas (k : IntKind)
  | nop
  | mark
  | cmp

def aExtern (P : Program) (x : XKind) (args : List Value) : Option Prim :=
  match x, args with
  | .nop, _ => some (.ofVal (.tuple #[]))
  | .mark, [.pointer (some ⟨_, _, none⟩)] => some (.ofVal (.tuple #[]))
  | .cmp, [.string a, .string b] => some (.ofVal (.int .i64 (Extern.BytealgCompare.cmp a b)))
  | .load k, [.pointer (some ⟨l, o, none⟩)] => some ⟨[l], fun _ objs => match objs with
      | [.cells c _ _] => match c[o]? with
        | some (.int k' n) => if k = k' then some ⟨.int k' n, none, none⟩ else none
        | _ => none
      | _ => none⟩
  | .store k, [.pointer (some ⟨l, o, none⟩), .int k₂ v] => some ⟨[l], fun _ objs => match objs with
      | [.cells c sz false] => match c[o]? with
        | some (.int k' _) => if k = k' && k₂ = k then some ⟨.tuple #[], some (l, some (.cells (c.set o (.int k v)) sz false)), none⟩ else none
        | _ => none
      | _ => none⟩
  | .add k, [.pointer (some ⟨l, o, none⟩), .int k₂ d] => some ⟨[l], fun _ objs => match objs with
      | [.cells c sz false] => match c[o]? with
        | some (.int k' n) => if k = k' && k₂ = k then (pureRun P (Op.intArith .add k n d)).bind fun v => if plainV v && oneCell v then
            some ⟨v, some (l, some (.cells (c.set o v) sz false)), none⟩ else none else none
        | _ => none
      | _ => none⟩
  | .cas k, [.pointer (some ⟨l, o, none⟩), .int _ old, .int k₂ new] => some ⟨[l], fun _ objs => match objs with
      | [.cells c sz false] => match c[o]? with
        | some (.int k' n) => if k = k' && k₂ = k then
            some ⟨.bool (n == old), some (l, some (.cells (if n == old then c.set o (.int k new) else c) sz false)), none⟩ else none
        | _ => none
      | _ => none⟩
  | _, _ => none

inductive AOp where
  | prim (p : Prim)
  | call (f : FuncId) (args : Array Value)
  | defer (f : FuncId) (captured args : Array Value)

structure Env where
  P : Program
  X : FuncId → Option XKind
  B : FuncId → Bool

def aCall (E : Env) (ev : Ev) (c : Call) (ty : TypeId) : Option AOp :=
  (evList ev c.args.toList).bind fun args => match c.callee with
    | .builtin b => (aBuiltin E.P b c.argTypes ty args).map .prim
    | .value f => (ev f).bind fun
      | .func (.func g) first captured => match E.X g with
        | some x => (aExtern E.P x (first.toList ++ args ++ captured.toList)).map .prim
        | none => if E.B g then some (.call g (first ++ args.toArray ++ captured)) else none
      | _ => none
    | _ => none

def aDefer (E : Env) (ev : Ev) (c : Call) : Option AOp :=
  (evList ev c.args.toList).bind fun args => match c.callee with
    | .value f => (ev f).bind fun
      | .func (.func g) first captured => if E.B g then some (.defer g captured (first ++ args.toArray)) else none
      | _ => none
    | _ => none

def aop (E : Env) (ev : Ev) (o : Oper) : Option AOp :=
  match o.op with
  | .move x | .assign x => (ev x).map fun v => .prim (.ofVal v)
  | .pick c a b => (ev c).bind fun
    | .bool t => (if t then ev a else ev b).map fun v => .prim (.ofVal v)
    | _ => none
  | .alloc t => (zeroP E.P t).map fun z => .prim (.newCells z.cells.toList 0)
  | .box _ x => (ev x).map fun v => .prim (.newCells v.cells.toList 0)
  | .build t parts => (aBuild E.P ev t parts).map .prim
  | .buildSlice t len parts => (aBuildSlice E.P ev t len parts).map .prim
  | .load t a => (aLoad E.P ev t a).map .prim
  | .store t a x => (aStore E.P ev t a x).map .prim
  | .nilCheck x => (aNil ev x).map .prim
  | .binOp op t x y _ => (aBin E.P ev op t x y).map .prim
  | .unOp op _ x => (plainEv ev x).bind fun v => (pureVal E.P (Op.unary op v)).map .prim
  | .convert src dst x => (aConvert E.P ev src dst x).map .prim
  | .makeFunc fn first captured => (aMakeFunc ev fn first captured).map .prim
  | .makeMap t r => (aMakeMap E.P ev t r).map .prim
  | .makeSlice t l c => (aMakeSlice E.P ev t l c).map .prim
  | .slice t x lo hi mx => (aSlice E.P ev t x lo hi mx).map .prim
  | .fieldAddr s x f => (aFieldAddr E.P ev s x f).map .prim
  | .field s x f => (aField E.P ev s x f).map .prim
  | .indexAddr t x ix => (aIndexAddr E.P ev t x ix).map .prim
  | .index t x ix => (aIndex E.P ev t x ix).map .prim
  | .lookup t x ix ok => (aLookup E.P ev t x ix ok).map .prim
  | .mapUpdate t m k x => (aMapUpdate E.P ev t m k x).map .prim
  | .mapEntry t m k => (aMapEntry E.P ev t m k).map .prim
  | .entryStore _ m b x => (aEntryStore ev m b x).map .prim
  | .extract t i => (aExtract ev t i).map .prim
  | .call c => aCall E ev c o.type
  | .defer c => aDefer E ev c
  | _ => none

end Go.Proofs.YtfchjhfccnodpaaGreat
end

section
namespace Go.Proofs.YtfchjhfccnodpaaGreat
set_option linter.unusedSimpArgs false
set_option linter.unusedVariables false

def asVal : Next → Option Value
  | .value v => some v
  | .skip => some undef
  | _ => none

def EvRel (ρ : LMap) (ev : Ev) (evc : Operand → Value) : Prop := ∀ x v, ev x = some v → VRel ρ v (evc x)

def Out (P : Program) (s : Sem Next) (ρ : LMap) (σ : Heap) (w : World) (nm : Nat) (eff : Eff) : Prop :=
  ∃ nx v' ρ' w', s.run P w = .ok nx w' ∧ asVal nx = some v' ∧ Rel ρ' (σ.app nm eff) w' ∧ Frm ρ σ w ρ' (σ.app nm eff) w' ∧ VRel ρ' eff.val v' ∧ ∀ l, l ≠ nm → ρ' l = ρ l

section
variable {P : Program} {ρ : LMap} {σ : Heap} {w : World} {nm : Nat}

theorem out_val {s : Sem Next} {v v' : Value} (hrel : Rel ρ σ w) (hrun : s.run P w = .ok (.value v') w) (hv : VRel ρ v v') : Out P s ρ σ w nm ⟨v, none, none⟩ :=
  ⟨.value v', v', ρ, w, hrun, rfl, hrel, Frm.refl _ _ _, hv, fun _ _ => rfl⟩

theorem run_ofVal {v : Value} {eff : Eff} (h : (Prim.ofVal v).run σ nm = some eff) : eff = ⟨v, none, none⟩ := by
  simp [Prim.run, Prim.ofVal, getAll] at h; exact h.symm

theorem run_isAgg {t : TypeId} {b : Bool} (h : aggO P t = some b) (w : World) : (isAgg t).run P w = .ok b w := by
  unfold aggO at h
  cases hu : P.underlying t with
  | none => rw [hu] at h; simp at h
  | some d =>
    rw [hu] at h
    simp only [Option.map_some, Option.some.injEq] at h
    subst h
    simp only [isAgg, Sem.run_bind, run_underlying hu, Result.andThen_ok]
    cases d <;> rfl

theorem run_sizeOf {t : TypeId} {s : Nat} (h : szO P t = some s) (w : World) : (sizeOf t).run P w = .ok s w := by
  unfold szO at h
  cases hi : P.info? t with
  | none => rw [hi] at h; simp at h
  | some i => rw [hi] at h; simp at h; subst h; simp [sizeOf, typeInfo, hi]

theorem info_of_sz {t : TypeId} {s : Nat} (h : szO P t = some s) : ∃ i, P.info? t = some i ∧ i.size = s := by
  unfold szO at h
  cases hi : P.info? t with
  | none => rw [hi] at h; simp at h
  | some i => rw [hi] at h; simp at h; exact ⟨i, rfl, h⟩

theorem run_zeroValue {t : TypeId} {z : Value} (h : zeroO P t = some z) (w : World) : (zeroValue t).run P w = .ok z w := by
  unfold zeroO at h
  cases hi : P.info? t with
  | none => rw [hi] at h; simp at h
  | some i => rw [hi] at h; simp at h; simp [zeroValue, typeInfo, hi, h]

theorem zeroP_some {t : TypeId} {z : Value} (h : zeroP P t = some z) : zeroO P t = some z ∧ plainV z = true := by
  unfold zeroP at h
  cases hz : zeroO P t with
  | none => rw [hz] at h; simp at h
  | some y => rw [hz] at h; simp at h; exact ⟨by rw [h.2], h.2 ▸ h.1⟩

theorem plainL_rel {l : List Value} (h : plainL plainV l = true) : VlRel ρ l l :=
  ⟨rfl, fun i v v' h1 h2 => by rw [h1] at h2; cases h2; exact plainV_rel ρ (plainL_get h h1)⟩

theorem VRel.cells {v v' : Value} (h : VRel ρ v v') : VlRel ρ v.cells.toList v'.cells.toList := by
  cases h with
  | agg hs hr => exact VsRel.toList ⟨hs, hr⟩
  | tuple hs hr => exact .cons (.tuple hs hr) (.nil ρ)
  | bool b => exact .cons (.bool b) (.nil ρ)
  | int k n => exact .cons (.int k n) (.nil ρ)
  | float k b => exact .cons (.float k b) (.nil ρ)
  | string s => exact .cons (.string s) (.nil ρ)
  | ptrNil => exact .cons .ptrNil (.nil ρ)
  | ptr h => exact .cons (.ptr h) (.nil ρ)
  | sliceNil n c => exact .cons (.sliceNil n c) (.nil ρ)
  | slice h hc => exact .cons (.slice h hc) (.nil ρ)
  | slice0 h => exact .cons (.slice0 h) (.nil ρ)
  | sliceE => exact .cons .sliceE (.nil ρ)
  | mapNil => exact .cons .mapNil (.nil ρ)
  | map h => exact .cons (.map h) (.nil ρ)
  | func a b c d => exact .cons (.func a b c d) (.nil ρ)
  | nilFunc => exact .cons .nilFunc (.nil ρ)
  | nilIface => exact .cons .nilIface (.nil ρ)

theorem VRel.aggV {a b : List Value} (h : VlRel ρ a b) : VRel ρ (.agg a.toArray) (.agg b.toArray) := let k := h.toArray; .agg k.1 k.2

theorem oneCell_rel {v v' : Value} (h : VRel ρ v v') (k : oneCell v = true) : oneCell v' = true := by
  cases h <;> first | rfl | simp [oneCell] at k

theorem oneCells_rel : ∀ {a b : List Value}, VlRel ρ a b → plainL oneCell a = true → plainL oneCell b = true
  | [], b, h, _ => by rw [h.inv_nil]; rfl
  | v :: a, b, h, k => by
    obtain ⟨v', b', rfl, h1, h2⟩ := h.inv_cons
    simp [plainL] at k ⊢
    exact ⟨oneCell_rel h1 k.1, oneCells_rel h2 k.2⟩


theorem cells_of {l : Nat} {c : List Value} {sz : Nat} {ro : Bool} {p : Pl} (hrel : Rel ρ σ w) (hl : σ.get l = some (.cells c sz ro)) (hp : ρ l = some p) :
    p.len = c.length ∧ p.sz = sz ∧ ∃ C T fz, w.heap[p.blk]? = some (.cells C T fz) ∧ (∀ i v, c[i]? = some v → ∃ v', C[p.off + i]? = some v' ∧ VRel ρ v v') ∧
      (ro = false → p.off + p.len + p.ext * p.sz ≤ C.size ∧ Thawed C.size fz) := by
  obtain ⟨q, hq, hr⟩ := hrel.dom l _ hl
  rw [hp] at hq; cases hq
  exact ⟨hr.1, hr.2.1.1, hr.2.2⟩
theorem szd_of {l : Nat} {c : List Value} {sz : Nat} {ro : Bool} {p : Pl} (hrel : Rel ρ σ w) (hl : σ.get l = some (.cells c sz ro)) (hp : ρ l = some p) : Szd p sz := by
  obtain ⟨q, hq, hr⟩ := hrel.dom l _ hl
  rw [hp] at hq; cases hq
  exact hr.2.1

theorem cell_at {C : Array Value} {T : TypeId} {fz : Nat × Nat} {b i : Nat} {v : Value} (h : w.heap[b]? = some (.cells C T fz)) (hi : C[i]? = some v) : w.cell? ⟨b, i, none⟩ = some v := by
  simp [World.cell?, h, hi]

theorem range_of {c : List Value} {p : Pl} {C : Array Value} {T : TypeId} {fz : Nat × Nat} (hh : w.heap[p.blk]? = some (.cells C T fz))
    (hc : ∀ i v, c[i]? = some v → ∃ v', C[p.off + i]? = some v' ∧ VRel ρ v v') (o n : Nat) (hn : o + n ≤ c.length) :
    ∃ cs : List Value, cs.length = n ∧ VlRel ρ ((c.drop o).take n) cs ∧ (∀ j v, cs[j]? = some v → w.cell? (Addr.add ⟨p.blk, p.off + o, none⟩ j) = some v) := by
  have hget : ∀ j, j < n → ∃ v', C[p.off + o + j]? = some v' ∧ ∃ v, c[o + j]? = some v ∧ VRel ρ v v' := by
    intro j hj
    have h1 : c[o + j]? = some (c[o + j]'(by omega)) := List.getElem?_eq_getElem _
    obtain ⟨v', h2, h3⟩ := hc _ _ h1
    exact ⟨v', by rw [← h2, Nat.add_assoc], _, h1, h3⟩
  refine ⟨(List.range n).map fun j => C.getD (p.off + o + j) undef, by simp, ⟨by simp; omega, ?_⟩, ?_⟩
  · intro j v v' h1 h2
    rw [List.getElem?_take] at h1
    split at h1
    case isFalse => cases h1
    rename_i hj
    rw [List.getElem?_drop] at h1
    obtain ⟨x, hx, y, hy, hxy⟩ := hget j hj
    rw [h1] at hy; cases hy
    simp [hj] at h2
    rw [hx] at h2
    simp at h2
    exact h2 ▸ hxy
  · intro j v hj
    have hjn : j < n := by
      rcases Nat.lt_or_ge j n with h | h
      · exact h
      · rw [List.getElem?_eq_none (by simp; omega)] at hj; cases hj
    obtain ⟨x, hx, _⟩ := hget j hjn
    simp [hjn] at hj
    rw [hx] at hj
    simp at hj
    subst hj
    rw [Addr.add_lit]
    exact cell_at hh (by rw [← hx])

theorem run_loadVar {t : TypeId} {c : List Value} {o : Nat} {v : Value} {p : Pl} {C : Array Value} {T : TypeId} {fz : Nat × Nat} (hh : w.heap[p.blk]? = some (.cells C T fz))
    (hc : ∀ i v, c[i]? = some v → ∃ v', C[p.off + i]? = some v' ∧ VRel ρ v v') (h : partO P t c o = some v) :
    ∃ v', (loadVar t ⟨p.blk, p.off + o, none⟩).run P w = .ok v' w ∧ VRel ρ v v' := by
  unfold partO at h
  cases ha : aggO P t with
  | none => rw [ha] at h; simp at h
  | some b =>
    rw [ha] at h
    cases b with
    | true =>
      simp only [Option.bind_some] at h
      cases hs : szO P t with
      | none => rw [hs] at h; simp at h
      | some s =>
        rw [hs] at h
        simp at h
        obtain ⟨hle, rfl⟩ := h
        obtain ⟨cs, hcl, hvl, hcell⟩ := range_of hh hc o s hle
        refine ⟨.agg cs.toArray, ?_, VRel.aggV hvl⟩
        have := run_loadCells_list (P := P) w ⟨p.blk, p.off + o, none⟩ cs hcell
        rw [hcl] at this
        simp [loadVar, run_isAgg ha, run_sizeOf hs, this]
    | false =>
      simp only [Option.bind_some] at h
      obtain ⟨v', h1, h2⟩ := hc _ _ h
      refine ⟨v', ?_, h2⟩
      simp [loadVar, run_isAgg ha, cell_at hh h1]

theorem load_ok {ev : Ev} {evc : Operand → Value} {t : TypeId} {a : Operand} {p : Prim} {eff : Eff} (h : aLoad P ev t a = some p) (hev : EvRel ρ ev evc)
    (hrel : Rel ρ σ w) (hrun : p.run σ nm = some eff) : Out P (do pure (.value (← Instr.loadAt t (evc a)))) ρ σ w nm eff := by
  unfold aLoad at h
  cases hea : ev a with
  | none => rw [hea] at h; simp at h
  | some x =>
    rw [hea] at h
    have hx := hev _ _ hea
    simp only [Option.bind_some] at h
    split at h
    case h_2 => cases h
    rename_i l o
    cases h
    simp only [Prim.run, getAll] at hrun
    cases hl : σ.get l with
    | none => rw [hl] at hrun; simp at hrun
    | some ob =>
      rw [hl] at hrun
      simp only [Option.bind_some, Option.map_some] at hrun
      split at hrun
      case h_2 => cases hrun
      rename_i c sz ro heq
      simp at heq
      subst heq
      cases hp : partO P t c o with
      | none => rw [hp] at hrun; cases hrun
      | some v =>
        rw [hp] at hrun; cases hrun
        generalize hy : evc a = y at hx
        cases hx with
        | ptr hpl =>
          rename_i pl
          obtain ⟨_, _, C, T, fz, hh, hc, _⟩ := cells_of hrel hl hpl
          obtain ⟨v', h1, h2⟩ := run_loadVar hh hc hp
          exact out_val hrel (by simp [Instr.loadAt, Instr.sureAddr, h1]) h2


theorem splice_length {c vs : List Value} {o : Nat} (h : o + vs.length ≤ c.length) : (splice c o vs).length = c.length := by
  simp [splice]; omega

theorem splice_get {c vs : List Value} {o : Nat} (h : o + vs.length ≤ c.length) (i : Nat) :
    (splice c o vs)[i]? = if o ≤ i ∧ i < o + vs.length then vs[i - o]? else c[i]? := by
  unfold splice
  rcases Nat.lt_or_ge i o with h1 | h1
  · rw [if_neg (by omega), List.append_assoc, List.getElem?_append_left (by simp; omega), List.getElem?_take, if_pos h1]
  · rcases Nat.lt_or_ge i (o + vs.length) with h2 | h2
    · rw [if_pos ⟨h1, h2⟩, List.append_assoc, List.getElem?_append_right (by simp; omega), List.getElem?_append_left (by simp; (try omega))]
      congr 1; (try simp); try omega
    · rw [if_neg (by omega), List.getElem?_append_right (by simp; omega), List.getElem?_drop]
      congr 1; simp; omega

theorem same_setCell (w : World) (a : Addr) (v : Value) : Same w (w.setCell a v) := ⟨rfl, rfl, rfl⟩

theorem run_storeCells (b : Nat) (T : TypeId) (fz : Nat × Nat) : ∀ (vs : List Value) (base i : Nat) (C : Array Value) (w : World), w.heap[b]? = some (.cells C T fz) →
    base + i + vs.length ≤ C.size → Thawed C.size fz → plainL oneCell vs = true →
    ∃ C' w', (storeCells ⟨b, base, none⟩ vs i).run P w = .ok () w' ∧ w'.heap[b]? = some (.cells C' T fz) ∧ C'.size = C.size ∧
      (∀ j, C'[j]? = if base + i ≤ j ∧ j < base + i + vs.length then vs[j - (base + i)]? else C[j]?) ∧ Same w w' ∧ w'.heap.size = w.heap.size ∧ ∀ k, k ≠ b → w'.heap[k]? = w.heap[k]?
  | [], base, i, C, w, hh, _, _, _ => ⟨C, w, by simp [storeCells], hh, rfl, fun j => by rw [if_neg (by simp)], Same.refl w, rfl, fun _ _ => rfl⟩
  | v :: vs, base, i, C, w, hh, hlen, hfz, hone => by
    simp only [plainL, Bool.and_eq_true] at hone
    simp only [List.length_cons] at hlen
    have hlt : base + i < C.size := by omega
    have hcell : w.cell? ⟨b, base + i, none⟩ = some C[base + i] := cell_at hh (Array.getElem?_eq_getElem hlt)
    have hfr : w.frozen? ⟨b, base + i, none⟩ = false := by
      have := hfz.not hlt
      simp [World.frozen?, hh]
      omega
    have hb : (w.setCell ⟨b, base + i, none⟩ v).heap[b]? = some (.cells (C.setIfInBounds (base + i) v) T fz) := by
      simp [World.setCell, Array.getElem?_modify, hh]
    obtain ⟨C', w', h1, h2, h3, h4, h5, h6, h7⟩ := run_storeCells b T fz vs base (i + 1) (C.setIfInBounds (base + i) v) (w.setCell ⟨b, base + i, none⟩ v) hb (by simp; omega) (by simpa using hfz) hone.2
    have hst : (store (Addr.add ⟨b, base, none⟩ i) v).run P w = .ok () (w.setCell ⟨b, base + i, none⟩ v) := by
      rw [Addr.add_lit]
      cases v with
      | agg a => simp [oneCell] at hone
      | tuple a => simp [oneCell] at hone
      | _ => simp only [store, Sem.run, hcell, hfr]; rfl
    refine ⟨C', w', by simp [storeCells, hst, h1], h2, by simp [h3], ?_, ⟨h5.os, h5.tape, h5.output⟩, by rw [h6]; simp [World.setCell], ?_⟩
    · intro j
      rw [h4 j]
      simp only [List.length_cons, Array.getElem?_setIfInBounds]
      by_cases e1 : j = base + i
      · subst e1
        rw [if_neg (by omega), if_pos rfl, if_pos hlt, if_pos (by omega)]
        simp
      · by_cases e2 : base + (i + 1) ≤ j ∧ j < base + (i + 1) + vs.length
        · rw [if_pos e2, if_pos (by omega)]
          obtain ⟨k, hk⟩ : ∃ k, j - (base + i) = k + 1 := ⟨j - (base + i) - 1, by omega⟩
          rw [hk, List.getElem?_cons_succ]
          congr 1; omega
        · rw [if_neg e2, if_neg (fun e => e1 e.symm), if_neg (by omega)]
    · intro k hk
      rw [h7 k hk]
      simp only [World.setCell, Array.getElem?_modify]
      rw [if_neg (fun e => hk e.symm)]

theorem write_cells {l o : Nat} {c vs vs' : List Value} {sz : Nat} {pl : Pl} (hrel : Rel ρ σ w) (hl : σ.get l = some (.cells c sz false)) (hpl : ρ l = some pl)
    (hvs : VlRel ρ vs vs') (hone : plainL oneCell vs = true) (hle : o + vs.length ≤ c.length) :
    ∃ w', (storeCells ⟨pl.blk, pl.off + o, none⟩ vs').run P w = .ok () w' ∧ Rel ρ (σ.upd l (some (.cells (splice c o vs) sz false))) w' ∧
      Frm ρ σ w ρ (σ.upd l (some (.cells (splice c o vs) sz false))) w' := by
  obtain ⟨hlen, hsz, C, T, fz, hh, hc, hown⟩ := cells_of hrel hl hpl
  obtain ⟨hroom, hfz⟩ := hown rfl
  obtain ⟨C', w', h1, h2, h3, h4, h5, h6, h7⟩ := run_storeCells (P := P) pl.blk T fz vs' (pl.off + o) 0 C w hh (by rw [← hvs.1]; omega) hfz (oneCells_rel hvs hone)
  refine ⟨w', h1, step_write hrel hl rfl hpl h5 h6 h7 rfl ⟨by rw [splice_length hle]; exact hlen, szd_of hrel hl hpl, C', T, fz, h2, ?_, fun _ => ⟨by rw [h3]; exact hroom, by rw [h3]; exact hfz⟩⟩⟩
  intro i v hi
  rw [splice_get hle] at hi
  rw [h4]
  simp only [Nat.add_zero]
  by_cases e : o ≤ i ∧ i < o + vs.length
  · rw [if_pos e] at hi
    rw [if_pos (by rw [← hvs.1]; omega)]
    obtain ⟨v', k1, k2⟩ := hvs.get hi
    exact ⟨v', by rw [← k1]; congr 1; omega, k2⟩
  · rw [if_neg e] at hi
    rw [if_neg (by rw [← hvs.1]; omega)]
    exact hc i v hi

theorem store_ok {ev : Ev} {evc : Operand → Value} {t : TypeId} {a x : Operand} {p : Prim} {eff : Eff} (h : aStore P ev t a x = some p) (hev : EvRel ρ ev evc)
    (hrel : Rel ρ σ w) (hrun : p.run σ nm = some eff) : Out P (do Instr.storeAt t (evc a) (evc x); pure .skip) ρ σ w nm eff := by
  unfold aStore at h
  cases hea : ev a with
  | none => rw [hea] at h; simp at h
  | some y =>
    rw [hea] at h
    have hy := hev _ _ hea
    simp only [Option.bind_some] at h
    split at h
    case h_2 => cases h
    rename_i l o
    cases hex : ev x with
    | none => rw [hex] at h; simp at h
    | some v =>
      rw [hex] at h
      have hv := hev _ _ hex
      cases hs : szO P t with
      | none => rw [hs] at h; simp at h
      | some s =>
        rw [hs] at h
        simp only [Option.bind_some] at h
        split at h
        case isFalse => cases h
        rename_i hcond
        simp only [Bool.and_eq_true, decide_eq_true_eq] at hcond
        obtain ⟨hsz, hone⟩ := hcond
        cases h
        simp only [Prim.run, getAll] at hrun
        cases hl : σ.get l with
        | none => rw [hl] at hrun; simp at hrun
        | some ob =>
          rw [hl] at hrun
          simp only [Option.bind_some, Option.map_some] at hrun
          split at hrun
          case h_2 => cases hrun
          rename_i c sz heq
          simp at heq
          subst heq
          split at hrun
          case isFalse => cases hrun
          rename_i hle
          cases hrun
          generalize hyy : evc a = yy at hy
          cases hy with
          | ptr hpl =>
            rename_i pl
            have hlenv : v.cells.toList.length = s := by simpa using hsz
            obtain ⟨w', h1, h2, h3⟩ := write_cells (P := P) (o := o) hrel hl hpl hv.cells hone (by omega)
            have hsz' : (evc x).cells.size = s := by have := hv.cells.1; simp at this; omega
            refine ⟨.skip, undef, ρ, w', ?_, rfl, h2, h3, .tuple rfl (fun i v v' h => by simp at h), fun _ _ => rfl⟩
            simp [Instr.storeAt, Instr.sureAddr, storeVar, run_sizeOf hs, hsz', h1]

end
end Go.Proofs.YtfchjhfccnodpaaGreat
end

section
namespace Go.Proofs.YtfchjhfccnodpaaGreat
set_option linter.unusedSimpArgs false
set_option linter.unusedVariables false
section
variable {P : Program} {ρ : LMap} {σ : Heap} {w : World} {nm : Nat}

theorem VRel.undef_ (ρ : LMap) : VRel ρ undef undef := .tuple rfl (fun i v v' h => by simp at h)

theorem out_cells {s : Sem Next} {v v' : Value} {c : List Value} {sz ext : Nat} {C : Array Value} {T : TypeId} {fz : Nat × Nat} {w' : World} (hrel : Rel ρ σ w) (hnm : ρ nm = none) (hlt : nm < σ.nxt)
    (hrun : s.run P w = .ok (.value v') w') (hs : Same w w') (hh : w'.heap = w.heap.push (.cells C T fz)) (hc : ∀ (i : Nat) (v : Value), c[i]? = some v → ∃ v', C[i]? = some v' ∧ VRel ρ v v')
    (hext : c.length + ext * sz ≤ C.size) (hfz : Thawed C.size fz)
    (hv : ∀ ρ' : LMap, ρ.le ρ' → ρ' nm = some ⟨w.heap.size, 0, ext, sz, c.length⟩ → VRel ρ' v v') : Out P s ρ σ w nm ⟨v, none, some (.cells c sz false)⟩ := by
  have hle := LMap.le_set (l := nm) ⟨w.heap.size, 0, ext, sz, c.length⟩ hnm
  obtain ⟨h1, h2⟩ := step_push hrel hnm hlt (.cells C T fz) (.cells c sz false) ⟨w.heap.size, 0, ext, sz, c.length⟩ rfl hs hh
    ⟨rfl, ⟨rfl, fun _ => rfl⟩, C, T, fz, by rw [hh]; simp, fun i v hi => by obtain ⟨v', a, b⟩ := hc i v hi; exact ⟨v', by simpa using a, b.mono hle⟩, fun _ => ⟨by simpa using hext, hfz⟩⟩
  exact ⟨.value v', v', _, w', hrun, rfl, h1, h2, hv _ hle (LMap.set_same _ _ _), fun l hl => LMap.set_ne _ _ hl⟩

theorem no_fz (n : Nat) : Thawed n (0, 0) := .inl rfl

theorem toArray_toList (a : Array Value) : a.toList.toArray = a := by simp

theorem newVar_ok {s : Sem Next} {v v' : Value} {t : TypeId} (hrel : Rel ρ σ w) (hnm : ρ nm = none) (hlt : nm < σ.nxt) (hv : VRel ρ v v')
    (hrun : s.run P w = .ok (.value (.pointer (some ⟨w.heap.size, 0, none⟩))) { w with heap := w.heap.push (.cells v'.cells t (0, 0)) }) :
    Out P s ρ σ w nm ⟨.pointer (some ⟨nm, 0, none⟩), none, some (.cells v.cells.toList 0 false)⟩ := by
  have hcv := hv.cells
  refine out_cells (ext := 0) hrel hnm hlt hrun ⟨rfl, rfl, rfl⟩ rfl (fun i x hi => ?_) ?_ (no_fz _) (fun ρ' _ h => ?_)
  · obtain ⟨y, h1, h2⟩ := hcv.get hi
    exact ⟨y, by simpa using h1, h2⟩
  · have := hcv.1; simp at this ⊢; omega
  · exact .ptr (p := ⟨w.heap.size, 0, 0, 0, _⟩) h

theorem alloc_ok {t : TypeId} {z : Value} {eff : Eff} (h : zeroP P t = some z) (hrel : Rel ρ σ w) (hnm : ρ nm = none) (hlt : nm < σ.nxt)
    (hrun : (Prim.newCells z.cells.toList 0).run σ nm = some eff) : Out P (do pure (.value (← Instr.alloc t true (.tuple #[])))) ρ σ w nm eff := by
  obtain ⟨hz, hp⟩ := zeroP_some h
  simp [Prim.run, Prim.newCells, getAll] at hrun
  subst hrun
  exact newVar_ok (t := t) hrel hnm hlt (plainV_rel ρ hp) (by simp [Instr.alloc, run_zeroValue hz, newVar, newRow, newObj, Sem.run])

theorem box_ok {ev : Ev} {evc : Operand → Value} {t : TypeId} {x : Operand} {v : Value} {eff : Eff} (h : ev x = some v) (hev : EvRel ρ ev evc) (hrel : Rel ρ σ w) (hnm : ρ nm = none) (hlt : nm < σ.nxt)
    (hrun : (Prim.newCells v.cells.toList 0).run σ nm = some eff) : Out P (do pure (.value (← Instr.box t (evc x)))) ρ σ w nm eff := by
  simp [Prim.run, Prim.newCells, getAll] at hrun
  subst hrun
  exact newVar_ok (t := t) hrel hnm hlt (hev _ _ h) (by simp [Instr.box, newVar, newRow, newObj, Sem.run])

theorem pureVal_ok {s : Sem Value} {p : Prim} {eff : Eff} (h : pureVal P s = some p) (hrun : p.run σ nm = some eff) :
    ∃ v, pureRun P s = some v ∧ plainV v = true ∧ eff = ⟨v, none, none⟩ := by
  unfold pureVal at h
  cases hv : pureRun P s with
  | none => rw [hv] at h; simp at h
  | some v =>
    rw [hv] at h
    simp only [Option.bind_some] at h
    split at h
    case isFalse => cases h
    rename_i hp
    cases h
    exact ⟨v, rfl, hp, run_ofVal hrun⟩

theorem pureVal_out {s : Sem Value} {p : Prim} {eff : Eff} (h : pureVal P s = some p) (hrel : Rel ρ σ w) (hrun : p.run σ nm = some eff) : Out P (do pure (.value (← s))) ρ σ w nm eff := by
  obtain ⟨v, h1, h2, rfl⟩ := pureVal_ok h hrun
  exact out_val hrel (by simp [pureRun_run h1]) (plainV_rel ρ h2)

theorem plainEv_some {ev : Ev} {evc : Operand → Value} {x : Operand} {v : Value} (h : plainEv ev x = some v) (hev : EvRel ρ ev evc) : evc x = v ∧ plainV v = true := by
  unfold plainEv at h
  cases he : ev x with
  | none => rw [he] at h; simp at h
  | some y =>
    rw [he] at h
    simp only [Option.bind_some] at h
    split at h
    case isFalse => cases h
    rename_i hp
    cases h
    exact ⟨plainV_eq hp (hev _ _ he), hp⟩


theorem equalIn_nil {t : TypeId} {a a' b b' : Value} (h : nilCmp P t a b = true) (ha : VRel ρ a a') (hb : VRel ρ b b') (d : Nat) (w : World) : (Op.equalIn (d + 1) t a' b').run P w = .ok false w := by
  unfold nilCmp at h
  split at h
  case h_1 e hu => cases ha; cases hb; simp [Op.equalIn, run_underlying hu]
  case h_2 e hu => cases hb; cases ha <;> simp [Op.equalIn, run_underlying hu]
  case h_3 e f hu => cases ha; cases hb; simp [Op.equalIn, run_underlying hu]
  case h_4 hu => cases ha; cases hb; simp [Op.equalIn, run_underlying hu]
  case h_5 => cases h

theorem equal_nil {t : TypeId} {a a' b b' : Value} (h : nilCmp P t a b = true) (ha : VRel ρ a a') (hb : VRel ρ b b') (w : World) : (Op.equal t a' b').run P w = .ok false w :=
  equalIn_nil h ha hb 9999 w

theorem eqGuard_nil {t : TypeId} {a a' b b' : Value} {op : BinOp} {x y : Operand} (h : nilCmp P t a b = true) (ha : VRel ρ a a') (w : World) : (eqGuard op t x y a' b').run P w = .ok () w := by
  unfold nilCmp at h
  split at h
  case h_1 => cases ha; cases op <;> rfl
  case h_2 => cases ha <;> cases op <;> rfl
  case h_3 => cases ha; cases op <;> rfl
  case h_4 => cases ha; cases op <;> rfl
  case h_5 => cases h

theorem binOp_nil {t : TypeId} {a a' b b' : Value} (h : nilCmp P t a b = true) (ha : VRel ρ a a') (hb : VRel ρ b b') :
    binOp .eql t a' b' = (do pure (.bool (← Op.equal t a' b'))) ∧ binOp .neq t a' b' = (do pure (.bool (!(← Op.equal t a' b')))) := by
  unfold nilCmp at h
  split at h
  case h_1 => cases ha; cases hb; exact ⟨rfl, rfl⟩
  case h_2 => cases hb; cases ha <;> exact ⟨rfl, rfl⟩
  case h_3 => cases ha; cases hb; exact ⟨rfl, rfl⟩
  case h_4 => cases ha; cases hb; exact ⟨rfl, rfl⟩
  case h_5 => cases h

theorem bin_ok {ev : Ev} {evc : Operand → Value} {op : BinOp} {t : TypeId} {x y : Operand} {p : Prim} {eff : Eff} (h : aBin P ev op t x y = some p) (hev : EvRel ρ ev evc) (hrel : Rel ρ σ w)
    (hrun : p.run σ nm = some eff) : Out P (do let v ← (do eqGuard op t x y (evc x) (evc y); binOp op t (evc x) (evc y)); pure (.value v)) ρ σ w nm eff := by
  unfold aBin at h
  cases hx : ev x with
  | none => rw [hx] at h; simp at h
  | some a =>
    cases hy : ev y with
    | none => rw [hx, hy] at h; simp at h
    | some b =>
      rw [hx, hy] at h
      simp only [Option.bind_some] at h
      have ha := hev _ _ hx
      have hb := hev _ _ hy
      split at h
      · rename_i hp
        simp only [Bool.and_eq_true] at hp
        rw [plainV_eq hp.1 ha, plainV_eq hp.2 hb]
        exact pureVal_out h hrel hrun
      · split at h
        case isFalse => cases h
        rename_i hn
        have he := equal_nil hn ha hb w
        have hg := eqGuard_nil (op := op) (x := x) (y := y) (b' := evc y) hn ha w
        obtain ⟨b1, b2⟩ := binOp_nil hn ha hb
        cases op <;> simp at h
        case eql => subst h; rw [run_ofVal hrun]; exact out_val hrel (by simp [hg, b1, he]) (.bool _)
        case neq => subst h; rw [run_ofVal hrun]; exact out_val hrel (by simp [hg, b2, he]) (.bool _)


theorem set_rel {cs cs' : Array Value} {v v' : Value} (h : VsRel ρ cs cs') (hv : VRel ρ v v') (i : Nat) : VsRel ρ (cs.setIfInBounds i v) (cs'.setIfInBounds i v') := by
  refine ⟨by simpa using h.1, fun j x x' h1 h2 => ?_⟩
  rw [Array.getElem?_setIfInBounds] at h1 h2
  split at h1
  · rename_i e
    rw [if_pos e] at h2
    split at h1
    · rename_i hlt
      rw [if_pos (h.1 ▸ hlt)] at h2
      cases h1; cases h2; exact hv
    · cases h1
  · rename_i e
    rw [if_neg e] at h2
    exact h.2 j x x' h1 h2

theorem fold_rel (off : Nat) : ∀ (L L' : List Value) (k : Nat) (cs cs' : Array Value), VlRel ρ L L' → VsRel ρ cs cs' →
    VsRel ρ ((L.zipIdx k).foldl (fun cs (c, j) => cs.setIfInBounds (off + j) c) cs) ((L'.zipIdx k).foldl (fun cs (c, j) => cs.setIfInBounds (off + j) c) cs')
  | [], L', k, cs, cs', h, hc => by rw [h.inv_nil]; exact hc
  | v :: L, L', k, cs, cs', h, hc => by
    obtain ⟨v', L2, rfl, h1, h2⟩ := h.inv_cons
    simp only [List.zipIdx_cons, List.foldl_cons]
    exact fold_rel off L L2 (k + 1) _ _ h2 (set_rel hc h1 _)

theorem fill_rel {ev : Ev} {evc : Operand → Value} (hev : EvRel ρ ev evc) {pl : Nat → Option (Nat × Nat)} : ∀ (parts : List (Nat × Operand)) (ps : List (Nat × Value)) (cs cs' r : Array Value),
    evParts ev parts = some ps → VsRel ρ cs cs' → Instr.fill pl cs ps = some r → ∃ r', Instr.fill pl cs' (parts.map fun (i, x) => (i, evc x)) = some r' ∧ VsRel ρ r r'
  | [], ps, cs, cs', r, hp, hc, hf => by
    simp [evParts] at hp; subst hp
    simp [Instr.fill] at hf; subst hf
    exact ⟨cs', rfl, hc⟩
  | (i, x) :: parts, ps, cs, cs', r, hp, hc, hf => by
    simp only [evParts] at hp
    cases hx : ev x with
    | none => rw [hx] at hp; simp at hp
    | some v =>
      rw [hx] at hp
      simp only [Option.bind_some] at hp
      cases hr : evParts ev parts with
      | none => rw [hr] at hp; simp at hp
      | some rest =>
        rw [hr] at hp
        simp at hp; subst hp
        have hv := (hev _ _ hx).cells
        have hs : (evc x).cells.size = v.cells.size := by have := hv.1; simp at this; omega
        simp only [Instr.fill] at hf
        simp only [List.map_cons, Instr.fill]
        cases hpl : pl i with
        | none => rw [hpl] at hf; simp at hf
        | some q =>
          obtain ⟨off, size⟩ := q
          rw [hpl] at hf
          simp only at hf ⊢
          split at hf
          case isTrue => cases hf
          rename_i hcond
          rw [if_neg (by rw [hs, ← hc.1]; exact hcond)]
          refine fill_rel hev parts rest _ _ r hr ?_ hf
          have := fold_rel off v.cells.toList (evc x).cells.toList 0 cs cs' hv hc
          rw [← Array.foldl_toList, ← Array.foldl_toList, Array.toList_zipIdx, Array.toList_zipIdx]
          exact this

theorem build_ok {ev : Ev} {evc : Operand → Value} {t : TypeId} {parts : Array (Nat × Operand)} {p : Prim} {eff : Eff} (h : aBuild P ev t parts = some p) (hev : EvRel ρ ev evc) (hrel : Rel ρ σ w)
    (hrun : p.run σ nm = some eff) : Out P (do pure (.value (← Instr.build t (parts.map fun (i, x) => (i, evc x))))) ρ σ w nm eff := by
  unfold aBuild at h
  cases hz : zeroP P t with
  | none => rw [hz] at h; simp at h
  | some z =>
    obtain ⟨hz0, hzp⟩ := zeroP_some hz
    cases hpl : placesO P t with
    | none => rw [hz, hpl] at h; simp at h
    | some pl =>
      cases hps : evParts ev parts.toList with
      | none => rw [hz, hpl, hps] at h; simp at h
      | some ps =>
        rw [hz, hpl, hps] at h
        simp only [Option.bind_some] at h
        cases hf : Instr.fill pl z.cells ps with
        | none => rw [hf] at h; simp at h
        | some r =>
          rw [hf] at h
          simp at h; subst h
          rw [run_ofVal hrun]
          have hzr : VsRel ρ z.cells z.cells := by
            have := (plainV_rel ρ hzp).cells
            exact ⟨rfl, fun i v v' h1 h2 => this.2 i v v' (by simpa using h1) (by simpa using h2)⟩
          obtain ⟨r', h1, h2⟩ := fill_rel hev parts.toList ps _ _ r hps hzr hf
          refine out_val hrel (v' := .agg r') ?_ (.agg h2.1 h2.2)
          have hl : (parts.map fun (i, x) => (i, evc x)).toList = parts.toList.map fun (i, x) => (i, evc x) := by simp
          unfold placesO at hpl
          cases hu : P.underlying t with
          | none => rw [hu] at hpl; simp at hpl
          | some d =>
            rw [hu] at hpl
            simp only [Option.bind_some] at hpl
            cases d <;> first | (cases hpl; done) | skip
            case struct fields =>
              obtain ⟨ps', hm, rfl⟩ := Option.map_eq_some_iff.1 hpl
              have hm' := pureRun_run hm w
              simp only [Instr.build, Sem.run_bind, run_zeroValue hz0, Result.andThen_ok, run_underlying hu]
              rw [hm']
              simp only [Result.andThen_ok, hl, h1, Sem.run_pure]
            case array n e =>
              obtain ⟨size, hs, rfl⟩ := Option.map_eq_some_iff.1 hpl
              simp [Instr.build, run_zeroValue hz0, run_underlying hu, run_sizeOf hs, h1]

theorem range_plain {z : Array Value} (hz : plainL plainV z.toList = true) (n : Nat) (hn : 0 < z.size) : VsRel ρ ((Array.range n).map (z[· % z.size]!)) ((Array.range n).map (z[· % z.size]!)) := by
  refine ⟨rfl, fun i v v' h1 h2 => ?_⟩
  rw [h1] at h2; cases h2
  have hi : i < n := by
    rcases Nat.lt_or_ge i n with h | h
    · exact h
    · rw [Array.getElem?_eq_none (by simpa using h)] at h1; cases h1
  simp [hi] at h1
  subst h1
  refine plainV_rel ρ (plainL_get hz (i := i % z.size) ?_)
  simp [Nat.mod_lt _ hn]

end
end Go.Proofs.YtfchjhfccnodpaaGreat
end

section
namespace Go.Proofs.YtfchjhfccnodpaaGreat
set_option linter.unusedSimpArgs false
set_option linter.unusedVariables false
section
variable {P : Program} {ρ : LMap} {σ : Heap} {w : World} {nm : Nat}

theorem newSlice_ok {s : Sem Next} {c : List Value} {sz n ext : Nat} {C : Array Value} {T : TypeId} {fz : Nat × Nat} {w' : World} (hrel : Rel ρ σ w) (hnm : ρ nm = none) (hlt : nm < σ.nxt)
    (hrun : s.run P w = .ok (.value (.slice (some ⟨w.heap.size, 0, none⟩) n (n + ext))) w') (hs : Same w w') (hh : w'.heap = w.heap.push (.cells C T fz))
    (hc : ∀ (i : Nat) (v : Value), c[i]? = some v → ∃ v', C[i]? = some v' ∧ VRel ρ v v') (hlen : n * sz = c.length)
    (hext : c.length + ext * sz ≤ C.size) (hfz : Thawed C.size fz) :
    Out P s ρ σ w nm ⟨.slice (some ⟨nm, 0, none⟩) n n, none, some (.cells c sz false)⟩ := by
  refine out_cells (ext := ext) hrel hnm hlt hrun hs hh hc hext hfz fun ρ' _ h => ?_
  exact .slice (p := ⟨w.heap.size, 0, ext, sz, c.length⟩) h (.inr ⟨by simpa using hlen, rfl⟩)

theorem fill_size {pl : Nat → Option (Nat × Nat)} : ∀ (ps : List (Nat × Value)) (cs r : Array Value), Instr.fill pl cs ps = some r → r.size = cs.size
  | [], cs, r, h => by simp [Instr.fill] at h; rw [h]
  | (i, v) :: ps, cs, r, h => by
    simp only [Instr.fill] at h
    split at h
    case h_1 => cases h
    split at h
    case isTrue => cases h
    rename_i off _ _ _
    rw [fill_size ps _ r h, ← Array.foldl_toList, Array.toList_zipIdx]
    generalize v.cells.toList = L
    have : ∀ (L : List Value) (k : Nat) (c : Array Value), ((L.zipIdx k).foldl (fun cs x => cs.setIfInBounds (off + x.2) x.1) c).size = c.size := by
      intro L
      induction L with
      | nil => intro k c; rfl
      | cons v L ih => intro k c; simp only [List.zipIdx_cons, List.foldl_cons]; rw [ih]; simp
    exact this L 0 cs

theorem buildSlice_ok {ev : Ev} {evc : Operand → Value} {t : TypeId} {len : Nat} {parts : Array (Nat × Operand)} {p : Prim} {eff : Eff} (h : aBuildSlice P ev t len parts = some p) (hev : EvRel ρ ev evc)
    (hrel : Rel ρ σ w) (hnm : ρ nm = none) (hlt : nm < σ.nxt) (hrun : p.run σ nm = some eff) :
    Out P (do pure (.value (← Instr.buildSlice t len (parts.map fun (i, x) => (i, evc x))))) ρ σ w nm eff := by
  unfold aBuildSlice at h
  split at h
  case h_2 => cases h
  rename_i elem hu
  cases hs : szO P elem with
  | none => rw [hs] at h; simp at h
  | some size =>
    cases hz : zeroP P elem with
    | none => rw [hs, hz] at h; simp at h
    | some z =>
      obtain ⟨hz0, hzp⟩ := zeroP_some hz
      cases hps : evParts ev parts.toList with
      | none => rw [hs, hz, hps] at h; simp at h
      | some ps =>
        rw [hs, hz, hps] at h
        simp only [Option.bind_some] at h
        split at h
        case isFalse => cases h
        rename_i hcond
        simp only [Bool.and_eq_true, decide_eq_true_eq] at hcond
        obtain ⟨⟨⟨hle, hpos⟩, hzs⟩, hzpl⟩ := hcond
        obtain ⟨cs, hf, rfl⟩ := Option.map_eq_some_iff.1 h
        simp [Prim.run, Prim.newSlice, getAll] at hrun
        subst hrun
        have hrow := range_plain (ρ := ρ) hzpl (len * size) (by omega)
        obtain ⟨r', h1, h2⟩ := fill_rel hev parts.toList ps _ _ cs hps hrow hf
        have hsz := fill_size _ _ _ hf
        have hl' : (parts.map fun (i, x) => (i, evc x)).toList = parts.toList.map fun (i, x) => (i, evc x) := by simp
        refine newSlice_ok (ext := 0) (C := r') (T := elem) (fz := (0, 0)) (w' := { w with heap := w.heap.push (.cells r' elem) }) hrel hnm hlt ?_ ⟨rfl, rfl, rfl⟩ rfl ?_ (by simp at hsz; simp [hsz]) (by have := h2.1; simp; omega) (no_fz _)
        · have hle' : ¬ (2 ^ 24 < len * size) := by omega
          by_cases hl0 : len * size = 0
          · rw [hl0] at h1
            simp only [Array.range_zero', Array.map_empty] at h1
            simp only [Instr.buildSlice, Sem.run_bind, run_underlying hu, run_sizeOf hs, Result.andThen_ok, hl', hl0]
            simp [h1, newRow, newObj, Sem.run, Array.range_zero']
          · simp only [Instr.buildSlice, Sem.run_bind, run_underlying hu, run_sizeOf hs, Result.andThen_ok, hl']
            simp [hle', hl0, run_zeroValue hz0, h1, newRow, newObj, Sem.run]
        · intro i v hi
          obtain ⟨v', a, b⟩ := h2.get (i := i) (v := v) (by simpa using hi)
          exact ⟨v', a, b⟩

theorem nil_ok {ev : Ev} {evc : Operand → Value} {x : Operand} {o : Oper} {p : Prim} {eff : Eff} (ho : o.op = .nilCheck x) (h : aNil ev x = some p) (hev : EvRel ρ ev evc) (hrel : Rel ρ σ w)
    (hrun : p.run σ nm = some eff) : Out P (execOp evc o) ρ σ w nm eff := by
  unfold aNil at h
  cases hx : ev x with
  | none => rw [hx] at h; simp at h
  | some v =>
    rw [hx] at h
    have hv := hev _ _ hx
    simp only [Option.bind_some] at h
    generalize hy : evc x = y at hv
    split at h
    · cases h
      rw [run_ofVal hrun]
      cases hv with
      | ptr hl => exact out_val hrel (by simp [execOp, ho, hy]) (.ptr hl)
    · cases h
      rw [run_ofVal hrun]
      cases hv with
      | func h1 h2 h3 h4 => exact out_val hrel (by simp [execOp, ho, hy]) (.func h1 h2 h3 h4)
    · cases h

theorem evList_rel {ev : Ev} {evc : Operand → Value} (hev : EvRel ρ ev evc) : ∀ (xs : List Operand) (vs : List Value), evList ev xs = some vs → VlRel ρ vs (xs.map evc)
  | [], vs, h => by simp [evList] at h; subst h; exact .nil ρ
  | x :: xs, vs, h => by
    simp only [evList] at h
    cases hx : ev x with
    | none => rw [hx] at h; simp at h
    | some v =>
      rw [hx] at h
      simp only [Option.bind_some] at h
      obtain ⟨r, hr, rfl⟩ := Option.map_eq_some_iff.1 h
      exact .cons (hev _ _ hx) (evList_rel hev xs r hr)

theorem makeFunc_ok {ev : Ev} {evc : Operand → Value} {fn : Fn} {first captured : Array Operand} {p : Prim} {eff : Eff} (h : aMakeFunc ev fn first captured = some p) (hev : EvRel ρ ev evc) (hrel : Rel ρ σ w)
    (hrun : p.run σ nm = some eff) : Out P (do pure (.value (← Instr.makeFunc fn (first.map evc) (captured.map evc)))) ρ σ w nm eff := by
  unfold aMakeFunc at h
  split at h
  case h_2 => cases h
  rename_i f
  cases ha : evList ev first.toList with
  | none => rw [ha] at h; simp at h
  | some a =>
    rw [ha] at h
    simp only [Option.bind_some] at h
    obtain ⟨b, hb, rfl⟩ := Option.map_eq_some_iff.1 h
    rw [run_ofVal hrun]
    have h1 := (evList_rel hev _ _ ha).toArray
    have h2 := (evList_rel hev _ _ hb).toArray
    have e1 : (first.toList.map evc).toArray = first.map evc := by rw [← Array.toList_map, Array.toArray_toList]
    have e2 : (captured.toList.map evc).toArray = captured.map evc := by rw [← Array.toList_map, Array.toArray_toList]
    rw [e1] at h1
    rw [e2] at h2
    exact out_val hrel (by simp [Instr.makeFunc]) (.func h1.1 h2.1 h1.2 h2.2)

theorem newMap_ok {s : Sem Next} (hrel : Rel ρ σ w) (hnm : ρ nm = none) (hlt : nm < σ.nxt)
    (hrun : s.run P w = .ok (.value (.map (some w.heap.size))) { w with heap := w.heap.push (.map #[] 0) }) : Out P s ρ σ w nm ⟨.map (some nm), none, some (.map [] 0)⟩ := by
  obtain ⟨h1, h2⟩ := step_push (w' := { w with heap := w.heap.push (.map #[] 0) }) hrel hnm hlt (.map #[] 0) (.map [] 0) ⟨w.heap.size, 0, 0, 0, 0⟩ rfl ⟨rfl, rfl, rfl⟩ rfl ⟨#[], by simp, rfl, fun i e e' h => by simp at h⟩
  exact ⟨_, _, _, _, hrun, rfl, h1, h2, .map (p := ⟨w.heap.size, 0, 0, 0, 0⟩) (LMap.set_same _ _ _), fun l hl => LMap.set_ne _ _ hl⟩

theorem makeMap_ok {ev : Ev} {evc : Operand → Value} {t : TypeId} {r : Option Operand} {p : Prim} {eff : Eff} (h : aMakeMap P ev t r = some p) (hev : EvRel ρ ev evc) (hrel : Rel ρ σ w) (hnm : ρ nm = none) (hlt : nm < σ.nxt)
    (hrun : p.run σ nm = some eff) : Out P (do pure (.value (← Instr.makeMap t (r.map evc)))) ρ σ w nm eff := by
  unfold aMakeMap at h
  split at h
  · cases h
    simp [Prim.run, getAll] at hrun
    subst hrun
    exact newMap_ok hrel hnm hlt (by simp [Instr.makeMap, newObj, Sem.run])
  · rename_i x
    cases hx : ev x with
    | none => rw [hx] at h; simp at h
    | some v =>
      rw [hx] at h
      have hv := hev _ _ hx
      simp only [Option.bind_some] at h
      split at h
      case h_2 => cases h
      split at h
      case h_2 => cases h
      rename_i hu
      cases h
      simp [Prim.run, getAll] at hrun
      subst hrun
      generalize hy : evc x = y at hv
      cases hv
      exact newMap_ok hrel hnm hlt (by simp [Instr.makeMap, newObj, Sem.run, hy, run_underlying hu, asInt, asIntOf])

theorem bytes_of {t : TypeId} {b : Nat} (h : bytesO P t = some b) : ∃ i, P.info? t = some i ∧ i.bytes = b := by
  unfold bytesO at h
  cases hi : P.info? t with
  | none => rw [hi] at h; simp at h
  | some i => rw [hi] at h; simp at h; exact ⟨i, rfl, h⟩

theorem makeSlice_ok {ev : Ev} {evc : Operand → Value} {t : TypeId} {len cap : Operand} {p : Prim} {eff : Eff} (h : aMakeSlice P ev t len cap = some p) (hev : EvRel ρ ev evc) (hrel : Rel ρ σ w) (hnm : ρ nm = none) (hlt : nm < σ.nxt)
    (hrun : p.run σ nm = some eff) : Out P (do pure (.value (← Instr.makeSlice t (evc len) (evc cap)))) ρ σ w nm eff := by
  unfold aMakeSlice at h
  split at h
  case h_2 => cases h
  rename_i elem hu
  cases hl : ev len with
  | none => rw [hl] at h; simp at h
  | some lv =>
    rw [hl] at h
    have hlr := hev _ _ hl
    simp only [Option.bind_some] at h
    split at h
    case h_2 => cases h
    rename_i k l
    cases hc : ev cap with
    | none => rw [hc] at h; simp at h
    | some cv =>
      rw [hc] at h
      have hcr := hev _ _ hc
      simp only [Option.bind_some] at h
      split at h
      case h_2 => cases h
      rename_i k2 c
      cases hs : szO P elem with
      | none => rw [hs] at h; simp at h
      | some size =>
        cases hb : bytesO P elem with
        | none => rw [hs, hb] at h; simp at h
        | some by_ =>
          cases hz : zeroP P elem with
          | none => rw [hs, hb, hz] at h; simp at h
          | some z =>
            obtain ⟨hz0, hzp⟩ := zeroP_some hz
            rw [hs, hb, hz] at h
            simp only [Option.bind_some] at h
            split at h
            case isFalse => cases h
            rename_i hcond
            simp only [Bool.and_eq_true, decide_eq_true_eq] at hcond
            obtain ⟨⟨⟨⟨⟨⟨h1, h2⟩, h3⟩, h4⟩, h5⟩, h6⟩, h7⟩ := hcond
            cases h
            simp [Prim.run, getAll] at hrun
            subst hrun
            generalize hy : evc len = y at hlr
            generalize hy2 : evc cap = y2 at hcr
            cases hlr
            cases hcr
            obtain ⟨i, hi, hib⟩ := bytes_of hb
            have w1 : IntKind.i64.wrap l = l := IntWalk.i64_in _ (by omega)
            have w2 : IntKind.i64.wrap c = c := IntWalk.i64_in _ (by omega)
            have hcap : ((c.toNat : Nat) : Int) = c := by omega
            have hroom : c.toNat * by_ ≤ 2 ^ 47 := by
              have : ((c.toNat * by_ : Nat) : Int) = by_ * c := by rw [Int.natCast_mul, hcap, Int.mul_comm]
              omega
            have hask : ∀ w : World, (askRoom (c.toNat * by_)).run P w = .ok () w := by
              intro w; unfold askRoom; rw [if_neg (by unfold roomBytes; omega)]; rfl
            have hrow := range_plain (ρ := ρ) h7 (c.toNat * size) (by omega)
            refine out_cells (ext := 0) (C := (Array.range (c.toNat * size)).map (z.cells[· % z.cells.size]!)) (T := elem) (fz := (0, 0))
              (v' := .slice (some ⟨w.heap.size, 0, none⟩) l.toNat c.toNat)
              (w' := { w with heap := w.heap.push (.cells ((Array.range (c.toNat * size)).map (z.cells[· % z.cells.size]!)) elem) }) hrel hnm hlt ?_ ⟨rfl, rfl, rfl⟩ rfl ?_ (by simp) (no_fz _) ?_
            · have hl1 : ¬ c < l := by omega
              have hl2 : ¬ l < 0 := by omega
              have hc1 : ¬ c < 0 := by omega
              have hc2 : ¬ (281474976710656 : Int) < by_ * c := by omega
              simp only [Instr.makeSlice, Sem.run_bind, run_underlying hu, Result.andThen_ok, asInt, asIntOf, Sem.run_pure, typeInfo, program, Sem.run, hi, hib, w1, w2]
              by_cases hn : c.toNat * size = 0
              · simp [hl1, hl2, hc1, hc2, hask, run_sizeOf hs, hn, newRow, newObj, Sem.run, Array.range_zero']
              · simp [hl1, hl2, hc1, hc2, hask, run_sizeOf hs, hn, run_zeroValue hz0, newRow, newObj, Sem.run]
            · intro i v hi
              obtain ⟨v', a, b⟩ := hrow.get (i := i) (v := v) (by rw [← Array.getElem?_toList, Array.toList_map, Array.toList_range]; exact hi)
              exact ⟨v', a, b⟩
            · intro ρ' _ h
              exact .slice (p := ⟨w.heap.size, 0, 0, size, _⟩) h (.inl rfl)


theorem add_rel {l o k : Nat} {pl : Pl} (h : ρ l = some pl) : VRel ρ (.pointer (some ⟨l, o + k, none⟩)) (.pointer (some (Addr.add ⟨pl.blk, pl.off + o, none⟩ k))) := by
  rw [Addr.add_lit, Nat.add_assoc]
  exact .ptr h

theorem fieldAddr_ok {ev : Ev} {evc : Operand → Value} {s : TypeId} {x : Operand} {f : Nat} {p : Prim} {eff : Eff} (h : aFieldAddr P ev s x f = some p) (hev : EvRel ρ ev evc) (hrel : Rel ρ σ w)
    (hrun : p.run σ nm = some eff) : Out P (do pure (.value (← Instr.fieldAt s (evc x) f))) ρ σ w nm eff := by
  unfold aFieldAddr at h
  split at h
  case h_2 => cases h
  rename_i fields hu
  cases hf : fields[f]? with
  | none => rw [hf] at h; simp at h
  | some fd =>
    rw [hf] at h
    simp only [Option.bind_some] at h
    cases hx : ev x with
    | none => rw [hx] at h; simp at h
    | some v =>
      rw [hx] at h
      have hv := hev _ _ hx
      simp only [Option.bind_some] at h
      split at h
      case h_2 => cases h
      rename_i l o
      cases hz : szO P fd.type with
      | none => rw [hz] at h; simp at h
      | some z =>
        rw [hz] at h
        simp only [Option.bind_some] at h
        split at h
        case isTrue => cases h
        rename_i hz0
        cases h
        rw [run_ofVal hrun]
        generalize hy : evc x = y at hv
        cases hv with
        | ptr hl =>
          exact out_val hrel (by simp [Instr.fieldAt, run_underlying hu, hf, Instr.sureAddr, fieldPlace, run_sizeOf hz, hz0] <;> rfl) (add_rel hl)

theorem part_rel {t : TypeId} {c c' : Array Value} {o : Nat} {v : Value} (hc : VsRel ρ c c') (h : partO P t c.toList o = some v) (w : World) : ∃ v', (part t c' o).run P w = .ok v' w ∧ VRel ρ v v' := by
  unfold partO at h
  cases ha : aggO P t with
  | none => rw [ha] at h; simp at h
  | some b =>
    rw [ha] at h
    cases b with
    | true =>
      simp only [Option.bind_some] at h
      cases hs : szO P t with
      | none => rw [hs] at h; simp at h
      | some s =>
        rw [hs] at h
        simp only [Option.bind_some] at h
        split at h
        case isFalse => cases h
        rename_i hle
        cases h
        refine ⟨.agg (c'.extract o (o + s)), by simp [part, run_isAgg ha, run_sizeOf hs], ?_⟩
        have h1 := ((hc.toList.drop o).take s).toArray
        have e : ((c'.toList.drop o).take s).toArray = c'.extract o (o + s) := by
          apply Array.ext'
          simp [List.take_drop]
        rw [e] at h1
        exact .agg h1.1 h1.2
    | false =>
      simp only [Option.bind_some] at h
      obtain ⟨v', h1, h2⟩ := hc.get (i := o) (v := v) (by simpa using h)
      exact ⟨v', by simp [part, run_isAgg ha, h1], h2⟩

theorem field_ok {ev : Ev} {evc : Operand → Value} {s : TypeId} {x : Operand} {f : Nat} {p : Prim} {eff : Eff} (h : aField P ev s x f = some p) (hev : EvRel ρ ev evc) (hrel : Rel ρ σ w)
    (hrun : p.run σ nm = some eff) : Out P (do pure (.value (← Instr.field s (evc x) f))) ρ σ w nm eff := by
  unfold aField at h
  split at h
  case h_2 => cases h
  rename_i fields hu
  cases hf : fields[f]? with
  | none => rw [hf] at h; simp at h
  | some fd =>
    rw [hf] at h
    simp only [Option.bind_some] at h
    cases hx : ev x with
    | none => rw [hx] at h; simp at h
    | some v =>
      rw [hx] at h
      have hv := hev _ _ hx
      simp only [Option.bind_some] at h
      split at h
      case h_2 => cases h
      rename_i cs
      obtain ⟨r, hr, rfl⟩ := Option.map_eq_some_iff.1 h
      rw [run_ofVal hrun]
      generalize hy : evc x = y at hv
      cases hv with
      | agg h1 h2 =>
        obtain ⟨v', k1, k2⟩ := part_rel ⟨h1, h2⟩ hr w
        exact out_val hrel (by simp [Instr.field, run_underlying hu, hf, asAgg, k1]) k2

theorem indexAddr_ok {ev : Ev} {evc : Operand → Value} {t : TypeId} {x ix : Operand} {p : Prim} {eff : Eff} (h : aIndexAddr P ev t x ix = some p) (hev : EvRel ρ ev evc) (hrel : Rel ρ σ w)
    (hrun : p.run σ nm = some eff) : Out P (do pure (.value (← Instr.indexAt t (evc x) (evc ix)))) ρ σ w nm eff := by
  unfold aIndexAddr at h
  cases hi : ev ix with
  | none => rw [hi] at h; simp at h
  | some iv =>
    rw [hi] at h
    have hiv := hev _ _ hi
    simp only [Option.bind_some] at h
    split at h
    case h_2 => cases h
    rename_i k i
    generalize hyi : evc ix = yi at hiv
    cases hiv
    split at h
    case h_3 => cases h
    · rename_i elem hu
      cases hs : szO P elem with
      | none => rw [hs] at h; simp at h
      | some size =>
        rw [hs] at h
        simp only [Option.bind_some] at h
        cases hx : ev x with
        | none => rw [hx] at h; simp at h
        | some v =>
          rw [hx] at h
          have hv := hev _ _ hx
          simp only [Option.bind_some] at h
          split at h
          case h_2 => cases h
          rename_i l o n c
          split at h
          case isFalse => cases h
          rename_i hin
          cases h
          rw [run_ofVal hrun]
          generalize hy : evc x = y at hv
          cases hv with
          | slice hl hc =>
            exact out_val hrel (by simp [Instr.indexAt, asIntOf, run_underlying hu, hin, run_sizeOf hs] <;> rfl) (add_rel hl)
          | slice0 hl => omega
    · rename_i n elem hu
      cases hs : szO P elem with
      | none => rw [hs] at h; simp at h
      | some size =>
        rw [hs] at h
        simp only [Option.bind_some] at h
        cases hx : ev x with
        | none => rw [hx] at h; simp at h
        | some v =>
          rw [hx] at h
          have hv := hev _ _ hx
          simp only [Option.bind_some] at h
          split at h
          case h_2 => cases h
          rename_i l o
          split at h
          case isFalse => cases h
          rename_i hin
          cases h
          rw [run_ofVal hrun]
          generalize hy : evc x = y at hv
          cases hv with
          | ptr hl =>
            exact out_val hrel (by simp [Instr.indexAt, asIntOf, run_underlying hu, Instr.sureAddr, hin, run_sizeOf hs] <;> rfl) (add_rel hl)

theorem index_ok {ev : Ev} {evc : Operand → Value} {t : TypeId} {x ix : Operand} {p : Prim} {eff : Eff} (h : aIndex P ev t x ix = some p) (hev : EvRel ρ ev evc) (hrel : Rel ρ σ w)
    (hrun : p.run σ nm = some eff) : Out P (do pure (.value (← Instr.index t (evc x) (evc ix)))) ρ σ w nm eff := by
  unfold aIndex at h
  cases hi : ev ix with
  | none => rw [hi] at h; simp at h
  | some iv =>
    rw [hi] at h
    have hiv := hev _ _ hi
    simp only [Option.bind_some] at h
    split at h
    case h_2 => cases h
    rename_i k i
    generalize hyi : evc ix = yi at hiv
    cases hiv
    split at h
    case h_3 => cases h
    · rename_i hu
      cases hx : plainEv ev x with
      | none => rw [hx] at h; simp at h
      | some v =>
        rw [hx] at h
        simp only [Option.bind_some] at h
        rw [(plainEv_some hx hev).1]
        exact pureVal_out h hrel hrun
    · rename_i n elem hu
      cases hs : szO P elem with
      | none => rw [hs] at h; simp at h
      | some size =>
        rw [hs] at h
        simp only [Option.bind_some] at h
        cases hx : ev x with
        | none => rw [hx] at h; simp at h
        | some v =>
          rw [hx] at h
          have hv := hev _ _ hx
          simp only [Option.bind_some] at h
          split at h
          case h_2 => cases h
          rename_i cs
          split at h
          case isFalse => cases h
          rename_i hin
          obtain ⟨r, hr, rfl⟩ := Option.map_eq_some_iff.1 h
          rw [run_ofVal hrun]
          generalize hy : evc x = y at hv
          cases hv with
          | agg h1 h2 =>
            obtain ⟨v', k1, k2⟩ := part_rel ⟨h1, h2⟩ hr w
            exact out_val hrel (by simp [Instr.index, asIntOf, run_underlying hu, hin, run_sizeOf hs, k1]) k2

theorem extract_ok {ev : Ev} {evc : Operand → Value} {t : Operand} {i : Nat} {p : Prim} {eff : Eff} (h : aExtract ev t i = some p) (hev : EvRel ρ ev evc) (hrel : Rel ρ σ w)
    (hrun : p.run σ nm = some eff) : Out P (do pure (.value (← Instr.extract (evc t) i))) ρ σ w nm eff := by
  unfold aExtract at h
  cases hx : ev t with
  | none => rw [hx] at h; simp at h
  | some v =>
    rw [hx] at h
    have hv := hev _ _ hx
    simp only [Option.bind_some] at h
    split at h
    case h_2 => cases h
    rename_i vs
    obtain ⟨r, hr, rfl⟩ := Option.map_eq_some_iff.1 h
    rw [run_ofVal hrun]
    generalize hy : evc t = y at hv
    cases hv with
    | tuple h1 h2 =>
      obtain ⟨v', k1, k2⟩ := VsRel.get (ρ := ρ) ⟨h1, h2⟩ hr
      exact out_val hrel (by simp [Instr.extract, k1]) k2


theorem bound_run {ev : Ev} {evc : Operand → Value} (hev : EvRel ρ ev evc) {x : Operand} {d y m : Nat} (h : boundO ev (some x) d y = some m) (y' : Nat) (hy : y ≤ y') (code : BoundsCode) (w : World) :
    (Instr.sliceBound (evc x) y' code).run P w = .ok m w ∧ m ≤ y := by
  simp only [boundO] at h
  cases hx : ev x with
  | none => rw [hx] at h; simp at h
  | some v =>
    rw [hx] at h
    have hv := hev _ _ hx
    simp only [Option.bind_some] at h
    split at h
    case h_2 => cases h
    rename_i k i
    split at h
    case isFalse => cases h
    rename_i hi
    cases h
    generalize hyy : evc x = yy at hv
    cases hv
    have h' : 0 ≤ i ∧ i ≤ (y' : Int) := by omega
    exact ⟨by simp [Instr.sliceBound, asIntOf, h'], by omega⟩

theorem bound_none {ev : Ev} {d y m : Nat} (h : boundO ev none d y = some m) : m = d ∧ d ≤ y := by
  simp only [boundO] at h
  split at h
  · cases h; exact ⟨rfl, by assumption⟩
  · cases h

theorem bounds2 {ev : Ev} {evc : Operand → Value} (hev : EvRel ρ ev evc) {lo hi : Option Operand} {len cap cap' h a : Nat} (is : Bool) (hh : boundO ev hi len cap = some h) (ha : boundO ev lo 0 h = some a) (hcap : cap ≤ cap') (w : World) :
    (Instr.sliceBounds is len cap' (lo.map evc) (hi.map evc) none).run P w = .ok (a, h, cap') w ∧ a ≤ h ∧ h ≤ cap := by
  cases hi with
  | none =>
    obtain ⟨e1, e2⟩ := bound_none hh
    subst e1
    cases lo with
    | none => obtain ⟨e3, e4⟩ := bound_none ha; subst e3; exact ⟨by simp [Instr.sliceBounds], e4, e2⟩
    | some y => have k := fun code => bound_run (P := P) hev ha h (Nat.le_refl _) code w; exact ⟨by simp [Instr.sliceBounds, (k _).1], (k .sliceB).2, e2⟩
  | some x =>
    have q := fun code => bound_run (P := P) hev hh cap' hcap code w
    cases lo with
    | none => obtain ⟨e3, e4⟩ := bound_none ha; subst e3; exact ⟨by simp [Instr.sliceBounds, (q _).1], e4, (q .sliceB).2⟩
    | some y => have k := fun code => bound_run (P := P) hev ha h (Nat.le_refl _) code w; exact ⟨by simp [Instr.sliceBounds, (q _).1, (k _).1], (k .sliceB).2, (q .sliceB).2⟩

theorem bounds3 {ev : Ev} {evc : Operand → Value} (hev : EvRel ρ ev evc) {lo : Option Operand} {hi mx : Operand} {len cap cap' h a m d1 d2 : Nat} (is : Bool) (hm : boundO ev (some mx) d1 cap = some m) (hh : boundO ev (some hi) d2 m = some h) (ha : boundO ev lo 0 h = some a) (hcap : cap ≤ cap') (w : World) :
    (Instr.sliceBounds is len cap' (lo.map evc) (some (evc hi)) (some (evc mx))).run P w = .ok (a, h, m) w ∧ a ≤ h ∧ h ≤ m ∧ m ≤ cap := by
  have h0 := fun code => bound_run (P := P) hev hm cap' hcap code w
  have h1 := fun code => bound_run (P := P) hev hh m (Nat.le_refl _) code w
  cases lo with
  | none => obtain ⟨e3, e4⟩ := bound_none ha; subst e3; exact ⟨by simp [Instr.sliceBounds, (h0 _).1, (h1 _).1], e4, (h1 .index).2, (h0 .index).2⟩
  | some y => have k := fun code => bound_run (P := P) hev ha h (Nat.le_refl _) code w; exact ⟨by simp [Instr.sliceBounds, (h0 _).1, (h1 _).1, (k _).1], (k .index).2, (h1 .index).2, (h0 .index).2⟩

theorem slice_ok {ev : Ev} {evc : Operand → Value} {t : TypeId} {x : Operand} {lo hi mx : Option Operand} {p : Prim} {eff : Eff} (h : aSlice P ev t x lo hi mx = some p) (hev : EvRel ρ ev evc) (hrel : Rel ρ σ w)
    (hrun : p.run σ nm = some eff) : Out P (do pure (.value (← Instr.sliceAt t (evc x) (lo.map evc) (hi.map evc) (mx.map evc)))) ρ σ w nm eff := by
  unfold aSlice at h
  split at h
  case h_4 => cases h
  · -- strings
    rename_i hu
    cases hx : plainEv ev x with
    | none => rw [hx] at h; simp at h
    | some v =>
      rw [hx] at h
      simp only [Option.bind_some] at h
      have e : ∀ a b c, (Instr.sliceAt t (evc x) a b c).run P w = (Instr.slice t v a b c).run P w := by
        intro a b c
        rw [(plainEv_some hx hev).1]
        simp [Instr.sliceAt, run_underlying hu]
      split at h
      · obtain ⟨r, h1, h2, rfl⟩ := pureVal_ok h hrun
        exact out_val hrel (by simp [e, pureRun_run h1]) (plainV_rel ρ h2)
      · rename_i a
        cases ha : plainEv ev a with
        | none => rw [ha] at h; simp at h
        | some av =>
          rw [ha] at h
          simp only [Option.bind_some] at h
          obtain ⟨r, h1, h2, rfl⟩ := pureVal_ok h hrun
          exact out_val hrel (by simp [e, (plainEv_some ha hev).1, pureRun_run h1]) (plainV_rel ρ h2)
      · rename_i b
        cases hb : plainEv ev b with
        | none => rw [hb] at h; simp at h
        | some bv =>
          rw [hb] at h
          simp only [Option.bind_some] at h
          obtain ⟨r, h1, h2, rfl⟩ := pureVal_ok h hrun
          exact out_val hrel (by simp [e, (plainEv_some hb hev).1, pureRun_run h1]) (plainV_rel ρ h2)
      · rename_i a b
        cases ha : plainEv ev a with
        | none => rw [ha] at h; simp at h
        | some av =>
          cases hb : plainEv ev b with
          | none => rw [ha, hb] at h; simp at h
          | some bv =>
            rw [ha, hb] at h
            simp only [Option.bind_some] at h
            obtain ⟨r, h1, h2, rfl⟩ := pureVal_ok h hrun
            exact out_val hrel (by simp [e, (plainEv_some ha hev).1, (plainEv_some hb hev).1, pureRun_run h1]) (plainV_rel ρ h2)
      · cases h
  · -- slices
    rename_i elem hu
    cases hs : szO P elem with
    | none => rw [hs] at h; simp at h
    | some size =>
      rw [hs] at h
      simp only [Option.bind_some] at h
      cases hx : ev x with
      | none => rw [hx] at h; simp at h
      | some v =>
        rw [hx] at h
        have hv := hev _ _ hx
        simp only [Option.bind_some] at h
        generalize hy : evc x = y at hv
        split at h
        case h_4 => cases h
        · -- nil
          cases hv
          cases hm : boundO ev mx 0 0 with
          | none => rw [hm] at h; simp at h
          | some m =>
            rw [hm] at h
            simp only [Option.bind_some] at h
            cases hh : boundO ev hi 0 m with
            | none => rw [hh] at h; simp at h
            | some hb =>
              rw [hh] at h
              simp only [Option.bind_some] at h
              cases ha : boundO ev lo 0 hb with
              | none => rw [ha] at h; simp at h
              | some a =>
                rw [ha] at h
                simp only [Option.bind_some] at h
                split at h
                case isTrue => cases h
                rename_i hcond
                cases h
                rw [run_ofVal hrun]
                cases mx with
                | none =>
                  obtain ⟨e1, _⟩ := bound_none hm
                  subst e1
                  obtain ⟨k1, k2, k3⟩ := bounds2 (P := P) (evc := evc) hev true hh ha (Nat.le_refl 0) w
                  have : a = 0 := by omega
                  have : hb = 0 := by omega
                  subst_vars
                  exact out_val hrel (by simp [Instr.sliceAt, run_underlying hu, Instr.slice, run_sizeOf hs, k1]) (.sliceNil 0 0)
                | some q =>
                  cases hi with
                  | none => simp at hcond
                  | some r =>
                    obtain ⟨k1, k2, k3, k4⟩ := bounds3 (P := P) (evc := evc) (len := 0) hev true hm hh ha (Nat.le_refl 0) w
                    have : a = 0 := by omega
                    have : hb = 0 := by omega
                    have : m = 0 := by omega
                    subst_vars
                    exact out_val hrel (by simp [Instr.sliceAt, run_underlying hu, Instr.slice, run_sizeOf hs, k1]) (.sliceNil 0 0)
        · -- nothing, somewhere
          rename_i l o s0
          obtain ⟨a', rfl⟩ : ∃ a', y = .slice (some a') 0 0 := by cases hv; exact ⟨_, rfl⟩
          cases hm : boundO ev mx 0 0 with
          | none => rw [hm] at h; simp at h
          | some m =>
            rw [hm] at h
            simp only [Option.bind_some] at h
            cases hh : boundO ev hi 0 m with
            | none => rw [hh] at h; simp at h
            | some hb =>
              rw [hh] at h
              simp only [Option.bind_some] at h
              cases ha : boundO ev lo 0 hb with
              | none => rw [ha] at h; simp at h
              | some a =>
                rw [ha] at h
                simp only [Option.bind_some] at h
                split at h
                case isTrue => cases h
                rename_i hcond
                cases h
                rw [run_ofVal hrun]
                cases mx with
                | none =>
                  obtain ⟨e1, _⟩ := bound_none hm
                  subst e1
                  obtain ⟨k1, k2, k3⟩ := bounds2 (P := P) (evc := evc) hev true hh ha (Nat.le_refl 0) w
                  have : a = 0 := by omega
                  have : hb = 0 := by omega
                  subst_vars
                  exact out_val hrel (by simp [Instr.sliceAt, run_underlying hu, Instr.slice, run_sizeOf hs, k1]) (.sliceE (a' := a'))
                | some q =>
                  cases hi with
                  | none => simp at hcond
                  | some r =>
                    obtain ⟨k1, k2, k3, k4⟩ := bounds3 (P := P) (evc := evc) (len := 0) hev true hm hh ha (Nat.le_refl 0) w
                    have : a = 0 := by omega
                    have : hb = 0 := by omega
                    have : m = 0 := by omega
                    subst_vars
                    exact out_val hrel (by simp [Instr.sliceAt, run_underlying hu, Instr.slice, run_sizeOf hs, k1]) (.sliceE (a' := a'))
        · rename_i l o n c
          -- what the concrete slice is
          have hcc : ∃ pl b' c', ρ l = some pl ∧ y = .slice (some ⟨pl.blk, b', none⟩) n c' ∧ c ≤ c' ∧
              ((b' = pl.off + o ∧ (c' = c ∨ (o + c * pl.sz = pl.len ∧ c' = c + pl.ext))) ∨ (n = 0 ∧ c = 0 ∧ c' = 0)) := by
            cases hv with
            | slice hl hc => rename_i c' pl; exact ⟨pl, _, c', hl, rfl, by omega, .inl ⟨rfl, hc⟩⟩
            | slice0 hl => rename_i o' pl; exact ⟨pl, o', 0, hl, rfl, by omega, .inr ⟨rfl, rfl, rfl⟩⟩
          obtain ⟨pl, b', c', hl, rfl, hcle, hcase⟩ := hcc
          split at h
          · -- with a third bound
            rename_i mxo
            cases hm : boundO ev (some mxo) c c with
            | none => rw [hm] at h; simp at h
            | some m =>
              rw [hm] at h
              simp only [Option.bind_some] at h
              cases hi with
              | none => simp at h
              | some hio =>
                simp only [Option.isNone_some, Bool.false_eq_true, if_false] at h
                cases hh : boundO ev (some hio) n m with
                | none => rw [hh] at h; simp at h
                | some hb =>
                  rw [hh] at h
                  simp only [Option.bind_some] at h
                  cases ha : boundO ev lo 0 hb with
                  | none => rw [ha] at h; simp at h
                  | some a =>
                    rw [ha] at h
                    simp only [Option.bind_some] at h
                    cases h
                    rw [run_ofVal hrun]
                    obtain ⟨k1, k2, k3, k4⟩ := bounds3 (P := P) (evc := evc) (len := n) hev true hm hh ha hcle w
                    refine out_val hrel (v' := .slice (if m = a then some ⟨pl.blk, b', none⟩ else some (Addr.add ⟨pl.blk, b', none⟩ (a * size))) (hb - a) (m - a)) ?_ ?_
                    · simp [Instr.sliceAt, run_underlying hu, Instr.slice, run_sizeOf hs, k1]
                    · by_cases e : m = a
                      · have : hb = a := by omega
                        subst e; subst this
                        simp only [if_true, Nat.sub_self]
                        exact .slice0 hl
                      · simp only [if_neg e, Addr.add_lit]
                        rcases hcase with ⟨rfl, _⟩ | ⟨_, hc0, _⟩
                        · rw [Nat.add_assoc]; exact .slice hl (.inl rfl)
                        · omega
          · -- without
            cases hh : boundO ev hi n c with
            | none => rw [hh] at h; simp at h
            | some hb =>
              rw [hh] at h
              simp only [Option.bind_some] at h
              cases ha : boundO ev lo 0 hb with
              | none => rw [ha] at h; simp at h
              | some a =>
                rw [ha] at h
                simp only [Option.bind_some] at h
                obtain ⟨k1, k2, k3⟩ := bounds2 (P := P) (evc := evc) hev true hh ha hcle w
                have hres : (Instr.sliceAt t (.slice (some ⟨pl.blk, b', none⟩) n c') (lo.map evc) (hi.map evc) none).run P w =
                    .ok (.slice (if c' = a then some ⟨pl.blk, b', none⟩ else some (Addr.add ⟨pl.blk, b', none⟩ (a * size))) (hb - a) (c' - a)) w := by
                  simp [Instr.sliceAt, run_underlying hu, Instr.slice, run_sizeOf hs, k1]
                split at h
                · rename_i ha0
                  subst ha0
                  cases h
                  rw [run_ofVal hrun]
                  refine out_val hrel (v' := .slice (some ⟨pl.blk, b', none⟩) hb c') ?_ ?_
                  · simp [hres, Addr.add_lit]
                  · rcases hcase with ⟨rfl, hc⟩ | ⟨hn0, hc0, hc1⟩
                    · exact .slice hl hc
                    · subst hc0; subst hc1
                      have : hb = 0 := by omega
                      subst this
                      exact .slice0 hl
                · rename_i ha0
                  cases h
                  simp only [Prim.run, getAll] at hrun
                  cases hl' : σ.get l with
                  | none => rw [hl'] at hrun; simp at hrun
                  | some ob =>
                    rw [hl'] at hrun
                    simp only [Option.bind_some, Option.map_some] at hrun
                    split at hrun
                    case h_2 => cases hrun
                    rename_i cl sz ro heq
                    simp at heq
                    subst heq
                    split at hrun
                    case isFalse => cases hrun
                    rename_i hszz
                    subst hszz
                    cases hrun
                    obtain ⟨hlen, hsz, _⟩ := cells_of hrel hl' hl
                    refine out_val hrel (v' := .slice (if c' = a then some ⟨pl.blk, b', none⟩ else some (Addr.add ⟨pl.blk, b', none⟩ (a * sz))) (hb - a) (c' - a)) (by simp [hres]) ?_
                    rcases hcase with ⟨rfl, hc⟩ | ⟨hn0, hc0, hc1⟩
                    · by_cases e : c' = a
                      · have e1 : c = a := by omega
                        have e2 : hb = a := by omega
                        subst e2
                        rw [e1, e]
                        simp only [if_true, Nat.sub_self]
                        exact .slice0 hl
                      · simp only [if_neg e, Addr.add_lit]
                        rw [Nat.add_assoc]
                        refine .slice hl ?_
                        rcases hc with rfl | ⟨h1, h2⟩
                        · exact .inl rfl
                        · right
                          refine ⟨?_, by omega⟩
                          rw [hsz] at h1 ⊢
                          rw [← h1, Nat.sub_mul]
                          have : a * sz ≤ c * sz := Nat.mul_le_mul_right _ (by omega)
                          omega
                    · omega
  · -- arrays
    rename_i n elem hu
    cases hs : szO P elem with
    | none => rw [hs] at h; simp at h
    | some size =>
      rw [hs] at h
      simp only [Option.bind_some] at h
      cases hx : ev x with
      | none => rw [hx] at h; simp at h
      | some v =>
        rw [hx] at h
        have hv := hev _ _ hx
        simp only [Option.bind_some] at h
        split at h
        case h_2 => cases h
        rename_i l o
        split at h
        case isTrue => cases h
        rename_i hmx
        have hmx' : mx = none := by cases mx <;> simp_all
        subst hmx'
        cases hh : boundO ev hi n n with
        | none => rw [hh] at h; simp at h
        | some hb =>
          rw [hh] at h
          simp only [Option.bind_some] at h
          cases ha : boundO ev lo 0 hb with
          | none => rw [ha] at h; simp at h
          | some a =>
            rw [ha] at h
            simp only [Option.bind_some] at h
            cases h
            rw [run_ofVal hrun]
            generalize hy : evc x = y at hv
            obtain ⟨k1, k2, k3⟩ := bounds2 (P := P) (evc := evc) hev false hh ha (Nat.le_refl n) w
            cases hv with
            | ptr hl =>
              rename_i pl
              refine out_val hrel (v' := .slice (some (if n = a then ⟨pl.blk, pl.off + o, none⟩ else Addr.add ⟨pl.blk, pl.off + o, none⟩ (a * size))) (hb - a) (n - a)) ?_ ?_
              · simp [Instr.sliceAt, run_underlying hu, Instr.sureAddr, run_sizeOf hs, k1]
              · by_cases e : n = a
                · simp only [if_pos e]; exact .slice hl (.inl rfl)
                · simp only [if_neg e, Addr.add_lit]
                  rw [Nat.add_assoc]
                  exact .slice hl (.inl rfl)

end
end Go.Proofs.YtfchjhfccnodpaaGreat
end

section
namespace Go.Proofs.YtfchjhfccnodpaaGreat
set_option linter.unusedSimpArgs false
set_option linter.unusedVariables false
section
variable {P : Program} {ρ : LMap} {σ : Heap} {w : World} {nm : Nat}

theorem u8_cells (l : List UInt8) : plainL plainV (l.map fun b => Value.int .u8 b.toNat) = true := by
  induction l with
  | nil => rfl
  | cons b l ih => simp only [List.map_cons, plainL, ih, Bool.and_true]; rfl

theorem grownCap_le (w : World) (need old : Nat) (e : TypeId) : need ≤ grownCap w need old e := by simp [grownCap, Question.cut]

theorem bytesOf_run : ∀ (c : List Value) (acc s : ByteArray), bytesOf c acc = some s → ∃ ns : List Int, c = ns.map (Value.int .u8) ∧ s = ns.foldl (fun r n => r.push (UInt8.ofNat n.toNat)) acc
  | [], acc, s, h => by simp [bytesOf] at h; exact ⟨[], rfl, h.symm⟩
  | v :: c, acc, s, h => by
    unfold bytesOf at h
    split at h
    · rename_i heq; cases heq
    · rename_i acc1 n r heq
      cases heq
      obtain ⟨ns, h1, h2⟩ := bytesOf_run _ _ _ h
      exact ⟨n :: ns, by simp [h1], by simpa using h2⟩
    · cases h

theorem ints_rel : ∀ (ns : List Int) (c : List Value), VlRel ρ (ns.map (Value.int .u8)) c → c = ns.map (Value.int .u8)
  | [], c, h => h.inv_nil
  | n :: ns, c, h => by
    obtain ⟨v', c', rfl, h1, h2⟩ := h.inv_cons
    cases h1
    rw [ints_rel ns c' h2]; rfl

theorem mark_ok {l : Nat} {cl : List Value} {sz : Nat} {pl : Pl} {src e : TypeId} {o n c : Nat} (hrel : Rel ρ σ w) (hl : σ.get l = some (.cells cl sz false)) (hpl : ρ l = some pl) (hs : P.underlying src = some (.slice e)) (he : P.underlying e = some (.int .u8)) :
    ∃ w', (convert src src (.slice (some ⟨pl.blk, o, none⟩) n c)).run P w = .ok (.slice (some ⟨pl.blk, o, none⟩) n c) w' ∧ Rel ρ (σ.upd l (some (.cells cl sz false))) w' ∧ Frm ρ σ w ρ (σ.upd l (some (.cells cl sz false))) w' := by
  obtain ⟨hlen, hsz, C, T, fz, hh, hcell, hown⟩ := cells_of hrel hl hpl
  obtain ⟨hroom, hfz⟩ := hown rfl
  have hsh : w.shape? pl.blk = some (T, C.size) := by simp [World.shape?, hh]
  refine ⟨w.freeze ⟨pl.blk, C.size, none⟩ 1, ?_, ?_⟩
  · simp [convert, run_underlying hs, run_underlying he, markStringish, hsh]
  · have hb : (w.freeze ⟨pl.blk, C.size, none⟩ 1).heap[pl.blk]? = some (.cells C T (if fz.1 == fz.2 then (C.size, C.size + 1) else (min fz.1 C.size, max fz.2 (C.size + 1)))) := by
      simp [World.freeze, Array.getElem?_modify, hh]
    refine step_write hrel hl rfl hpl ⟨by simp [World.freeze], by simp [World.freeze], by simp [World.freeze]⟩ (by simp [World.freeze]) (fun b hne => ?_) rfl ⟨hlen, szd_of hrel hl hpl, C, T, _, hb, hcell, fun _ => ⟨hroom, ?_⟩⟩
    · simp only [World.freeze, Nat.one_ne_zero, if_false, Array.getElem?_modify]
      rw [if_neg (fun e => hne e.symm)]
    · right
      split
      · exact Nat.le_refl _
      · rename_i hne
        rcases hfz with h | h
        · simp [h] at hne
        · simp only; omega

theorem convert_ok {ev : Ev} {evc : Operand → Value} {src dst : TypeId} {x : Operand} {p : Prim} {eff : Eff} (h : aConvert P ev src dst x = some p) (hev : EvRel ρ ev evc) (hrel : Rel ρ σ w) (hnm : ρ nm = none) (hlt : nm < σ.nxt)
    (hrun : p.run σ nm = some eff) : Out P (do pure (.value (← convert src dst (evc x)))) ρ σ w nm eff := by
  unfold aConvert at h
  cases hx : ev x with
  | none => rw [hx] at h; simp at h
  | some v =>
    rw [hx] at h
    have hv := hev _ _ hx
    simp only [Option.bind_some] at h
    split at h
    · rename_i e s hs hd
      split at h
      case h_2 => cases h
      rename_i he
      cases h
      simp only [Prim.run, Prim.newSlice, getAll, Option.bind_some, Option.some.injEq] at hrun
      subst hrun
      generalize hy : evc x = y at hv
      cases hv
      have hcap := grownCap_le w s.size 0 e
      obtain ⟨ext, hext⟩ : ∃ ext, grownCap w s.size 0 e = s.size + ext := ⟨_, (Nat.add_sub_cancel' hcap).symm⟩
      have hr := run_bytes_of_string w src dst e s hs hd he
      have hsz : (bytesRow s (grownCap w s.size 0 e)).size = s.size + ext := by rw [hext]; simp [bytesRow]
      refine newSlice_ok (ext := ext) (n := s.size) (w' := w.drew.alloc (.cells (bytesRow s (grownCap w s.size 0 e)) e ((bytesRow s (grownCap w s.size 0 e)).size, (bytesRow s (grownCap w s.size 0 e)).size + 1))) hrel hnm hlt (by simp only [Sem.run_bind, hr, Result.andThen_ok, Sem.run_pure, hext]) ⟨rfl, rfl, rfl⟩ rfl ?_ (by simp) ?_ ?_
      · intro i v hi
        have hlt : i < s.data.toList.length := by
          rcases Nat.lt_or_ge i s.data.toList.length with h | h
          · exact h
          · rw [List.getElem?_eq_none (by simpa using h)] at hi; cases hi
        refine ⟨v, ?_, plainV_rel ρ (plainL_get (u8_cells s.data.toList) hi)⟩
        simp only [bytesRow]
        rw [Array.getElem?_append_left (by simpa using hlt), Array.getElem?_map]
        rw [List.getElem?_map] at hi
        simpa using hi
      · rw [hsz]; simp
      · exact .inr (Nat.le_refl _)
    · rename_i e n c hs hd
      split at h
      case h_2 => cases h
      rename_i he
      cases h
      rw [run_ofVal hrun]
      generalize hy : evc x = y at hv
      cases hv
      exact out_val hrel (by simp [run_convert_bytes_string w src dst e none n c hs he hd, Conv.bytesToString]) (.string _)
    · rename_i e l o s0 c hs hd
      split at h
      case h_2 => cases h
      rename_i he
      cases h
      rw [run_ofVal hrun]
      generalize hy : evc x = y at hv
      cases hv
      exact out_val hrel (by simp [run_convert_bytes_string w src dst e _ 0 _ hs he hd, Conv.bytesToString, loadCells, loadCellsFrom]) (.string _)
    · rename_i e l o n c hs hd
      split at h
      case h_2 => cases h
      rename_i he
      by_cases hn0 : n = 0
      · subst hn0
        rw [if_pos rfl] at h
        cases h
        rw [run_ofVal hrun]
        generalize hy : evc x = y at hv
        cases hv with
        | slice hpl hc =>
          exact out_val hrel (by simp [run_convert_bytes_string w src dst e _ 0 _ hs he hd, Conv.bytesToString, loadCells, loadCellsFrom]) (.string _)
        | slice0 hpl =>
          exact out_val hrel (by simp [run_convert_bytes_string w src dst e _ 0 0 hs he hd, Conv.bytesToString, loadCells, loadCellsFrom]) (.string _)
      rw [if_neg hn0] at h
      cases h
      simp only [Prim.run, getAll] at hrun
      cases hl : σ.get l with
      | none => rw [hl] at hrun; simp at hrun
      | some ob =>
        rw [hl] at hrun
        simp only [Option.bind_some, Option.map_some] at hrun
        split at hrun
        case h_2 => cases hrun
        rename_i cl sz ro heq
        simp at heq
        subst heq
        split at hrun
        case isFalse => cases hrun
        rename_i hle
        obtain ⟨s, hb, rfl⟩ := Option.map_eq_some_iff.1 hrun
        obtain ⟨ns, hns, hss⟩ := bytesOf_run _ _ _ hb
        generalize hy : evc x = y at hv
        cases hv with
        | slice hpl hc =>
          rename_i c' pl
          obtain ⟨_, _, C, T, fz, hh, hcell, _⟩ := cells_of hrel hl hpl
          obtain ⟨cs, h1, h2, h3⟩ := range_of hh hcell o n hle
          rw [hns] at h2
          have hcs := ints_rel _ _ h2
          have hload := run_loadCells_list (P := P) w ⟨pl.blk, pl.off + o, none⟩ cs h3
          rw [h1, hcs] at hload
          exact out_val hrel (by simp [run_convert_bytes_string w src dst e _ n c' hs he hd, run_bytesToString w _ n c' ns hload]; exact hss.symm) (.string s)
        | slice0 hpl =>
          have : ns = [] := by simpa using hns.symm
          subst this
          exact out_val hrel (by simp [run_convert_bytes_string w src dst e _ 0 0 hs he hd, Conv.bytesToString, loadCells, loadCellsFrom]; exact hss.symm) (.string s)
    · rename_i e1 e l o n c hs hd
      split at h
      case h_2 => cases h
      rename_i he
      split at h
      case isFalse => cases h
      rename_i hsd
      have hsd : src = dst := by simpa using hsd
      subst hsd
      cases h
      simp only [Prim.run, getAll] at hrun
      cases hl : σ.get l with
      | none => rw [hl] at hrun; simp at hrun
      | some ob =>
        rw [hl] at hrun
        simp only [Option.bind_some, Option.map_some] at hrun
        split at hrun
        case h_2 => cases hrun
        rename_i cl sz heq
        simp at heq
        subst heq
        cases hrun
        generalize hy : evc x = y at hv
        have fin : ∀ {pl : Pl} {o' c' : Nat}, ρ l = some pl → y = .slice (some ⟨pl.blk, o', none⟩) n c' → Out P (do pure (.value (← convert src src y))) ρ σ w nm ⟨.slice (some ⟨l, o, none⟩) n c, some (l, some (.cells cl sz false)), none⟩ := by
          intro pl o' c' hpl hy
          subst hy
          obtain ⟨w', k1, k2, k3⟩ := mark_ok (P := P) (o := o') (n := n) (c := c') hrel hl hpl hd he
          exact ⟨.value _, _, ρ, w', by simp only [Sem.run_bind, k1, Result.andThen_ok, Sem.run_pure], rfl, k2, k3, hv, fun _ _ => rfl⟩
        cases hv with
        | slice hpl hc => exact fin hpl rfl
        | slice0 hpl => exact fin hpl rfl
    · rename_i t l o hs hd
      cases hz : szO P t with
      | none => rw [hz] at h; simp at h
      | some s =>
        rw [hz] at h
        simp only [Option.bind_some] at h
        split at h
        case isTrue => cases h
        rename_i hs0
        cases h
        simp only [Prim.run, getAll] at hrun
        cases hl : σ.get l with
        | none => rw [hl] at hrun; simp at hrun
        | some ob =>
          rw [hl] at hrun
          simp only [Option.bind_some, Option.map_some] at hrun
          split at hrun
          case h_2 => cases hrun
          rename_i cl sz ro heq
          simp at heq
          subst heq
          split at hrun
          case isFalse => cases hrun
          rename_i hlt'
          cases hrun
          generalize hy : evc x = y at hv
          cases hv with
          | ptr hpl =>
            rename_i pl
            obtain ⟨_, _, C, T, fz, hh, hcell, _⟩ := cells_of hrel hl hpl
            obtain ⟨v', hv', _⟩ := hcell o _ (List.getElem?_eq_getElem hlt')
            have hC : pl.off + o < C.size := (Array.getElem?_eq_some_iff.1 hv').1
            have hsh : w.shape? pl.blk = some (T, C.size) := by simp [World.shape?, hh]
            have hC' : ¬ (C.size ≤ pl.off + o) := by omega
            have hsz : (sizeOf t).run P w = .ok s w := run_sizeOf hz w
            refine out_val hrel ?_ (.ptr hpl)
            simp [convert, run_underlying hs, run_underlying hd, Conv.unsafePointer, Conv.seenAt, viewAt, cellsIn, hsh, hsz, hs0, hC', Result.andThen]
    · split at h
      case isFalse => cases h
      rename_i hp
      rw [plainV_eq hp hv]
      exact pureVal_out h hrel hrun


theorem run_append_g {t u ty e : TypeId} {i : TypeInfo} {z : Value} {du : TypeDesc} (ht : P.underlying t = some (.slice e)) (hu : P.underlying u = some du) (hdu : (∃ e', du = .slice e') ∨ du = .string) (hi : P.info? e = some i) (hz : i.zero = some z)
    {base : Option Addr} {sLen sCap m : Nat} {x : Value} {olds news : List Value} (hlen : ∀ w : World, (Builtin.lenOf x).run P w = .ok m w)
    (hold : (Builtin.firstCells i.size sLen (.slice base sLen sCap)).run P w.drew = .ok olds.toArray w.drew)
    (hnew : (Builtin.firstCells i.size m x).run P w.drew = .ok news.toArray w.drew)
    (hg : sCap < sLen + m) (h63 : ((sLen + m : Nat) : Int) ≤ 9223372036854775807) (hfit : Builtin.nextslicecap (sLen + m) sCap * i.bytes ≤ 281474976710656) :
    (Builtin.append_ #[t, u] ty #[.slice base sLen sCap, x]).run P w = .ok (.slice (some ⟨w.heap.size, 0, none⟩) (sLen + m) (grownCap w (sLen + m) sCap e))
      (w.drew.alloc (.cells (olds.toArray ++ (news.toArray ++ Builtin.zeroCells z.cells (grownCap w (sLen + m) sCap e - (sLen + m)))) e)) := by
  have hn : ¬ (sLen + m ≤ sCap) := by omega
  have h63' : ¬ (9223372036854775807 < ((sLen : Int) + (m : Int))) := by omega
  have h48' : ¬ (281474976710656 < Builtin.nextslicecap (sLen + m) sCap * i.bytes) := by omega
  rcases hdu with ⟨e', rfl⟩ | rfl <;> simp [Builtin.append_, run_underlying ht, run_underlying hu, sizeOf, typeInfo, zeroValue, hi, hz, hlen, hn, h63', h48', Question.forced, hold, hnew, newRow, grownCap]

theorem run_append_r {t u ty e : TypeId} {i : TypeInfo} {du : TypeDesc} (ht : P.underlying t = some (.slice e)) (hu : P.underlying u = some du) (hdu : (∃ e', du = .slice e') ∨ du = .string) (hi : P.info? e = some i)
    {base : Option Addr} {sLen sCap m : Nat} {x : Value} {news : List Value} (hlen : ∀ w : World, (Builtin.lenOf x).run P w = .ok m w)
    (hnew : (Builtin.firstCells i.size m x).run P w = .ok news.toArray w) (hg : sLen + m ≤ sCap) (w' : World)
    (hst : ∀ a, base = some a → (storeCells (a.add (sLen * i.size)) news).run P w = .ok () w') (hnone : base = none → w' = w) :
    (Builtin.append_ #[t, u] ty #[.slice base sLen sCap, x]).run P w = .ok (.slice base (sLen + m) sCap) w' := by
  cases base with
  | none =>
    rw [hnone rfl]
    rcases hdu with ⟨e', rfl⟩ | rfl <;> simp [Builtin.append_, run_underlying ht, run_underlying hu, sizeOf, typeInfo, hi, hlen, hg, hnew]
  | some a => rcases hdu with ⟨e', rfl⟩ | rfl <;> simp [Builtin.append_, run_underlying ht, run_underlying hu, sizeOf, typeInfo, hi, hlen, hg, hnew, hst a rfl]

theorem cell?_drew (w : World) (a : Addr) : w.drew.cell? a = w.cell? a := rfl

theorem src_run {size m : Nat} {x x' : Value} {rs : List Nat} {get : List AObj → Option (List Value)} {objs : List AObj} {c : List Value} (h : srcOf size x = some (rs, get, m)) (hrel : Rel ρ σ w) (hx : VRel ρ x x')
    (ho : getAll σ.get rs = some objs) (hg : get objs = some c) :
    ∃ cs, VlRel ρ c cs ∧ c.length = m * size ∧ (∀ w : World, (Builtin.lenOf x').run P w = .ok m w) ∧
      (Builtin.firstCells size m x').run P w = .ok cs.toArray w ∧ (Builtin.firstCells size m x').run P w.drew = .ok cs.toArray w.drew := by
  unfold srcOf at h
  split at h
  · cases h
    cases hx
    simp at hg; subst hg
    exact ⟨[], .nil ρ, by simp, fun w => by simp [Builtin.lenOf], by simp [Builtin.firstCells], by simp [Builtin.firstCells]⟩
  · cases h
    simp at hg; subst hg
    cases hx
    exact ⟨[], .nil ρ, by simp, fun w => by simp [Builtin.lenOf], by simp [Builtin.firstCells, loadCells, loadCellsFrom], by simp [Builtin.firstCells, loadCells, loadCellsFrom]⟩
  · split at h
    · rename_i hn0
      cases h
      simp at hg; subst hg
      have hfc : ∀ (a : Addr) (k cc : Nat) (w : World), (Builtin.firstCells size 0 (.slice (some a) k cc)).run P w = .ok #[] w := by
        intro a k cc w; simp [Builtin.firstCells, loadCells, loadCellsFrom]
      cases hx with
      | slice hl hc => subst hn0; exact ⟨[], .nil ρ, by simp, fun w => by simp [Builtin.lenOf], hfc _ _ _ _, hfc _ _ _ _⟩
      | slice0 hl => exact ⟨[], .nil ρ, by simp, fun w => by simp [Builtin.lenOf], hfc _ _ _ _, hfc _ _ _ _⟩
    · rename_i l o n cc hn0
      cases h
      simp only [getAll] at ho
      cases hl : σ.get l with
      | none => rw [hl] at ho; simp at ho
      | some ob =>
        rw [hl] at ho
        simp at ho; subst ho
        simp only at hg
        split at hg
        case h_2 => cases hg
        rename_i cl sz ro heq
        simp at heq; subst heq
        split at hg
        case isFalse => cases hg
        rename_i hle
        cases hg
        cases hx with
        | slice hpl hc =>
          rename_i c' pl
          obtain ⟨_, _, C, T, fz, hh, hcell, _⟩ := cells_of hrel hl hpl
          obtain ⟨cs, h1, h2, h3⟩ := range_of hh hcell o (m * size) hle
          exact ⟨cs, h2, by simp; omega, fun w => by simp [Builtin.lenOf], run_firstCells_some w size m _ m c' cs h1 h3, run_firstCells_some w.drew size m _ m c' cs h1 (by simpa using h3)⟩
        | slice0 hpl => exact absurd rfl hn0
  · split at h
    case isFalse => cases h
    rename_i s hs1
    cases h
    simp at hg; subst hg
    cases hx
    have hfc : ∀ w : World, (Builtin.firstCells 1 s.size (.string s)).run P w = .ok (s.data.toList.map fun b => Value.int .u8 b.toNat).toArray w := by
      intro w
      simp only [Builtin.firstCells, Sem.run_pure]
      congr 1
      apply Array.ext'
      have : (s.extract 0 s.size).data = s.data := by
        have := ByteArray.extract_zero_size (b := s)
        rw [this]
      rw [this]; simp
    subst hs1
    exact ⟨_, plainL_rel (u8_cells _), by simp, fun w => by simp [Builtin.lenOf], hfc _, hfc _⟩
  · cases h

theorem zeroCells_size (z : Array Value) (n : Nat) : (Builtin.zeroCells z n).size = n * z.size := by simp [Builtin.zeroCells]

theorem grown_out {s : Sem Next} {c : List Value} {sz k ext : Nat} {olds news : List Value} {Z : Array Value} {T : TypeId} (hrel : Rel ρ σ w) (hnm : ρ nm = none) (hlt : nm < σ.nxt)
    (hrun : s.run P w = .ok (.value (.slice (some ⟨w.heap.size, 0, none⟩) k (k + ext))) (w.drew.alloc (.cells (olds.toArray ++ (news.toArray ++ Z)) T)))
    (hc : VlRel ρ c (olds ++ news)) (hlen : k * sz = c.length) (hZ : Z.size = ext * sz) :
    Out P s ρ σ w nm ⟨.slice (some ⟨nm, 0, none⟩) k k, none, some (.cells c sz false)⟩ := by
  have hl := hc.1
  simp at hl
  refine newSlice_ok (ext := ext) (n := k) (w' := w.drew.alloc (.cells (olds.toArray ++ (news.toArray ++ Z)) T)) (C := olds.toArray ++ (news.toArray ++ Z)) (T := T) (fz := (0, 0)) hrel hnm hlt hrun ⟨rfl, rfl, rfl⟩ rfl ?_ hlen ?_ (no_fz _)
  · intro i v hi
    obtain ⟨v', h1, h2⟩ := hc.get hi
    refine ⟨v', ?_, h2⟩
    have hlt' : i < (olds ++ news).length := by
      rcases Nat.lt_or_ge i (olds ++ news).length with h | h
      · exact h
      · rw [List.getElem?_eq_none h] at h1; cases h1
    have e : (olds.toArray ++ (news.toArray ++ Z)) = (olds ++ news).toArray ++ Z := by rw [← Array.append_assoc]; simp
    rw [e, Array.getElem?_append_left (by simpa using hlt')]
    simpa using h1
  · simp; omega

theorem two_sz (a b c : Nat) : (a + b) * c = a * c + b * c := Nat.add_mul a b c

theorem src_zero {size : Nat} {x x' : Value} {rs : List Nat} {get : List AObj → Option (List Value)} (h : srcOf size x = some (rs, get, 0)) (hx : VRel ρ x x') (w : World) :
    (∀ w : World, (Builtin.lenOf x').run P w = .ok 0 w) ∧ (Builtin.firstCells size 0 x').run P w = .ok ([] : List Value).toArray w := by
  have hfc : ∀ (a : Addr) (k cc : Nat) (w : World), (Builtin.firstCells size 0 (.slice (some a) k cc)).run P w = .ok #[] w := by
    intro a k cc w; simp [Builtin.firstCells, loadCells, loadCellsFrom]
  unfold srcOf at h
  split at h
  · cases hx
    exact ⟨fun w => by simp [Builtin.lenOf], by simp [Builtin.firstCells]⟩
  · cases hx
    exact ⟨fun w => by simp [Builtin.lenOf], hfc _ _ _ _⟩
  · split at h
    · rename_i hn0
      subst hn0
      cases hx <;> exact ⟨fun w => by simp [Builtin.lenOf], hfc _ _ _ _⟩
    · rename_i hn0
      simp at h
      exact absurd h.2.2 hn0
  · split at h
    case isFalse => cases h
    rename_i s hs1
    simp at h
    cases hx
    refine ⟨fun w => by simp [Builtin.lenOf, h.2.2], ?_⟩
    simp [Builtin.firstCells]
  · cases h

theorem append_ok {t u ty : TypeId} {s x s' x' : Value} {p : Prim} {eff : Eff} (h : aAppend P t u s x = some p) (hs' : VRel ρ s s') (hx' : VRel ρ x x') (hrel : Rel ρ σ w) (hnm : ρ nm = none) (hlt : nm < σ.nxt)
    (hrun : p.run σ nm = some eff) : Out P (do pure (.value (← Builtin.append_ #[t, u] ty #[s', x']))) ρ σ w nm eff := by
  unfold aAppend at h
  split at h
  case h_2 => cases h
  rename_i elem ht
  cases hsz : szO P elem with
  | none => rw [hsz] at h; simp at h
  | some size =>
    cases hby : bytesO P elem with
    | none => rw [hsz, hby] at h; simp at h
    | some by_ =>
      cases hz : zeroP P elem with
      | none => rw [hsz, hby, hz] at h; simp at h
      | some z =>
        obtain ⟨hz0, hzp⟩ := zeroP_some hz
        rw [hsz, hby, hz] at h
        simp only [Option.bind_some] at h
        split at h
        case isTrue => cases h
        rename_i hcond
        simp only [Bool.not_eq_true', Bool.not_eq_false, Bool.and_eq_true, decide_eq_true_eq] at hcond
        obtain ⟨⟨⟨hsize0, hby0⟩, hzsize⟩, hu0⟩ := hcond
        obtain ⟨i, hi, hisz⟩ := info_of_sz hsz
        have hib : i.bytes = by_ := by obtain ⟨j, hj, hjb⟩ := bytes_of hby; rw [hi] at hj; cases hj; exact hjb
        have hiz : i.zero = some z := by unfold zeroO at hz0; rw [hi] at hz0; exact hz0
        subst hisz
        subst hib
        obtain ⟨du, hu, hdu⟩ : ∃ du, P.underlying u = some du ∧ ((∃ e', du = .slice e') ∨ du = .string) := by
          unfold isSeqT at hu0
          split at hu0
          · rename_i e' hu; exact ⟨_, hu, .inl ⟨_, rfl⟩⟩
          · rename_i hu; exact ⟨_, hu, .inr rfl⟩
          · cases hu0
        cases hsrc : srcOf i.size x with
        | none => rw [hsrc] at h; simp at h
        | some q =>
          obtain ⟨rs, get, m⟩ := q
          rw [hsrc] at h
          simp only [Option.bind_some] at h
          split at h
          case h_3 => cases h
          · -- onto nil
            cases hs'
            split at h
            · rename_i hm0
              cases h
              rw [run_ofVal hrun]
              subst hm0
              obtain ⟨z1, z2⟩ := src_zero (P := P) hsrc hx' w
              have hr := run_append_r (ty := ty) (base := none) (sLen := 0) (sCap := 0) ht hu hdu hi z1 z2 (Nat.le_refl _) w (by simp) (fun _ => rfl)
              exact out_val hrel (by simp [hr]) (.sliceNil 0 0)
            · split at h
              case isFalse => cases h
              rename_i hm0 hbound
              cases h
              simp only [Prim.run] at hrun
              cases hg : getAll σ.get rs with
              | none => rw [hg] at hrun; simp at hrun
              | some objs =>
                rw [hg] at hrun
                simp only [Option.bind_some] at hrun
                obtain ⟨c, hc, rfl⟩ := Option.map_eq_some_iff.1 hrun
                obtain ⟨cs, h1, h2, h3, h4, h5⟩ := src_run (P := P) hsrc hrel hx' hg hc
                have hold : (Builtin.firstCells i.size 0 (.slice none 0 0)).run P w.drew = .ok ([] : List Value).toArray w.drew := by simp [Builtin.firstCells]
                have hr := run_append_g (ty := ty) ht hu hdu hi hiz h3 hold h5 (by omega) (by have := Nat.le_mul_of_pos_right m hby0; omega) (by
                  rw [Nat.zero_add, nextslicecap_zero (by omega)]; omega)
                rw [Nat.zero_add] at hr
                have hcap := grownCap_le w m 0 elem
                refine grown_out (ext := grownCap w m 0 elem - m) (olds := []) (news := cs) (Z := Builtin.zeroCells z.cells (grownCap w m 0 elem - m)) (T := elem) hrel hnm hlt (by simp only [Sem.run_bind, hr, Result.andThen_ok, Sem.run_pure, Nat.add_sub_cancel' hcap]) (by simpa using h1) h2.symm (by rw [zeroCells_size, hzsize])
          · -- onto a row
            rename_i l o n c
            split at h
            case isFalse => cases h
            rename_i hnc
            -- what the concrete slice is
            have hcc : ∃ pl b' c', ρ l = some pl ∧ s' = .slice (some ⟨pl.blk, b', none⟩) n c' ∧ c ≤ c' ∧
                ((b' = pl.off + o ∧ (c' = c ∨ (o + c * pl.sz = pl.len ∧ c' = c + pl.ext))) ∨ (n = 0 ∧ c = 0 ∧ c' = 0)) := by
              cases hs' with
              | slice hl hc => rename_i c' pl; exact ⟨pl, _, c', hl, rfl, by omega, .inl ⟨rfl, hc⟩⟩
              | slice0 hl => rename_i o' pl; exact ⟨pl, o', 0, hl, rfl, by omega, .inr ⟨rfl, rfl, rfl⟩⟩
            obtain ⟨pl, b', c', hpl, rfl, hcle, hcase⟩ := hcc
            split at h
            · rename_i hm0
              cases h
              rw [run_ofVal hrun]
              subst hm0
              obtain ⟨z1, z2⟩ := src_zero (P := P) hsrc hx' w
              have hr := run_append_r (ty := ty) (base := some ⟨pl.blk, b', none⟩) (sLen := n) (sCap := c') ht hu hdu hi z1 z2 (by omega) w (fun a _ => by simp [storeCells]) (by simp)
              exact out_val hrel (v' := .slice (some ⟨pl.blk, b', none⟩) n c') (by simp [hr]) hs'
            · rename_i hm0
              split at h
              · -- room
                rename_i hroom
                cases h
                simp only [Prim.run, getAll] at hrun
                cases hl : σ.get l with
                | none => rw [hl] at hrun; simp at hrun
                | some ob =>
                  cases hg : getAll σ.get rs with
                  | none => rw [hl, hg] at hrun; simp at hrun
                  | some objs =>
                    rw [hl, hg] at hrun
                    simp only [Option.bind_some, Option.map_some] at hrun
                    split at hrun
                    case h_2 => cases hrun
                    rename_i cl sz rest heq
                    simp at heq
                    obtain ⟨rfl, rfl⟩ := heq
                    cases hc : get objs with
                    | none => rw [hc] at hrun; simp at hrun
                    | some src =>
                      rw [hc] at hrun
                      simp only [Option.bind_some] at hrun
                      split at hrun
                      case isFalse => cases hrun
                      rename_i hcond
                      simp only [Bool.and_eq_true, decide_eq_true_eq] at hcond
                      obtain ⟨hone, hfit⟩ := hcond
                      cases hrun
                      obtain ⟨cs, h1, h2, h3, h4, h5⟩ := src_run (P := P) hsrc hrel hx' hg hc
                      rw [two_sz] at hfit
                      rcases hcase with ⟨rfl, hcc⟩ | ⟨_, hc0, _⟩
                      · obtain ⟨w', k1, k2, k3⟩ := write_cells (P := P) (o := o + n * i.size) hrel hl hpl h1 hone (by omega)
                        have hr := run_append_r (ty := ty) (base := some ⟨pl.blk, pl.off + o, none⟩) (sLen := n) (sCap := c') ht hu hdu hi h3 h4 (by omega) w' (fun a ha => by
                          cases ha; rw [Addr.add_lit, Nat.add_assoc]; exact k1) (by simp)
                        refine ⟨.value (.slice (some ⟨pl.blk, pl.off + o, none⟩) (n + m) c'), _, ρ, w', by simp only [Sem.run_bind, hr, Result.andThen_ok, Sem.run_pure], rfl, k2, k3, .slice hpl hcc, fun _ _ => rfl⟩
                      · omega
              · -- no room
                rename_i hroom
                cases h
                simp only [Prim.run, getAll] at hrun
                cases hl : σ.get l with
                | none => rw [hl] at hrun; simp at hrun
                | some ob =>
                  cases hg : getAll σ.get rs with
                  | none => rw [hl, hg] at hrun; simp at hrun
                  | some objs =>
                    rw [hl, hg] at hrun
                    simp only [Option.bind_some, Option.map_some] at hrun
                    split at hrun
                    case h_2 => cases hrun
                    rename_i cl sz ro rest heq
                    simp at heq
                    obtain ⟨rfl, rfl⟩ := heq
                    cases hc : get objs with
                    | none => rw [hc] at hrun; simp at hrun
                    | some src =>
                      rw [hc] at hrun
                      simp only [Option.bind_some] at hrun
                      split at hrun
                      case isFalse => cases hrun
                      rename_i hcond
                      simp only [Bool.and_eq_true, decide_eq_true_eq] at hcond
                      obtain ⟨⟨hszz, hone⟩, hfit⟩ := hcond
                      subst hszz
                      obtain ⟨cs, h1, h2, h3, h4, h5⟩ := src_run (P := P) hsrc hrel hx' hg hc
                      obtain ⟨hlen, hszp, C, T, fz, hh, hcell, hown⟩ := cells_of hrel hl hpl
                      -- the old cells, read
                      obtain ⟨olds, q1, q2, q3⟩ := range_of hh hcell o (n * i.size) hfit
                      have hold : (Builtin.firstCells i.size n (.slice (some ⟨pl.blk, b', none⟩) n c')).run P w.drew = .ok olds.toArray w.drew := by
                        rcases hcase with ⟨rfl, _⟩ | ⟨hn0, _, _⟩
                        · exact run_firstCells_some w.drew i.size n _ n c' olds q1 (by simpa using q3)
                        · subst hn0
                          have : olds = [] := by simpa using q1
                          subst this
                          simp [Builtin.firstCells, loadCells, loadCellsFrom]
                      have hcl : ((cl.drop o).take (n * i.size) ++ src).length = (n + m) * i.size := by
                        rw [List.length_append, h2, two_sz]; simp; omega
                      -- growing
                      have grow : c' < n + m → (if c' = 0 then (n + m) * i.bytes ≤ 2 ^ 47 else (n + m) * i.bytes ≤ 2 ^ 46) →
                          (Builtin.append_ #[t, u] ty #[.slice (some ⟨pl.blk, b', none⟩) n c', x']).run P w = .ok (.slice (some ⟨w.heap.size, 0, none⟩) (n + m) (grownCap w (n + m) c' elem))
                            (w.drew.alloc (.cells (olds.toArray ++ (cs.toArray ++ Builtin.zeroCells z.cells (grownCap w (n + m) c' elem - (n + m)))) elem)) := by
                        intro hlt' hb
                        have hb' : (n + m) * i.bytes ≤ 2 ^ 47 := by split at hb <;> omega
                        refine run_append_g ht hu hdu hi hiz h3 hold h5 hlt' (by have := Nat.le_mul_of_pos_right (n + m) hby0; omega) ?_
                        by_cases hc0 : c' = 0
                        · subst hc0
                          rw [nextslicecap_zero (by omega)]; omega
                        · rw [if_neg hc0] at hb
                          have := nextslicecap_le hlt'
                          have := Nat.mul_le_mul_right i.bytes this
                          rw [Nat.mul_assoc] at this
                          omega
                      have hcap := grownCap_le w (n + m) c' elem
                      have fin : c' < n + m → (if c' = 0 then (n + m) * i.bytes ≤ 2 ^ 47 else (n + m) * i.bytes ≤ 2 ^ 46) →
                          Out P (do pure (.value (← Builtin.append_ #[t, u] ty #[.slice (some ⟨pl.blk, b', none⟩) n c', x']))) ρ σ w nm ⟨.slice (some ⟨nm, 0, none⟩) (n + m) (n + m), none, some (.cells ((cl.drop o).take (n * i.size) ++ src) i.size false)⟩ := by
                        intro hlt' hb
                        have hr := grow hlt' hb
                        refine grown_out (ext := grownCap w (n + m) c' elem - (n + m)) (olds := olds) (news := cs) (Z := Builtin.zeroCells z.cells (grownCap w (n + m) c' elem - (n + m))) (T := elem) hrel hnm hlt (by simp only [Sem.run_bind, hr, Result.andThen_ok, Sem.run_pure, Nat.add_sub_cancel' hcap]) (q2.append h1) hcl.symm (by rw [zeroCells_size, hzsize])
                      split at hrun
                      · -- a row that is read alone
                        rename_i hro
                        split at hrun
                        case isFalse => cases hrun
                        rename_i hcond
                        simp only [Bool.and_eq_true, decide_eq_true_eq] at hcond
                        obtain ⟨hclosed, hbnd⟩ := hcond
                        cases hrun
                        have hcc' : c' = c := by
                          rcases hcase with ⟨_, h | ⟨h, _⟩⟩ | ⟨_, h, k⟩
                          · exact h
                          · rw [hlen, hszp] at h; exact absurd h hclosed
                          · omega
                        subst hcc'
                        exact fin (by omega) (by unfold growFits at hbnd; split at hbnd <;> simp_all)
                      · rename_i hro
                        have hro' : ro = false := by simpa using hro
                        subst hro'
                        split at hrun
                        case isFalse => cases hrun
                        rename_i hbnd
                        cases hrun
                        by_cases hin : n + m ≤ c'
                        · -- in its place
                          rcases hcase with ⟨rfl, h | ⟨hopen, hcext⟩⟩ | ⟨_, h, k⟩
                          · omega
                          · obtain ⟨hroomC, hfz⟩ := hown rfl
                            rw [hszp] at hopen hroomC
                            have hinC : pl.off + o + n * i.size + cs.length ≤ C.size := by
                              have e1 : cs.length = m * i.size := by rw [← h1.1]; exact h2
                              have e2 := Nat.mul_le_mul_right i.size hin
                              rw [hcext, two_sz, two_sz] at e2
                              omega
                            obtain ⟨C', w', k1, k2, k3, k4, k5, k6, k7⟩ := run_storeCells (P := P) pl.blk T fz cs (pl.off + o + n * i.size) 0 C w hh (by omega) hfz (oneCells_rel h1 hone)
                            have hr := run_append_r (ty := ty) (base := some ⟨pl.blk, pl.off + o, none⟩) (sLen := n) (sCap := c') ht hu hdu hi h3 h4 hin w' (fun a ha => by
                              cases ha; rw [Addr.add_lit]; exact k1) (by simp)
                            have hle := LMap.le_set (l := nm) ⟨pl.blk, pl.off + o, c' - (n + m), i.size, (n + m) * i.size⟩ hnm
                            obtain ⟨m1, m2⟩ := step_move (nm := nm) (w' := w') (o := .cells ((cl.drop o).take (n * i.size) ++ src) i.size false)
                              (p' := ⟨pl.blk, pl.off + o, c' - (n + m), i.size, (n + m) * i.size⟩) hrel hl rfl hpl hnm hlt rfl k5 k6 k7 rfl (by
                                refine ⟨hcl.symm, ⟨rfl, fun h0 => by omega⟩, C', T, fz, k2, ?_, fun _ => ⟨?_, by rw [k3]; exact hfz⟩⟩
                                · intro j v hj
                                  rw [k4]
                                  simp only [Nat.add_zero]
                                  have hjl : j < (n + m) * i.size := by
                                    rw [← hcl]
                                    rcases Nat.lt_or_ge j ((cl.drop o).take (n * i.size) ++ src).length with h | h
                                    · exact h
                                    · rw [List.getElem?_eq_none h] at hj; cases hj
                                  have hq1 : ((cl.drop o).take (n * i.size)).length = n * i.size := by simp; omega
                                  rcases Nat.lt_or_ge j (n * i.size) with hlt' | hge
                                  · rw [List.getElem?_append_left (by rw [hq1]; exact hlt')] at hj
                                    rw [if_neg (by omega)]
                                    rw [List.getElem?_take, if_pos hlt', List.getElem?_drop] at hj
                                    obtain ⟨v', a1, a2⟩ := hcell _ _ hj
                                    exact ⟨v', by rw [← a1, Nat.add_assoc], a2.mono hle⟩
                                  · rw [List.getElem?_append_right (by rw [hq1]; exact hge), hq1] at hj
                                    obtain ⟨v', a1, a2⟩ := h1.get hj
                                    rw [if_pos (by rw [← h1.1, h2]; rw [two_sz] at hjl; omega)]
                                    exact ⟨v', by rw [← a1]; congr 1; omega, a2.mono hle⟩
                                · rw [k3]
                                  have e3 : (c' - (n + m)) * i.size + (n + m) * i.size = c' * i.size := by rw [← two_sz]; congr 1; omega
                                  have e4 : c' * i.size = c * i.size + pl.ext * i.size := by rw [hcext, two_sz]
                                  simp only
                                  omega)
                            refine ⟨.value (.slice (some ⟨pl.blk, pl.off + o, none⟩) (n + m) c'), _, _, w', by simp only [Sem.run_bind, hr, Result.andThen_ok, Sem.run_pure], rfl, m1, m2, ?_, fun l hl => LMap.set_ne _ _ hl⟩
                            have := VRel.slice (ρ := ρ.set nm ⟨pl.blk, pl.off + o, c' - (n + m), i.size, (n + m) * i.size⟩) (l := nm) (o := 0) (n := n + m) (c := n + m) (c' := c') (LMap.set_same _ _ _) (.inr ⟨by simp, by simp only; omega⟩)
                            simpa using this
                          · omega
                        · -- to a new row; the old name dies
                          obtain ⟨nx, v', ρ', w', f1, f2, f3, f4, f5, f6⟩ := fin (by omega) (by split <;> omega)
                          have hnl : nm ≠ l := by intro e; subst e; rw [hnm] at hpl; cases hpl
                          obtain ⟨g1, g2⟩ := step_kill f3 l
                          have he : ((σ.app nm ⟨.slice (some ⟨nm, 0, none⟩) (n + m) (n + m), none, some (.cells ((cl.drop o).take (n * i.size) ++ src) i.size false)⟩).upd l none) =
                              σ.app nm ⟨.slice (some ⟨nm, 0, none⟩) (n + m) (n + m), some (l, none), some (.cells ((cl.drop o).take (n * i.size) ++ src) i.size false)⟩ := by
                            simp only [Heap.app, Heap.wr, Heap.nw, Heap.upd]
                            congr 1
                            funext y
                            by_cases e1 : y = l
                            · subst e1; simp [Ne.symm hnl]
                            · simp [e1]
                          rw [he] at g1 g2
                          exact ⟨nx, v', ρ', w', f1, f2, g1, f4.trans g2, f5, f6⟩

end
end Go.Proofs.YtfchjhfccnodpaaGreat
end

section
namespace Go.Proofs.YtfchjhfccnodpaaGreat
set_option linter.unusedSimpArgs false
set_option linter.unusedVariables false
section
variable {P : Program} {ρ : LMap} {σ : Heap} {w : World} {nm : Nat}

theorem map_of {l : Nat} {es : List MapEntry} {clock : Nat} {p : Pl} (hrel : Rel ρ σ w) (hl : σ.get l = some (.map es clock)) (hp : ρ l = some p) :
    ∃ es', w.heap[p.blk]? = some (.map es' clock) ∧ EsRel ρ es es' := by
  obtain ⟨q, hq, hr⟩ := hrel.dom l _ hl
  rw [hp] at hq; cases hq
  exact hr

theorem run_getObj_map {b : Nat} {es : Array MapEntry} {clock : Nat} (h : w.heap[b]? = some (.map es clock)) : (getObj b).run P w = .ok (.map es clock) w := by
  simp only [getObj, Sem.run, h]

theorem EsRel.get {es : List MapEntry} {es' : Array MapEntry} (h : EsRel ρ es es') {i : Nat} {e : MapEntry} (hi : es[i]? = some e) : ∃ e', es'[i]? = some e' ∧ ERel ρ e e' := by
  have hlt : i < es.length := by
    rcases Nat.lt_or_ge i es.length with h | h
    · exact h
    · rw [List.getElem?_eq_none h] at hi; cases hi
  have h2 : es'[i]? = some (es'[i]'(h.1 ▸ hlt)) := Array.getElem?_eq_getElem _
  exact ⟨_, h2, h.2 i _ _ hi h2⟩

def EslRel (ρ : LMap) (es es' : List MapEntry) : Prop := es.length = es'.length ∧ ∀ (i : Nat) (e e' : MapEntry), es[i]? = some e → es'[i]? = some e' → ERel ρ e e'

theorem EsRel.toList {es : List MapEntry} {es' : Array MapEntry} (h : EsRel ρ es es') : EslRel ρ es es'.toList := ⟨by simpa using h.1, fun i e e' h1 h2 => h.2 i e e' h1 (by simpa using h2)⟩
theorem EslRel.ofList {es : List MapEntry} {es' : Array MapEntry} (h : EslRel ρ es es'.toList) : EsRel ρ es es' := ⟨by simpa using h.1, fun i e e' h1 h2 => h.2 i e e' h1 (by simpa using h2)⟩
theorem EslRel.inv_cons {e : MapEntry} {a b : List MapEntry} (h : EslRel ρ (e :: a) b) : ∃ e' a', b = e' :: a' ∧ ERel ρ e e' ∧ EslRel ρ a a' := by
  cases b with
  | nil => have := h.1; simp at this
  | cons e' a' => exact ⟨e', a', rfl, h.2 0 e e' rfl rfl, by have := h.1; simpa using this, fun i x x' h1 h2 => h.2 (i + 1) x x' (by simpa using h1) (by simpa using h2)⟩

def FindRel (ρ : LMap) : Option (Nat × Value) → Option (Nat × Value) → Prop
  | none, none => True
  | some (i, v), some (i', v') => i' = i ∧ VRel ρ v v'
  | _, _ => False

theorem findNow_rel {d : TypeDesc} {k : Value} : ∀ (es es' : List MapEntry) (i : Nat) (r : Option (Nat × Value)), EslRel ρ es es' → Instr.findNow d k es i = some r →
    ∃ r', Instr.findNow d k es' i = some r' ∧ FindRel ρ r r'
  | [], es', i, r, h, hf => by
    have : es' = [] := by have := h.1; simpa using this.symm
    subst this
    simp [Instr.findNow] at hf; subst hf
    exact ⟨none, rfl, trivial⟩
  | e :: es, es', i, r, h, hf => by
    obtain ⟨e', es2, rfl, ⟨h1, h2, h3, h4⟩, ht⟩ := h.inv_cons
    simp only [Instr.findNow] at hf ⊢
    rw [h1]
    split at hf
    · cases hf; exact ⟨_, rfl, rfl, h3⟩
    · exact findNow_rel es es2 (i + 1) r ht hf
    · cases hf

theorem findNow_key {d : TypeDesc} {k : Value} : ∀ (es : List MapEntry) (i j : Nat) (v : Value), Instr.findNow d k es i = some (some (j, v)) →
    ∃ e, i ≤ j ∧ es[j - i]? = some e ∧ Instr.sameNow d k e.key = some true ∧ e.val = v
  | [], i, j, v, h => by simp [Instr.findNow] at h
  | e :: es, i, j, v, h => by
    simp only [Instr.findNow] at h
    split at h
    · rename_i hs
      simp only [Option.some.injEq, Prod.mk.injEq] at h
      obtain ⟨rfl, rfl⟩ := h
      exact ⟨e, Nat.le_refl _, by simp, hs, rfl⟩
    · obtain ⟨e', h1, h2, h3, h4⟩ := findNow_key es (i + 1) j v h
      refine ⟨e', by omega, ?_, h3, h4⟩
      obtain ⟨m, hm⟩ : ∃ m, j - i = m + 1 := ⟨j - i - 1, by omega⟩
      rw [hm, List.getElem?_cons_succ, ← h2]
      congr 1; omega
    · cases h

theorem keyKind_some {kt : TypeId} {k : Value} {d : TypeDesc} (h : keyKind P kt k = some d) : P.underlying kt = some d ∧ ((d = .string ∧ ∃ s, k = .string s) ∨ (∃ q, d = .int q ∧ ∃ q' n, k = .int q' n)) := by
  unfold keyKind at h
  cases hu : P.underlying kt with
  | none => rw [hu] at h; simp at h
  | some d' =>
    rw [hu] at h
    simp only [Option.bind_some] at h
    split at h
    · cases h; exact ⟨rfl, .inl ⟨rfl, _, rfl⟩⟩
    · cases h; exact ⟨rfl, .inr ⟨_, rfl, _, _, rfl⟩⟩
    · cases h

theorem bytes_beq' (a b : ByteArray) : (a == b) = true ↔ a = b := by
  obtain ⟨a⟩ := a
  obtain ⟨b⟩ := b
  show (a == b) = true ↔ _
  rw [beq_iff_eq]
  exact ⟨fun h => by rw [h], fun h => by cases h; rfl⟩

theorem sameNow_eq {d : TypeDesc} {k k' : Value} {kt : TypeId} (h : keyKind P kt k = some d) (hs : Instr.sameNow d k k' = some true) : k' = k ∧ Instr.sameBits 10000 k k = true := by
  obtain ⟨_, ⟨rfl, s, rfl⟩ | ⟨q, rfl, q', n, rfl⟩⟩ := keyKind_some h
  · cases k' <;> simp [Instr.sameNow] at hs
    have hs := (bytes_beq' _ _).1 hs
    subst hs; exact ⟨rfl, by simp only [Instr.sameBits]; exact (bytes_beq' _ _).2 rfl⟩
  · cases k' <;> simp [Instr.sameNow] at hs
    obtain ⟨rfl, rfl⟩ := hs; simp [Instr.sameBits]

theorem run_checkKey_d {kt : TypeId} {k : Value} {d : TypeDesc} (h : keyKind P kt k = some d) (b : Bool) (n : Nat) (w : World) : (Instr.checkKey b (n + 1) kt k).run P w = .ok () w := by
  obtain ⟨hu, ⟨rfl, s, rfl⟩ | ⟨q, rfl, q', m, rfl⟩⟩ := keyKind_some h
  · simp [Instr.checkKey, run_underlying hu]
  · simp [Instr.checkKey, run_underlying hu]
theorem run_checkKey {kt : TypeId} {k : Value} {d : TypeDesc} (h : keyKind P kt k = some d) (b : Bool) (w : World) : (Instr.checkKey b 10000 kt k).run P w = .ok () w := run_checkKey_d h b 9999 w

theorem run_findKey {kt : TypeId} {k : Value} {d : TypeDesc} {es : List MapEntry} {r : Option (Nat × Value)} (h : keyKind P kt k = some d) (hf : Instr.findNow d k es 0 = some r) (w : World) : (Instr.findKey kt k es).run P w = .ok r w := by
  obtain ⟨hu, _⟩ := keyKind_some h
  simp [Instr.findKey, run_underlying hu, hf]

theorem lookupVal_rel {r r' : Option (Nat × Value)} {z : Value} {ok : Bool} (h : FindRel ρ r r') (hz : plainV z = true) : VRel ρ (lookupVal r z ok) (lookupVal r' z ok) := by
  have two : ∀ {a b c d : Value}, VRel ρ a c → VRel ρ b d → VRel ρ (.tuple #[a, b]) (.tuple #[c, d]) := by
    intro a b c d h1 h2
    have := VlRel.toArray (VlRel.cons h1 (VlRel.cons h2 (VlRel.nil ρ)))
    exact .tuple this.1 this.2
  cases r with
  | none =>
    cases r' with
    | none => cases ok <;> simp only [lookupVal] <;> first | exact two (plainV_rel ρ hz) (.bool _) | exact plainV_rel ρ hz
    | some q => exact h.elim
  | some q =>
    cases r' with
    | none => exact h.elim
    | some q' =>
      obtain ⟨i, v⟩ := q
      obtain ⟨i', v'⟩ := q'
      cases ok <;> simp only [lookupVal] <;> first | exact two h.2 (.bool _) | exact h.2

theorem lookup_ok {ev : Ev} {evc : Operand → Value} {t : TypeId} {x ix : Operand} {ok : Bool} {p : Prim} {eff : Eff} (h : aLookup P ev t x ix ok = some p) (hev : EvRel ρ ev evc) (hrel : Rel ρ σ w)
    (hrun : p.run σ nm = some eff) : Out P (do pure (.value (← Instr.lookup t (evc x) (evc ix) ok))) ρ σ w nm eff := by
  unfold aLookup at h
  split at h
  case h_2 => cases h
  rename_i kt et hu
  cases hk : plainEv ev ix with
  | none => rw [hk] at h; simp at h
  | some k =>
    cases hd : keyKind P kt k with
    | none => rw [hk] at h; simp [hd] at h
    | some d =>
      cases hz : zeroP P et with
      | none => rw [hk] at h; simp [hz] at h
      | some z =>
        obtain ⟨hz0, hzp⟩ := zeroP_some hz
        rw [hk] at h
        simp only [Option.bind_some, hd, hz] at h
        obtain ⟨hkc, hkp⟩ := plainEv_some hk hev
        cases hx : ev x with
        | none => rw [hx] at h; simp at h
        | some v =>
          rw [hx] at h
          have hv := hev _ _ hx
          simp only [Option.bind_some] at h
          generalize hy : evc x = y at hv
          split at h
          case h_3 => cases h
          · cases h
            rw [run_ofVal hrun]
            cases hv
            refine out_val hrel (v' := lookupVal none z ok) ?_ (lookupVal_rel trivial hzp)
            have hf : Instr.findNow d k [] 0 = some none := rfl
            cases ok <;> simp [Instr.lookup, run_underlying hu, hkc, run_checkKey hd, run_findKey hd hf, run_zeroValue hz0, lookupVal]
          · rename_i m
            cases h
            simp only [Prim.run, getAll] at hrun
            cases hl : σ.get m with
            | none => rw [hl] at hrun; simp at hrun
            | some ob =>
              rw [hl] at hrun
              simp only [Option.bind_some, Option.map_some] at hrun
              split at hrun
              case h_2 => cases hrun
              rename_i es clock heq
              simp at heq; subst heq
              obtain ⟨r, hf, rfl⟩ := Option.map_eq_some_iff.1 hrun
              cases hv with
              | map hpl =>
                rename_i pl
                obtain ⟨es', hh, hes⟩ := map_of hrel hl hpl
                obtain ⟨r', hf', hfr⟩ := findNow_rel _ _ 0 r hes.toList hf
                refine out_val hrel (v' := lookupVal r' z ok) ?_ (lookupVal_rel hfr hzp)
                cases r' with
                | none => cases ok <;> simp [Instr.lookup, run_underlying hu, hkc, run_getObj_map hh, run_checkKey hd, run_findKey hd hf', run_zeroValue hz0, lookupVal]
                | some q => cases ok <;> simp [Instr.lookup, run_underlying hu, hkc, run_getObj_map hh, run_checkKey hd, run_findKey hd hf', lookupVal]

theorem map_write {m : Nat} {es es2 : List MapEntry} {clk clk2 : Nat} {pl : Pl} {es' es2' : Array MapEntry} (hrel : Rel ρ σ w) (hm : σ.get m = some (.map es clk)) (hpl : ρ m = some pl)
    (hh : w.heap[pl.blk]? = some (.map es' clk)) (hr : EsRel ρ es2 es2') :
    ∃ w', (setObj pl.blk (.map es2' clk2)).run P w = .ok () w' ∧ Rel ρ (σ.upd m (some (.map es2 clk2))) w' ∧ Frm ρ σ w ρ (σ.upd m (some (.map es2 clk2))) w' := by
  refine ⟨{ w with heap := w.heap.setIfInBounds pl.blk (.map es2' clk2) }, by simp only [setObj, Sem.run, hh], ?_⟩
  have hlt := (hrel.bnd _ _ hpl).2
  refine step_write hrel hm rfl hpl ⟨rfl, rfl, rfl⟩ (by simp) (fun b hb => ?_) rfl ⟨es2', ?_, hr⟩
  · simp only [Array.getElem?_setIfInBounds]; rw [if_neg (fun e => hb e.symm)]
  · simp [hlt]

theorem EsRel.modify {es : List MapEntry} {es' : Array MapEntry} (h : EsRel ρ es es') (i : Nat) {f f' : MapEntry → MapEntry} (hf : ∀ e e', ERel ρ e e' → ERel ρ (f e) (f' e')) : EsRel ρ (es.modify i f) (es'.modify i f') := by
  refine ⟨by simpa using h.1, fun j e e' h1 h2 => ?_⟩
  rw [List.getElem?_modify] at h1
  rw [Array.getElem?_modify] at h2
  by_cases e1 : i = j
  · rw [if_pos e1] at h2
    simp only [e1, if_true] at h1
    obtain ⟨a, ha, rfl⟩ := Option.map_eq_some_iff.1 h1
    obtain ⟨b, hb, rfl⟩ := Option.map_eq_some_iff.1 h2
    exact hf _ _ (h.2 j a b ha hb)
  · rw [if_neg e1] at h2
    simp only [e1, if_false] at h1
    simp at h1
    exact h.2 j e e' h1 h2

theorem EsRel.push {es : List MapEntry} {es' : Array MapEntry} (h : EsRel ρ es es') {e e' : MapEntry} (he : ERel ρ e e') : EsRel ρ (es ++ [e]) (es'.push e') := by
  refine ⟨by simp [h.1], fun j x x' h1 h2 => ?_⟩
  rw [Array.getElem?_push] at h2
  by_cases e1 : j = es'.size
  · rw [if_pos e1] at h2; cases h2
    rw [List.getElem?_append_right (by rw [h.1]; omega)] at h1
    have : j - es.length = 0 := by rw [h.1]; omega
    rw [this] at h1; cases h1; exact he
  · rw [if_neg e1] at h2
    have hlt : j < es'.size := by
      rcases Nat.lt_or_ge j es'.size with h | h
      · exact h
      · rw [Array.getElem?_eq_none h] at h2; cases h2
    rw [List.getElem?_append_left (by rw [h.1]; exact hlt)] at h1
    exact h.2 j x x' h1 h2

theorem EsRel.erase {es : List MapEntry} {es' : Array MapEntry} (h : EsRel ρ es es') (i : Nat) (hi : i < es.length) : EsRel ρ (es.eraseIdx i) (es'.eraseIdxIfInBounds i) := by
  have hi' : i < es'.size := h.1 ▸ hi
  apply EslRel.ofList
  have e : (es'.eraseIdxIfInBounds i).toList = es'.toList.eraseIdx i := by
    simp [Array.eraseIdxIfInBounds, hi']
  rw [e]
  have hl := h.toList
  refine ⟨by rw [List.length_eraseIdx, List.length_eraseIdx, hl.1], fun j x x' h1 h2 => ?_⟩
  rw [List.getElem?_eraseIdx] at h1 h2
  by_cases e1 : j < i
  · rw [if_pos e1] at h1 h2; exact hl.2 _ _ _ h1 h2
  · rw [if_neg e1] at h1 h2; exact hl.2 _ _ _ h1 h2

theorem mapUpdate_ok {ev : Ev} {evc : Operand → Value} {t : TypeId} {m key x : Operand} {p : Prim} {eff : Eff} (h : aMapUpdate P ev t m key x = some p) (hev : EvRel ρ ev evc) (hrel : Rel ρ σ w)
    (hrun : p.run σ nm = some eff) : Out P (do Instr.mapUpdate t (evc m) (evc key) (evc x); pure .skip) ρ σ w nm eff := by
  unfold aMapUpdate at h
  split at h
  case h_2 => cases h
  rename_i kt et hu
  cases hk : plainEv ev key with
  | none => rw [hk] at h; simp at h
  | some k =>
    cases hd : keyKind P kt k with
    | none => rw [hk] at h; simp [hd] at h
    | some d =>
      rw [hk] at h
      simp only [Option.bind_some, hd] at h
      obtain ⟨hkc, hkp⟩ := plainEv_some hk hev
      cases hx : ev x with
      | none => rw [hx] at h; simp at h
      | some v =>
        rw [hx] at h
        have hv := hev _ _ hx
        simp only [Option.bind_some] at h
        cases hm : ev m with
        | none => rw [hm] at h; simp at h
        | some mv =>
          rw [hm] at h
          have hmv := hev _ _ hm
          simp only [Option.bind_some] at h
          generalize hy : evc m = y at hmv
          split at h
          case h_2 => cases h
          rename_i ml
          cases h
          simp only [Prim.run, getAll] at hrun
          cases hl : σ.get ml with
          | none => rw [hl] at hrun; simp at hrun
          | some ob =>
            rw [hl] at hrun
            simp only [Option.bind_some, Option.map_some] at hrun
            split at hrun
            case h_2 => cases hrun
            rename_i es clock heq
            simp at heq; subst heq
            obtain ⟨r, hf, hr⟩ := Option.map_eq_some_iff.1 hrun
            cases hmv with
            | map hpl =>
              rename_i pl
              obtain ⟨es', hh, hes⟩ := map_of hrel hl hpl
              obtain ⟨r', hf', hfr⟩ := findNow_rel _ _ 0 r hes.toList hf
              cases r with
              | none =>
                cases r' with
                | some q => exact hfr.elim
                | none =>
                  simp only at hr
                  subst hr
                  obtain ⟨w', k1, k2, k3⟩ := map_write (P := P) (clk2 := clock + 1) hrel hl hpl hh (hes.push (e := { key := k, val := v, born := clock }) (e' := { key := k, val := evc x, born := clock }) ⟨rfl, hkp, hv, rfl⟩)
                  exact ⟨.skip, undef, ρ, w', by simp [Instr.mapUpdate, run_underlying hu, hkc, run_getObj_map hh, run_checkKey hd, run_findKey hd hf', k1], rfl, k2, k3, VRel.undef_ ρ, fun _ _ => rfl⟩
              | some q =>
                obtain ⟨i, v0⟩ := q
                cases r' with
                | none => exact hfr.elim
                | some q' =>
                  obtain ⟨i', v0'⟩ := q'
                  obtain ⟨rfl, _⟩ := hfr
                  simp only at hr
                  subst hr
                  obtain ⟨e, h1, h2, h3, _⟩ := findNow_key _ _ _ _ hf'
                  obtain ⟨hke, hsb⟩ := sameNow_eq hd h3
                  simp only [Nat.sub_zero, Array.getElem?_toList] at h2
                  obtain ⟨w', k1, k2, k3⟩ := map_write (P := P) (clk2 := clock) hrel hl hpl hh (hes.modify i' (f := fun e => { e with key := k, val := v }) (f' := fun e => { e with key := k, val := evc x }) (fun a b ⟨q1, q2, q3, q4⟩ => ⟨rfl, hkp, hv, q4⟩))
                  refine ⟨.skip, undef, ρ, w', ?_, rfl, k2, k3, VRel.undef_ ρ, fun _ _ => rfl⟩
                  simp [Instr.mapUpdate, run_underlying hu, hkc, run_getObj_map hh, run_checkKey hd, run_findKey hd hf', h2, hke, Instr.keyThatStays, hsb, k1]

theorem mapEntry_ok {ev : Ev} {evc : Operand → Value} {t : TypeId} {m key : Operand} {p : Prim} {eff : Eff} (h : aMapEntry P ev t m key = some p) (hev : EvRel ρ ev evc) (hrel : Rel ρ σ w)
    (hrun : p.run σ nm = some eff) : Out P (do pure (.value (← Instr.mapEntry t (evc m) (evc key)))) ρ σ w nm eff := by
  unfold aMapEntry at h
  split at h
  case h_2 => cases h
  rename_i kt et hu
  cases hk : plainEv ev key with
  | none => rw [hk] at h; simp at h
  | some k =>
    cases hd : keyKind P kt k with
    | none => rw [hk] at h; simp [hd] at h
    | some d =>
      rw [hk] at h
      simp only [Option.bind_some, hd] at h
      obtain ⟨hkc, hkp⟩ := plainEv_some hk hev
      cases hz : zeroP P et with
      | none => rw [hz] at h; simp at h
      | some z =>
        obtain ⟨hz0, hzp⟩ := zeroP_some hz
        rw [hz] at h
        simp only [Option.bind_some] at h
        cases hm : ev m with
        | none => rw [hm] at h; simp at h
        | some mv =>
          rw [hm] at h
          have hmv := hev _ _ hm
          simp only [Option.bind_some] at h
          generalize hy : evc m = y at hmv
          split at h
          case h_2 => cases h
          rename_i ml
          cases h
          simp only [Prim.run, getAll] at hrun
          cases hl : σ.get ml with
          | none => rw [hl] at hrun; simp at hrun
          | some ob =>
            rw [hl] at hrun
            simp only [Option.bind_some, Option.map_some] at hrun
            split at hrun
            case h_2 => cases hrun
            rename_i es clock heq
            simp at heq; subst heq
            obtain ⟨r, hf, hr⟩ := Option.map_eq_some_iff.1 hrun
            cases hmv with
            | map hpl =>
              rename_i pl
              obtain ⟨es', hh, hes⟩ := map_of hrel hl hpl
              obtain ⟨r', hf', hfr⟩ := findNow_rel _ _ 0 r hes.toList hf
              have two : ∀ {a b a' b' : Value}, VRel ρ a a' → VRel ρ b b' → VRel ρ (.tuple #[a, b]) (.tuple #[a', b']) := by
                intro a b a' b' h1 h2
                have := (VlRel.cons h1 (.cons h2 (.nil ρ))).toArray
                exact .tuple this.1 this.2
              cases r with
              | none =>
                cases r' with
                | some q => exact hfr.elim
                | none =>
                  simp only at hr
                  subst hr
                  obtain ⟨w', k1, k2, k3⟩ := map_write (P := P) (clk2 := clock + 1) hrel hl hpl hh (hes.push (e := { key := k, val := z, born := clock }) (e' := { key := k, val := z, born := clock }) ⟨rfl, hkp, plainV_rel ρ hzp, rfl⟩)
                  exact ⟨.value (.tuple #[z, goInt clock]), .tuple #[z, goInt clock], ρ, w', by simp [Instr.mapEntry, run_underlying hu, hkc, run_getObj_map hh, run_checkKey hd, run_findKey hd hf', run_zeroValue hz0, k1], rfl, k2, k3, two (plainV_rel ρ hzp) (.int _ _), fun _ _ => rfl⟩
              | some q =>
                obtain ⟨i, v0⟩ := q
                cases r' with
                | none => exact hfr.elim
                | some q' =>
                  obtain ⟨i', v0'⟩ := q'
                  obtain ⟨rfl, hv0⟩ := hfr
                  simp only at hr
                  subst hr
                  obtain ⟨e, h1, h2, h3, _⟩ := findNow_key _ _ _ _ hf'
                  obtain ⟨hke, hsb⟩ := sameNow_eq hd h3
                  simp only [Nat.sub_zero, Array.getElem?_toList] at h2
                  have hborn : ((es[i']?).map (fun e => (e.born : Int))).getD 0 = ((es'[i']?).map (fun e => (e.born : Int))).getD 0 := by
                    cases he : es[i']? with
                    | none =>
                      have : es'[i']? = none := by
                        rw [Array.getElem?_eq_none_iff, ← hes.1]; exact List.getElem?_eq_none_iff.1 he
                      rw [this]
                    | some e1 =>
                      obtain ⟨e2, g1, _, _, _, g4⟩ := hes.get he
                      rw [g1]; simp [g4]
                  obtain ⟨w', k1, k2, k3⟩ := map_write (P := P) (clk2 := clock) hrel hl hpl hh (hes.modify i' (f := fun e => { e with key := k }) (f' := fun e => { e with key := k }) (fun a b ⟨q1, q2, q3, q4⟩ => ⟨rfl, hkp, q3, q4⟩))
                  refine ⟨.value (.tuple #[v0', goInt (((es'[i']?).map (·.born)).getD 0)]), .tuple #[v0', goInt (((es'[i']?).map (·.born)).getD 0)], ρ, w', ?_, rfl, k2, k3, ?_, fun _ _ => rfl⟩
                  · simp [Instr.mapEntry, run_underlying hu, hkc, run_getObj_map hh, run_checkKey hd, run_findKey hd hf', h2, hke, Instr.keyThatStays, hsb, k1]
                  · simp only [hborn]; exact two hv0 (.int _ _)

theorem EslRel.findIdx {q : Nat → Bool} : ∀ {es es' : List MapEntry}, EslRel ρ es es' → es'.findIdx? (fun e => q e.born) = es.findIdx? (fun e => q e.born)
  | [], es', h => by
    have : es' = [] := List.eq_nil_of_length_eq_zero h.1.symm
    rw [this]
  | e :: es, es', h => by
    obtain ⟨e', r', rfl, h1, h2⟩ := h.inv_cons
    obtain ⟨_, _, _, hb⟩ := h1
    rw [List.findIdx?_cons, List.findIdx?_cons, EslRel.findIdx h2, hb]

theorem entryStore_ok {ev : Ev} {evc : Operand → Value} {t : TypeId} {m st x : Operand} {p : Prim} {eff : Eff} (h : aEntryStore ev m st x = some p) (hev : EvRel ρ ev evc) (hrel : Rel ρ σ w)
    (hrun : p.run σ nm = some eff) : Out P (do Instr.entryStore t (evc m) (evc st) (evc x); pure .skip) ρ σ w nm eff := by
  unfold aEntryStore at h
  cases hm : ev m with
  | none => rw [hm] at h; simp at h
  | some mv =>
    rw [hm] at h
    have hmv := hev _ _ hm
    simp only [Option.bind_some] at h
    generalize hy : evc m = y at hmv
    split at h
    case h_2 => cases h
    rename_i ml
    cases hs : ev st with
    | none => rw [hs] at h; simp at h
    | some sv =>
      rw [hs] at h
      have hsv := hev _ _ hs
      simp only [Option.bind_some] at h
      generalize hys : evc st = ys at hsv
      split at h
      case h_2 => cases h
      rename_i kd b
      cases hx : ev x with
      | none => rw [hx] at h; simp at h
      | some v =>
        rw [hx] at h
        have hv := hev _ _ hx
        simp only [Option.bind_some] at h
        cases h
        cases hsv
        simp only [Prim.run, getAll] at hrun
        cases hl : σ.get ml with
        | none => rw [hl] at hrun; simp at hrun
        | some ob =>
          rw [hl] at hrun
          simp only [Option.bind_some, Option.map_some] at hrun
          split at hrun
          case h_2 => cases hrun
          rename_i es clock heq
          simp at heq; subst heq
          obtain ⟨i, hi, rfl⟩ := Option.map_eq_some_iff.1 hrun
          cases hmv with
          | map hpl =>
            rename_i pl
            obtain ⟨es', hh, hes⟩ := map_of hrel hl hpl
            have hi' : es'.findIdx? (fun e => (e.born : Int) == b) = some i := by
              have := EslRel.findIdx (q := fun k => (k : Int) == b) hes.toList
              rw [hi] at this
              rw [← this, ← List.findIdx?_toArray]
            obtain ⟨w', k1, k2, k3⟩ := map_write (P := P) (clk2 := clock) hrel hl hpl hh (hes.modify i (f := fun e => { e with val := v }) (f' := fun e => { e with val := evc x }) (fun a b ⟨q1, q2, q3, q4⟩ => ⟨q1, q2, hv, q4⟩))
            exact ⟨.skip, undef, ρ, w', by simp [Instr.entryStore, run_getObj_map hh, asInt, asIntOf, hi', k1], rfl, k2, k3, VRel.undef_ ρ, fun _ _ => rfl⟩

theorem delete_ok {t ty t2 : TypeId} {m k m' k' : Value} {p : Prim} {eff : Eff} (h : aDelete P t m k = some p) (hm : VRel ρ m m') (hk : VRel ρ k k') (hrel : Rel ρ σ w)
    (hrun : p.run σ nm = some eff) : Out P (do pure (.value (← Builtin.delete_ #[t, t2] ty #[m', k']))) ρ σ w nm eff := by
  unfold aDelete at h
  split at h
  case h_2 => cases h
  rename_i kt et hu
  split at h
  case isFalse => cases h
  rename_i hkp
  rw [plainV_eq hkp hk]
  cases hd : keyKind P kt k with
  | none => rw [hd] at h; simp at h
  | some d =>
    rw [hd] at h
    simp only [Option.bind_some] at h
    have htup : VRel ρ (.tuple #[]) (.tuple #[]) := VRel.undef_ ρ
    split at h
    case h_3 => cases h
    · cases h
      rw [run_ofVal hrun]
      cases hm
      exact out_val hrel (by simp [Builtin.delete_, run_underlying hu, run_checkKey hd]) htup
    · rename_i ml
      cases h
      simp only [Prim.run, getAll] at hrun
      cases hl : σ.get ml with
      | none => rw [hl] at hrun; simp at hrun
      | some ob =>
        rw [hl] at hrun
        simp only [Option.bind_some, Option.map_some] at hrun
        split at hrun
        case h_2 => cases hrun
        rename_i es clock heq
        simp at heq; subst heq
        obtain ⟨r, hf, hr⟩ := Option.map_eq_some_iff.1 hrun
        cases hm with
        | map hpl =>
          rename_i pl
          obtain ⟨es', hh, hes⟩ := map_of hrel hl hpl
          obtain ⟨r', hf', hfr⟩ := findNow_rel _ _ 0 r hes.toList hf
          cases r with
          | none =>
            cases r' with
            | some q => exact hfr.elim
            | none =>
              simp only at hr
              subst hr
              obtain ⟨w', k1, k2, k3⟩ := map_write (P := P) (clk2 := clock) hrel hl hpl hh hes
              exact ⟨.value (.tuple #[]), .tuple #[], ρ, w', by simp [Builtin.delete_, run_underlying hu, run_getObj_map hh, run_checkKey hd, run_findKey hd hf', k1], rfl, k2, k3, htup, fun _ _ => rfl⟩
          | some q =>
            obtain ⟨i, v0⟩ := q
            cases r' with
            | none => exact hfr.elim
            | some q' =>
              obtain ⟨i', v0'⟩ := q'
              obtain ⟨rfl, _⟩ := hfr
              simp only at hr
              subst hr
              obtain ⟨e, h1, h2, h3, _⟩ := findNow_key _ _ _ _ hf
              simp only [Nat.sub_zero] at h2
              have hil : i' < es.length := by
                rcases Nat.lt_or_ge i' es.length with h | h
                · exact h
                · rw [List.getElem?_eq_none h] at h2; cases h2
              obtain ⟨w', k1, k2, k3⟩ := map_write (P := P) (clk2 := clock) hrel hl hpl hh (hes.erase i' hil)
              exact ⟨.value (.tuple #[]), .tuple #[], ρ, w', by simp [Builtin.delete_, run_underlying hu, run_getObj_map hh, run_checkKey hd, run_findKey hd hf', k1], rfl, k2, k3, htup, fun _ _ => rfl⟩

theorem len_ok {t ty : TypeId} {x x' : Value} {p : Prim} {eff : Eff} (h : aLen P t x = some p) (hx : VRel ρ x x') (hrel : Rel ρ σ w)
    (hrun : p.run σ nm = some eff) : Out P (do pure (.value (← Builtin.len_ #[t] ty #[x']))) ρ σ w nm eff := by
  unfold aLen at h
  split at h
  · rename_i s hu
    cases h; rw [run_ofVal hrun]; cases hx
    exact out_val hrel (by simp [Builtin.len_, run_underlying hu, goInt]) (.int _ _)
  · rename_i n e hu
    cases h; rw [run_ofVal hrun]
    refine out_val hrel (v' := .int .i64 n) ?_ (.int _ _)
    cases x' <;> simp [Builtin.len_, run_underlying hu, goInt]
  · rename_i e a n c hu
    cases h; rw [run_ofVal hrun]
    cases hx <;> exact out_val hrel (by simp [Builtin.len_, run_underlying hu, goInt]) (.int _ _)
  · rename_i k e hu
    cases h; rw [run_ofVal hrun]; cases hx
    exact out_val hrel (by simp [Builtin.len_, run_underlying hu, goInt]) (.int _ _)
  · rename_i k e m hu
    cases h
    simp only [Prim.run, getAll] at hrun
    cases hl : σ.get m with
    | none => rw [hl] at hrun; simp at hrun
    | some ob =>
      rw [hl] at hrun
      simp only [Option.bind_some, Option.map_some] at hrun
      split at hrun
      case h_2 => cases hrun
      rename_i es clock heq
      simp at heq; subst heq
      cases hrun
      cases hx with
      | map hpl =>
        obtain ⟨es', hh, hes⟩ := map_of hrel hl hpl
        exact out_val hrel (by simp [Builtin.len_, run_underlying hu, run_getObj_map hh, goInt, hes.1] <;> rfl) (.int _ _)
  · cases h

end
end Go.Proofs.YtfchjhfccnodpaaGreat
end

section
namespace Go.Proofs.YtfchjhfccnodpaaGreat
set_option linter.unusedSimpArgs false
set_option linter.unusedVariables false
section
variable {P : Program} {ρ : LMap} {σ : Heap} {w : World} {nm : Nat}

theorem zeroCells_plain {z : Array Value} (hz : plainL plainV z.toList = true) (n : Nat) : VlRel ρ (Builtin.zeroCells z n).toList (Builtin.zeroCells z n).toList := by
  refine ⟨rfl, fun i v v' h1 h2 => ?_⟩
  rw [h1] at h2; cases h2
  rcases Nat.eq_zero_or_pos z.size with h0 | h0
  · simp [Builtin.zeroCells, h0] at h1
  · have := (range_plain (ρ := ρ) hz (n * z.size) h0).toList
    exact this.2 i v v (by simpa [Builtin.zeroCells] using h1) (by simpa [Builtin.zeroCells] using h1)

theorem zeroCells_one {z : Array Value} (hz : plainL oneCell z.toList = true) (n : Nat) : plainL oneCell (Builtin.zeroCells z n).toList = true := by
  have key : ∀ l : List Value, (∀ v ∈ l, oneCell v = true) → plainL oneCell l = true := by
    intro l
    induction l with
    | nil => intro _; rfl
    | cons v l ih => intro h; simp only [plainL, Bool.and_eq_true]; exact ⟨h v (by simp), ih fun x hx => h x (by simp [hx])⟩
  apply key
  intro v hv
  simp [Builtin.zeroCells] at hv
  obtain ⟨a, ha, rfl⟩ := hv
  have h0 : 0 < z.size := by
    rcases Nat.eq_zero_or_pos z.size with h | h
    · rw [h] at ha; simp at ha
    · exact h
  have hm := Nat.mod_lt a h0
  rw [getElem!_pos z (a % z.size) hm]
  exact plainL_get hz (i := a % z.size) (by simp [hm])

theorem clear_ok {t ty : TypeId} {x x' : Value} {p : Prim} {eff : Eff} (h : aClear P t x = some p) (hx : VRel ρ x x') (hrel : Rel ρ σ w)
    (hrun : p.run σ nm = some eff) : Out P (do pure (.value (← Builtin.clear_ #[t] ty #[x']))) ρ σ w nm eff := by
  have htup : VRel ρ (.tuple #[]) (.tuple #[]) := VRel.undef_ ρ
  unfold aClear at h
  split at h
  case h_2 => cases h
  rename_i e hu
  split at h
  case h_3 => cases h
  · cases h; rw [run_ofVal hrun]; cases hx
    exact out_val hrel (by simp [Builtin.clear_, run_underlying hu]) htup
  · rename_i l o n c
    split at h
    · rename_i hn0
      subst hn0
      cases h; rw [run_ofVal hrun]
      cases hx <;> exact out_val hrel (by simp [Builtin.clear_, run_underlying hu]) htup
    · rename_i hn0'
      cases hs : szO P e with
      | none => rw [hs] at h; simp at h
      | some size =>
        cases hz : zeroP P e with
        | none => rw [hs, hz] at h; simp at h
        | some z =>
          obtain ⟨hz0, hzp⟩ := zeroP_some hz
          rw [hs, hz] at h
          simp only [Option.bind_some] at h
          split at h
          case isFalse => cases h
          rename_i hcond
          simp only [Bool.and_eq_true, decide_eq_true_eq] at hcond
          obtain ⟨⟨hzs, hone⟩, hpl'⟩ := hcond
          cases h
          simp only [Prim.run, getAll] at hrun
          cases hl : σ.get l with
          | none => rw [hl] at hrun; simp at hrun
          | some ob =>
            rw [hl] at hrun
            simp only [Option.bind_some, Option.map_some] at hrun
            split at hrun
            case h_2 => cases hrun
            rename_i cl sz heq
            simp at heq; subst heq
            split at hrun
            case isFalse => cases hrun
            rename_i hle
            cases hrun
            cases hx with
            | slice hpl hc =>
              rename_i c' pl
              obtain ⟨w', k1, k2, k3⟩ := write_cells (P := P) (o := o) hrel hl hpl (zeroCells_plain hpl' n) (zeroCells_one hone n) (by rw [Array.length_toList, zeroCells_size, hzs]; exact hle)
              refine ⟨.value (.tuple #[]), .tuple #[], ρ, w', ?_, rfl, k2, k3, htup, fun _ _ => rfl⟩
              simp [Builtin.clear_, run_underlying hu, hn0', run_zeroValue hz0, k1]
            | slice0 hpl => exact absurd rfl hn0'


def extSem (x : XKind) (args : Array Value) : Sem Value :=
  match x with
  | .add k => Extern.Atomic.update (Op.intArith .add) k true args
  | .load k => Extern.Atomic.loadT (.int k) args
  | .store _ => Extern.Atomic.storeT args
  | .cas k => Extern.Atomic.casT (.int k) args
  | .nop => pure (.tuple #[])
  | .mark => do let _ ← Extern.Race.at_ args; pure (.tuple #[])
  | .cmp => Extern.BytealgCompare.compare args

def ConvOk (P : Program) : Prop := P.underlying 9 = some .string ∧ P.underlying 43 = some (.slice 5) ∧ P.underlying 5 = some (.int .u8)

structure EnvOk (E : Env) : Prop where
  c : ConvOk E.P
  x : ∀ f k, E.X f = some k → ∀ (args : Array Value) (w : World), (callFunc f args).run E.P w = (do pure (Next.value (← extSem k args)) : Sem Next).run E.P w
  b : ∀ f, E.B f = true → ∀ (args : Array Value) (w : World), (callFunc f args).run E.P w = .ok (.enter f args) w

theorem ext_load (k : IntKind) (a : Value) : extSem (.load k) [a].toArray = (do Extern.Atomic.read (.int k) (← asAddr a)) := rfl
theorem ext_store (k : IntKind) (a v : Value) : extSem (.store k) [a, v].toArray = (do store (← asAddr a) v .atomic; pure Extern.Atomic.none_) := rfl
theorem ext_add (k : IntKind) (addr y : Value) : extSem (.add k) [addr, y].toArray = (do
    let a ← asAddr addr
    let old ← Extern.Atomic.read (.int k) a
    let new ← Op.intArith .add k (← asInt old) (← asInt y)
    store a new .atomic
    pure new) := rfl
theorem ext_cas (k : IntKind) (addr old new : Value) : extSem (.cas k) [addr, old, new].toArray = (do
    let a ← asAddr addr
    if ← Extern.Atomic.touchesFrozen a then unsupported (.unsafePointer "a write to bytes that a string shares")
    let eq ← match Extern.Atomic.T.int k, ← Extern.Atomic.read (.int k) a, old with
      | _, .int _ x, .int _ y => pure (x == y)
      | .ptr, .pointer x, .pointer y => samePointer x y
      | .int _, .pointer (some _), .int _ 0 | .int _, .int _ 0, .pointer (some _) => pure false
      | .int _, .pointer (some _), _ | .int _, _, .pointer (some _) => unsupported .addressObserved
      | _, _, _ => stuck "atomic.CompareAndSwap: old is no T"
    if eq then store a new .atomic
    pure (.bool eq)) := rfl

theorem set_splice {c : List Value} {o : Nat} {v : Value} (h : o < c.length) : c.set o v = splice c o [v] := by
  apply List.ext_getElem?
  intro i
  rw [splice_get (by simp; omega), List.getElem?_set]
  by_cases e : o = i
  · subst e; simp [h]
  · rw [if_neg e, if_neg (by simp; omega)]

theorem get_lt {c : List Value} {o : Nat} {v : Value} (h : c[o]? = some v) : o < c.length := by
  rcases Nat.lt_or_ge o c.length with k | k
  · exact k
  · rw [List.getElem?_eq_none k] at h; cases h

theorem run_touches {l o : Nat} {c : List Value} {sz : Nat} {pl : Pl} (hrel : Rel ρ σ w) (hl : σ.get l = some (.cells c sz false)) (hpl : ρ l = some pl) (ho : o < c.length) :
    (Extern.Atomic.touchesFrozen ⟨pl.blk, pl.off + o, none⟩).run P w = .ok false w := by
  obtain ⟨hlen, _, C, T, fz, hh, hc, hown⟩ := cells_of hrel hl hpl
  obtain ⟨hroom, hfz⟩ := hown rfl
  have hfr : w.frozen? ⟨pl.blk, pl.off + o, none⟩ = false := by
    have := hfz.not (i := pl.off + o) (by omega)
    simp [World.frozen?, hh]; omega
  simp [Extern.Atomic.touchesFrozen, viewAt, shape, frozen, Sem.run, World.shape?, hh, hfr]

theorem set_cell {l o : Nat} {c : List Value} {sz : Nat} {pl : Pl} {v : Value} (hrel : Rel ρ σ w) (hl : σ.get l = some (.cells c sz false)) (hpl : ρ l = some pl) (ho : o < c.length)
    (hv : plainV v = true) (hone : oneCell v = true) (m : Mode) :
    ∃ w', (store ⟨pl.blk, pl.off + o, none⟩ v m).run P w = .ok () w' ∧ Rel ρ (σ.upd l (some (.cells (c.set o v) sz false))) w' ∧ Frm ρ σ w ρ (σ.upd l (some (.cells (c.set o v) sz false))) w' := by
  obtain ⟨w', h1, h2, h3⟩ := write_cells (P := P) (o := o) hrel hl hpl (plainL_rel (l := [v]) (by simp [plainL, hv])) (by simp [plainL, hone]) (by simp; omega)
  rw [set_splice ho]
  refine ⟨w', ?_, h2, h3⟩
  obtain ⟨_, _, C, T, fz, hh, hcell, _⟩ := cells_of hrel hl hpl
  obtain ⟨x', hx1, _⟩ := hcell o _ (List.getElem?_eq_getElem ho)
  have hx := cell_at hh hx1
  have e : (storeCells ⟨pl.blk, pl.off + o, none⟩ [v]).run P w = (store ⟨pl.blk, pl.off + o, none⟩ v m).run P w := by
    simp only [storeCells, Sem.run_bind, Addr.add_lit, Nat.add_zero]
    cases v <;> first | (simp [oneCell] at hone; done) | skip
    all_goals
      simp only [store, Sem.run, hx]
      split <;> simp
  rw [← e]; exact h1

theorem extern_ok {x : XKind} {args : List Value} {args' : List Value} {p : Prim} {eff : Eff} (h : aExtern P x args = some p) (ha : VlRel ρ args args') (hrel : Rel ρ σ w)
    (hrun : p.run σ nm = some eff) : Out P (do pure (.value (← extSem x args'.toArray))) ρ σ w nm eff := by
  have htup : VRel ρ (.tuple #[]) (.tuple #[]) := VRel.undef_ ρ
  unfold aExtern at h
  split at h
  · cases h; rw [run_ofVal hrun]
    exact out_val hrel (by simp [extSem]) htup
  · -- mark
    cases h; rw [run_ofVal hrun]
    obtain ⟨a', r1, rfl, hp, hr1⟩ := ha.inv_cons
    have := hr1.inv_nil; subst this
    cases hp with
    | ptr hpl => exact out_val hrel (by simp [extSem, Extern.Race.at_]) htup
  · -- cmp
    cases h; rw [run_ofVal hrun]
    obtain ⟨a', r1, rfl, hp, hr1⟩ := ha.inv_cons
    obtain ⟨b', r2, rfl, hq, hr2⟩ := hr1.inv_cons
    have := hr2.inv_nil; subst this
    cases hp
    cases hq
    rename_i a b
    have e : extSem .cmp [Value.string a, Value.string b].toArray = (do pure (goInt (Extern.BytealgCompare.cmp (← Extern.Bytes.bytesOf (.string a)) (← Extern.Bytes.bytesOf (.string b)))) : Sem Value) := rfl
    exact out_val hrel (v' := goInt (Extern.BytealgCompare.cmp a b)) (by rw [e]; simp [Extern.Bytes.bytesOf]) (.int _ _)
  · -- load
    rename_i k l o
    cases h
    obtain ⟨a', r1, rfl, hp, hr1⟩ := ha.inv_cons
    have := hr1.inv_nil; subst this
    simp only [Prim.run, getAll] at hrun
    cases hl : σ.get l with
    | none => rw [hl] at hrun; simp at hrun
    | some ob =>
      rw [hl] at hrun
      simp only [Option.bind_some, Option.map_some] at hrun
      split at hrun
      case h_2 => cases hrun
      rename_i c sz ro heq
      simp at heq; subst heq
      split at hrun
      case h_2 => cases hrun
      rename_i k' n hc
      split at hrun
      case isFalse => cases hrun
      rename_i hk
      subst hk
      cases hrun
      cases hp with
      | ptr hpl =>
        rename_i pl
        obtain ⟨_, _, C, T, fz, hh, hcell, _⟩ := cells_of hrel hl hpl
        obtain ⟨v', h1, h2⟩ := hcell _ _ hc
        cases h2
        exact out_val hrel (by simp [ext_load, asAddr, Extern.Atomic.read, cell_at hh h1]) (.int _ _)
  · -- store
    rename_i k l o k₂ v
    cases h
    obtain ⟨a', r1, rfl, hp, hr1⟩ := ha.inv_cons
    obtain ⟨b', r2, rfl, hq, hr2⟩ := hr1.inv_cons
    have := hr2.inv_nil; subst this
    simp only [Prim.run, getAll] at hrun
    cases hl : σ.get l with
    | none => rw [hl] at hrun; simp at hrun
    | some ob =>
      rw [hl] at hrun
      simp only [Option.bind_some, Option.map_some] at hrun
      split at hrun
      case h_2 => cases hrun
      rename_i c sz heq
      simp at heq; subst heq
      split at hrun
      case h_2 => cases hrun
      rename_i k' n hc
      split at hrun
      case isFalse => cases hrun
      rename_i hk
      simp only [Bool.and_eq_true, decide_eq_true_eq] at hk
      obtain ⟨rfl, rfl⟩ := hk
      cases hrun
      cases hq
      cases hp with
      | ptr hpl =>
        obtain ⟨w', k1, k2, k3⟩ := set_cell (P := P) hrel hl hpl (get_lt hc) (v := .int k₂ v) rfl rfl .atomic
        exact ⟨.value (.tuple #[]), .tuple #[], ρ, w', by simp [ext_store, asAddr, k1, Extern.Atomic.none_], rfl, k2, k3, htup, fun _ _ => rfl⟩
  · -- add
    rename_i k l o k₂ d
    cases h
    obtain ⟨a', r1, rfl, hp, hr1⟩ := ha.inv_cons
    obtain ⟨b', r2, rfl, hq, hr2⟩ := hr1.inv_cons
    have := hr2.inv_nil; subst this
    simp only [Prim.run, getAll] at hrun
    cases hl : σ.get l with
    | none => rw [hl] at hrun; simp at hrun
    | some ob =>
      rw [hl] at hrun
      simp only [Option.bind_some, Option.map_some] at hrun
      split at hrun
      case h_2 => cases hrun
      rename_i c sz heq
      simp at heq; subst heq
      split at hrun
      case h_2 => cases hrun
      rename_i k' n hc
      split at hrun
      case isFalse => cases hrun
      rename_i hk
      simp only [Bool.and_eq_true, decide_eq_true_eq] at hk
      obtain ⟨rfl, rfl⟩ := hk
      cases hv : pureRun P (Op.intArith .add k₂ n d) with
      | none => rw [hv] at hrun; simp at hrun
      | some v =>
        rw [hv] at hrun
        simp only [Option.bind_some] at hrun
        split at hrun
        case isFalse => cases hrun
        rename_i hvp
        simp only [Bool.and_eq_true] at hvp
        cases hrun
        cases hq
        cases hp with
        | ptr hpl =>
          rename_i pl
          obtain ⟨_, _, C, T, fz, hh, hcell, _⟩ := cells_of hrel hl hpl
          obtain ⟨v', h1, h2⟩ := hcell _ _ hc
          cases h2
          obtain ⟨w', k1, k2, k3⟩ := set_cell (P := P) hrel hl hpl (get_lt hc) hvp.1 hvp.2 .atomic
          exact ⟨.value v, v, ρ, w', by simp [ext_add, asAddr, Extern.Atomic.read, cell_at hh h1, asInt, asIntOf, pureRun_run hv, k1], rfl, k2, k3, plainV_rel ρ hvp.1, fun _ _ => rfl⟩
  · -- cas
    rename_i k l o k0 old k₂ new
    cases h
    obtain ⟨a', r1, rfl, hp, hr1⟩ := ha.inv_cons
    obtain ⟨b', r2, rfl, hq, hr2⟩ := hr1.inv_cons
    obtain ⟨c', r3, rfl, hq3, hr3⟩ := hr2.inv_cons
    have := hr3.inv_nil; subst this
    simp only [Prim.run, getAll] at hrun
    cases hl : σ.get l with
    | none => rw [hl] at hrun; simp at hrun
    | some ob =>
      rw [hl] at hrun
      simp only [Option.bind_some, Option.map_some] at hrun
      split at hrun
      case h_2 => cases hrun
      rename_i c sz heq
      simp at heq; subst heq
      split at hrun
      case h_2 => cases hrun
      rename_i k' n hc
      split at hrun
      case isFalse => cases hrun
      rename_i hk
      simp only [Bool.and_eq_true, decide_eq_true_eq] at hk
      obtain ⟨rfl, rfl⟩ := hk
      cases hrun
      cases hq
      cases hq3
      cases hp with
      | ptr hpl =>
        rename_i pl
        obtain ⟨_, _, C, T, fz, hh, hcell, _⟩ := cells_of hrel hl hpl
        obtain ⟨v', h1, h2⟩ := hcell _ _ hc
        cases h2
        have ht := run_touches (P := P) hrel hl hpl (get_lt hc)
        by_cases e : n = old
        · subst e
          obtain ⟨w', k1, k2, k3⟩ := set_cell (P := P) hrel hl hpl (get_lt hc) (v := .int k₂ new) rfl rfl .atomic
          refine ⟨.value (.bool true), .bool true, ρ, w', by simp [ext_cas, asAddr, ht, Extern.Atomic.read, cell_at hh h1, k1], rfl, ?_, ?_, by simpa using VRel.bool true, fun _ _ => rfl⟩
          · simpa [Heap.app, Heap.wr, Heap.nw] using k2
          · simpa [Heap.app, Heap.wr, Heap.nw] using k3
        · have he : (n == old) = false := by simpa using e
          have hsame : σ.upd l (some (.cells c sz false)) = σ := by
            unfold Heap.upd
            have : (fun x => if x = l then some (AObj.cells c sz false) else σ.get x) = σ.get := by
              funext x; split
              · rename_i e; subst e; exact hl.symm
              · rfl
            rw [this]
          refine ⟨.value (.bool false), .bool false, ρ, w, by simp [ext_cas, asAddr, ht, Extern.Atomic.read, cell_at hh h1, he]; exact fun h => absurd h e, rfl, ?_, ?_, by simpa [he] using VRel.bool false, fun _ _ => rfl⟩
          · simpa [Heap.app, Heap.wr, Heap.nw, he, hsame] using hrel
          · simpa [Heap.app, Heap.wr, Heap.nw, he, hsame] using Frm.refl ρ σ w
  · cases h

theorem copy_ok {t u ty : TypeId} {d s d' s' : Value} {p : Prim} {eff : Eff} (h : aCopy P t d s = some p) (hd : VRel ρ d d') (hs : VRel ρ s s') (hrel : Rel ρ σ w)
    (hrun : p.run σ nm = some eff) : Out P (do pure (.value (← Builtin.copy_ #[t, u] ty #[d', s']))) ρ σ w nm eff := by
  unfold aCopy at h
  split at h
  case h_2 => cases h
  rename_i elem ht
  cases hsz : szO P elem with
  | none => rw [hsz] at h; simp at h
  | some size =>
    rw [hsz] at h
    simp only [Option.bind_some] at h
    obtain ⟨i, hi, hisz⟩ := info_of_sz hsz
    subst hisz
    cases hsrc : srcOf i.size s with
    | none => rw [hsrc] at h; simp at h
    | some q =>
      obtain ⟨rs, get, m⟩ := q
      rw [hsrc] at h
      simp only [Option.bind_some] at h
      split at h
      case h_2 => cases h
      rename_i l o n c
      split at h
      case isFalse => cases h
      rename_i hc
      simp only [Bool.and_eq_true, decide_eq_true_eq] at hc
      obtain ⟨hmn, hm0⟩ := hc
      cases h
      simp only [Prim.run, getAll] at hrun
      cases hl : σ.get l with
      | none => rw [hl] at hrun; simp at hrun
      | some ob =>
        rw [hl] at hrun
        simp only [Option.bind_some] at hrun
        cases hg : getAll σ.get rs with
        | none => rw [hg] at hrun; simp at hrun
        | some objs =>
          rw [hg] at hrun
          simp only [Option.map_some, Option.bind_some] at hrun
          split at hrun
          case h_2 => cases hrun
          rename_i cl sz rest heq
          simp only [List.cons.injEq] at heq
          obtain ⟨rfl, rfl⟩ := heq
          cases hsv : get objs with
          | none => rw [hsv] at hrun; simp at hrun
          | some src =>
            rw [hsv] at hrun
            simp only [Option.bind_some] at hrun
            split at hrun
            case isFalse => cases hrun
            rename_i hcond
            simp only [Bool.and_eq_true, decide_eq_true_eq] at hcond
            obtain ⟨hone, hle⟩ := hcond
            cases hrun
            obtain ⟨cs, h1, h2, h3, h4, h5⟩ := src_run (P := P) hsrc hrel hs hg hsv
            cases hd with
            | slice hpl hcc =>
              rename_i c' pl
              obtain ⟨w', k1, k2, k3⟩ := write_cells (P := P) (o := o) hrel hl hpl h1 hone (by rw [h2]; exact hle)
              refine ⟨.value (goInt m), goInt m, ρ, w', ?_, rfl, k2, k3, .int _ _, fun _ _ => rfl⟩
              have hmin : Nat.min m n = m := Nat.min_eq_left hmn
              simp [Builtin.copy_, run_underlying ht, h3, hmin, sizeOf, typeInfo, hi, h4, k1]
            | slice0 hpl => omega


theorem map_prim {x : Option Prim} {p : Prim} (h : x.map AOp.prim = some (.prim p)) : x = some p := by
  cases x with
  | none => cases h
  | some q => simp at h; rw [h]

theorem plainL_eq : ∀ {l l' : List Value}, plainL plainV l = true → VlRel ρ l l' → l' = l
  | [], l', _, h => h.inv_nil
  | v :: l, l', hp, h => by
    obtain ⟨v', l2, rfl, h1, h2⟩ := h.inv_cons
    simp only [plainL, Bool.and_eq_true] at hp
    rw [plainV_eq hp.1 h1, plainL_eq hp.2 h2]

theorem builtin_ok {b : Builtin} {ts : Array TypeId} {ty : TypeId} {cs : Array Bool} {args args' : List Value} {p : Prim} {eff : Eff} (h : aBuiltin P b ts ty args = some p) (ha : VlRel ρ args args') (hrel : Rel ρ σ w) (hnm : ρ nm = none) (hlt : nm < σ.nxt)
    (hrun : p.run σ nm = some eff) : Out P (builtin b ts ty cs args'.toArray) ρ σ w nm eff := by
  unfold aBuiltin at h
  split at h
  · rename_i t x hts
    obtain ⟨x', r1, rfl, h1, hr1⟩ := ha.inv_cons
    have := hr1.inv_nil; subst this
    have ht : ts = #[t] := by apply Array.ext'; simpa using hts
    subst ht
    exact len_ok h h1 hrel hrun
  · rename_i t u s x hts
    obtain ⟨s', r1, rfl, h1, hr1⟩ := ha.inv_cons
    obtain ⟨x', r2, rfl, h2, hr2⟩ := hr1.inv_cons
    have := hr2.inv_nil; subst this
    have ht : ts = #[t, u] := by apply Array.ext'; simpa using hts
    subst ht
    exact append_ok h h1 h2 hrel hnm hlt hrun
  · rename_i t u m k hts
    obtain ⟨m', r1, rfl, h1, hr1⟩ := ha.inv_cons
    obtain ⟨k', r2, rfl, h2, hr2⟩ := hr1.inv_cons
    have := hr2.inv_nil; subst this
    have ht : ts = #[t, u] := by apply Array.ext'; simpa using hts
    subst ht
    exact delete_ok h h1 h2 hrel hrun
  · rename_i t x hts
    obtain ⟨x', r1, rfl, h1, hr1⟩ := ha.inv_cons
    have := hr1.inv_nil; subst this
    have ht : ts = #[t] := by apply Array.ext'; simpa using hts
    subst ht
    exact clear_ok h h1 hrel hrun
  · rename_i t u d s hts
    obtain ⟨d', r1, rfl, h1, hr1⟩ := ha.inv_cons
    obtain ⟨s', r2, rfl, h2, hr2⟩ := hr1.inv_cons
    have := hr2.inv_nil; subst this
    have ht : ts = #[t, u] := by apply Array.ext'; simpa using hts
    subst ht
    exact copy_ok h h1 h2 hrel hrun
  · split at h
    case isFalse => cases h
    rename_i hp
    rw [plainL_eq hp ha]
    exact pureVal_out h hrel hrun
  · split at h
    case isFalse => cases h
    rename_i hp
    rw [plainL_eq hp ha]
    exact pureVal_out h hrel hrun
  · cases h

theorem value_ok {s : Sem Next} {v v' : Value} {eff : Eff} (hrel : Rel ρ σ w) (hrun : (Prim.ofVal v).run σ nm = some eff) (hs : s = pure (.value v')) (hv : VRel ρ v v') : Out P s ρ σ w nm eff := by
  rw [run_ofVal hrun, hs]
  exact out_val hrel rfl hv

theorem Out.congr {s s' : Sem Next} {eff : Eff} (h : Out P s ρ σ w nm eff) (he : s'.run P w = s.run P w) : Out P s' ρ σ w nm eff := by
  obtain ⟨nx, v', ρ', w', h1, r⟩ := h
  exact ⟨nx, v', ρ', w', he.trans h1, r⟩

theorem call_args {ev : Ev} {evc : Operand → Value} (hev : EvRel ρ ev evc) {xs : Array Operand} {args : List Value} (h : evList ev xs.toList = some args) : VlRel ρ args (xs.map evc).toList := by
  have := evList_rel hev _ _ h
  simpa using this

theorem not_defer {E : Env} {ev : Ev} {c : Call} {x : AOp} (h : aDefer E ev c = some x) (hx : ∀ f a b, x ≠ .defer f a b) : False := by
  unfold aDefer at h
  cases ha : evList ev c.args.toList with
  | none => rw [ha] at h; cases h
  | some args =>
    rw [ha] at h
    simp only [Option.bind_some] at h
    split at h
    case h_2 => cases h
    rename_i f _
    cases hf : ev f with
    | none => rw [hf] at h; cases h
    | some fv =>
      rw [hf] at h
      simp only [Option.bind_some] at h
      split at h
      case h_2 => cases h
      split at h
      · simp only [Option.some.injEq] at h; exact hx _ _ _ h.symm
      · cases h

theorem prim_ok {E : Env} (hE : EnvOk E) {o : Oper} {ev : Ev} {evc : Operand → Value} {p : Prim} {eff : Eff} (h : aop E ev o = some (.prim p)) (hev : EvRel ρ ev evc) (hrel : Rel ρ σ w) (hnm : ρ nm = none) (hlt : nm < σ.nxt)
    (hrun : p.run σ nm = some eff) : Out E.P (execOp evc o) ρ σ w nm eff := by
  obtain ⟨dst, op, ty, pos, after, guard⟩ := o
  unfold aop at h
  cases op <;> simp only [] at h
  case move x =>
    cases hx : ev x with
    | none => rw [hx] at h; cases h
    | some v => rw [hx] at h; cases h; exact value_ok hrel hrun rfl (hev _ _ hx)
  case assign x =>
    cases hx : ev x with
    | none => rw [hx] at h; cases h
    | some v => rw [hx] at h; cases h; exact value_ok hrel hrun rfl (hev _ _ hx)
  case pick c a b =>
    cases hc : ev c with
    | none => rw [hc] at h; cases h
    | some cv =>
      rw [hc] at h
      have hcr := hev _ _ hc
      simp only [Option.bind_some] at h
      split at h
      case h_2 => cases h
      rename_i t
      have e : ∀ y, VRel ρ (.bool t) y → y = .bool t := by intro y hy; cases hy; rfl
      have hce := e _ hcr
      cases t
      · cases hb : ev b with
        | none => simp [hb] at h
        | some v => simp [hb] at h; subst h; exact value_ok (v' := evc b) hrel hrun (by simp [execOp, hce, asBool]) (hev _ _ hb)
      · cases ha : ev a with
        | none => simp [ha] at h
        | some v => simp [ha] at h; subst h; exact value_ok (v' := evc a) hrel hrun (by simp [execOp, hce, asBool]) (hev _ _ ha)
  case alloc t =>
    obtain ⟨z, hz, hp⟩ := Option.map_eq_some_iff.1 h
    cases hp
    exact alloc_ok hz hrel hnm hlt hrun
  case box t x =>
    obtain ⟨v, hv, hp⟩ := Option.map_eq_some_iff.1 h
    cases hp
    exact box_ok hv hev hrel hnm hlt hrun
  case build t parts => exact build_ok (map_prim h) hev hrel hrun
  case buildSlice t len parts => exact buildSlice_ok (map_prim h) hev hrel hnm hlt hrun
  case load t a => exact load_ok (map_prim h) hev hrel hrun
  case store t a x => exact store_ok (map_prim h) hev hrel hrun
  case nilCheck x => exact nil_ok rfl (map_prim h) hev hrel hrun
  case binOp op t x y yt => exact bin_ok (map_prim h) hev hrel hrun
  case unOp op t x =>
    cases hx : plainEv ev x with
    | none => rw [hx] at h; cases h
    | some v =>
      rw [hx] at h
      simp only [Option.bind_some] at h
      have := pureVal_out (nm := nm) (map_prim h) hrel hrun
      rw [← (plainEv_some hx hev).1] at this
      exact this
  case convert s d x => exact convert_ok (map_prim h) hev hrel hnm hlt hrun
  case makeFunc fn a b => exact makeFunc_ok (map_prim h) hev hrel hrun
  case makeMap t r => exact makeMap_ok (map_prim h) hev hrel hnm hlt hrun
  case makeSlice t l c => exact makeSlice_ok (map_prim h) hev hrel hnm hlt hrun
  case slice t x lo hi mx => exact slice_ok (map_prim h) hev hrel hrun
  case fieldAddr s x f => exact fieldAddr_ok (map_prim h) hev hrel hrun
  case field s x f => exact field_ok (map_prim h) hev hrel hrun
  case indexAddr t x ix => exact indexAddr_ok (map_prim h) hev hrel hrun
  case index t x ix => exact index_ok (map_prim h) hev hrel hrun
  case lookup t x ix ok => exact lookup_ok (map_prim h) hev hrel hrun
  case mapUpdate t m k x => exact mapUpdate_ok (map_prim h) hev hrel hrun
  case mapEntry t m k => exact mapEntry_ok (map_prim h) hev hrel hrun
  case entryStore t m b x => exact entryStore_ok (map_prim h) hev hrel hrun
  case extract t i => exact extract_ok (map_prim h) hev hrel hrun
  case call c =>
    unfold aCall at h
    cases ha : evList ev c.args.toList with
    | none => rw [ha] at h; cases h
    | some args =>
      rw [ha] at h
      simp only [Option.bind_some] at h
      have har := call_args hev ha
      obtain ⟨callee, cargs, cts⟩ := c
      simp only at h har
      cases callee with
      | builtin b =>
        simp only at h
        have hb := builtin_ok (cs := cargs.map fun | .const _ => true | _ => false) (nm := nm) (map_prim h) har hrel hnm hlt hrun
        have e : (cargs.map evc).toList.toArray = cargs.map evc := by rw [Array.toArray_toList]
        rw [e] at hb
        exact hb
      | invoke r m => cases h
      | value f =>
        simp only at h
        cases hf : ev f with
        | none => rw [hf] at h; cases h
        | some fv =>
          rw [hf] at h
          have hfr := hev _ _ hf
          simp only [Option.bind_some] at h
          split at h
          case h_2 => cases h
          rename_i g first captured
          cases hX : E.X g with
          | none => rw [hX] at h; simp only at h; split at h <;> cases h
          | some k =>
            rw [hX] at h
            simp only at h
            generalize hy : evc f = y at hfr
            cases hfr with
            | func h1 h2 h3 h4 =>
              rename_i first' captured'
              have r1 : VlRel ρ first.toList first'.toList := VsRel.toList ⟨h1, h3⟩
              have r2 : VlRel ρ captured.toList captured'.toList := VsRel.toList ⟨h2, h4⟩
              have := extern_ok (P := E.P) (nm := nm) (map_prim h) ((r1.append har).append r2) hrel hrun
              have e : (first'.toList ++ (cargs.map evc).toList ++ captured'.toList).toArray = first' ++ cargs.map evc ++ captured' := by
                apply Array.ext'; simp
              rw [e] at this
              refine this.congr ?_
              rw [← hE.x g k hX]
              show (do let d ← resolve evc ⟨.value f, cargs, cts⟩ ty; invoke d.target d.args : Sem Next).run E.P w = _
              simp [resolve, hy, Deferred.ofValue, invoke]
  case defer c => exact (not_defer h (by simp)).elim
  all_goals cases h

theorem call_ok {E : Env} (hE : EnvOk E) {o : Oper} {ev : Ev} {evc : Operand → Value} {f : FuncId} {args : Array Value} (h : aop E ev o = some (.call f args)) (hev : EvRel ρ ev evc) :
    ∃ args', VsRel ρ args args' ∧ ∀ w : World, (execOp evc o).run E.P w = .ok (.enter f args') w := by
  obtain ⟨dst, op, ty, pos, after, guard⟩ := o
  unfold aop at h
  have nope : ∀ {x : Option Prim}, x.map AOp.prim = some (.call f args) → False := by
    intro x hx; cases x <;> simp at hx
  cases op <;> simp only [] at h
  case call c =>
    unfold aCall at h
    cases ha : evList ev c.args.toList with
    | none => rw [ha] at h; cases h
    | some cargs =>
      rw [ha] at h
      simp only [Option.bind_some] at h
      have har := call_args hev ha
      obtain ⟨callee, xs, cts⟩ := c
      simp only at h har
      cases callee with
      | builtin b => exact (nope h).elim
      | invoke r m => cases h
      | value fo =>
        simp only at h
        cases hf : ev fo with
        | none => rw [hf] at h; cases h
        | some fv =>
          rw [hf] at h
          have hfr := hev _ _ hf
          simp only [Option.bind_some] at h
          split at h
          case h_2 => cases h
          rename_i g first captured
          cases hX : E.X g with
          | some k => rw [hX] at h; exact (nope h).elim
          | none =>
            rw [hX] at h
            simp only at h
            split at h
            case isFalse => cases h
            rename_i hB
            cases h
            generalize hy : evc fo = y at hfr
            cases hfr with
            | func h1 h2 h3 h4 =>
              rename_i first' captured'
              have r1 : VlRel ρ first.toList first'.toList := VsRel.toList ⟨h1, h3⟩
              have r2 : VlRel ρ captured.toList captured'.toList := VsRel.toList ⟨h2, h4⟩
              refine ⟨first' ++ xs.map evc ++ captured', ?_, fun w => ?_⟩
              · have := ((r1.append har).append r2).toArray
                have e1 : (first.toList ++ cargs ++ captured.toList).toArray = first ++ cargs.toArray ++ captured := by apply Array.ext'; simp
                have e2 : (first'.toList ++ (xs.map evc).toList ++ captured'.toList).toArray = first' ++ xs.map evc ++ captured' := by apply Array.ext'; simp
                rw [e1, e2] at this
                exact this
              · rw [← hE.b _ hB]
                show (do let d ← resolve evc ⟨.value fo, xs, cts⟩ ty; invoke d.target d.args : Sem Next).run E.P w = _
                simp [resolve, hy, Deferred.ofValue, invoke]
  case pick c a b =>
    cases hc : ev c with
    | none => rw [hc] at h; cases h
    | some cv =>
      rw [hc] at h
      simp only [Option.bind_some] at h
      split at h
      · rename_i t
        cases t
        · cases hb : ev b <;> simp [hb] at h
        · cases hb : ev a <;> simp [hb] at h
      · cases h
  case unOp op t x =>
    cases hx : plainEv ev x with
    | none => rw [hx] at h; cases h
    | some v => rw [hx] at h; exact (nope h).elim
  case defer c => exact (not_defer h (by simp)).elim
  all_goals first | exact (nope h).elim | (obtain ⟨z, _, hz⟩ := Option.map_eq_some_iff.1 h; cases hz; done) | cases h

theorem defer_ok {E : Env} {o : Oper} {ev : Ev} {evc : Operand → Value} {f : FuncId} {cap args : Array Value} (h : aop E ev o = some (.defer f cap args)) (hev : EvRel ρ ev evc) :
    E.B f = true ∧ ∃ cap' args', VsRel ρ cap cap' ∧ VsRel ρ args args' ∧ ∀ w : World, (execOp evc o).run E.P w = .ok (.defer ⟨.fn (.func f) cap', args'⟩) w := by
  obtain ⟨dst, op, ty, pos, after, guard⟩ := o
  unfold aop at h
  have nope : ∀ {x : Option Prim}, x.map AOp.prim = some (.defer f cap args) → False := by
    intro x hx; cases x <;> simp at hx
  cases op <;> simp only [] at h
  case defer c =>
    unfold aDefer at h
    cases ha : evList ev c.args.toList with
    | none => rw [ha] at h; cases h
    | some cargs =>
      rw [ha] at h
      simp only [Option.bind_some] at h
      have har := call_args hev ha
      obtain ⟨callee, xs, cts⟩ := c
      simp only at h har
      cases callee with
      | builtin b => cases h
      | invoke r m => cases h
      | value fo =>
        simp only at h
        cases hf : ev fo with
        | none => rw [hf] at h; cases h
        | some fv =>
          rw [hf] at h
          have hfr := hev _ _ hf
          simp only [Option.bind_some] at h
          split at h
          case h_2 => cases h
          rename_i g first captured
          split at h
          case isFalse => cases h
          rename_i hB
          cases h
          generalize hy : evc fo = y at hfr
          cases hfr with
          | func h1 h2 h3 h4 =>
            rename_i first' captured'
            have r1 : VlRel ρ first.toList first'.toList := VsRel.toList ⟨h1, h3⟩
            refine ⟨hB, captured', first' ++ xs.map evc, ⟨h2, h4⟩, ?_, fun w => ?_⟩
            · have := (r1.append har).toArray
              have e1 : (first.toList ++ cargs).toArray = first ++ cargs.toArray := by apply Array.ext'; simp
              have e2 : (first'.toList ++ (xs.map evc).toList).toArray = first' ++ xs.map evc := by apply Array.ext'; simp
              rw [e1, e2] at this
              exact this
            · show (do pure (Next.defer (← resolve evc ⟨.value fo, xs, cts⟩ ty)) : Sem Next).run E.P w = _
              simp [resolve, hy, Deferred.ofValue]
  case pick c a b =>
    cases hc : ev c with
    | none => rw [hc] at h; cases h
    | some cv =>
      rw [hc] at h
      simp only [Option.bind_some] at h
      split at h
      · rename_i t
        cases t
        · cases hb : ev b <;> simp [hb] at h
        · cases hb : ev a <;> simp [hb] at h
      · cases h
  case unOp op t x =>
    cases hx : plainEv ev x with
    | none => rw [hx] at h; cases h
    | some v => rw [hx] at h; exact (nope h).elim
  case call c =>
    unfold aCall at h
    cases ha : evList ev c.args.toList with
    | none => rw [ha] at h; cases h
    | some cargs =>
      rw [ha] at h
      simp only [Option.bind_some] at h
      split at h
      · exact (nope h).elim
      · rename_i fo _
        cases hf : ev fo with
        | none => rw [hf] at h; cases h
        | some fv =>
          rw [hf] at h
          simp only [Option.bind_some] at h
          split at h
          · split at h
            · exact (nope h).elim
            · split at h <;> cases h
          · cases h
      · cases h
  all_goals first | exact (nope h).elim | (obtain ⟨z, _, hz⟩ := Option.map_eq_some_iff.1 h; cases hz; done) | cases h

end
end Go.Proofs.YtfchjhfccnodpaaGreat
end

section
namespace Go.Proofs.YtfchjhfccnodpaaGreat
set_option linter.unusedSimpArgs false
set_option linter.unusedVariables false

def DfRel (ρ : LMap) (d d' : Deferred) : Prop := ∃ f cap cap', d.target = .fn (.func f) cap ∧ d'.target = .fn (.func f) cap' ∧ VsRel ρ cap cap' ∧ VsRel ρ d.args d'.args

inductive DfsRel (ρ : LMap) : List Deferred → List Deferred → Prop where
  | nil : DfsRel ρ [] []
  | cons {d d' : Deferred} {l l' : List Deferred} : DfRel ρ d d' → DfsRel ρ l l' → DfsRel ρ (d :: l) (d' :: l')

theorem DfRel.mono {ρ ρ' : LMap} (hle : ρ.le ρ') {d d' : Deferred} (h : DfRel ρ d d') : DfRel ρ' d d' := by
  obtain ⟨f, c, c', h1, h2, h3, h4⟩ := h
  exact ⟨f, c, c', h1, h2, h3.mono hle, h4.mono hle⟩
theorem DfsRel.mono {ρ ρ' : LMap} (hle : ρ.le ρ') {d d' : List Deferred} (h : DfsRel ρ d d') : DfsRel ρ' d d' := by
  induction h with
  | nil => exact .nil
  | cons h _ ih => exact .cons (h.mono hle) ih

structure ARel (ρ : LMap) (a ac : Act) : Prop where
  tmps : VsRel ρ a.tmps ac.tmps
  defers : DfsRel ρ a.defers ac.defers

theorem ARel.mono {ρ ρ' : LMap} (hle : ρ.le ρ') {a ac : Act} (h : ARel ρ a ac) : ARel ρ' a ac := ⟨h.tmps.mono hle, h.defers.mono hle⟩

theorem ARel.put {ρ : LMap} {a ac : Act} (h : ARel ρ a ac) {v v' : Value} (hv : VRel ρ v v') (dst : Option Tmp) : ARel ρ (a.put dst v) (ac.put dst v') := by
  cases dst with
  | none => exact h
  | some d => exact ⟨set_rel h.tmps hv d, h.defers⟩

theorem getD_rel {ρ : LMap} {a a' : Array Value} (h : VsRel ρ a a') (t : Nat) : VRel ρ (a.getD t undef) (a'.getD t undef) := by
  cases ha : a[t]? with
  | none =>
    have := h.getNone ha
    rw [Array.getD_eq_getD_getElem?, Array.getD_eq_getD_getElem?, ha, this]
    exact VRel.undef_ ρ
  | some v =>
    obtain ⟨v', h1, h2⟩ := h.get ha
    rw [Array.getD_eq_getD_getElem?, Array.getD_eq_getD_getElem?, ha, h1]
    exact h2

theorem ARel.ev {ρ : LMap} {a ac : Act} (h : ARel ρ a ac) : EvRel ρ (aeval a) ac.eval := by
  intro x v hx
  cases x with
  | tmp t => simp only [aeval, Option.some.injEq] at hx; subst hx; exact getD_rel h.tmps t
  | const c =>
    simp only [aeval] at hx
    split at hx
    · rename_i hp; cases hx; exact plainV_rel ρ hp
    · cases hx
  | global g => cases hx
  | func f => simp only [aeval, Option.some.injEq] at hx; subst hx; exact .func rfl rfl (fun i v v' h => by simp at h) (fun i v v' h => by simp at h)

theorem yielded_rel {ρ : LMap} {a ac : Array Value} (h : VsRel ρ a ac) (ops : Array Oper) : yielded ops a = yielded ops ac := by
  funext j
  unfold yielded
  cases hd : (ops[j]?).bind (·.dst) with
  | none => rfl
  | some d =>
    simp only [Option.bind_some]
    cases ha : a[d]? with
    | none => rw [h.getNone ha]
    | some v =>
      obtain ⟨v', h1, h2⟩ := h.get ha
      rw [h1]
      cases h2 <;> rfl

def wrOk (p : Prim) (eff : Eff) : Bool :=
  match eff.wr with
  | some (l, _) => p.reads.contains l
  | none => true

theorem prim_step {E : Env} (hE : EnvOk E) {ρ : LMap} {σ : Heap} {w : World} {a ac : Act} {o : Oper} {ev : Ev} {p : Prim} {nm : Nat} {eff : Eff} (hrel : Rel ρ σ w) (ha : ARel ρ a ac) (hev : EvRel ρ ev ac.eval)
    (hop : aop E ev o = some (.prim p)) (hnm : ρ nm = none) (hlt : nm < σ.nxt) (hrun : p.run σ nm = some eff) :
    ∃ ρ' w' v', Rel ρ' (σ.app nm eff) w' ∧ Frm ρ σ w ρ' (σ.app nm eff) w' ∧ ARel ρ' (a.put o.dst eff.val) (ac.put o.dst v') ∧ (∀ l, l ≠ nm → ρ' l = ρ l) ∧
      ∀ K Q, K (ac.put o.dst v') w' → o.wp E.P ac w K Q := by
  obtain ⟨nx, v', ρ', w', h1, h2, h3, h4, h5, h6⟩ := prim_ok hE hop hev hrel hnm hlt hrun
  refine ⟨ρ', w', v', h3, h4, (ha.mono h4.le).put h5 _, h6, fun K Q hK => ?_⟩
  unfold Oper.wp
  rw [h1]
  cases nx <;> simp only [asVal, Option.some.injEq, reduceCtorEq] at h2
  · subst h2; exact hK
  · subst h2; exact hK

theorem LetsOut.mono' {Q Q' : Exit → Act → World → Prop} (hq : ∀ e a w, Q e a w → Q' e a w) (h : LetsOut Q) : LetsOut Q' := by
  obtain ⟨a, w, h⟩ := h
  exact ⟨a, w, hq _ _ _ h⟩

theorem upon_mono' {P : Program} {o : Oper} {a : Act} {K K' : Act → World → Prop} {Q Q' : Exit → Act → World → Prop} (hk : ∀ a w, K a w → K' a w) (hq : ∀ e a w, Q e a w → Q' e a w)
    {r : Result Next} (h : o.upon P a K Q r) : o.upon P a K' Q' r := by
  cases r with
  | ok n w' =>
    cases n <;> simp only [Oper.upon] at h ⊢ <;> first
      | exact hk _ _ h
      | exact Rows.mono h (fun _ _ he => hk _ _ he)
      | exact Calls.mono h (fun e w'' he => by cases e <;> first | exact hk _ _ he | exact hq _ _ _ he | exact LetsOut.mono' hq he)
  | halt x w' => cases x <;> simp only [Oper.upon] at h ⊢ <;> first | exact h | exact hq _ _ _ h

theorem wpOps_mono {P : Program} {ops : Array Oper} {Q Q' : Exit → Act → World → Prop} (hq : ∀ e a w, Q e a w → Q' e a w) : ∀ (L : List Nat) (a : Act) (w : World), wpOps P ops Q L a w → wpOps P ops Q' L a w
  | [], a, w, h => hq _ _ _ h
  | i :: L, a, w, h => by
    simp only [wpOps] at h ⊢
    split
    · rename_i hn; rw [hn] at h; exact wpOps_mono hq L a w h
    · rename_i o ho
      rw [ho] at h
      simp only at h
      split
      · rename_i hw
        rw [if_pos hw] at h
        rcases h with h | ⟨h1, h2⟩
        · exact .inl (upon_mono' (fun a w => wpOps_mono hq L a w) hq h)
        · exact .inr ⟨h1, LetsOut.mono' hq h2⟩
      · rename_i hw
        rw [if_neg hw] at h
        exact wpOps_mono hq L _ w h


def NdStep (P : Program) (nm : Nat) (o : Oper) (a : Act) (σ : Heap) (K : Act → Heap → Prop) : Prop :=
  ∀ (ρ : LMap) (w : World) (evc : Operand → Value), EvRel ρ (aeval a) evc → Rel ρ σ w → ρ nm = none → nm < σ.nxt →
    ∃ eff, Out P (execOp evc o) ρ σ w nm eff ∧ (∀ l, l ≠ nm → σ.get l = none → (σ.app nm eff).get l = none) ∧ K (a.put o.dst eff.val) (σ.app nm eff)

theorem NdStep.mono {P : Program} {nm : Nat} {o : Oper} {a : Act} {σ : Heap} {K K' : Act → Heap → Prop} (h : NdStep P nm o a σ K) (hk : ∀ a σ, K a σ → K' a σ) : NdStep P nm o a σ K' :=
  fun ρ w evc h1 h2 h3 h4 => let ⟨eff, k1, k2, k3⟩ := h ρ w evc h1 h2 h3 h4; ⟨eff, k1, k2, hk _ _ k3⟩

def runL (E : Env) (ops : Array Oper) (base : Nat) : List Nat → Act → Heap → (Act → Heap → Prop) → Prop
  | [], a, σ, K => K a σ
  | i :: L, a, σ, K =>
    match ops[i]? with
    | none => runL E ops base L a σ K
    | some o =>
      if Region.wanted o (yielded ops a.tmps) then
        match aop E (aeval a) o with
        | some (.prim p) => match p.run σ (base + i) with
          | some eff => wrOk p eff = true ∧ runL E ops base L (a.put o.dst eff.val) (σ.app (base + i) eff) K
          | none => False
        | some (.call f args) => ACall E.P f args σ fun v σ' => runL E ops base L (a.put o.dst v) σ' K
        | some (.defer f cap args) => runL E ops base L (Act.put { a with defers := ⟨.fn (.func f) cap, args⟩ :: a.defers } o.dst undef) σ K
        | none => NdStep E.P (base + i) o a σ fun a σ => runL E ops base L a σ K
      else runL E ops base L (a.put o.dst undef) σ K

def Fine (ρ : LMap) (σ : Heap) (w : World) (K : Act → Heap → Prop) (ac' : Act) (w' : World) : Prop :=
  ∃ ρ' a' σ', Rel ρ' σ' w' ∧ Frm ρ σ w ρ' σ' w' ∧ Fin ρ σ ρ' σ' ∧ ARel ρ' a' ac' ∧ K a' σ'

structure FinB (base : Nat) (ρ : LMap) (σ : Heap) (ρ' : LMap) (σ' : Heap) : Prop where
  old : ∀ l, l < base → ρ' l = ρ l
  gone : ∀ l, l < base → σ.get l = none → σ'.get l = none

theorem FinB.refl (base : Nat) (ρ : LMap) (σ : Heap) : FinB base ρ σ ρ σ := ⟨fun _ _ => rfl, fun _ _ h => h⟩
theorem FinB.trans {base : Nat} {ρ ρ₁ ρ₂ : LMap} {σ σ₁ σ₂ : Heap} (h : FinB base ρ σ ρ₁ σ₁) (k : FinB base ρ₁ σ₁ ρ₂ σ₂) : FinB base ρ σ ρ₂ σ₂ :=
  ⟨fun l hl => (k.old l hl).trans (h.old l hl), fun l hl hg => k.gone l hl (h.gone l hl hg)⟩
theorem Fin.toB {base : Nat} {ρ ρ' : LMap} {σ σ' : Heap} (h : Fin ρ σ ρ' σ') (hb : base ≤ σ.nxt) : FinB base ρ σ ρ' σ' :=
  ⟨fun l hl => h.old l (by omega), fun l hl => h.gone l (by omega)⟩

def FineB (base : Nat) (ρ : LMap) (σ : Heap) (w : World) (K : Act → Heap → Prop) (ac' : Act) (w' : World) : Prop :=
  ∃ ρ' a' σ', Rel ρ' σ' w' ∧ Frm ρ σ w ρ' σ' w' ∧ FinB base ρ σ ρ' σ' ∧ ARel ρ' a' ac' ∧ K a' σ'

theorem app_gone {p : Prim} {eff : Eff} {σ : Heap} {nm l : Nat} (hrun : p.run σ nm = some eff) (hw : wrOk p eff = true) (hl : l ≠ nm) (hg : σ.get l = none) : (σ.app nm eff).get l = none := by
  have h1 : (σ.wr eff.wr).get l = none := by
    unfold wrOk at hw
    cases he : eff.wr with
    | none => exact hg
    | some q =>
      obtain ⟨x, o⟩ := q
      rw [he] at hw
      simp only at hw
      have hx : σ.get x ≠ none := by
        intro hn
        have key : ∀ rs : List Nat, x ∈ rs → getAll σ.get rs = none := by
          intro rs
          induction rs with
          | nil => intro h; cases h
          | cons y rs ih =>
            intro h
            simp only [getAll]
            rcases List.mem_cons.1 h with rfl | h
            · rw [hn]; rfl
            · rw [ih h]; cases σ.get y <;> rfl
        unfold Prim.run at hrun
        rw [key _ (by simpa using hw)] at hrun
        cases hrun
      have : l ≠ x := by rintro rfl; exact hx hg
      simp only [Heap.wr]
      rw [Heap.upd_ne _ _ this]; exact hg
  unfold Heap.app
  cases he : eff.new with
  | none => exact h1
  | some o => simp only [Heap.nw]; rw [Heap.upd_ne _ _ hl]; exact h1

theorem app_nxt (σ : Heap) (nm : Nat) (eff : Eff) : (σ.app nm eff).nxt = σ.nxt := by
  unfold Heap.app Heap.nw Heap.wr
  split <;> split <;> rfl

theorem runL_sound {E : Env} (hE : EnvOk E) {ops : Array Oper} {base : Nat} {K : Act → Heap → Prop} : ∀ (L : List Nat) (a : Act) (σ : Heap) (ρ : LMap) (w : World) (ac : Act),
    runL E ops base L a σ K → Rel ρ σ w → ARel ρ a ac → L.Nodup → (∀ i ∈ L, i < ops.size → ρ (base + i) = none) → base + ops.size ≤ σ.nxt →
    wpOps E.P ops (fun e ac' w' => e = .normal ∧ FineB base ρ σ w K ac' w') L ac w
  | [], a, σ, ρ, w, ac, h, hrel, ha, _, _, _ => ⟨rfl, ρ, a, σ, hrel, Frm.refl _ _ _, FinB.refl _ _ _, ha, h⟩
  | i :: L, a, σ, ρ, w, ac, h, hrel, ha, hnd, hfr, hn => by
    have hnd' := (List.nodup_cons.1 hnd)
    rw [wpOps_cons]
    simp only [wpOp]
    simp only [runL] at h
    have go : ∀ {ρ₁ : LMap} {σ₁ : Heap} {w₁ : World} {a₁ ac₁ : Act}, runL E ops base L a₁ σ₁ K → Rel ρ₁ σ₁ w₁ → Frm ρ σ w ρ₁ σ₁ w₁ → FinB base ρ σ ρ₁ σ₁ → ARel ρ₁ a₁ ac₁ →
        (∀ j ∈ L, j < ops.size → ρ₁ (base + j) = none) → wpOps E.P ops (fun e ac' w' => e = .normal ∧ FineB base ρ σ w K ac' w') L ac₁ w₁ := by
      intro ρ₁ σ₁ w₁ a₁ ac₁ h1 h2 h3 h4 h5 h6
      have := runL_sound hE L a₁ σ₁ ρ₁ w₁ ac₁ h1 h2 h5 hnd'.2 h6 (Nat.le_trans hn h3.nxt)
      refine wpOps_mono (fun e ac' w' he => ?_) L ac₁ w₁ this
      obtain ⟨he, ρ', a', σ', k1, k2, k3, k4, k5⟩ := he
      exact ⟨he, ρ', a', σ', k1, h3.trans k2, h4.trans k3, k4, k5⟩
    cases ho : ops[i]? with
    | none =>
      rw [ho] at h
      exact go h hrel (Frm.refl _ _ _) (FinB.refl _ _ _) ha (fun j hj => hfr j (List.mem_cons_of_mem _ hj))
    | some o =>
      have hi : i < ops.size := (Array.getElem?_eq_some_iff.1 ho).1
      rw [ho] at h
      simp only at h ⊢
      rw [← yielded_rel ha.tmps ops]
      split
      · rename_i hw
        rw [if_pos hw] at h
        left
        split at h
        · rename_i p hop
          split at h
          · rename_i eff hrun
            obtain ⟨hwr, h⟩ := h
            have hnm := hfr i (List.mem_cons_self ..) hi
            obtain ⟨ρ', w', v', k1, k2, k3, k4, k5⟩ := prim_step hE hrel ha ha.ev hop hnm (by omega) hrun
            exact k5 _ _ (go h k1 k2 ⟨fun l hl => k4 l (by omega), fun l hl hg => app_gone hrun hwr (by omega) hg⟩ k3
              (fun j hj hjs => by rw [k4 _ (by rintro e; exact hnd'.1 (by have : j = i := by omega
                                                                          rw [← this]; exact hj))]; exact hfr j (List.mem_cons_of_mem _ hj) hjs))
          · exact h.elim
        · rename_i f args hop
          obtain ⟨args', k1, k2⟩ := call_ok hE hop ha.ev
          unfold Oper.wp
          rw [k2 w]
          simp only [Oper.upon]
          refine (h ρ w args' hrel k1).mono ?_
          rintro e w' ⟨v, v', ρ', σ', rfl, b1, b2, b3, b4, b5⟩
          exact go b5 b1 b2 (b3.toB (by omega)) ((ha.mono b2.le).put b4 _) (fun j hj hjs => by rw [b3.old _ (by omega)]; exact hfr j (List.mem_cons_of_mem _ hj) hjs)
        · rename_i f cap args hop
          obtain ⟨_, cap', args', k1, k2, k3⟩ := defer_ok hop ha.ev
          unfold Oper.wp
          rw [k3 w]
          simp only [Oper.upon]
          exact go h hrel (Frm.refl _ _ _) (FinB.refl _ _ _) (ARel.put (a := { a with defers := _ :: a.defers }) (ac := { ac with defers := _ :: ac.defers }) ⟨ha.tmps, .cons ⟨f, cap, cap', rfl, rfl, k1, k2⟩ ha.defers⟩ (VRel.undef_ ρ) _)
            (fun j hj => hfr j (List.mem_cons_of_mem _ hj))
        · have hnm := hfr i (List.mem_cons_self ..) hi
          obtain ⟨eff, ⟨nx, v', ρ', w', q1, q2, q3, q4, q5, q6⟩, hg, h⟩ := h ρ w ac.eval ha.ev hrel hnm (by omega)
          have hstep : ∀ K Q, K (ac.put o.dst v') w' → o.wp E.P ac w K Q := fun K Q hK => by
            unfold Oper.wp
            rw [q1]
            cases nx <;> simp only [asVal, Option.some.injEq, reduceCtorEq] at q2
            · subst q2; exact hK
            · subst q2; exact hK
          exact hstep _ _ (go h q3 q4 ⟨fun l hl => q6 l (by omega), fun l hl hn => hg l (by omega) hn⟩ ((ha.mono q4.le).put q5 _)
            (fun j hj hjs => by rw [q6 _ (by rintro e; exact hnd'.1 (by have : j = i := by omega
                                                                        rw [← this]; exact hj))]; exact hfr j (List.mem_cons_of_mem _ hj) hjs))
      · rename_i hw
        rw [if_neg hw] at h
        exact go h hrel (Frm.refl _ _ _) (FinB.refl _ _ _) (ha.put (VRel.undef_ ρ) _) (fun j hj => hfr j (List.mem_cons_of_mem _ hj))

end Go.Proofs.YtfchjhfccnodpaaGreat
end
