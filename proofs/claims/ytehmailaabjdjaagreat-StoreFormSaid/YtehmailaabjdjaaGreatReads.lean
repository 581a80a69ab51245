/-
  WHAT COMES IN, of whatever type of truths, numbers, texts, slices, structs: names that are read alone. No condition.
-/
import Derived.Test.YtehmailaabjdjaaGreatLift
import Derived.Test.YtehmailaabjdjaaGreatBulk
namespace Go.Proofs.YtehmailaabjdjaaGreat
open Go.ChangeShapes Go.WideShapes Go.ChangeAt Go.RowKit
set_option linter.unusedVariables false
set_option linter.unusedSimpArgs false
set_option maxRecDepth 100000

def fldsB (P : Program) : List Field → Nat → Nat → Bool
 | [], o, z => o == z
 | f :: r, o, z => f.offset == o && fldsB P r (o + P.cellsOf f.type) z

def rdT (P : Program) : Nat → TypeId → Bool
 | 0, _ => false
 | k + 1, t => match P.underlying t with
  | some .bool => true
  | some (.int _) => true
  | some .string => true
  | some (.slice e) => rdT P k e && Nat.blt 0 (P.cellsOf e)
  | some (.struct fs) => fldsB P fs.toList 0 (P.cellsOf t) && fs.toList.all fun f => rdT P k f.type
  | _ => false

def Sh (P : Program) (M : Nat) (g : Gm) : Nat → TypeId → List Value → Prop
 | 0, _, _ => False
 | k + 1, t, us => match P.underlying t with
  | some .bool => ∃ b, us = [.bool b]
  | some (.int i) => ∃ n, us = [.int i n] ∧ (Lit.int i n).wf = true
  | some .string => ∃ s : ByteArray, us = [.string s] ∧ s.size ≤ M
  | some (.slice e) => ∃ v n cs, us = [v] ∧ SlC g (P.cellsOf e) v n cs ∧ n ≤ M ∧ ∀ i, i < n → Sh P M g k e ((cs.drop (i * P.cellsOf e)).take (P.cellsOf e))
  | some (.struct fs) => us.length = P.cellsOf t ∧ ∀ f ∈ fs.toList, Sh P M g k f.type ((us.drop f.offset).take (P.cellsOf f.type))
  | _ => False

theorem SlC.up {g g' : Gm} {k n : Nat} {v : Value} {cs : List Value} (h : SlC g k v n cs) (hs : ∀ l o, g l = some o → g' l = some o) : SlC g' k v n cs := by
 obtain ⟨h1, h2 | h2 | ⟨l, o, c, h2, h3, h4 | ⟨cl, ro, h4, h5, h6⟩⟩⟩ := h
 ·exact ⟨h1, .inl h2⟩
 ·exact ⟨h1, .inr (.inl h2)⟩
 ·exact ⟨h1, .inr (.inr ⟨l, o, c, h2, h3, .inl h4⟩)⟩
 ·exact ⟨h1, .inr (.inr ⟨l, o, c, h2, h3, .inr ⟨cl, ro, hs _ _ h4, h5, h6⟩⟩)⟩

theorem Sh.up {P : Program} {M : Nat} {g g' : Gm} (hs : ∀ l o, g l = some o → g' l = some o) : ∀ {k : Nat} {t : TypeId} {us : List Value}, Sh P M g k t us → Sh P M g' k t us
 | 0, t, us, h => h
 | k + 1, t, us, h => by
  unfold Sh at h ⊢
  generalize P.underlying t = d at h ⊢
  rcases d with _ | d
  ·exact h
  cases d with
  | slice e =>
   obtain ⟨v, n, cs, h1, h2, h3, h4⟩ := h
   exact ⟨v, n, cs, h1, h2.up hs, h3, fun i hi => (h4 i hi).up hs⟩
  | struct fs => exact ⟨h.1, fun f hf => (h.2 f hf).up hs⟩
  | _ => exact h

section
variable {H : Type} {enc : TypeId × Value → H} {P : Program} {W : World} {M : Nat}

def Bnd (M : Nat) (d : DataW H) : Prop := maxLen ≤ M ∨ Rows.uptoBulk d ≤ M

def RdOut (P : Program) (W : World) (M : Nat) (ρ : LMap) (σ : Heap) (k : Nat) (t : TypeId) (cs : List Value) : Prop :=
 ∃ (ρ' : LMap) (σ' : Heap) (us : List Value), Rel ρ' σ' W ∧ Grow ρ σ ρ' σ' ∧ Ro σ' ∧ VlRel ρ' us cs ∧ Sh P M σ'.get k t us

theorem reads_flds {k : Nat} {cs : List Value} (hf : ∀ f : Field, rdT P k f.type = true → ∀ ρ σ, Rel ρ σ W → Ro σ → (∃ n x, DataW.trod enc P W 0 (fun _ => true) true n f.type ((cs.drop f.offset).take (P.cellsOf f.type)) = some x ∧ Bnd M x.1) → RdOut P W M ρ σ k f.type ((cs.drop f.offset).take (P.cellsOf f.type))) :
  ∀ (fs : List Field) (o : Nat), fldsB P fs o cs.length = true → (∀ f ∈ fs, rdT P k f.type = true ∧ ∃ n x, DataW.trod enc P W 0 (fun _ => true) true n f.type ((cs.drop f.offset).take (P.cellsOf f.type)) = some x ∧ Bnd M x.1) →
   ∀ ρ σ, Rel ρ σ W → Ro σ → ∃ (ρ' : LMap) (σ' : Heap) (us : List Value), Rel ρ' σ' W ∧ Grow ρ σ ρ' σ' ∧ Ro σ' ∧ VlRel ρ' us (cs.drop o) ∧ ∀ f ∈ fs, o ≤ f.offset ∧ Sh P M σ'.get k f.type ((us.drop (f.offset - o)).take (P.cellsOf f.type))
 | [], o, ho, _, ρ, σ, h1, h2 => by
  simp only [fldsB, beq_iff_eq] at ho
  subst ho
  exact ⟨ρ, σ, [], h1, Grow.refl _ _, h2, by rw [List.drop_length]; exact .nil _, fun f h => by cases h⟩
 | f :: r, o, ho, ha, ρ, σ, h1, h2 => by
  simp only [fldsB, Bool.and_eq_true, beq_iff_eq] at ho
  obtain ⟨rfl, ho⟩ := ho
  obtain ⟨k1, k2⟩ := ha f (List.mem_cons_self ..)
  obtain ⟨ρ1, σ1, us1, a1, a2, a3, a4, a5⟩ := hf f k1 ρ σ h1 h2 k2
  obtain ⟨ρ2, σ2, us2, b1, b2, b3, b4, b5⟩ := reads_flds hf r (f.offset + P.cellsOf f.type) ho (fun x hx => ha x (List.mem_cons_of_mem _ hx)) ρ1 σ1 a1 a3
  have hle : f.offset + P.cellsOf f.type ≤ cs.length := by
   have : ∀ (fs : List Field) (o z : Nat), fldsB P fs o z = true → o ≤ z := by
    intro fs
    induction fs with
    | nil => intro o z h; simp only [fldsB, beq_iff_eq] at h; omega
    | cons x r ih => intro o z h; simp only [fldsB, Bool.and_eq_true, beq_iff_eq] at h; have := ih _ _ h.2; omega
   exact this _ _ _ ho
  have hl1 : us1.length = P.cellsOf f.type := by rw [a4.1, List.length_take, List.length_drop]; omega
  refine ⟨ρ2, σ2, us1 ++ us2, b1, a2.trans b2, b3, ?_, ?_⟩
  ·have e : cs.drop f.offset = (cs.drop f.offset).take (P.cellsOf f.type) ++ cs.drop (f.offset + P.cellsOf f.type) := by
    rw [← List.drop_drop, List.take_append_drop]
   rw [e]
   exact (a4.mono b2.le).append b4
  ·intro x hx
   rcases List.mem_cons.1 hx with rfl | hx
   ·refine ⟨Nat.le_refl _, ?_⟩
    rw [Nat.sub_self, List.drop_zero, List.take_left' hl1]
    exact a5.up b2.sub
   ·obtain ⟨c1, c2⟩ := b5 x hx
    refine ⟨by omega, ?_⟩
    have : (us1 ++ us2).drop (x.offset - f.offset) = us2.drop (x.offset - (f.offset + P.cellsOf f.type)) := by
     rw [List.drop_append, List.drop_eq_nil_of_le (by omega), List.nil_append]
     congr 1; omega
    rw [this]
    exact c2

theorem reads_elems {k z : Nat} {e : TypeId} {b off : Nat} {C : Array Value} {T : TypeId} {fz : Nat × Nat} (hz : 0 < z) (hh : W.heap[b]? = some (.cells C T fz))
  (he : ∀ cs n x, DataW.trod enc P W 0 (fun _ => true) true n e cs = some x → Bnd M x.1 → ∀ ρ σ, Rel ρ σ W → Ro σ → RdOut P W M ρ σ k e cs) :
  ∀ (m : Nat), (∀ i, i < m → ∃ cs n x, cs.length = z ∧ (DataW.trod enc P W 0 (fun _ => true) true n e cs = some x ∧ Bnd M x.1) ∧ ∀ j, j < z → C[off + i * z + j]? = cs[j]?) →
   ∀ ρ σ, Rel ρ σ W → Ro σ → ∃ (ρ' : LMap) (σ' : Heap) (us : List Value), Rel ρ' σ' W ∧ Grow ρ σ ρ' σ' ∧ Ro σ' ∧ us.length = m * z ∧ (∀ i v, us[i]? = some v → ∃ v', C[off + i]? = some v' ∧ VRel ρ' v v') ∧
    ∀ i, i < m → Sh P M σ'.get k e ((us.drop (i * z)).take z)
 | 0, _, ρ, σ, h1, h2 => ⟨ρ, σ, [], h1, Grow.refl _ _, h2, by simp, fun i v h => by simp at h, fun i h => by omega⟩
 | m + 1, hm, ρ, σ, h1, h2 => by
  obtain ⟨ρ1, σ1, us1, a1, a2, a3, a4, a5, a6⟩ := reads_elems hz hh he m (fun i hi => hm i (by omega)) ρ σ h1 h2
  obtain ⟨cs, n, x, c1, c2, c3⟩ := hm m (by omega)
  obtain ⟨ρ2, σ2, us2, b1, b2, b3, b4, b5⟩ := he cs n x c2.1 c2.2 ρ1 σ1 a1 a3
  have hl2 : us2.length = z := by rw [b4.1, c1]
  refine ⟨ρ2, σ2, us1 ++ us2, b1, a2.trans b2, b3, by rw [List.length_append, a4, hl2, Nat.succ_mul], ?_, ?_⟩
  ·intro i v hv
   by_cases hi : i < us1.length
   ·rw [List.getElem?_append_left hi] at hv
    obtain ⟨v', d1, d2⟩ := a5 i v hv
    exact ⟨v', d1, d2.mono b2.le⟩
   ·rw [List.getElem?_append_right (by omega)] at hv
    obtain ⟨v', d1, d2⟩ := b4.get hv
    have hlt : i - us1.length < z := by
     rcases Nat.lt_or_ge (i - us1.length) us2.length with h | h
     ·omega
     ·rw [List.getElem?_eq_none h] at hv; cases hv
    refine ⟨v', ?_, d2⟩
    rw [← c3 _ hlt] at d1
    rw [show off + i = off + m * z + (i - us1.length) by omega]
    exact d1
  ·intro i hi
   by_cases him : i < m
   ·have h3 := (a6 i him).up b2.sub
    have hb : i * z + z ≤ m * z := by rw [← Nat.succ_mul]; exact Nat.mul_le_mul_right _ him
    have : ((us1 ++ us2).drop (i * z)).take z = (us1.drop (i * z)).take z := by
     rw [List.drop_append_of_le_length (by omega), List.take_append_of_le_length (by rw [List.length_drop]; omega)]
    rw [this]; exact h3
   ·have : i = m := by omega
    subst this
    rw [← a4, List.drop_left, ← hl2, List.take_length]
    exact b5

theorem cells?_get {w : World} {a : Addr} {n : Nat} {cs : List Value} (h : w.cells? 0 a n = some cs) : cs.length = n ∧ ∀ j, j < n → w.cell? (a.add j) = cs[j]? := by
 unfold World.cells? at h
 rw [if_pos (Nat.zero_le _)] at h
 exact ⟨by simpa using mapM_some_length h, fun j hj => mapM_some_get h j j (by simp [hj])⟩

theorem add_off (a : Addr) (h : a.spot = none) (n : Nat) : a.add n = ⟨a.block, a.off + n, none⟩ := by
 unfold Addr.add
 obtain ⟨b, o, s⟩ := a
 simp only at h; subst h
 split
 ·rename_i h; subst h; rfl
 ·rfl

theorem reads_of : ∀ (k : Nat) (t : TypeId), rdT P k t = true → ∀ cs n x, DataW.trod enc P W 0 (fun _ => true) true n t cs = some x → Bnd M x.1 → ∀ ρ σ, Rel ρ σ W → Ro σ → RdOut P W M ρ σ k t cs
 | 0, t, h => by simp [rdT] at h
 | k + 1, t, h => by
  intro cs n x hx hB ρ σ hrel hro
  unfold rdT at h
  split at h
  ·rename_i ht
   obtain ⟨b, rfl, _⟩ := DataW.trod_bool ht hx
   exact ⟨ρ, σ, [.bool b], hrel, Grow.refl _ _, hro, .cons (.bool b) (.nil _), by unfold Sh; simp only [ht]; exact ⟨b, rfl⟩⟩
  ·rename_i i ht
   obtain ⟨m, rfl, _, hw⟩ := DataW.trod_int ht hx
   exact ⟨ρ, σ, [.int i m], hrel, Grow.refl _ _, hro, .cons (.int i m) (.nil _), by unfold Sh; simp only [ht]; exact ⟨m, rfl, hw⟩⟩
  ·rename_i ht
   obtain ⟨s, rfl, rfl, hw⟩ := DataW.trod_string ht hx
   have hw : s.size ≤ M := by
    rcases hB with hB | hB
    ·omega
    ·simp only [Rows.uptoBulk, Array.length_toList] at hB
     have : s.data.size = s.size := rfl
     omega
   exact ⟨ρ, σ, [.string s], hrel, Grow.refl _ _, hro, .cons (.string s) (.nil _), by unfold Sh; simp only [ht]; exact ⟨s, rfl, hw⟩⟩
  ·rename_i e ht
   simp only [Bool.and_eq_true, Nat.blt_eq] at h
   obtain ⟨he, hz⟩ := h
   rcases DataW.trod_slice ht hx with ⟨rfl, _⟩ | ⟨a, len, cap, elems, rest, m, rfl, rfl, rfl, _, hlc, hcm, hel, h1, h2, _⟩
   ·exact ⟨ρ, σ, [.slice none 0 0], hrel, Grow.refl _ _, hro, .cons (.sliceNil 0 0) (.nil _), by unfold Sh; simp only [ht]; exact ⟨_, 0, [], rfl, SlC.nil _ _, Nat.zero_le _, fun i h => by omega⟩⟩
   ·obtain ⟨hr1, hr2⟩ := h2 rfl
    have hlM : len ≤ M := by
     rcases hB with hB | hB
     ·omega
     ·have := bulks.slice_le (elems.map (·.1)) (rest.map (·.1))
      simp only [List.length_map] at this
      simp only at hB
      omega
    have hbE : ∀ y ∈ elems, Bnd M y.1 := fun y hy => by
     refine hB.imp id fun hB => ?_
     have h1 := bulks.part_le (List.mem_map_of_mem (f := (·.1)) hy)
     have h2 := bulks.slice_elems (elems.map (·.1)) (rest.map (·.1))
     simp only at hB
     omega
    have hall : ∀ i, i < cap → ∃ cs x, W.cells? 0 (a.add (i * P.cellsOf e)) (P.cellsOf e) = some cs ∧ DataW.trod enc P W 0 (fun _ => true) true m e cs = some x ∧ (i < len → Bnd M x.1) := by
     intro i hi
     by_cases hil : i < len
     ·have q := h1 i hil
      rw [List.getElem?_eq_getElem (by omega)] at q
      obtain ⟨cs, q1, q2⟩ := Option.bind_eq_some_iff.1 q
      exact ⟨cs, _, q1, q2, fun _ => hbE _ (List.getElem_mem _)⟩
     ·have q := hr2 (i - len) (by omega)
      rw [List.getElem?_eq_getElem (by omega), show len + (i - len) = i by omega] at q
      obtain ⟨cs, q1, q2⟩ := Option.bind_eq_some_iff.1 q
      exact ⟨cs, _, q1, q2, fun h => absurd h hil⟩
    by_cases hc0 : cap = 0
    ·subst hc0
     have : len = 0 := by omega
     subst this
     exact ⟨ρ, σ, [.slice (some ⟨0, 0, some 0⟩) 0 0], hrel, Grow.refl _ _, hro, .cons .sliceE (.nil _), by unfold Sh; simp only [ht]; exact ⟨_, 0, [], rfl, ⟨by simp, .inr (.inl ⟨rfl, rfl⟩)⟩, Nat.zero_le _, fun i h => by omega⟩⟩
    ·obtain ⟨cs0, x0, q1, _⟩ := hall 0 (by omega)
     obtain ⟨q2, q3⟩ := cells?_get q1
     have q4 := q3 0 hz
     rw [List.getElem?_eq_getElem (by omega)] at q4
     have q5 : a.add (0 * P.cellsOf e) = a := by rw [Nat.zero_mul]; rfl
     have q6 : a.add 0 = a := rfl
     rw [q5, q6] at q4
     obtain ⟨b, off, spot⟩ := a
     obtain ⟨C, T, fz, hh, hsp⟩ : ∃ C T fz, W.heap[b]? = some (.cells C T fz) ∧ spot = none := by
      simp only [World.cell?] at q4
      split at q4
      ·rename_i C T fz heq
       refine ⟨C, T, fz, heq, ?_⟩
       cases spot with
       | none => rfl
       | some s => simp at q4
      ·cases q4
     subst hsp
     obtain ⟨ρ1, σ1, us, a1, a2, a3, a4, a5, a6⟩ := reads_elems (enc := enc) (P := P) (W := W) (k := k) (off := off) hz hh (M := M) (fun cs n x hx hb => reads_of k e he cs n x hx hb) len (fun i hi => by
      obtain ⟨cs, x, p1, p2, p5⟩ := hall i (by omega)
      obtain ⟨p3, p4⟩ := cells?_get p1
      refine ⟨cs, m, x, p3, ⟨p2, p5 hi⟩, fun j hj => ?_⟩
      have := p4 j hj
      rw [add_off (⟨b, off, none⟩ : Addr) rfl, add_off (⟨b, off + i * P.cellsOf e, none⟩ : Addr) rfl] at this
      rw [← this]
      simp [World.cell?, hh]) ρ σ hrel hro
     have hblk : b < W.heap.size := by
      rcases Nat.lt_or_ge b W.heap.size with h | h
      ·exact h
      ·rw [Array.getElem?_eq_none h] at hh; cases hh
     have hn : (ρ1.set σ1.nxt ⟨b, off, 0, P.cellsOf e, len * P.cellsOf e⟩) σ1.nxt = some ⟨b, off, 0, P.cellsOf e, len * P.cellsOf e⟩ := LMap.set_same _ _ _
     have hno : ρ1 σ1.nxt = none := by
      cases hq : ρ1 σ1.nxt with
      | none => rfl
      | some q => exact absurd (a1.bnd _ _ hq).1 (Nat.lt_irrefl _)
     obtain ⟨r1, r2, r3⟩ := grow_one a1 a3 ⟨b, off, 0, P.cellsOf e, len * P.cellsOf e⟩ hblk (some (.cells us (P.cellsOf e) true)) (fun x hx => by
      cases hx
      refine ⟨rfl, a4.symm, ⟨rfl, fun h => by have h : P.cellsOf e = 0 := h; omega⟩, C, T, fz, hh, fun i v hi => ?_, fun h => by cases h⟩
      obtain ⟨v', d1, d2⟩ := a5 i v hi
      exact ⟨v', d1, d2.mono (LMap.le_set _ hno)⟩)
     refine ⟨_, _, [.slice (some ⟨σ1.nxt, 0, none⟩) len cap], r1, a2.trans r2, r3, .cons ?_ (.nil _), ?_⟩
     ·have := VRel.slice (ρ := ρ1.set σ1.nxt ⟨b, off, 0, P.cellsOf e, len * P.cellsOf e⟩) (l := σ1.nxt) (o := 0) (n := len) (c := cap) (c' := cap) hn (.inl rfl)
      simpa using this
     ·unfold Sh
      simp only [ht]
      refine ⟨_, len, us, rfl, ⟨a4, .inr (.inr ⟨σ1.nxt, 0, cap, rfl, hlc, .inr ⟨us, true, if_pos rfl, by omega, ?_⟩⟩)⟩, hlM, fun i hi => (a6 i hi).up r2.sub⟩
      rw [List.drop_zero, ← a4, List.take_length]
  ·rename_i fs ht
   simp only [Bool.and_eq_true, List.all_eq_true] at h
   obtain ⟨hfl, hfs⟩ := h
   obtain ⟨xs, m, rfl, rfl, hlen, hxs, hget⟩ := DataW.trod_struct ht hx
   rw [← hlen] at hfl
   obtain ⟨ρ1, σ1, us, a1, a2, a3, a4, a5⟩ := reads_flds (enc := enc) (P := P) (W := W) (k := k) (cs := cs) (M := M) (fun f hf ρ σ h1 h2 ⟨n, x, hx, hb⟩ => reads_of k f.type hf _ n x hx hb ρ σ h1 h2) fs.toList 0 hfl (fun f hf => by
    obtain ⟨i, hi⟩ := List.getElem?_of_mem hf
    refine ⟨hfs f hf, m, ?_⟩
    have q := hget i f (by simpa using hi)
    have hlt : i < xs.length := by
     rcases Nat.lt_or_ge i fs.toList.length with h | h
     ·simpa [hxs] using h
     ·rw [List.getElem?_eq_none h] at hi; cases hi
    rw [List.getElem?_eq_getElem hlt] at q
    refine ⟨_, q, hB.imp id fun hB => ?_⟩
    have h1 := bulks.part_le (List.mem_map_of_mem (f := (·.1)) (List.getElem_mem hlt))
    simp only [Rows.uptoBulk] at hB
    omega) ρ σ hrel hro
   rw [List.drop_zero] at a4
   refine ⟨ρ1, σ1, us, a1, a2, a3, a4, ?_⟩
   unfold Sh
   simp only [ht]
   exact ⟨a4.1.trans hlen, fun f hf => by have := (a5 f hf).2; rwa [Nat.sub_zero] at this⟩
  ·cases h

theorem reads_slice {k : Nat} {t e : TypeId} {v : Value} {d : DataW H} {ps : List MemPlace} (ht : P.underlying t = some (.slice e)) (hr : rdT P k t = true) (hv : Value.okWide P W .any 0 t v) (h : DataW.Trod enc P W 0 (fun _ => true) true t v d ps) (hB : Bnd M d)
  {ρ : LMap} {σ : Heap} (hrel : Rel ρ σ W) (hro : Ro σ) : ∃ ρ' σ' u, Rel ρ' σ' W ∧ Grow ρ σ ρ' σ' ∧ Ro σ' ∧ VRel ρ' u v ∧ Sh P M σ'.get k t [u] := by
 obtain ⟨a, len, cap, rfl⟩ := okWide_slice ht hv
 obtain ⟨fuel, hf⟩ := h
 obtain ⟨ρ', σ', us, h1, h2, h3, h4, h5⟩ := reads_of (M := M) k t hr _ fuel _ hf hB ρ σ hrel hro
 have h4 : VlRel ρ' us [.slice a len cap] := h4
 obtain ⟨u, r, rfl⟩ : ∃ u r, us = u :: r := by
  cases us with
  | nil => have := h4.1; simp at this
  | cons u r => exact ⟨u, r, rfl⟩
 obtain ⟨v', a', e', k1, k2⟩ := h4.inv_cons
 simp only [List.cons.injEq] at e'
 obtain ⟨rfl, rfl⟩ := e'
 have : r = [] := List.eq_nil_of_length_eq_zero (by have := k2.1; simpa using this)
 subst this
 exact ⟨ρ', σ', u, h1, h2, h3, k1, h5⟩
end

theorem rows_of {α : Type} {z : Nat} {R : List Value → α → Prop} : ∀ {n : Nat} {cs : List Value}, cs.length = n * z → (∀ i, i < n → ∃ x, R ((cs.drop (i * z)).take z) x) → ∃ xs : List α, xs.length = n ∧ Rows z R cs xs
 | 0, cs, hl, _ => ⟨[], rfl, List.eq_nil_of_length_eq_zero (by simpa using hl)⟩
 | n + 1, cs, hl, h => by
  have hn : (n + 1) * z = n * z + z := Nat.succ_mul n z
  obtain ⟨x, hx⟩ := h 0 (by omega)
  rw [Nat.zero_mul, List.drop_zero] at hx
  obtain ⟨xs, h1, h2⟩ := rows_of (z := z) (R := R) (n := n) (cs := cs.drop z) (by rw [List.length_drop]; omega) (fun i hi => by
   obtain ⟨y, hy⟩ := h (i + 1) (by omega)
   refine ⟨y, ?_⟩
   rw [List.drop_drop, show z + i * z = (i + 1) * z by rw [Nat.succ_mul]; omega]
   exact hy)
  exact ⟨x :: xs, by simp [h1], cs.take z, cs.drop z, (List.take_append_drop z cs).symm, by rw [List.length_take]; omega, hx, h2⟩

theorem rows_one {α : Type} {F : α → Value} : ∀ {cs : List Value} {xs : List α}, Rows 1 (fun c x => c = [F x]) cs xs → cs = xs.map F
 | cs, [], h => h
 | cs, x :: xs, h => by
  obtain ⟨c, d, rfl, _, h2, h3⟩ := h
  have h2 : c = [F x] := h2
  subst h2
  rw [rows_one h3]; rfl

section
variable {P : Program} {M : Nat} {g : Gm}

theorem sh_slice {k : Nat} {t e : TypeId} {u : Value} (ht : P.underlying t = some (.slice e)) (h : Sh P M g (k + 1) t [u]) : ∃ n cs, SlC g (P.cellsOf e) u n cs ∧ n ≤ M ∧ ∀ i, i < n → Sh P M g k e ((cs.drop (i * P.cellsOf e)).take (P.cellsOf e)) := by
 unfold Sh at h
 rw [ht] at h
 obtain ⟨v, n, cs, h1, h2, h3, h4⟩ := h
 cases h1
 exact ⟨n, cs, h2, h3, h4⟩

theorem sh_ints {k : Nat} {t e : TypeId} {u : Value} (ht : P.underlying t = some (.slice e)) (he : P.underlying e = some (.int .i64)) (hc : P.cellsOf e = 1) (h : Sh P M g (k + 2) t [u]) : ∃ xs : List Int, IntsAt g u xs ∧ xs.length ≤ M ∧ ∀ x ∈ xs, -9223372036854775808 ≤ x ∧ x ≤ 9223372036854775807 := by
 obtain ⟨n, cs, h1, h2, h3⟩ := sh_slice ht h
 rw [hc] at h1 h3
 obtain ⟨xs, k1, k2⟩ := rows_of (R := fun c (x : {x : Int // (Lit.int .i64 x).wf = true}) => c = [.int .i64 x.1]) h1.1 (fun i hi => by
  have := h3 i hi
  unfold Sh at this
  rw [he] at this
  obtain ⟨m, e1, e2⟩ := this
  exact ⟨⟨m, e2⟩, e1⟩)
 have k3 := rows_one k2
 subst k3
 refine ⟨xs.map (·.1), ?_, by simpa [k1] using h2, fun x hx => ?_⟩
 ·unfold IntsAt
  rw [List.length_map, k1, List.map_map]
  exact h1
 ·obtain ⟨y, _, rfl⟩ := List.mem_map.1 hx
  exact bounds_i64 y.2

theorem sh_bools {k : Nat} {t e : TypeId} {u : Value} (ht : P.underlying t = some (.slice e)) (he : P.underlying e = some .bool) (hc : P.cellsOf e = 1) (h : Sh P M g (k + 2) t [u]) : ∃ xs : List Bool, BoolsAt g u xs ∧ xs.length ≤ M := by
 obtain ⟨n, cs, h1, h2, h3⟩ := sh_slice ht h
 rw [hc] at h1 h3
 obtain ⟨xs, k1, k2⟩ := rows_of (R := fun c (x : Bool) => c = [.bool x]) h1.1 (fun i hi => by
  have := h3 i hi
  unfold Sh at this
  rw [he] at this
  exact this)
 have k3 := rows_one k2
 subst k3
 exact ⟨xs, by unfold BoolsAt; rw [k1]; exact h1, by omega⟩

theorem sh_bytes {k : Nat} {t e : TypeId} {u : Value} (ht : P.underlying t = some (.slice e)) (he : P.underlying e = some (.int .u8)) (hc : P.cellsOf e = 1) (h : Sh P M g (k + 2) t [u]) : ∃ bs : List UInt8, BytesAt g u bs ∧ bs.length ≤ M := by
 obtain ⟨n, cs, h1, h2, h3⟩ := sh_slice ht h
 rw [hc] at h1 h3
 obtain ⟨xs, k1, k2⟩ := rows_of (R := fun c (x : UInt8) => c = [.int .u8 (x.toNat : Int)]) h1.1 (fun i hi => by
  have := h3 i hi
  unfold Sh at this
  rw [he] at this
  obtain ⟨m, e1, e2⟩ := this
  have hb := bounds_u8 e2
  refine ⟨UInt8.ofNat m.toNat, ?_⟩
  rw [e1]
  have e : ((UInt8.ofNat m.toNat).toNat : Int) = m := by
   rw [UInt8.toNat_ofNat']
   omega
  rw [e])
 have k3 := rows_one k2
 subst k3
 exact ⟨xs, by unfold BytesAt; rw [k1]; exact h1, by omega⟩
end

end Go.Proofs.YtehmailaabjdjaaGreat
