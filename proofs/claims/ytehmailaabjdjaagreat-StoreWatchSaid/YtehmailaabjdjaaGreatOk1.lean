/-
  THE OPERATIONS ARE WHAT THE MODEL DOES (first part): values, reads, stores, new blocks. No condition.
-/
import Derived.Test.YtehmailaabjdjaaGreatPrims
namespace Go.Proofs.YtehmailaabjdjaaGreat
set_option linter.unusedSimpArgs false
set_option linter.unusedVariables false

def asVal : Next → Option Value
  | .value v => some v
  | .skip => some undef
  | _ => none

/-- Values of operands, alike. -/
def EvRel (ρ : LMap) (ev : Ev) (evc : Operand → Value) : Prop := ∀ x v, ev x = some v → VRel ρ v (evc x)

/-- The model's operation does what eff says. -/
def Out (P : Program) (s : Sem Next) (ρ : LMap) (σ : Heap) (w : World) (nm : Nat) (eff : Eff) : Prop :=
  ∃ nx v' ρ' w', s.run P w = .ok nx w' ∧ asVal nx = some v' ∧ Rel ρ' (σ.app nm eff) w' ∧ Frm ρ σ w ρ' (σ.app nm eff) w' ∧ VRel ρ' eff.val v' ∧ ∀ l, l ≠ nm → ρ' l = ρ l

section
variable {P : Program} {ρ : LMap} {σ : Heap} {w : World} {nm : Nat}

theorem out_val {s : Sem Next} {v v' : Value} (hrel : Rel ρ σ w) (hrun : s.run P w = .ok (.value v') w) (hv : VRel ρ v v') : Out P s ρ σ w nm ⟨v, none, none⟩ :=
  ⟨.value v', v', ρ, w, hrun, rfl, hrel, Frm.refl _ _ _, hv, fun _ _ => rfl⟩

theorem run_ofVal {v : Value} {eff : Eff} (h : (Prim.ofVal v).run σ nm = some eff) : eff = ⟨v, none, none⟩ := by
  simp [Prim.run, Prim.ofVal, getAll] at h; exact h.symm

theorem run_isAgg {t : TypeId} {b : Bool} (h : aggO P t = some b) (w : World) : (isAgg t).run P w = .ok b w := by
  unfold aggO at h
  cases hu : P.underlying t with
  | none => rw [hu] at h; simp at h
  | some d =>
    rw [hu] at h
    simp only [Option.map_some, Option.some.injEq] at h
    subst h
    simp only [isAgg, Sem.run_bind, run_underlying hu, Result.andThen_ok]
    cases d <;> rfl

theorem run_sizeOf {t : TypeId} {s : Nat} (h : szO P t = some s) (w : World) : (sizeOf t).run P w = .ok s w := by
  unfold szO at h
  cases hi : P.info? t with
  | none => rw [hi] at h; simp at h
  | some i => rw [hi] at h; simp at h; subst h; simp [sizeOf, typeInfo, hi]

theorem info_of_sz {t : TypeId} {s : Nat} (h : szO P t = some s) : ∃ i, P.info? t = some i ∧ i.size = s := by
  unfold szO at h
  cases hi : P.info? t with
  | none => rw [hi] at h; simp at h
  | some i => rw [hi] at h; simp at h; exact ⟨i, rfl, h⟩

theorem run_zeroValue {t : TypeId} {z : Value} (h : zeroO P t = some z) (w : World) : (zeroValue t).run P w = .ok z w := by
  unfold zeroO at h
  cases hi : P.info? t with
  | none => rw [hi] at h; simp at h
  | some i => rw [hi] at h; simp at h; simp [zeroValue, typeInfo, hi, h]

theorem zeroP_some {t : TypeId} {z : Value} (h : zeroP P t = some z) : zeroO P t = some z ∧ plainV z = true := by
  unfold zeroP at h
  cases hz : zeroO P t with
  | none => rw [hz] at h; simp at h
  | some y => rw [hz] at h; simp at h; exact ⟨by rw [h.2], h.2 ▸ h.1⟩

/-- A row of plain cells is like itself. -/
theorem plainL_rel {l : List Value} (h : plainL plainV l = true) : VlRel ρ l l :=
  ⟨rfl, fun i v v' h1 h2 => by rw [h1] at h2; cases h2; exact plainV_rel ρ (plainL_get h h1)⟩

theorem VRel.cells {v v' : Value} (h : VRel ρ v v') : VlRel ρ v.cells.toList v'.cells.toList := by
  cases h with
  | agg hs hr => exact VsRel.toList ⟨hs, hr⟩
  | tuple hs hr => exact .cons (.tuple hs hr) (.nil ρ)
  | bool b => exact .cons (.bool b) (.nil ρ)
  | int k n => exact .cons (.int k n) (.nil ρ)
  | float k b => exact .cons (.float k b) (.nil ρ)
  | string s => exact .cons (.string s) (.nil ρ)
  | ptrNil => exact .cons .ptrNil (.nil ρ)
  | ptr h => exact .cons (.ptr h) (.nil ρ)
  | sliceNil n c => exact .cons (.sliceNil n c) (.nil ρ)
  | slice h hc => exact .cons (.slice h hc) (.nil ρ)
  | slice0 h => exact .cons (.slice0 h) (.nil ρ)
  | sliceE => exact .cons .sliceE (.nil ρ)
  | mapNil => exact .cons .mapNil (.nil ρ)
  | map h => exact .cons (.map h) (.nil ρ)
  | func a b c d => exact .cons (.func a b c d) (.nil ρ)
  | nilFunc => exact .cons .nilFunc (.nil ρ)
  | nilIface => exact .cons .nilIface (.nil ρ)

theorem VRel.aggV {a b : List Value} (h : VlRel ρ a b) : VRel ρ (.agg a.toArray) (.agg b.toArray) := let k := h.toArray; .agg k.1 k.2

theorem oneCell_rel {v v' : Value} (h : VRel ρ v v') (k : oneCell v = true) : oneCell v' = true := by
  cases h <;> first | rfl | simp [oneCell] at k

theorem oneCells_rel : ∀ {a b : List Value}, VlRel ρ a b → plainL oneCell a = true → plainL oneCell b = true
  | [], b, h, _ => by rw [h.inv_nil]; rfl
  | v :: a, b, h, k => by
    obtain ⟨v', b', rfl, h1, h2⟩ := h.inv_cons
    simp [plainL] at k ⊢
    exact ⟨oneCell_rel h1 k.1, oneCells_rel h2 k.2⟩

/-! ### Rows of cells in the world -/

theorem cells_of {l : Nat} {c : List Value} {sz : Nat} {ro : Bool} {p : Pl} (hrel : Rel ρ σ w) (hl : σ.get l = some (.cells c sz ro)) (hp : ρ l = some p) :
    p.len = c.length ∧ p.sz = sz ∧ ∃ C T fz, w.heap[p.blk]? = some (.cells C T fz) ∧ (∀ i v, c[i]? = some v → ∃ v', C[p.off + i]? = some v' ∧ VRel ρ v v') ∧
      (ro = false → p.off + p.len + p.ext * p.sz ≤ C.size ∧ Thawed C.size fz) := by
  obtain ⟨q, hq, hr⟩ := hrel.dom l _ hl
  rw [hp] at hq; cases hq
  exact ⟨hr.1, hr.2.1.1, hr.2.2⟩
theorem szd_of {l : Nat} {c : List Value} {sz : Nat} {ro : Bool} {p : Pl} (hrel : Rel ρ σ w) (hl : σ.get l = some (.cells c sz ro)) (hp : ρ l = some p) : Szd p sz := by
  obtain ⟨q, hq, hr⟩ := hrel.dom l _ hl
  rw [hp] at hq; cases hq
  exact hr.2.1

theorem cell_at {C : Array Value} {T : TypeId} {fz : Nat × Nat} {b i : Nat} {v : Value} (h : w.heap[b]? = some (.cells C T fz)) (hi : C[i]? = some v) : w.cell? ⟨b, i, none⟩ = some v := by
  simp [World.cell?, h, hi]

/-- n cells from o on, read. -/
theorem range_of {c : List Value} {p : Pl} {C : Array Value} {T : TypeId} {fz : Nat × Nat} (hh : w.heap[p.blk]? = some (.cells C T fz))
    (hc : ∀ i v, c[i]? = some v → ∃ v', C[p.off + i]? = some v' ∧ VRel ρ v v') (o n : Nat) (hn : o + n ≤ c.length) :
    ∃ cs : List Value, cs.length = n ∧ VlRel ρ ((c.drop o).take n) cs ∧ (∀ j v, cs[j]? = some v → w.cell? (Addr.add ⟨p.blk, p.off + o, none⟩ j) = some v) := by
  have hget : ∀ j, j < n → ∃ v', C[p.off + o + j]? = some v' ∧ ∃ v, c[o + j]? = some v ∧ VRel ρ v v' := by
    intro j hj
    have h1 : c[o + j]? = some (c[o + j]'(by omega)) := List.getElem?_eq_getElem _
    obtain ⟨v', h2, h3⟩ := hc _ _ h1
    exact ⟨v', by rw [← h2, Nat.add_assoc], _, h1, h3⟩
  refine ⟨(List.range n).map fun j => C.getD (p.off + o + j) undef, by simp, ⟨by simp; omega, ?_⟩, ?_⟩
  · intro j v v' h1 h2
    rw [List.getElem?_take] at h1
    split at h1
    case isFalse => cases h1
    rename_i hj
    rw [List.getElem?_drop] at h1
    obtain ⟨x, hx, y, hy, hxy⟩ := hget j hj
    rw [h1] at hy; cases hy
    simp [hj] at h2
    rw [hx] at h2
    simp at h2
    exact h2 ▸ hxy
  · intro j v hj
    have hjn : j < n := by
      rcases Nat.lt_or_ge j n with h | h
      · exact h
      · rw [List.getElem?_eq_none (by simp; omega)] at hj; cases hj
    obtain ⟨x, hx, _⟩ := hget j hjn
    simp [hjn] at hj
    rw [hx] at hj
    simp at hj
    subst hj
    rw [Addr.add_lit]
    exact cell_at hh (by rw [← hx])

theorem run_loadVar {t : TypeId} {c : List Value} {o : Nat} {v : Value} {p : Pl} {C : Array Value} {T : TypeId} {fz : Nat × Nat} (hh : w.heap[p.blk]? = some (.cells C T fz))
    (hc : ∀ i v, c[i]? = some v → ∃ v', C[p.off + i]? = some v' ∧ VRel ρ v v') (h : partO P t c o = some v) :
    ∃ v', (loadVar t ⟨p.blk, p.off + o, none⟩).run P w = .ok v' w ∧ VRel ρ v v' := by
  unfold partO at h
  cases ha : aggO P t with
  | none => rw [ha] at h; simp at h
  | some b =>
    rw [ha] at h
    cases b with
    | true =>
      simp only [Option.bind_some] at h
      cases hs : szO P t with
      | none => rw [hs] at h; simp at h
      | some s =>
        rw [hs] at h
        simp at h
        obtain ⟨hle, rfl⟩ := h
        obtain ⟨cs, hcl, hvl, hcell⟩ := range_of hh hc o s hle
        refine ⟨.agg cs.toArray, ?_, VRel.aggV hvl⟩
        have := run_loadCells_list (P := P) w ⟨p.blk, p.off + o, none⟩ cs hcell
        rw [hcl] at this
        simp [loadVar, run_isAgg ha, run_sizeOf hs, this]
    | false =>
      simp only [Option.bind_some] at h
      obtain ⟨v', h1, h2⟩ := hc _ _ h
      refine ⟨v', ?_, h2⟩
      simp [loadVar, run_isAgg ha, cell_at hh h1]

theorem load_ok {ev : Ev} {evc : Operand → Value} {t : TypeId} {a : Operand} {p : Prim} {eff : Eff} (h : aLoad P ev t a = some p) (hev : EvRel ρ ev evc)
    (hrel : Rel ρ σ w) (hrun : p.run σ nm = some eff) : Out P (do pure (.value (← Instr.loadAt t (evc a)))) ρ σ w nm eff := by
  unfold aLoad at h
  cases hea : ev a with
  | none => rw [hea] at h; simp at h
  | some x =>
    rw [hea] at h
    have hx := hev _ _ hea
    simp only [Option.bind_some] at h
    split at h
    case h_2 => cases h
    rename_i l o
    cases h
    simp only [Prim.run, getAll] at hrun
    cases hl : σ.get l with
    | none => rw [hl] at hrun; simp at hrun
    | some ob =>
      rw [hl] at hrun
      simp only [Option.bind_some, Option.map_some] at hrun
      split at hrun
      case h_2 => cases hrun
      rename_i c sz ro heq
      simp at heq
      subst heq
      cases hp : partO P t c o with
      | none => rw [hp] at hrun; cases hrun
      | some v =>
        rw [hp] at hrun; cases hrun
        generalize hy : evc a = y at hx
        cases hx with
        | ptr hpl =>
          rename_i pl
          obtain ⟨_, _, C, T, fz, hh, hc, _⟩ := cells_of hrel hl hpl
          obtain ⟨v', h1, h2⟩ := run_loadVar hh hc hp
          exact out_val hrel (by simp [Instr.loadAt, Instr.sureAddr, h1]) h2

/-! ### Stores -/

theorem splice_length {c vs : List Value} {o : Nat} (h : o + vs.length ≤ c.length) : (splice c o vs).length = c.length := by
  simp [splice]; omega

theorem splice_get {c vs : List Value} {o : Nat} (h : o + vs.length ≤ c.length) (i : Nat) :
    (splice c o vs)[i]? = if o ≤ i ∧ i < o + vs.length then vs[i - o]? else c[i]? := by
  unfold splice
  rcases Nat.lt_or_ge i o with h1 | h1
  · rw [if_neg (by omega), List.append_assoc, List.getElem?_append_left (by simp; omega), List.getElem?_take, if_pos h1]
  · rcases Nat.lt_or_ge i (o + vs.length) with h2 | h2
    · rw [if_pos ⟨h1, h2⟩, List.append_assoc, List.getElem?_append_right (by simp; omega), List.getElem?_append_left (by simp; (try omega))]
      congr 1; (try simp); try omega
    · rw [if_neg (by omega), List.getElem?_append_right (by simp; omega), List.getElem?_drop]
      congr 1; simp; omega

theorem same_setCell (w : World) (a : Addr) (v : Value) : Same w (w.setCell a v) := ⟨rfl, rfl, rfl⟩

/-- Cells stored into one block, one after the other. -/
theorem run_storeCells (b : Nat) (T : TypeId) (fz : Nat × Nat) : ∀ (vs : List Value) (base i : Nat) (C : Array Value) (w : World), w.heap[b]? = some (.cells C T fz) →
    base + i + vs.length ≤ C.size → Thawed C.size fz → plainL oneCell vs = true →
    ∃ C' w', (storeCells ⟨b, base, none⟩ vs i).run P w = .ok () w' ∧ w'.heap[b]? = some (.cells C' T fz) ∧ C'.size = C.size ∧
      (∀ j, C'[j]? = if base + i ≤ j ∧ j < base + i + vs.length then vs[j - (base + i)]? else C[j]?) ∧ Same w w' ∧ w'.heap.size = w.heap.size ∧ ∀ k, k ≠ b → w'.heap[k]? = w.heap[k]?
  | [], base, i, C, w, hh, _, _, _ => ⟨C, w, by simp [storeCells], hh, rfl, fun j => by rw [if_neg (by simp)], Same.refl w, rfl, fun _ _ => rfl⟩
  | v :: vs, base, i, C, w, hh, hlen, hfz, hone => by
    simp only [plainL, Bool.and_eq_true] at hone
    simp only [List.length_cons] at hlen
    have hlt : base + i < C.size := by omega
    have hcell : w.cell? ⟨b, base + i, none⟩ = some C[base + i] := cell_at hh (Array.getElem?_eq_getElem hlt)
    have hfr : w.frozen? ⟨b, base + i, none⟩ = false := by
      have := hfz.not hlt
      simp [World.frozen?, hh]
      omega
    have hb : (w.setCell ⟨b, base + i, none⟩ v).heap[b]? = some (.cells (C.setIfInBounds (base + i) v) T fz) := by
      simp [World.setCell, Array.getElem?_modify, hh]
    obtain ⟨C', w', h1, h2, h3, h4, h5, h6, h7⟩ := run_storeCells b T fz vs base (i + 1) (C.setIfInBounds (base + i) v) (w.setCell ⟨b, base + i, none⟩ v) hb (by simp; omega) (by simpa using hfz) hone.2
    have hst : (store (Addr.add ⟨b, base, none⟩ i) v).run P w = .ok () (w.setCell ⟨b, base + i, none⟩ v) := by
      rw [Addr.add_lit]
      cases v with
      | agg a => simp [oneCell] at hone
      | tuple a => simp [oneCell] at hone
      | _ => simp only [store, Sem.run, hcell, hfr]; rfl
    refine ⟨C', w', by simp [storeCells, hst, h1], h2, by simp [h3], ?_, ⟨h5.os, h5.tape, h5.output⟩, by rw [h6]; simp [World.setCell], ?_⟩
    · intro j
      rw [h4 j]
      simp only [List.length_cons, Array.getElem?_setIfInBounds]
      by_cases e1 : j = base + i
      · subst e1
        rw [if_neg (by omega), if_pos rfl, if_pos hlt, if_pos (by omega)]
        simp
      · by_cases e2 : base + (i + 1) ≤ j ∧ j < base + (i + 1) + vs.length
        · rw [if_pos e2, if_pos (by omega)]
          obtain ⟨k, hk⟩ : ∃ k, j - (base + i) = k + 1 := ⟨j - (base + i) - 1, by omega⟩
          rw [hk, List.getElem?_cons_succ]
          congr 1; omega
        · rw [if_neg e2, if_neg (fun e => e1 e.symm), if_neg (by omega)]
    · intro k hk
      rw [h7 k hk]
      simp only [World.setCell, Array.getElem?_modify]
      rw [if_neg (fun e => hk e.symm)]

/-- A write of cells at a place of an owned row. -/
theorem write_cells {l o : Nat} {c vs vs' : List Value} {sz : Nat} {pl : Pl} (hrel : Rel ρ σ w) (hl : σ.get l = some (.cells c sz false)) (hpl : ρ l = some pl)
    (hvs : VlRel ρ vs vs') (hone : plainL oneCell vs = true) (hle : o + vs.length ≤ c.length) :
    ∃ w', (storeCells ⟨pl.blk, pl.off + o, none⟩ vs').run P w = .ok () w' ∧ Rel ρ (σ.upd l (some (.cells (splice c o vs) sz false))) w' ∧
      Frm ρ σ w ρ (σ.upd l (some (.cells (splice c o vs) sz false))) w' := by
  obtain ⟨hlen, hsz, C, T, fz, hh, hc, hown⟩ := cells_of hrel hl hpl
  obtain ⟨hroom, hfz⟩ := hown rfl
  obtain ⟨C', w', h1, h2, h3, h4, h5, h6, h7⟩ := run_storeCells (P := P) pl.blk T fz vs' (pl.off + o) 0 C w hh (by rw [← hvs.1]; omega) hfz (oneCells_rel hvs hone)
  refine ⟨w', h1, step_write hrel hl rfl hpl h5 h6 h7 rfl ⟨by rw [splice_length hle]; exact hlen, szd_of hrel hl hpl, C', T, fz, h2, ?_, fun _ => ⟨by rw [h3]; exact hroom, by rw [h3]; exact hfz⟩⟩⟩
  intro i v hi
  rw [splice_get hle] at hi
  rw [h4]
  simp only [Nat.add_zero]
  by_cases e : o ≤ i ∧ i < o + vs.length
  · rw [if_pos e] at hi
    rw [if_pos (by rw [← hvs.1]; omega)]
    obtain ⟨v', k1, k2⟩ := hvs.get hi
    exact ⟨v', by rw [← k1]; congr 1; omega, k2⟩
  · rw [if_neg e] at hi
    rw [if_neg (by rw [← hvs.1]; omega)]
    exact hc i v hi

theorem store_ok {ev : Ev} {evc : Operand → Value} {t : TypeId} {a x : Operand} {p : Prim} {eff : Eff} (h : aStore P ev t a x = some p) (hev : EvRel ρ ev evc)
    (hrel : Rel ρ σ w) (hrun : p.run σ nm = some eff) : Out P (do Instr.storeAt t (evc a) (evc x); pure .skip) ρ σ w nm eff := by
  unfold aStore at h
  cases hea : ev a with
  | none => rw [hea] at h; simp at h
  | some y =>
    rw [hea] at h
    have hy := hev _ _ hea
    simp only [Option.bind_some] at h
    split at h
    case h_2 => cases h
    rename_i l o
    cases hex : ev x with
    | none => rw [hex] at h; simp at h
    | some v =>
      rw [hex] at h
      have hv := hev _ _ hex
      cases hs : szO P t with
      | none => rw [hs] at h; simp at h
      | some s =>
        rw [hs] at h
        simp only [Option.bind_some] at h
        split at h
        case isFalse => cases h
        rename_i hcond
        simp only [Bool.and_eq_true, decide_eq_true_eq] at hcond
        obtain ⟨hsz, hone⟩ := hcond
        cases h
        simp only [Prim.run, getAll] at hrun
        cases hl : σ.get l with
        | none => rw [hl] at hrun; simp at hrun
        | some ob =>
          rw [hl] at hrun
          simp only [Option.bind_some, Option.map_some] at hrun
          split at hrun
          case h_2 => cases hrun
          rename_i c sz heq
          simp at heq
          subst heq
          split at hrun
          case isFalse => cases hrun
          rename_i hle
          cases hrun
          generalize hyy : evc a = yy at hy
          cases hy with
          | ptr hpl =>
            rename_i pl
            have hlenv : v.cells.toList.length = s := by simpa using hsz
            obtain ⟨w', h1, h2, h3⟩ := write_cells (P := P) (o := o) hrel hl hpl hv.cells hone (by omega)
            have hsz' : (evc x).cells.size = s := by have := hv.cells.1; simp at this; omega
            refine ⟨.skip, undef, ρ, w', ?_, rfl, h2, h3, .tuple rfl (fun i v v' h => by simp at h), fun _ _ => rfl⟩
            simp [Instr.storeAt, Instr.sureAddr, storeVar, run_sizeOf hs, hsz', h1]

end
end Go.Proofs.YtehmailaabjdjaaGreat
