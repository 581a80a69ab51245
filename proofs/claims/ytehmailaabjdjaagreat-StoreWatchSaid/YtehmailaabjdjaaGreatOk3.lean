/-
  THE OPERATIONS ARE WHAT THE MODEL DOES (third part): slices made and cut, places of fields and elements, conversions. No condition.
-/
import Derived.Test.YtehmailaabjdjaaGreatOk2
namespace Go.Proofs.YtehmailaabjdjaaGreat
set_option linter.unusedSimpArgs false
set_option linter.unusedVariables false
section
variable {P : Program} {ρ : LMap} {σ : Heap} {w : World} {nm : Nat}

/-- A new slice that fills its row. -/
theorem newSlice_ok {s : Sem Next} {c : List Value} {sz n ext : Nat} {C : Array Value} {T : TypeId} {fz : Nat × Nat} {w' : World} (hrel : Rel ρ σ w) (hnm : ρ nm = none) (hlt : nm < σ.nxt)
    (hrun : s.run P w = .ok (.value (.slice (some ⟨w.heap.size, 0, none⟩) n (n + ext))) w') (hs : Same w w') (hh : w'.heap = w.heap.push (.cells C T fz))
    (hc : ∀ (i : Nat) (v : Value), c[i]? = some v → ∃ v', C[i]? = some v' ∧ VRel ρ v v') (hlen : n * sz = c.length)
    (hext : c.length + ext * sz ≤ C.size) (hfz : Thawed C.size fz) :
    Out P s ρ σ w nm ⟨.slice (some ⟨nm, 0, none⟩) n n, none, some (.cells c sz false)⟩ := by
  refine out_cells (ext := ext) hrel hnm hlt hrun hs hh hc hext hfz fun ρ' _ h => ?_
  exact .slice (p := ⟨w.heap.size, 0, ext, sz, c.length⟩) h (.inr ⟨by simpa using hlen, rfl⟩)

theorem fill_size {pl : Nat → Option (Nat × Nat)} : ∀ (ps : List (Nat × Value)) (cs r : Array Value), Instr.fill pl cs ps = some r → r.size = cs.size
  | [], cs, r, h => by simp [Instr.fill] at h; rw [h]
  | (i, v) :: ps, cs, r, h => by
    simp only [Instr.fill] at h
    split at h
    case h_1 => cases h
    split at h
    case isTrue => cases h
    rename_i off _ _ _
    rw [fill_size ps _ r h, ← Array.foldl_toList, Array.toList_zipIdx]
    generalize v.cells.toList = L
    have : ∀ (L : List Value) (k : Nat) (c : Array Value), ((L.zipIdx k).foldl (fun cs x => cs.setIfInBounds (off + x.2) x.1) c).size = c.size := by
      intro L
      induction L with
      | nil => intro k c; rfl
      | cons v L ih => intro k c; simp only [List.zipIdx_cons, List.foldl_cons]; rw [ih]; simp
    exact this L 0 cs

theorem buildSlice_ok {ev : Ev} {evc : Operand → Value} {t : TypeId} {len : Nat} {parts : Array (Nat × Operand)} {p : Prim} {eff : Eff} (h : aBuildSlice P ev t len parts = some p) (hev : EvRel ρ ev evc)
    (hrel : Rel ρ σ w) (hnm : ρ nm = none) (hlt : nm < σ.nxt) (hrun : p.run σ nm = some eff) :
    Out P (do pure (.value (← Instr.buildSlice t len (parts.map fun (i, x) => (i, evc x))))) ρ σ w nm eff := by
  unfold aBuildSlice at h
  split at h
  case h_2 => cases h
  rename_i elem hu
  cases hs : szO P elem with
  | none => rw [hs] at h; simp at h
  | some size =>
    cases hz : zeroP P elem with
    | none => rw [hs, hz] at h; simp at h
    | some z =>
      obtain ⟨hz0, hzp⟩ := zeroP_some hz
      cases hps : evParts ev parts.toList with
      | none => rw [hs, hz, hps] at h; simp at h
      | some ps =>
        rw [hs, hz, hps] at h
        simp only [Option.bind_some] at h
        split at h
        case isFalse => cases h
        rename_i hcond
        simp only [Bool.and_eq_true, decide_eq_true_eq] at hcond
        obtain ⟨⟨⟨hle, hpos⟩, hzs⟩, hzpl⟩ := hcond
        obtain ⟨cs, hf, rfl⟩ := Option.map_eq_some_iff.1 h
        simp [Prim.run, Prim.newSlice, getAll] at hrun
        subst hrun
        have hrow := range_plain (ρ := ρ) hzpl (len * size) (by omega)
        obtain ⟨r', h1, h2⟩ := fill_rel hev parts.toList ps _ _ cs hps hrow hf
        have hsz := fill_size _ _ _ hf
        have hl' : (parts.map fun (i, x) => (i, evc x)).toList = parts.toList.map fun (i, x) => (i, evc x) := by simp
        refine newSlice_ok (ext := 0) (C := r') (T := elem) (fz := (0, 0)) (w' := { w with heap := w.heap.push (.cells r' elem) }) hrel hnm hlt ?_ ⟨rfl, rfl, rfl⟩ rfl ?_ (by simp at hsz; simp [hsz]) (by have := h2.1; simp; omega) (no_fz _)
        · have hle' : ¬ (2 ^ 24 < len * size) := by omega
          by_cases hl0 : len * size = 0
          · rw [hl0] at h1
            simp only [Array.range_zero', Array.map_empty] at h1
            simp only [Instr.buildSlice, Sem.run_bind, run_underlying hu, run_sizeOf hs, Result.andThen_ok, hl', hl0]
            simp [h1, newRow, newObj, Sem.run, Array.range_zero']
          · simp only [Instr.buildSlice, Sem.run_bind, run_underlying hu, run_sizeOf hs, Result.andThen_ok, hl']
            simp [hle', hl0, run_zeroValue hz0, h1, newRow, newObj, Sem.run]
        · intro i v hi
          obtain ⟨v', a, b⟩ := h2.get (i := i) (v := v) (by simpa using hi)
          exact ⟨v', a, b⟩

theorem nil_ok {ev : Ev} {evc : Operand → Value} {x : Operand} {o : Oper} {p : Prim} {eff : Eff} (ho : o.op = .nilCheck x) (h : aNil ev x = some p) (hev : EvRel ρ ev evc) (hrel : Rel ρ σ w)
    (hrun : p.run σ nm = some eff) : Out P (execOp evc o) ρ σ w nm eff := by
  unfold aNil at h
  cases hx : ev x with
  | none => rw [hx] at h; simp at h
  | some v =>
    rw [hx] at h
    have hv := hev _ _ hx
    simp only [Option.bind_some] at h
    generalize hy : evc x = y at hv
    split at h
    · cases h
      rw [run_ofVal hrun]
      cases hv with
      | ptr hl => exact out_val hrel (by simp [execOp, ho, hy]) (.ptr hl)
    · cases h
      rw [run_ofVal hrun]
      cases hv with
      | func h1 h2 h3 h4 => exact out_val hrel (by simp [execOp, ho, hy]) (.func h1 h2 h3 h4)
    · cases h

theorem evList_rel {ev : Ev} {evc : Operand → Value} (hev : EvRel ρ ev evc) : ∀ (xs : List Operand) (vs : List Value), evList ev xs = some vs → VlRel ρ vs (xs.map evc)
  | [], vs, h => by simp [evList] at h; subst h; exact .nil ρ
  | x :: xs, vs, h => by
    simp only [evList] at h
    cases hx : ev x with
    | none => rw [hx] at h; simp at h
    | some v =>
      rw [hx] at h
      simp only [Option.bind_some] at h
      obtain ⟨r, hr, rfl⟩ := Option.map_eq_some_iff.1 h
      exact .cons (hev _ _ hx) (evList_rel hev xs r hr)

theorem makeFunc_ok {ev : Ev} {evc : Operand → Value} {fn : Fn} {first captured : Array Operand} {p : Prim} {eff : Eff} (h : aMakeFunc ev fn first captured = some p) (hev : EvRel ρ ev evc) (hrel : Rel ρ σ w)
    (hrun : p.run σ nm = some eff) : Out P (do pure (.value (← Instr.makeFunc fn (first.map evc) (captured.map evc)))) ρ σ w nm eff := by
  unfold aMakeFunc at h
  split at h
  case h_2 => cases h
  rename_i f
  cases ha : evList ev first.toList with
  | none => rw [ha] at h; simp at h
  | some a =>
    rw [ha] at h
    simp only [Option.bind_some] at h
    obtain ⟨b, hb, rfl⟩ := Option.map_eq_some_iff.1 h
    rw [run_ofVal hrun]
    have h1 := (evList_rel hev _ _ ha).toArray
    have h2 := (evList_rel hev _ _ hb).toArray
    have e1 : (first.toList.map evc).toArray = first.map evc := by rw [← Array.toList_map, Array.toArray_toList]
    have e2 : (captured.toList.map evc).toArray = captured.map evc := by rw [← Array.toList_map, Array.toArray_toList]
    rw [e1] at h1
    rw [e2] at h2
    exact out_val hrel (by simp [Instr.makeFunc]) (.func h1.1 h2.1 h1.2 h2.2)

theorem newMap_ok {s : Sem Next} (hrel : Rel ρ σ w) (hnm : ρ nm = none) (hlt : nm < σ.nxt)
    (hrun : s.run P w = .ok (.value (.map (some w.heap.size))) { w with heap := w.heap.push (.map #[] 0) }) : Out P s ρ σ w nm ⟨.map (some nm), none, some (.map [] 0)⟩ := by
  obtain ⟨h1, h2⟩ := step_push (w' := { w with heap := w.heap.push (.map #[] 0) }) hrel hnm hlt (.map #[] 0) (.map [] 0) ⟨w.heap.size, 0, 0, 0, 0⟩ rfl ⟨rfl, rfl, rfl⟩ rfl ⟨#[], by simp, rfl, fun i e e' h => by simp at h⟩
  exact ⟨_, _, _, _, hrun, rfl, h1, h2, .map (p := ⟨w.heap.size, 0, 0, 0, 0⟩) (LMap.set_same _ _ _), fun l hl => LMap.set_ne _ _ hl⟩

theorem makeMap_ok {ev : Ev} {evc : Operand → Value} {t : TypeId} {r : Option Operand} {p : Prim} {eff : Eff} (h : aMakeMap P ev t r = some p) (hev : EvRel ρ ev evc) (hrel : Rel ρ σ w) (hnm : ρ nm = none) (hlt : nm < σ.nxt)
    (hrun : p.run σ nm = some eff) : Out P (do pure (.value (← Instr.makeMap t (r.map evc)))) ρ σ w nm eff := by
  unfold aMakeMap at h
  split at h
  · cases h
    simp [Prim.run, getAll] at hrun
    subst hrun
    exact newMap_ok hrel hnm hlt (by simp [Instr.makeMap, newObj, Sem.run])
  · rename_i x
    cases hx : ev x with
    | none => rw [hx] at h; simp at h
    | some v =>
      rw [hx] at h
      have hv := hev _ _ hx
      simp only [Option.bind_some] at h
      split at h
      case h_2 => cases h
      split at h
      case h_2 => cases h
      rename_i hu
      cases h
      simp [Prim.run, getAll] at hrun
      subst hrun
      generalize hy : evc x = y at hv
      cases hv
      exact newMap_ok hrel hnm hlt (by simp [Instr.makeMap, newObj, Sem.run, hy, run_underlying hu, asInt, asIntOf])

theorem bytes_of {t : TypeId} {b : Nat} (h : bytesO P t = some b) : ∃ i, P.info? t = some i ∧ i.bytes = b := by
  unfold bytesO at h
  cases hi : P.info? t with
  | none => rw [hi] at h; simp at h
  | some i => rw [hi] at h; simp at h; exact ⟨i, rfl, h⟩

theorem makeSlice_ok {ev : Ev} {evc : Operand → Value} {t : TypeId} {len cap : Operand} {p : Prim} {eff : Eff} (h : aMakeSlice P ev t len cap = some p) (hev : EvRel ρ ev evc) (hrel : Rel ρ σ w) (hnm : ρ nm = none) (hlt : nm < σ.nxt)
    (hrun : p.run σ nm = some eff) : Out P (do pure (.value (← Instr.makeSlice t (evc len) (evc cap)))) ρ σ w nm eff := by
  unfold aMakeSlice at h
  split at h
  case h_2 => cases h
  rename_i elem hu
  cases hl : ev len with
  | none => rw [hl] at h; simp at h
  | some lv =>
    rw [hl] at h
    have hlr := hev _ _ hl
    simp only [Option.bind_some] at h
    split at h
    case h_2 => cases h
    rename_i k l
    cases hc : ev cap with
    | none => rw [hc] at h; simp at h
    | some cv =>
      rw [hc] at h
      have hcr := hev _ _ hc
      simp only [Option.bind_some] at h
      split at h
      case h_2 => cases h
      rename_i k2 c
      cases hs : szO P elem with
      | none => rw [hs] at h; simp at h
      | some size =>
        cases hb : bytesO P elem with
        | none => rw [hs, hb] at h; simp at h
        | some by_ =>
          cases hz : zeroP P elem with
          | none => rw [hs, hb, hz] at h; simp at h
          | some z =>
            obtain ⟨hz0, hzp⟩ := zeroP_some hz
            rw [hs, hb, hz] at h
            simp only [Option.bind_some] at h
            split at h
            case isFalse => cases h
            rename_i hcond
            simp only [Bool.and_eq_true, decide_eq_true_eq] at hcond
            obtain ⟨⟨⟨⟨⟨⟨h1, h2⟩, h3⟩, h4⟩, h5⟩, h6⟩, h7⟩ := hcond
            cases h
            simp [Prim.run, getAll] at hrun
            subst hrun
            generalize hy : evc len = y at hlr
            generalize hy2 : evc cap = y2 at hcr
            cases hlr
            cases hcr
            obtain ⟨i, hi, hib⟩ := bytes_of hb
            have w1 : IntKind.i64.wrap l = l := IntWalk.i64_in _ (by omega)
            have w2 : IntKind.i64.wrap c = c := IntWalk.i64_in _ (by omega)
            have hcap : ((c.toNat : Nat) : Int) = c := by omega
            have hroom : c.toNat * by_ ≤ 2 ^ 47 := by
              have : ((c.toNat * by_ : Nat) : Int) = by_ * c := by rw [Int.natCast_mul, hcap, Int.mul_comm]
              omega
            have hask : ∀ w : World, (askRoom (c.toNat * by_)).run P w = .ok () w := by
              intro w; unfold askRoom; rw [if_neg (by unfold roomBytes; omega)]; rfl
            have hrow := range_plain (ρ := ρ) h7 (c.toNat * size) (by omega)
            refine out_cells (ext := 0) (C := (Array.range (c.toNat * size)).map (z.cells[· % z.cells.size]!)) (T := elem) (fz := (0, 0))
              (v' := .slice (some ⟨w.heap.size, 0, none⟩) l.toNat c.toNat)
              (w' := { w with heap := w.heap.push (.cells ((Array.range (c.toNat * size)).map (z.cells[· % z.cells.size]!)) elem) }) hrel hnm hlt ?_ ⟨rfl, rfl, rfl⟩ rfl ?_ (by simp) (no_fz _) ?_
            · have hl1 : ¬ c < l := by omega
              have hl2 : ¬ l < 0 := by omega
              have hc1 : ¬ c < 0 := by omega
              have hc2 : ¬ (281474976710656 : Int) < by_ * c := by omega
              simp only [Instr.makeSlice, Sem.run_bind, run_underlying hu, Result.andThen_ok, asInt, asIntOf, Sem.run_pure, typeInfo, program, Sem.run, hi, hib, w1, w2]
              by_cases hn : c.toNat * size = 0
              · simp [hl1, hl2, hc1, hc2, hask, run_sizeOf hs, hn, newRow, newObj, Sem.run, Array.range_zero']
              · simp [hl1, hl2, hc1, hc2, hask, run_sizeOf hs, hn, run_zeroValue hz0, newRow, newObj, Sem.run]
            · intro i v hi
              obtain ⟨v', a, b⟩ := hrow.get (i := i) (v := v) (by rw [← Array.getElem?_toList, Array.toList_map, Array.toList_range]; exact hi)
              exact ⟨v', a, b⟩
            · intro ρ' _ h
              exact .slice (p := ⟨w.heap.size, 0, 0, size, _⟩) h (.inl rfl)

/-! ### Places -/

theorem add_rel {l o k : Nat} {pl : Pl} (h : ρ l = some pl) : VRel ρ (.pointer (some ⟨l, o + k, none⟩)) (.pointer (some (Addr.add ⟨pl.blk, pl.off + o, none⟩ k))) := by
  rw [Addr.add_lit, Nat.add_assoc]
  exact .ptr h

theorem fieldAddr_ok {ev : Ev} {evc : Operand → Value} {s : TypeId} {x : Operand} {f : Nat} {p : Prim} {eff : Eff} (h : aFieldAddr P ev s x f = some p) (hev : EvRel ρ ev evc) (hrel : Rel ρ σ w)
    (hrun : p.run σ nm = some eff) : Out P (do pure (.value (← Instr.fieldAt s (evc x) f))) ρ σ w nm eff := by
  unfold aFieldAddr at h
  split at h
  case h_2 => cases h
  rename_i fields hu
  cases hf : fields[f]? with
  | none => rw [hf] at h; simp at h
  | some fd =>
    rw [hf] at h
    simp only [Option.bind_some] at h
    cases hx : ev x with
    | none => rw [hx] at h; simp at h
    | some v =>
      rw [hx] at h
      have hv := hev _ _ hx
      simp only [Option.bind_some] at h
      split at h
      case h_2 => cases h
      rename_i l o
      cases hz : szO P fd.type with
      | none => rw [hz] at h; simp at h
      | some z =>
        rw [hz] at h
        simp only [Option.bind_some] at h
        split at h
        case isTrue => cases h
        rename_i hz0
        cases h
        rw [run_ofVal hrun]
        generalize hy : evc x = y at hv
        cases hv with
        | ptr hl =>
          exact out_val hrel (by simp [Instr.fieldAt, run_underlying hu, hf, Instr.sureAddr, fieldPlace, run_sizeOf hz, hz0] <;> rfl) (add_rel hl)

theorem part_rel {t : TypeId} {c c' : Array Value} {o : Nat} {v : Value} (hc : VsRel ρ c c') (h : partO P t c.toList o = some v) (w : World) : ∃ v', (part t c' o).run P w = .ok v' w ∧ VRel ρ v v' := by
  unfold partO at h
  cases ha : aggO P t with
  | none => rw [ha] at h; simp at h
  | some b =>
    rw [ha] at h
    cases b with
    | true =>
      simp only [Option.bind_some] at h
      cases hs : szO P t with
      | none => rw [hs] at h; simp at h
      | some s =>
        rw [hs] at h
        simp only [Option.bind_some] at h
        split at h
        case isFalse => cases h
        rename_i hle
        cases h
        refine ⟨.agg (c'.extract o (o + s)), by simp [part, run_isAgg ha, run_sizeOf hs], ?_⟩
        have h1 := ((hc.toList.drop o).take s).toArray
        have e : ((c'.toList.drop o).take s).toArray = c'.extract o (o + s) := by
          apply Array.ext'
          simp [List.take_drop]
        rw [e] at h1
        exact .agg h1.1 h1.2
    | false =>
      simp only [Option.bind_some] at h
      obtain ⟨v', h1, h2⟩ := hc.get (i := o) (v := v) (by simpa using h)
      exact ⟨v', by simp [part, run_isAgg ha, h1], h2⟩

theorem field_ok {ev : Ev} {evc : Operand → Value} {s : TypeId} {x : Operand} {f : Nat} {p : Prim} {eff : Eff} (h : aField P ev s x f = some p) (hev : EvRel ρ ev evc) (hrel : Rel ρ σ w)
    (hrun : p.run σ nm = some eff) : Out P (do pure (.value (← Instr.field s (evc x) f))) ρ σ w nm eff := by
  unfold aField at h
  split at h
  case h_2 => cases h
  rename_i fields hu
  cases hf : fields[f]? with
  | none => rw [hf] at h; simp at h
  | some fd =>
    rw [hf] at h
    simp only [Option.bind_some] at h
    cases hx : ev x with
    | none => rw [hx] at h; simp at h
    | some v =>
      rw [hx] at h
      have hv := hev _ _ hx
      simp only [Option.bind_some] at h
      split at h
      case h_2 => cases h
      rename_i cs
      obtain ⟨r, hr, rfl⟩ := Option.map_eq_some_iff.1 h
      rw [run_ofVal hrun]
      generalize hy : evc x = y at hv
      cases hv with
      | agg h1 h2 =>
        obtain ⟨v', k1, k2⟩ := part_rel ⟨h1, h2⟩ hr w
        exact out_val hrel (by simp [Instr.field, run_underlying hu, hf, asAgg, k1]) k2

theorem indexAddr_ok {ev : Ev} {evc : Operand → Value} {t : TypeId} {x ix : Operand} {p : Prim} {eff : Eff} (h : aIndexAddr P ev t x ix = some p) (hev : EvRel ρ ev evc) (hrel : Rel ρ σ w)
    (hrun : p.run σ nm = some eff) : Out P (do pure (.value (← Instr.indexAt t (evc x) (evc ix)))) ρ σ w nm eff := by
  unfold aIndexAddr at h
  cases hi : ev ix with
  | none => rw [hi] at h; simp at h
  | some iv =>
    rw [hi] at h
    have hiv := hev _ _ hi
    simp only [Option.bind_some] at h
    split at h
    case h_2 => cases h
    rename_i k i
    generalize hyi : evc ix = yi at hiv
    cases hiv
    split at h
    case h_3 => cases h
    · rename_i elem hu
      cases hs : szO P elem with
      | none => rw [hs] at h; simp at h
      | some size =>
        rw [hs] at h
        simp only [Option.bind_some] at h
        cases hx : ev x with
        | none => rw [hx] at h; simp at h
        | some v =>
          rw [hx] at h
          have hv := hev _ _ hx
          simp only [Option.bind_some] at h
          split at h
          case h_2 => cases h
          rename_i l o n c
          split at h
          case isFalse => cases h
          rename_i hin
          cases h
          rw [run_ofVal hrun]
          generalize hy : evc x = y at hv
          cases hv with
          | slice hl hc =>
            exact out_val hrel (by simp [Instr.indexAt, asIntOf, run_underlying hu, hin, run_sizeOf hs] <;> rfl) (add_rel hl)
          | slice0 hl => omega
    · rename_i n elem hu
      cases hs : szO P elem with
      | none => rw [hs] at h; simp at h
      | some size =>
        rw [hs] at h
        simp only [Option.bind_some] at h
        cases hx : ev x with
        | none => rw [hx] at h; simp at h
        | some v =>
          rw [hx] at h
          have hv := hev _ _ hx
          simp only [Option.bind_some] at h
          split at h
          case h_2 => cases h
          rename_i l o
          split at h
          case isFalse => cases h
          rename_i hin
          cases h
          rw [run_ofVal hrun]
          generalize hy : evc x = y at hv
          cases hv with
          | ptr hl =>
            exact out_val hrel (by simp [Instr.indexAt, asIntOf, run_underlying hu, Instr.sureAddr, hin, run_sizeOf hs] <;> rfl) (add_rel hl)

theorem index_ok {ev : Ev} {evc : Operand → Value} {t : TypeId} {x ix : Operand} {p : Prim} {eff : Eff} (h : aIndex P ev t x ix = some p) (hev : EvRel ρ ev evc) (hrel : Rel ρ σ w)
    (hrun : p.run σ nm = some eff) : Out P (do pure (.value (← Instr.index t (evc x) (evc ix)))) ρ σ w nm eff := by
  unfold aIndex at h
  cases hi : ev ix with
  | none => rw [hi] at h; simp at h
  | some iv =>
    rw [hi] at h
    have hiv := hev _ _ hi
    simp only [Option.bind_some] at h
    split at h
    case h_2 => cases h
    rename_i k i
    generalize hyi : evc ix = yi at hiv
    cases hiv
    split at h
    case h_3 => cases h
    · rename_i hu
      cases hx : plainEv ev x with
      | none => rw [hx] at h; simp at h
      | some v =>
        rw [hx] at h
        simp only [Option.bind_some] at h
        rw [(plainEv_some hx hev).1]
        exact pureVal_out h hrel hrun
    · rename_i n elem hu
      cases hs : szO P elem with
      | none => rw [hs] at h; simp at h
      | some size =>
        rw [hs] at h
        simp only [Option.bind_some] at h
        cases hx : ev x with
        | none => rw [hx] at h; simp at h
        | some v =>
          rw [hx] at h
          have hv := hev _ _ hx
          simp only [Option.bind_some] at h
          split at h
          case h_2 => cases h
          rename_i cs
          split at h
          case isFalse => cases h
          rename_i hin
          obtain ⟨r, hr, rfl⟩ := Option.map_eq_some_iff.1 h
          rw [run_ofVal hrun]
          generalize hy : evc x = y at hv
          cases hv with
          | agg h1 h2 =>
            obtain ⟨v', k1, k2⟩ := part_rel ⟨h1, h2⟩ hr w
            exact out_val hrel (by simp [Instr.index, asIntOf, run_underlying hu, hin, run_sizeOf hs, k1]) k2

theorem extract_ok {ev : Ev} {evc : Operand → Value} {t : Operand} {i : Nat} {p : Prim} {eff : Eff} (h : aExtract ev t i = some p) (hev : EvRel ρ ev evc) (hrel : Rel ρ σ w)
    (hrun : p.run σ nm = some eff) : Out P (do pure (.value (← Instr.extract (evc t) i))) ρ σ w nm eff := by
  unfold aExtract at h
  cases hx : ev t with
  | none => rw [hx] at h; simp at h
  | some v =>
    rw [hx] at h
    have hv := hev _ _ hx
    simp only [Option.bind_some] at h
    split at h
    case h_2 => cases h
    rename_i vs
    obtain ⟨r, hr, rfl⟩ := Option.map_eq_some_iff.1 h
    rw [run_ofVal hrun]
    generalize hy : evc t = y at hv
    cases hv with
    | tuple h1 h2 =>
      obtain ⟨v', k1, k2⟩ := VsRel.get (ρ := ρ) ⟨h1, h2⟩ hr
      exact out_val hrel (by simp [Instr.extract, k1]) k2

/-! ### Slices cut -/

theorem bound_run {ev : Ev} {evc : Operand → Value} (hev : EvRel ρ ev evc) {x : Operand} {d y m : Nat} (h : boundO ev (some x) d y = some m) (y' : Nat) (hy : y ≤ y') (code : BoundsCode) (w : World) :
    (Instr.sliceBound (evc x) y' code).run P w = .ok m w ∧ m ≤ y := by
  simp only [boundO] at h
  cases hx : ev x with
  | none => rw [hx] at h; simp at h
  | some v =>
    rw [hx] at h
    have hv := hev _ _ hx
    simp only [Option.bind_some] at h
    split at h
    case h_2 => cases h
    rename_i k i
    split at h
    case isFalse => cases h
    rename_i hi
    cases h
    generalize hyy : evc x = yy at hv
    cases hv
    have h' : 0 ≤ i ∧ i ≤ (y' : Int) := by omega
    exact ⟨by simp [Instr.sliceBound, asIntOf, h'], by omega⟩

theorem bound_none {ev : Ev} {d y m : Nat} (h : boundO ev none d y = some m) : m = d ∧ d ≤ y := by
  simp only [boundO] at h
  split at h
  · cases h; exact ⟨rfl, by assumption⟩
  · cases h

/-- The three bounds of a slice expression without a third. -/
theorem bounds2 {ev : Ev} {evc : Operand → Value} (hev : EvRel ρ ev evc) {lo hi : Option Operand} {len cap cap' h a : Nat} (is : Bool) (hh : boundO ev hi len cap = some h) (ha : boundO ev lo 0 h = some a) (hcap : cap ≤ cap') (w : World) :
    (Instr.sliceBounds is len cap' (lo.map evc) (hi.map evc) none).run P w = .ok (a, h, cap') w ∧ a ≤ h ∧ h ≤ cap := by
  cases hi with
  | none =>
    obtain ⟨e1, e2⟩ := bound_none hh
    subst e1
    cases lo with
    | none => obtain ⟨e3, e4⟩ := bound_none ha; subst e3; exact ⟨by simp [Instr.sliceBounds], e4, e2⟩
    | some y => have k := fun code => bound_run (P := P) hev ha h (Nat.le_refl _) code w; exact ⟨by simp [Instr.sliceBounds, (k _).1], (k .sliceB).2, e2⟩
  | some x =>
    have q := fun code => bound_run (P := P) hev hh cap' hcap code w
    cases lo with
    | none => obtain ⟨e3, e4⟩ := bound_none ha; subst e3; exact ⟨by simp [Instr.sliceBounds, (q _).1], e4, (q .sliceB).2⟩
    | some y => have k := fun code => bound_run (P := P) hev ha h (Nat.le_refl _) code w; exact ⟨by simp [Instr.sliceBounds, (q _).1, (k _).1], (k .sliceB).2, (q .sliceB).2⟩

/-- The three bounds with a third. -/
theorem bounds3 {ev : Ev} {evc : Operand → Value} (hev : EvRel ρ ev evc) {lo : Option Operand} {hi mx : Operand} {len cap cap' h a m d1 d2 : Nat} (is : Bool) (hm : boundO ev (some mx) d1 cap = some m) (hh : boundO ev (some hi) d2 m = some h) (ha : boundO ev lo 0 h = some a) (hcap : cap ≤ cap') (w : World) :
    (Instr.sliceBounds is len cap' (lo.map evc) (some (evc hi)) (some (evc mx))).run P w = .ok (a, h, m) w ∧ a ≤ h ∧ h ≤ m ∧ m ≤ cap := by
  have h0 := fun code => bound_run (P := P) hev hm cap' hcap code w
  have h1 := fun code => bound_run (P := P) hev hh m (Nat.le_refl _) code w
  cases lo with
  | none => obtain ⟨e3, e4⟩ := bound_none ha; subst e3; exact ⟨by simp [Instr.sliceBounds, (h0 _).1, (h1 _).1], e4, (h1 .index).2, (h0 .index).2⟩
  | some y => have k := fun code => bound_run (P := P) hev ha h (Nat.le_refl _) code w; exact ⟨by simp [Instr.sliceBounds, (h0 _).1, (h1 _).1, (k _).1], (k .index).2, (h1 .index).2, (h0 .index).2⟩

theorem slice_ok {ev : Ev} {evc : Operand → Value} {t : TypeId} {x : Operand} {lo hi mx : Option Operand} {p : Prim} {eff : Eff} (h : aSlice P ev t x lo hi mx = some p) (hev : EvRel ρ ev evc) (hrel : Rel ρ σ w)
    (hrun : p.run σ nm = some eff) : Out P (do pure (.value (← Instr.sliceAt t (evc x) (lo.map evc) (hi.map evc) (mx.map evc)))) ρ σ w nm eff := by
  unfold aSlice at h
  split at h
  case h_4 => cases h
  · -- strings
    rename_i hu
    cases hx : plainEv ev x with
    | none => rw [hx] at h; simp at h
    | some v =>
      rw [hx] at h
      simp only [Option.bind_some] at h
      have e : ∀ a b c, (Instr.sliceAt t (evc x) a b c).run P w = (Instr.slice t v a b c).run P w := by
        intro a b c
        rw [(plainEv_some hx hev).1]
        simp [Instr.sliceAt, run_underlying hu]
      split at h
      · obtain ⟨r, h1, h2, rfl⟩ := pureVal_ok h hrun
        exact out_val hrel (by simp [e, pureRun_run h1]) (plainV_rel ρ h2)
      · rename_i a
        cases ha : plainEv ev a with
        | none => rw [ha] at h; simp at h
        | some av =>
          rw [ha] at h
          simp only [Option.bind_some] at h
          obtain ⟨r, h1, h2, rfl⟩ := pureVal_ok h hrun
          exact out_val hrel (by simp [e, (plainEv_some ha hev).1, pureRun_run h1]) (plainV_rel ρ h2)
      · rename_i b
        cases hb : plainEv ev b with
        | none => rw [hb] at h; simp at h
        | some bv =>
          rw [hb] at h
          simp only [Option.bind_some] at h
          obtain ⟨r, h1, h2, rfl⟩ := pureVal_ok h hrun
          exact out_val hrel (by simp [e, (plainEv_some hb hev).1, pureRun_run h1]) (plainV_rel ρ h2)
      · rename_i a b
        cases ha : plainEv ev a with
        | none => rw [ha] at h; simp at h
        | some av =>
          cases hb : plainEv ev b with
          | none => rw [ha, hb] at h; simp at h
          | some bv =>
            rw [ha, hb] at h
            simp only [Option.bind_some] at h
            obtain ⟨r, h1, h2, rfl⟩ := pureVal_ok h hrun
            exact out_val hrel (by simp [e, (plainEv_some ha hev).1, (plainEv_some hb hev).1, pureRun_run h1]) (plainV_rel ρ h2)
      · cases h
  · -- slices
    rename_i elem hu
    cases hs : szO P elem with
    | none => rw [hs] at h; simp at h
    | some size =>
      rw [hs] at h
      simp only [Option.bind_some] at h
      cases hx : ev x with
      | none => rw [hx] at h; simp at h
      | some v =>
        rw [hx] at h
        have hv := hev _ _ hx
        simp only [Option.bind_some] at h
        generalize hy : evc x = y at hv
        split at h
        case h_4 => cases h
        · -- nil
          cases hv
          cases hm : boundO ev mx 0 0 with
          | none => rw [hm] at h; simp at h
          | some m =>
            rw [hm] at h
            simp only [Option.bind_some] at h
            cases hh : boundO ev hi 0 m with
            | none => rw [hh] at h; simp at h
            | some hb =>
              rw [hh] at h
              simp only [Option.bind_some] at h
              cases ha : boundO ev lo 0 hb with
              | none => rw [ha] at h; simp at h
              | some a =>
                rw [ha] at h
                simp only [Option.bind_some] at h
                split at h
                case isTrue => cases h
                rename_i hcond
                cases h
                rw [run_ofVal hrun]
                cases mx with
                | none =>
                  obtain ⟨e1, _⟩ := bound_none hm
                  subst e1
                  obtain ⟨k1, k2, k3⟩ := bounds2 (P := P) (evc := evc) hev true hh ha (Nat.le_refl 0) w
                  have : a = 0 := by omega
                  have : hb = 0 := by omega
                  subst_vars
                  exact out_val hrel (by simp [Instr.sliceAt, run_underlying hu, Instr.slice, run_sizeOf hs, k1]) (.sliceNil 0 0)
                | some q =>
                  cases hi with
                  | none => simp at hcond
                  | some r =>
                    obtain ⟨k1, k2, k3, k4⟩ := bounds3 (P := P) (evc := evc) (len := 0) hev true hm hh ha (Nat.le_refl 0) w
                    have : a = 0 := by omega
                    have : hb = 0 := by omega
                    have : m = 0 := by omega
                    subst_vars
                    exact out_val hrel (by simp [Instr.sliceAt, run_underlying hu, Instr.slice, run_sizeOf hs, k1]) (.sliceNil 0 0)
        · -- nothing, somewhere
          rename_i l o s0
          obtain ⟨a', rfl⟩ : ∃ a', y = .slice (some a') 0 0 := by cases hv; exact ⟨_, rfl⟩
          cases hm : boundO ev mx 0 0 with
          | none => rw [hm] at h; simp at h
          | some m =>
            rw [hm] at h
            simp only [Option.bind_some] at h
            cases hh : boundO ev hi 0 m with
            | none => rw [hh] at h; simp at h
            | some hb =>
              rw [hh] at h
              simp only [Option.bind_some] at h
              cases ha : boundO ev lo 0 hb with
              | none => rw [ha] at h; simp at h
              | some a =>
                rw [ha] at h
                simp only [Option.bind_some] at h
                split at h
                case isTrue => cases h
                rename_i hcond
                cases h
                rw [run_ofVal hrun]
                cases mx with
                | none =>
                  obtain ⟨e1, _⟩ := bound_none hm
                  subst e1
                  obtain ⟨k1, k2, k3⟩ := bounds2 (P := P) (evc := evc) hev true hh ha (Nat.le_refl 0) w
                  have : a = 0 := by omega
                  have : hb = 0 := by omega
                  subst_vars
                  exact out_val hrel (by simp [Instr.sliceAt, run_underlying hu, Instr.slice, run_sizeOf hs, k1]) (.sliceE (a' := a'))
                | some q =>
                  cases hi with
                  | none => simp at hcond
                  | some r =>
                    obtain ⟨k1, k2, k3, k4⟩ := bounds3 (P := P) (evc := evc) (len := 0) hev true hm hh ha (Nat.le_refl 0) w
                    have : a = 0 := by omega
                    have : hb = 0 := by omega
                    have : m = 0 := by omega
                    subst_vars
                    exact out_val hrel (by simp [Instr.sliceAt, run_underlying hu, Instr.slice, run_sizeOf hs, k1]) (.sliceE (a' := a'))
        · rename_i l o n c
          -- what the concrete slice is
          have hcc : ∃ pl b' c', ρ l = some pl ∧ y = .slice (some ⟨pl.blk, b', none⟩) n c' ∧ c ≤ c' ∧
              ((b' = pl.off + o ∧ (c' = c ∨ (o + c * pl.sz = pl.len ∧ c' = c + pl.ext))) ∨ (n = 0 ∧ c = 0 ∧ c' = 0)) := by
            cases hv with
            | slice hl hc => rename_i c' pl; exact ⟨pl, _, c', hl, rfl, by omega, .inl ⟨rfl, hc⟩⟩
            | slice0 hl => rename_i o' pl; exact ⟨pl, o', 0, hl, rfl, by omega, .inr ⟨rfl, rfl, rfl⟩⟩
          obtain ⟨pl, b', c', hl, rfl, hcle, hcase⟩ := hcc
          split at h
          · -- with a third bound
            rename_i mxo
            cases hm : boundO ev (some mxo) c c with
            | none => rw [hm] at h; simp at h
            | some m =>
              rw [hm] at h
              simp only [Option.bind_some] at h
              cases hi with
              | none => simp at h
              | some hio =>
                simp only [Option.isNone_some, Bool.false_eq_true, if_false] at h
                cases hh : boundO ev (some hio) n m with
                | none => rw [hh] at h; simp at h
                | some hb =>
                  rw [hh] at h
                  simp only [Option.bind_some] at h
                  cases ha : boundO ev lo 0 hb with
                  | none => rw [ha] at h; simp at h
                  | some a =>
                    rw [ha] at h
                    simp only [Option.bind_some] at h
                    cases h
                    rw [run_ofVal hrun]
                    obtain ⟨k1, k2, k3, k4⟩ := bounds3 (P := P) (evc := evc) (len := n) hev true hm hh ha hcle w
                    refine out_val hrel (v' := .slice (if m = a then some ⟨pl.blk, b', none⟩ else some (Addr.add ⟨pl.blk, b', none⟩ (a * size))) (hb - a) (m - a)) ?_ ?_
                    · simp [Instr.sliceAt, run_underlying hu, Instr.slice, run_sizeOf hs, k1]
                    · by_cases e : m = a
                      · have : hb = a := by omega
                        subst e; subst this
                        simp only [if_true, Nat.sub_self]
                        exact .slice0 hl
                      · simp only [if_neg e, Addr.add_lit]
                        rcases hcase with ⟨rfl, _⟩ | ⟨_, hc0, _⟩
                        · rw [Nat.add_assoc]; exact .slice hl (.inl rfl)
                        · omega
          · -- without
            cases hh : boundO ev hi n c with
            | none => rw [hh] at h; simp at h
            | some hb =>
              rw [hh] at h
              simp only [Option.bind_some] at h
              cases ha : boundO ev lo 0 hb with
              | none => rw [ha] at h; simp at h
              | some a =>
                rw [ha] at h
                simp only [Option.bind_some] at h
                obtain ⟨k1, k2, k3⟩ := bounds2 (P := P) (evc := evc) hev true hh ha hcle w
                have hres : (Instr.sliceAt t (.slice (some ⟨pl.blk, b', none⟩) n c') (lo.map evc) (hi.map evc) none).run P w =
                    .ok (.slice (if c' = a then some ⟨pl.blk, b', none⟩ else some (Addr.add ⟨pl.blk, b', none⟩ (a * size))) (hb - a) (c' - a)) w := by
                  simp [Instr.sliceAt, run_underlying hu, Instr.slice, run_sizeOf hs, k1]
                split at h
                · rename_i ha0
                  subst ha0
                  cases h
                  rw [run_ofVal hrun]
                  refine out_val hrel (v' := .slice (some ⟨pl.blk, b', none⟩) hb c') ?_ ?_
                  · simp [hres, Addr.add_lit]
                  · rcases hcase with ⟨rfl, hc⟩ | ⟨hn0, hc0, hc1⟩
                    · exact .slice hl hc
                    · subst hc0; subst hc1
                      have : hb = 0 := by omega
                      subst this
                      exact .slice0 hl
                · rename_i ha0
                  cases h
                  simp only [Prim.run, getAll] at hrun
                  cases hl' : σ.get l with
                  | none => rw [hl'] at hrun; simp at hrun
                  | some ob =>
                    rw [hl'] at hrun
                    simp only [Option.bind_some, Option.map_some] at hrun
                    split at hrun
                    case h_2 => cases hrun
                    rename_i cl sz ro heq
                    simp at heq
                    subst heq
                    split at hrun
                    case isFalse => cases hrun
                    rename_i hszz
                    subst hszz
                    cases hrun
                    obtain ⟨hlen, hsz, _⟩ := cells_of hrel hl' hl
                    refine out_val hrel (v' := .slice (if c' = a then some ⟨pl.blk, b', none⟩ else some (Addr.add ⟨pl.blk, b', none⟩ (a * sz))) (hb - a) (c' - a)) (by simp [hres]) ?_
                    rcases hcase with ⟨rfl, hc⟩ | ⟨hn0, hc0, hc1⟩
                    · by_cases e : c' = a
                      · have e1 : c = a := by omega
                        have e2 : hb = a := by omega
                        subst e2
                        rw [e1, e]
                        simp only [if_true, Nat.sub_self]
                        exact .slice0 hl
                      · simp only [if_neg e, Addr.add_lit]
                        rw [Nat.add_assoc]
                        refine .slice hl ?_
                        rcases hc with rfl | ⟨h1, h2⟩
                        · exact .inl rfl
                        · right
                          refine ⟨?_, by omega⟩
                          rw [hsz] at h1 ⊢
                          rw [← h1, Nat.sub_mul]
                          have : a * sz ≤ c * sz := Nat.mul_le_mul_right _ (by omega)
                          omega
                    · omega
  · -- arrays
    rename_i n elem hu
    cases hs : szO P elem with
    | none => rw [hs] at h; simp at h
    | some size =>
      rw [hs] at h
      simp only [Option.bind_some] at h
      cases hx : ev x with
      | none => rw [hx] at h; simp at h
      | some v =>
        rw [hx] at h
        have hv := hev _ _ hx
        simp only [Option.bind_some] at h
        split at h
        case h_2 => cases h
        rename_i l o
        split at h
        case isTrue => cases h
        rename_i hmx
        have hmx' : mx = none := by cases mx <;> simp_all
        subst hmx'
        cases hh : boundO ev hi n n with
        | none => rw [hh] at h; simp at h
        | some hb =>
          rw [hh] at h
          simp only [Option.bind_some] at h
          cases ha : boundO ev lo 0 hb with
          | none => rw [ha] at h; simp at h
          | some a =>
            rw [ha] at h
            simp only [Option.bind_some] at h
            cases h
            rw [run_ofVal hrun]
            generalize hy : evc x = y at hv
            obtain ⟨k1, k2, k3⟩ := bounds2 (P := P) (evc := evc) hev false hh ha (Nat.le_refl n) w
            cases hv with
            | ptr hl =>
              rename_i pl
              refine out_val hrel (v' := .slice (some (if n = a then ⟨pl.blk, pl.off + o, none⟩ else Addr.add ⟨pl.blk, pl.off + o, none⟩ (a * size))) (hb - a) (n - a)) ?_ ?_
              · simp [Instr.sliceAt, run_underlying hu, Instr.sureAddr, run_sizeOf hs, k1]
              · by_cases e : n = a
                · simp only [if_pos e]; exact .slice hl (.inl rfl)
                · simp only [if_neg e, Addr.add_lit]
                  rw [Nat.add_assoc]
                  exact .slice hl (.inl rfl)

end
end Go.Proofs.YtehmailaabjdjaaGreat
