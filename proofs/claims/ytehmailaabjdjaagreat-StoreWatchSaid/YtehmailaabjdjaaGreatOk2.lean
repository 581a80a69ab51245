/-
  THE OPERATIONS ARE WHAT THE MODEL DOES (second part): new blocks, built values, places, comparisons. No condition.
-/
import Derived.Test.YtehmailaabjdjaaGreatOk1
namespace Go.Proofs.YtehmailaabjdjaaGreat
set_option linter.unusedSimpArgs false
set_option linter.unusedVariables false
section
variable {P : Program} {ρ : LMap} {σ : Heap} {w : World} {nm : Nat}

theorem VRel.undef_ (ρ : LMap) : VRel ρ undef undef := .tuple rfl (fun i v v' h => by simp at h)

/-- A new row of cells. -/
theorem out_cells {s : Sem Next} {v v' : Value} {c : List Value} {sz ext : Nat} {C : Array Value} {T : TypeId} {fz : Nat × Nat} {w' : World} (hrel : Rel ρ σ w) (hnm : ρ nm = none) (hlt : nm < σ.nxt)
    (hrun : s.run P w = .ok (.value v') w') (hs : Same w w') (hh : w'.heap = w.heap.push (.cells C T fz)) (hc : ∀ (i : Nat) (v : Value), c[i]? = some v → ∃ v', C[i]? = some v' ∧ VRel ρ v v')
    (hext : c.length + ext * sz ≤ C.size) (hfz : Thawed C.size fz)
    (hv : ∀ ρ' : LMap, ρ.le ρ' → ρ' nm = some ⟨w.heap.size, 0, ext, sz, c.length⟩ → VRel ρ' v v') : Out P s ρ σ w nm ⟨v, none, some (.cells c sz false)⟩ := by
  have hle := LMap.le_set (l := nm) ⟨w.heap.size, 0, ext, sz, c.length⟩ hnm
  obtain ⟨h1, h2⟩ := step_push hrel hnm hlt (.cells C T fz) (.cells c sz false) ⟨w.heap.size, 0, ext, sz, c.length⟩ rfl hs hh
    ⟨rfl, ⟨rfl, fun _ => rfl⟩, C, T, fz, by rw [hh]; simp, fun i v hi => by obtain ⟨v', a, b⟩ := hc i v hi; exact ⟨v', by simpa using a, b.mono hle⟩, fun _ => ⟨by simpa using hext, hfz⟩⟩
  exact ⟨.value v', v', _, w', hrun, rfl, h1, h2, hv _ hle (LMap.set_same _ _ _), fun l hl => LMap.set_ne _ _ hl⟩

theorem no_fz (n : Nat) : Thawed n (0, 0) := .inl rfl

theorem toArray_toList (a : Array Value) : a.toList.toArray = a := by simp

theorem newVar_ok {s : Sem Next} {v v' : Value} {t : TypeId} (hrel : Rel ρ σ w) (hnm : ρ nm = none) (hlt : nm < σ.nxt) (hv : VRel ρ v v')
    (hrun : s.run P w = .ok (.value (.pointer (some ⟨w.heap.size, 0, none⟩))) { w with heap := w.heap.push (.cells v'.cells t (0, 0)) }) :
    Out P s ρ σ w nm ⟨.pointer (some ⟨nm, 0, none⟩), none, some (.cells v.cells.toList 0 false)⟩ := by
  have hcv := hv.cells
  refine out_cells (ext := 0) hrel hnm hlt hrun ⟨rfl, rfl, rfl⟩ rfl (fun i x hi => ?_) ?_ (no_fz _) (fun ρ' _ h => ?_)
  · obtain ⟨y, h1, h2⟩ := hcv.get hi
    exact ⟨y, by simpa using h1, h2⟩
  · have := hcv.1; simp at this ⊢; omega
  · exact .ptr (p := ⟨w.heap.size, 0, 0, 0, _⟩) h

theorem alloc_ok {t : TypeId} {z : Value} {eff : Eff} (h : zeroP P t = some z) (hrel : Rel ρ σ w) (hnm : ρ nm = none) (hlt : nm < σ.nxt)
    (hrun : (Prim.newCells z.cells.toList 0).run σ nm = some eff) : Out P (do pure (.value (← Instr.alloc t true (.tuple #[])))) ρ σ w nm eff := by
  obtain ⟨hz, hp⟩ := zeroP_some h
  simp [Prim.run, Prim.newCells, getAll] at hrun
  subst hrun
  exact newVar_ok (t := t) hrel hnm hlt (plainV_rel ρ hp) (by simp [Instr.alloc, run_zeroValue hz, newVar, newRow, newObj, Sem.run])

theorem box_ok {ev : Ev} {evc : Operand → Value} {t : TypeId} {x : Operand} {v : Value} {eff : Eff} (h : ev x = some v) (hev : EvRel ρ ev evc) (hrel : Rel ρ σ w) (hnm : ρ nm = none) (hlt : nm < σ.nxt)
    (hrun : (Prim.newCells v.cells.toList 0).run σ nm = some eff) : Out P (do pure (.value (← Instr.box t (evc x)))) ρ σ w nm eff := by
  simp [Prim.run, Prim.newCells, getAll] at hrun
  subst hrun
  exact newVar_ok (t := t) hrel hnm hlt (hev _ _ h) (by simp [Instr.box, newVar, newRow, newObj, Sem.run])

theorem pureVal_ok {s : Sem Value} {p : Prim} {eff : Eff} (h : pureVal P s = some p) (hrun : p.run σ nm = some eff) :
    ∃ v, pureRun P s = some v ∧ plainV v = true ∧ eff = ⟨v, none, none⟩ := by
  unfold pureVal at h
  cases hv : pureRun P s with
  | none => rw [hv] at h; simp at h
  | some v =>
    rw [hv] at h
    simp only [Option.bind_some] at h
    split at h
    case isFalse => cases h
    rename_i hp
    cases h
    exact ⟨v, rfl, hp, run_ofVal hrun⟩

theorem pureVal_out {s : Sem Value} {p : Prim} {eff : Eff} (h : pureVal P s = some p) (hrel : Rel ρ σ w) (hrun : p.run σ nm = some eff) : Out P (do pure (.value (← s))) ρ σ w nm eff := by
  obtain ⟨v, h1, h2, rfl⟩ := pureVal_ok h hrun
  exact out_val hrel (by simp [pureRun_run h1]) (plainV_rel ρ h2)

theorem plainEv_some {ev : Ev} {evc : Operand → Value} {x : Operand} {v : Value} (h : plainEv ev x = some v) (hev : EvRel ρ ev evc) : evc x = v ∧ plainV v = true := by
  unfold plainEv at h
  cases he : ev x with
  | none => rw [he] at h; simp at h
  | some y =>
    rw [he] at h
    simp only [Option.bind_some] at h
    split at h
    case isFalse => cases h
    rename_i hp
    cases h
    exact ⟨plainV_eq hp (hev _ _ he), hp⟩

/-! ### Comparisons -/

theorem equalIn_nil {t : TypeId} {a a' b b' : Value} (h : nilCmp P t a b = true) (ha : VRel ρ a a') (hb : VRel ρ b b') (d : Nat) (w : World) : (Op.equalIn (d + 1) t a' b').run P w = .ok false w := by
  unfold nilCmp at h
  split at h
  case h_1 e hu => cases ha; cases hb; simp [Op.equalIn, run_underlying hu]
  case h_2 e hu => cases hb; cases ha <;> simp [Op.equalIn, run_underlying hu]
  case h_3 e f hu => cases ha; cases hb; simp [Op.equalIn, run_underlying hu]
  case h_4 hu => cases ha; cases hb; simp [Op.equalIn, run_underlying hu]
  case h_5 => cases h

theorem equal_nil {t : TypeId} {a a' b b' : Value} (h : nilCmp P t a b = true) (ha : VRel ρ a a') (hb : VRel ρ b b') (w : World) : (Op.equal t a' b').run P w = .ok false w :=
  equalIn_nil h ha hb 9999 w

theorem eqGuard_nil {t : TypeId} {a a' b b' : Value} {op : BinOp} {x y : Operand} (h : nilCmp P t a b = true) (ha : VRel ρ a a') (w : World) : (eqGuard op t x y a' b').run P w = .ok () w := by
  unfold nilCmp at h
  split at h
  case h_1 => cases ha; cases op <;> rfl
  case h_2 => cases ha <;> cases op <;> rfl
  case h_3 => cases ha; cases op <;> rfl
  case h_4 => cases ha; cases op <;> rfl
  case h_5 => cases h

theorem binOp_nil {t : TypeId} {a a' b b' : Value} (h : nilCmp P t a b = true) (ha : VRel ρ a a') (hb : VRel ρ b b') :
    binOp .eql t a' b' = (do pure (.bool (← Op.equal t a' b'))) ∧ binOp .neq t a' b' = (do pure (.bool (!(← Op.equal t a' b')))) := by
  unfold nilCmp at h
  split at h
  case h_1 => cases ha; cases hb; exact ⟨rfl, rfl⟩
  case h_2 => cases hb; cases ha <;> exact ⟨rfl, rfl⟩
  case h_3 => cases ha; cases hb; exact ⟨rfl, rfl⟩
  case h_4 => cases ha; cases hb; exact ⟨rfl, rfl⟩
  case h_5 => cases h

theorem bin_ok {ev : Ev} {evc : Operand → Value} {op : BinOp} {t : TypeId} {x y : Operand} {p : Prim} {eff : Eff} (h : aBin P ev op t x y = some p) (hev : EvRel ρ ev evc) (hrel : Rel ρ σ w)
    (hrun : p.run σ nm = some eff) : Out P (do let v ← (do eqGuard op t x y (evc x) (evc y); binOp op t (evc x) (evc y)); pure (.value v)) ρ σ w nm eff := by
  unfold aBin at h
  cases hx : ev x with
  | none => rw [hx] at h; simp at h
  | some a =>
    cases hy : ev y with
    | none => rw [hx, hy] at h; simp at h
    | some b =>
      rw [hx, hy] at h
      simp only [Option.bind_some] at h
      have ha := hev _ _ hx
      have hb := hev _ _ hy
      split at h
      · rename_i hp
        simp only [Bool.and_eq_true] at hp
        rw [plainV_eq hp.1 ha, plainV_eq hp.2 hb]
        exact pureVal_out h hrel hrun
      · split at h
        case isFalse => cases h
        rename_i hn
        have he := equal_nil hn ha hb w
        have hg := eqGuard_nil (op := op) (x := x) (y := y) (b' := evc y) hn ha w
        obtain ⟨b1, b2⟩ := binOp_nil hn ha hb
        cases op <;> simp at h
        case eql => subst h; rw [run_ofVal hrun]; exact out_val hrel (by simp [hg, b1, he]) (.bool _)
        case neq => subst h; rw [run_ofVal hrun]; exact out_val hrel (by simp [hg, b2, he]) (.bool _)

/-! ### Built values -/

theorem set_rel {cs cs' : Array Value} {v v' : Value} (h : VsRel ρ cs cs') (hv : VRel ρ v v') (i : Nat) : VsRel ρ (cs.setIfInBounds i v) (cs'.setIfInBounds i v') := by
  refine ⟨by simpa using h.1, fun j x x' h1 h2 => ?_⟩
  rw [Array.getElem?_setIfInBounds] at h1 h2
  split at h1
  · rename_i e
    rw [if_pos e] at h2
    split at h1
    · rename_i hlt
      rw [if_pos (h.1 ▸ hlt)] at h2
      cases h1; cases h2; exact hv
    · cases h1
  · rename_i e
    rw [if_neg e] at h2
    exact h.2 j x x' h1 h2

theorem fold_rel (off : Nat) : ∀ (L L' : List Value) (k : Nat) (cs cs' : Array Value), VlRel ρ L L' → VsRel ρ cs cs' →
    VsRel ρ ((L.zipIdx k).foldl (fun cs (c, j) => cs.setIfInBounds (off + j) c) cs) ((L'.zipIdx k).foldl (fun cs (c, j) => cs.setIfInBounds (off + j) c) cs')
  | [], L', k, cs, cs', h, hc => by rw [h.inv_nil]; exact hc
  | v :: L, L', k, cs, cs', h, hc => by
    obtain ⟨v', L2, rfl, h1, h2⟩ := h.inv_cons
    simp only [List.zipIdx_cons, List.foldl_cons]
    exact fold_rel off L L2 (k + 1) _ _ h2 (set_rel hc h1 _)

theorem fill_rel {ev : Ev} {evc : Operand → Value} (hev : EvRel ρ ev evc) {pl : Nat → Option (Nat × Nat)} : ∀ (parts : List (Nat × Operand)) (ps : List (Nat × Value)) (cs cs' r : Array Value),
    evParts ev parts = some ps → VsRel ρ cs cs' → Instr.fill pl cs ps = some r → ∃ r', Instr.fill pl cs' (parts.map fun (i, x) => (i, evc x)) = some r' ∧ VsRel ρ r r'
  | [], ps, cs, cs', r, hp, hc, hf => by
    simp [evParts] at hp; subst hp
    simp [Instr.fill] at hf; subst hf
    exact ⟨cs', rfl, hc⟩
  | (i, x) :: parts, ps, cs, cs', r, hp, hc, hf => by
    simp only [evParts] at hp
    cases hx : ev x with
    | none => rw [hx] at hp; simp at hp
    | some v =>
      rw [hx] at hp
      simp only [Option.bind_some] at hp
      cases hr : evParts ev parts with
      | none => rw [hr] at hp; simp at hp
      | some rest =>
        rw [hr] at hp
        simp at hp; subst hp
        have hv := (hev _ _ hx).cells
        have hs : (evc x).cells.size = v.cells.size := by have := hv.1; simp at this; omega
        simp only [Instr.fill] at hf
        simp only [List.map_cons, Instr.fill]
        cases hpl : pl i with
        | none => rw [hpl] at hf; simp at hf
        | some q =>
          obtain ⟨off, size⟩ := q
          rw [hpl] at hf
          simp only at hf ⊢
          split at hf
          case isTrue => cases hf
          rename_i hcond
          rw [if_neg (by rw [hs, ← hc.1]; exact hcond)]
          refine fill_rel hev parts rest _ _ r hr ?_ hf
          have := fold_rel off v.cells.toList (evc x).cells.toList 0 cs cs' hv hc
          rw [← Array.foldl_toList, ← Array.foldl_toList, Array.toList_zipIdx, Array.toList_zipIdx]
          exact this

theorem build_ok {ev : Ev} {evc : Operand → Value} {t : TypeId} {parts : Array (Nat × Operand)} {p : Prim} {eff : Eff} (h : aBuild P ev t parts = some p) (hev : EvRel ρ ev evc) (hrel : Rel ρ σ w)
    (hrun : p.run σ nm = some eff) : Out P (do pure (.value (← Instr.build t (parts.map fun (i, x) => (i, evc x))))) ρ σ w nm eff := by
  unfold aBuild at h
  cases hz : zeroP P t with
  | none => rw [hz] at h; simp at h
  | some z =>
    obtain ⟨hz0, hzp⟩ := zeroP_some hz
    cases hpl : placesO P t with
    | none => rw [hz, hpl] at h; simp at h
    | some pl =>
      cases hps : evParts ev parts.toList with
      | none => rw [hz, hpl, hps] at h; simp at h
      | some ps =>
        rw [hz, hpl, hps] at h
        simp only [Option.bind_some] at h
        cases hf : Instr.fill pl z.cells ps with
        | none => rw [hf] at h; simp at h
        | some r =>
          rw [hf] at h
          simp at h; subst h
          rw [run_ofVal hrun]
          have hzr : VsRel ρ z.cells z.cells := by
            have := (plainV_rel ρ hzp).cells
            exact ⟨rfl, fun i v v' h1 h2 => this.2 i v v' (by simpa using h1) (by simpa using h2)⟩
          obtain ⟨r', h1, h2⟩ := fill_rel hev parts.toList ps _ _ r hps hzr hf
          refine out_val hrel (v' := .agg r') ?_ (.agg h2.1 h2.2)
          have hl : (parts.map fun (i, x) => (i, evc x)).toList = parts.toList.map fun (i, x) => (i, evc x) := by simp
          unfold placesO at hpl
          cases hu : P.underlying t with
          | none => rw [hu] at hpl; simp at hpl
          | some d =>
            rw [hu] at hpl
            simp only [Option.bind_some] at hpl
            cases d <;> first | (cases hpl; done) | skip
            case struct fields =>
              obtain ⟨ps', hm, rfl⟩ := Option.map_eq_some_iff.1 hpl
              have hm' := pureRun_run hm w
              simp only [Instr.build, Sem.run_bind, run_zeroValue hz0, Result.andThen_ok, run_underlying hu]
              rw [hm']
              simp only [Result.andThen_ok, hl, h1, Sem.run_pure]
            case array n e =>
              obtain ⟨size, hs, rfl⟩ := Option.map_eq_some_iff.1 hpl
              simp [Instr.build, run_zeroValue hz0, run_underlying hu, run_sizeOf hs, h1]

theorem range_plain {z : Array Value} (hz : plainL plainV z.toList = true) (n : Nat) (hn : 0 < z.size) : VsRel ρ ((Array.range n).map (z[· % z.size]!)) ((Array.range n).map (z[· % z.size]!)) := by
  refine ⟨rfl, fun i v v' h1 h2 => ?_⟩
  rw [h1] at h2; cases h2
  have hi : i < n := by
    rcases Nat.lt_or_ge i n with h | h
    · exact h
    · rw [Array.getElem?_eq_none (by simpa using h)] at h1; cases h1
  simp [hi] at h1
  subst h1
  refine plainV_rel ρ (plainL_get hz (i := i % z.size) ?_)
  simp [Nat.mod_lt _ hn]

end
end Go.Proofs.YtehmailaabjdjaaGreat
