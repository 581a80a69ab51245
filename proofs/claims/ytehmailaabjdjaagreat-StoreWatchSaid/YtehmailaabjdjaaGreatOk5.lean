/-
  THE OPERATIONS ARE WHAT THE MODEL DOES (fifth part): maps, lengths, the library's functions without a body; all together. No condition.
-/
import Derived.Test.YtehmailaabjdjaaGreatOk4
namespace Go.Proofs.YtehmailaabjdjaaGreat
set_option linter.unusedSimpArgs false
set_option linter.unusedVariables false
section
variable {P : Program} {ρ : LMap} {σ : Heap} {w : World} {nm : Nat}

theorem map_of {l : Nat} {es : List MapEntry} {clock : Nat} {p : Pl} (hrel : Rel ρ σ w) (hl : σ.get l = some (.map es clock)) (hp : ρ l = some p) :
    ∃ es', w.heap[p.blk]? = some (.map es' clock) ∧ EsRel ρ es es' := by
  obtain ⟨q, hq, hr⟩ := hrel.dom l _ hl
  rw [hp] at hq; cases hq
  exact hr

theorem run_getObj_map {b : Nat} {es : Array MapEntry} {clock : Nat} (h : w.heap[b]? = some (.map es clock)) : (getObj b).run P w = .ok (.map es clock) w := by
  simp only [getObj, Sem.run, h]

theorem EsRel.get {es : List MapEntry} {es' : Array MapEntry} (h : EsRel ρ es es') {i : Nat} {e : MapEntry} (hi : es[i]? = some e) : ∃ e', es'[i]? = some e' ∧ ERel ρ e e' := by
  have hlt : i < es.length := by
    rcases Nat.lt_or_ge i es.length with h | h
    · exact h
    · rw [List.getElem?_eq_none h] at hi; cases hi
  have h2 : es'[i]? = some (es'[i]'(h.1 ▸ hlt)) := Array.getElem?_eq_getElem _
  exact ⟨_, h2, h.2 i _ _ hi h2⟩

def EslRel (ρ : LMap) (es es' : List MapEntry) : Prop := es.length = es'.length ∧ ∀ (i : Nat) (e e' : MapEntry), es[i]? = some e → es'[i]? = some e' → ERel ρ e e'

theorem EsRel.toList {es : List MapEntry} {es' : Array MapEntry} (h : EsRel ρ es es') : EslRel ρ es es'.toList := ⟨by simpa using h.1, fun i e e' h1 h2 => h.2 i e e' h1 (by simpa using h2)⟩
theorem EslRel.ofList {es : List MapEntry} {es' : Array MapEntry} (h : EslRel ρ es es'.toList) : EsRel ρ es es' := ⟨by simpa using h.1, fun i e e' h1 h2 => h.2 i e e' h1 (by simpa using h2)⟩
theorem EslRel.inv_cons {e : MapEntry} {a b : List MapEntry} (h : EslRel ρ (e :: a) b) : ∃ e' a', b = e' :: a' ∧ ERel ρ e e' ∧ EslRel ρ a a' := by
  cases b with
  | nil => have := h.1; simp at this
  | cons e' a' => exact ⟨e', a', rfl, h.2 0 e e' rfl rfl, by have := h.1; simpa using this, fun i x x' h1 h2 => h.2 (i + 1) x x' (by simpa using h1) (by simpa using h2)⟩

/-- What a search finds, alike. -/
def FindRel (ρ : LMap) : Option (Nat × Value) → Option (Nat × Value) → Prop
  | none, none => True
  | some (i, v), some (i', v') => i' = i ∧ VRel ρ v v'
  | _, _ => False

theorem findNow_rel {d : TypeDesc} {k : Value} : ∀ (es es' : List MapEntry) (i : Nat) (r : Option (Nat × Value)), EslRel ρ es es' → Instr.findNow d k es i = some r →
    ∃ r', Instr.findNow d k es' i = some r' ∧ FindRel ρ r r'
  | [], es', i, r, h, hf => by
    have : es' = [] := by have := h.1; simpa using this.symm
    subst this
    simp [Instr.findNow] at hf; subst hf
    exact ⟨none, rfl, trivial⟩
  | e :: es, es', i, r, h, hf => by
    obtain ⟨e', es2, rfl, ⟨h1, h2, h3, h4⟩, ht⟩ := h.inv_cons
    simp only [Instr.findNow] at hf ⊢
    rw [h1]
    split at hf
    · cases hf; exact ⟨_, rfl, rfl, h3⟩
    · exact findNow_rel es es2 (i + 1) r ht hf
    · cases hf

theorem findNow_key {d : TypeDesc} {k : Value} : ∀ (es : List MapEntry) (i j : Nat) (v : Value), Instr.findNow d k es i = some (some (j, v)) →
    ∃ e, i ≤ j ∧ es[j - i]? = some e ∧ Instr.sameNow d k e.key = some true ∧ e.val = v
  | [], i, j, v, h => by simp [Instr.findNow] at h
  | e :: es, i, j, v, h => by
    simp only [Instr.findNow] at h
    split at h
    · rename_i hs
      simp only [Option.some.injEq, Prod.mk.injEq] at h
      obtain ⟨rfl, rfl⟩ := h
      exact ⟨e, Nat.le_refl _, by simp, hs, rfl⟩
    · obtain ⟨e', h1, h2, h3, h4⟩ := findNow_key es (i + 1) j v h
      refine ⟨e', by omega, ?_, h3, h4⟩
      obtain ⟨m, hm⟩ : ∃ m, j - i = m + 1 := ⟨j - i - 1, by omega⟩
      rw [hm, List.getElem?_cons_succ, ← h2]
      congr 1; omega
    · cases h

theorem keyKind_some {kt : TypeId} {k : Value} {d : TypeDesc} (h : keyKind P kt k = some d) : P.underlying kt = some d ∧ ((d = .string ∧ ∃ s, k = .string s) ∨ (∃ q, d = .int q ∧ ∃ q' n, k = .int q' n)) := by
  unfold keyKind at h
  cases hu : P.underlying kt with
  | none => rw [hu] at h; simp at h
  | some d' =>
    rw [hu] at h
    simp only [Option.bind_some] at h
    split at h
    · cases h; exact ⟨rfl, .inl ⟨rfl, _, rfl⟩⟩
    · cases h; exact ⟨rfl, .inr ⟨_, rfl, _, _, rfl⟩⟩
    · cases h

theorem bytes_beq' (a b : ByteArray) : (a == b) = true ↔ a = b := by
  obtain ⟨a⟩ := a
  obtain ⟨b⟩ := b
  show (a == b) = true ↔ _
  rw [beq_iff_eq]
  exact ⟨fun h => by rw [h], fun h => by cases h; rfl⟩

theorem sameNow_eq {d : TypeDesc} {k k' : Value} {kt : TypeId} (h : keyKind P kt k = some d) (hs : Instr.sameNow d k k' = some true) : k' = k ∧ Instr.sameBits 10000 k k = true := by
  obtain ⟨_, ⟨rfl, s, rfl⟩ | ⟨q, rfl, q', n, rfl⟩⟩ := keyKind_some h
  · cases k' <;> simp [Instr.sameNow] at hs
    have hs := (bytes_beq' _ _).1 hs
    subst hs; exact ⟨rfl, by simp only [Instr.sameBits]; exact (bytes_beq' _ _).2 rfl⟩
  · cases k' <;> simp [Instr.sameNow] at hs
    obtain ⟨rfl, rfl⟩ := hs; simp [Instr.sameBits]

theorem run_checkKey_d {kt : TypeId} {k : Value} {d : TypeDesc} (h : keyKind P kt k = some d) (b : Bool) (n : Nat) (w : World) : (Instr.checkKey b (n + 1) kt k).run P w = .ok () w := by
  obtain ⟨hu, ⟨rfl, s, rfl⟩ | ⟨q, rfl, q', m, rfl⟩⟩ := keyKind_some h
  · simp [Instr.checkKey, run_underlying hu]
  · simp [Instr.checkKey, run_underlying hu]
theorem run_checkKey {kt : TypeId} {k : Value} {d : TypeDesc} (h : keyKind P kt k = some d) (b : Bool) (w : World) : (Instr.checkKey b 10000 kt k).run P w = .ok () w := run_checkKey_d h b 9999 w

theorem run_findKey {kt : TypeId} {k : Value} {d : TypeDesc} {es : List MapEntry} {r : Option (Nat × Value)} (h : keyKind P kt k = some d) (hf : Instr.findNow d k es 0 = some r) (w : World) : (Instr.findKey kt k es).run P w = .ok r w := by
  obtain ⟨hu, _⟩ := keyKind_some h
  simp [Instr.findKey, run_underlying hu, hf]

theorem lookupVal_rel {r r' : Option (Nat × Value)} {z : Value} {ok : Bool} (h : FindRel ρ r r') (hz : plainV z = true) : VRel ρ (lookupVal r z ok) (lookupVal r' z ok) := by
  have two : ∀ {a b c d : Value}, VRel ρ a c → VRel ρ b d → VRel ρ (.tuple #[a, b]) (.tuple #[c, d]) := by
    intro a b c d h1 h2
    have := VlRel.toArray (VlRel.cons h1 (VlRel.cons h2 (VlRel.nil ρ)))
    exact .tuple this.1 this.2
  cases r with
  | none =>
    cases r' with
    | none => cases ok <;> simp only [lookupVal] <;> first | exact two (plainV_rel ρ hz) (.bool _) | exact plainV_rel ρ hz
    | some q => exact h.elim
  | some q =>
    cases r' with
    | none => exact h.elim
    | some q' =>
      obtain ⟨i, v⟩ := q
      obtain ⟨i', v'⟩ := q'
      cases ok <;> simp only [lookupVal] <;> first | exact two h.2 (.bool _) | exact h.2

theorem lookup_ok {ev : Ev} {evc : Operand → Value} {t : TypeId} {x ix : Operand} {ok : Bool} {p : Prim} {eff : Eff} (h : aLookup P ev t x ix ok = some p) (hev : EvRel ρ ev evc) (hrel : Rel ρ σ w)
    (hrun : p.run σ nm = some eff) : Out P (do pure (.value (← Instr.lookup t (evc x) (evc ix) ok))) ρ σ w nm eff := by
  unfold aLookup at h
  split at h
  case h_2 => cases h
  rename_i kt et hu
  cases hk : plainEv ev ix with
  | none => rw [hk] at h; simp at h
  | some k =>
    cases hd : keyKind P kt k with
    | none => rw [hk] at h; simp [hd] at h
    | some d =>
      cases hz : zeroP P et with
      | none => rw [hk] at h; simp [hz] at h
      | some z =>
        obtain ⟨hz0, hzp⟩ := zeroP_some hz
        rw [hk] at h
        simp only [Option.bind_some, hd, hz] at h
        obtain ⟨hkc, hkp⟩ := plainEv_some hk hev
        cases hx : ev x with
        | none => rw [hx] at h; simp at h
        | some v =>
          rw [hx] at h
          have hv := hev _ _ hx
          simp only [Option.bind_some] at h
          generalize hy : evc x = y at hv
          split at h
          case h_3 => cases h
          · cases h
            rw [run_ofVal hrun]
            cases hv
            refine out_val hrel (v' := lookupVal none z ok) ?_ (lookupVal_rel trivial hzp)
            have hf : Instr.findNow d k [] 0 = some none := rfl
            cases ok <;> simp [Instr.lookup, run_underlying hu, hkc, run_checkKey hd, run_findKey hd hf, run_zeroValue hz0, lookupVal]
          · rename_i m
            cases h
            simp only [Prim.run, getAll] at hrun
            cases hl : σ.get m with
            | none => rw [hl] at hrun; simp at hrun
            | some ob =>
              rw [hl] at hrun
              simp only [Option.bind_some, Option.map_some] at hrun
              split at hrun
              case h_2 => cases hrun
              rename_i es clock heq
              simp at heq; subst heq
              obtain ⟨r, hf, rfl⟩ := Option.map_eq_some_iff.1 hrun
              cases hv with
              | map hpl =>
                rename_i pl
                obtain ⟨es', hh, hes⟩ := map_of hrel hl hpl
                obtain ⟨r', hf', hfr⟩ := findNow_rel _ _ 0 r hes.toList hf
                refine out_val hrel (v' := lookupVal r' z ok) ?_ (lookupVal_rel hfr hzp)
                cases r' with
                | none => cases ok <;> simp [Instr.lookup, run_underlying hu, hkc, run_getObj_map hh, run_checkKey hd, run_findKey hd hf', run_zeroValue hz0, lookupVal]
                | some q => cases ok <;> simp [Instr.lookup, run_underlying hu, hkc, run_getObj_map hh, run_checkKey hd, run_findKey hd hf', lookupVal]

/-- A map written. -/
theorem map_write {m : Nat} {es es2 : List MapEntry} {clk clk2 : Nat} {pl : Pl} {es' es2' : Array MapEntry} (hrel : Rel ρ σ w) (hm : σ.get m = some (.map es clk)) (hpl : ρ m = some pl)
    (hh : w.heap[pl.blk]? = some (.map es' clk)) (hr : EsRel ρ es2 es2') :
    ∃ w', (setObj pl.blk (.map es2' clk2)).run P w = .ok () w' ∧ Rel ρ (σ.upd m (some (.map es2 clk2))) w' ∧ Frm ρ σ w ρ (σ.upd m (some (.map es2 clk2))) w' := by
  refine ⟨{ w with heap := w.heap.setIfInBounds pl.blk (.map es2' clk2) }, by simp only [setObj, Sem.run, hh], ?_⟩
  have hlt := (hrel.bnd _ _ hpl).2
  refine step_write hrel hm rfl hpl ⟨rfl, rfl, rfl⟩ (by simp) (fun b hb => ?_) rfl ⟨es2', ?_, hr⟩
  · simp only [Array.getElem?_setIfInBounds]; rw [if_neg (fun e => hb e.symm)]
  · simp [hlt]

theorem EsRel.modify {es : List MapEntry} {es' : Array MapEntry} (h : EsRel ρ es es') (i : Nat) {f f' : MapEntry → MapEntry} (hf : ∀ e e', ERel ρ e e' → ERel ρ (f e) (f' e')) : EsRel ρ (es.modify i f) (es'.modify i f') := by
  refine ⟨by simpa using h.1, fun j e e' h1 h2 => ?_⟩
  rw [List.getElem?_modify] at h1
  rw [Array.getElem?_modify] at h2
  by_cases e1 : i = j
  · rw [if_pos e1] at h2
    simp only [e1, if_true] at h1
    obtain ⟨a, ha, rfl⟩ := Option.map_eq_some_iff.1 h1
    obtain ⟨b, hb, rfl⟩ := Option.map_eq_some_iff.1 h2
    exact hf _ _ (h.2 j a b ha hb)
  · rw [if_neg e1] at h2
    simp only [e1, if_false] at h1
    simp at h1
    exact h.2 j e e' h1 h2

theorem EsRel.push {es : List MapEntry} {es' : Array MapEntry} (h : EsRel ρ es es') {e e' : MapEntry} (he : ERel ρ e e') : EsRel ρ (es ++ [e]) (es'.push e') := by
  refine ⟨by simp [h.1], fun j x x' h1 h2 => ?_⟩
  rw [Array.getElem?_push] at h2
  by_cases e1 : j = es'.size
  · rw [if_pos e1] at h2; cases h2
    rw [List.getElem?_append_right (by rw [h.1]; omega)] at h1
    have : j - es.length = 0 := by rw [h.1]; omega
    rw [this] at h1; cases h1; exact he
  · rw [if_neg e1] at h2
    have hlt : j < es'.size := by
      rcases Nat.lt_or_ge j es'.size with h | h
      · exact h
      · rw [Array.getElem?_eq_none h] at h2; cases h2
    rw [List.getElem?_append_left (by rw [h.1]; exact hlt)] at h1
    exact h.2 j x x' h1 h2

theorem EsRel.erase {es : List MapEntry} {es' : Array MapEntry} (h : EsRel ρ es es') (i : Nat) (hi : i < es.length) : EsRel ρ (es.eraseIdx i) (es'.eraseIdxIfInBounds i) := by
  have hi' : i < es'.size := h.1 ▸ hi
  apply EslRel.ofList
  have e : (es'.eraseIdxIfInBounds i).toList = es'.toList.eraseIdx i := by
    simp [Array.eraseIdxIfInBounds, hi']
  rw [e]
  have hl := h.toList
  refine ⟨by rw [List.length_eraseIdx, List.length_eraseIdx, hl.1], fun j x x' h1 h2 => ?_⟩
  rw [List.getElem?_eraseIdx] at h1 h2
  by_cases e1 : j < i
  · rw [if_pos e1] at h1 h2; exact hl.2 _ _ _ h1 h2
  · rw [if_neg e1] at h1 h2; exact hl.2 _ _ _ h1 h2

theorem mapUpdate_ok {ev : Ev} {evc : Operand → Value} {t : TypeId} {m key x : Operand} {p : Prim} {eff : Eff} (h : aMapUpdate P ev t m key x = some p) (hev : EvRel ρ ev evc) (hrel : Rel ρ σ w)
    (hrun : p.run σ nm = some eff) : Out P (do Instr.mapUpdate t (evc m) (evc key) (evc x); pure .skip) ρ σ w nm eff := by
  unfold aMapUpdate at h
  split at h
  case h_2 => cases h
  rename_i kt et hu
  cases hk : plainEv ev key with
  | none => rw [hk] at h; simp at h
  | some k =>
    cases hd : keyKind P kt k with
    | none => rw [hk] at h; simp [hd] at h
    | some d =>
      rw [hk] at h
      simp only [Option.bind_some, hd] at h
      obtain ⟨hkc, hkp⟩ := plainEv_some hk hev
      cases hx : ev x with
      | none => rw [hx] at h; simp at h
      | some v =>
        rw [hx] at h
        have hv := hev _ _ hx
        simp only [Option.bind_some] at h
        cases hm : ev m with
        | none => rw [hm] at h; simp at h
        | some mv =>
          rw [hm] at h
          have hmv := hev _ _ hm
          simp only [Option.bind_some] at h
          generalize hy : evc m = y at hmv
          split at h
          case h_2 => cases h
          rename_i ml
          cases h
          simp only [Prim.run, getAll] at hrun
          cases hl : σ.get ml with
          | none => rw [hl] at hrun; simp at hrun
          | some ob =>
            rw [hl] at hrun
            simp only [Option.bind_some, Option.map_some] at hrun
            split at hrun
            case h_2 => cases hrun
            rename_i es clock heq
            simp at heq; subst heq
            obtain ⟨r, hf, hr⟩ := Option.map_eq_some_iff.1 hrun
            cases hmv with
            | map hpl =>
              rename_i pl
              obtain ⟨es', hh, hes⟩ := map_of hrel hl hpl
              obtain ⟨r', hf', hfr⟩ := findNow_rel _ _ 0 r hes.toList hf
              cases r with
              | none =>
                cases r' with
                | some q => exact hfr.elim
                | none =>
                  simp only at hr
                  subst hr
                  obtain ⟨w', k1, k2, k3⟩ := map_write (P := P) (clk2 := clock + 1) hrel hl hpl hh (hes.push (e := { key := k, val := v, born := clock }) (e' := { key := k, val := evc x, born := clock }) ⟨rfl, hkp, hv, rfl⟩)
                  exact ⟨.skip, undef, ρ, w', by simp [Instr.mapUpdate, run_underlying hu, hkc, run_getObj_map hh, run_checkKey hd, run_findKey hd hf', k1], rfl, k2, k3, VRel.undef_ ρ, fun _ _ => rfl⟩
              | some q =>
                obtain ⟨i, v0⟩ := q
                cases r' with
                | none => exact hfr.elim
                | some q' =>
                  obtain ⟨i', v0'⟩ := q'
                  obtain ⟨rfl, _⟩ := hfr
                  simp only at hr
                  subst hr
                  obtain ⟨e, h1, h2, h3, _⟩ := findNow_key _ _ _ _ hf'
                  obtain ⟨hke, hsb⟩ := sameNow_eq hd h3
                  simp only [Nat.sub_zero, Array.getElem?_toList] at h2
                  obtain ⟨w', k1, k2, k3⟩ := map_write (P := P) (clk2 := clock) hrel hl hpl hh (hes.modify i' (f := fun e => { e with key := k, val := v }) (f' := fun e => { e with key := k, val := evc x }) (fun a b ⟨q1, q2, q3, q4⟩ => ⟨rfl, hkp, hv, q4⟩))
                  refine ⟨.skip, undef, ρ, w', ?_, rfl, k2, k3, VRel.undef_ ρ, fun _ _ => rfl⟩
                  simp [Instr.mapUpdate, run_underlying hu, hkc, run_getObj_map hh, run_checkKey hd, run_findKey hd hf', h2, hke, Instr.keyThatStays, hsb, k1]

theorem delete_ok {t ty t2 : TypeId} {m k m' k' : Value} {p : Prim} {eff : Eff} (h : aDelete P t m k = some p) (hm : VRel ρ m m') (hk : VRel ρ k k') (hrel : Rel ρ σ w)
    (hrun : p.run σ nm = some eff) : Out P (do pure (.value (← Builtin.delete_ #[t, t2] ty #[m', k']))) ρ σ w nm eff := by
  unfold aDelete at h
  split at h
  case h_2 => cases h
  rename_i kt et hu
  split at h
  case isFalse => cases h
  rename_i hkp
  rw [plainV_eq hkp hk]
  cases hd : keyKind P kt k with
  | none => rw [hd] at h; simp at h
  | some d =>
    rw [hd] at h
    simp only [Option.bind_some] at h
    have htup : VRel ρ (.tuple #[]) (.tuple #[]) := VRel.undef_ ρ
    split at h
    case h_3 => cases h
    · cases h
      rw [run_ofVal hrun]
      cases hm
      exact out_val hrel (by simp [Builtin.delete_, run_underlying hu, run_checkKey hd]) htup
    · rename_i ml
      cases h
      simp only [Prim.run, getAll] at hrun
      cases hl : σ.get ml with
      | none => rw [hl] at hrun; simp at hrun
      | some ob =>
        rw [hl] at hrun
        simp only [Option.bind_some, Option.map_some] at hrun
        split at hrun
        case h_2 => cases hrun
        rename_i es clock heq
        simp at heq; subst heq
        obtain ⟨r, hf, hr⟩ := Option.map_eq_some_iff.1 hrun
        cases hm with
        | map hpl =>
          rename_i pl
          obtain ⟨es', hh, hes⟩ := map_of hrel hl hpl
          obtain ⟨r', hf', hfr⟩ := findNow_rel _ _ 0 r hes.toList hf
          cases r with
          | none =>
            cases r' with
            | some q => exact hfr.elim
            | none =>
              simp only at hr
              subst hr
              obtain ⟨w', k1, k2, k3⟩ := map_write (P := P) (clk2 := clock) hrel hl hpl hh hes
              exact ⟨.value (.tuple #[]), .tuple #[], ρ, w', by simp [Builtin.delete_, run_underlying hu, run_getObj_map hh, run_checkKey hd, run_findKey hd hf', k1], rfl, k2, k3, htup, fun _ _ => rfl⟩
          | some q =>
            obtain ⟨i, v0⟩ := q
            cases r' with
            | none => exact hfr.elim
            | some q' =>
              obtain ⟨i', v0'⟩ := q'
              obtain ⟨rfl, _⟩ := hfr
              simp only at hr
              subst hr
              obtain ⟨e, h1, h2, h3, _⟩ := findNow_key _ _ _ _ hf
              simp only [Nat.sub_zero] at h2
              have hil : i' < es.length := by
                rcases Nat.lt_or_ge i' es.length with h | h
                · exact h
                · rw [List.getElem?_eq_none h] at h2; cases h2
              obtain ⟨w', k1, k2, k3⟩ := map_write (P := P) (clk2 := clock) hrel hl hpl hh (hes.erase i' hil)
              exact ⟨.value (.tuple #[]), .tuple #[], ρ, w', by simp [Builtin.delete_, run_underlying hu, run_getObj_map hh, run_checkKey hd, run_findKey hd hf', k1], rfl, k2, k3, htup, fun _ _ => rfl⟩

theorem len_ok {t ty : TypeId} {x x' : Value} {p : Prim} {eff : Eff} (h : aLen P t x = some p) (hx : VRel ρ x x') (hrel : Rel ρ σ w)
    (hrun : p.run σ nm = some eff) : Out P (do pure (.value (← Builtin.len_ #[t] ty #[x']))) ρ σ w nm eff := by
  unfold aLen at h
  split at h
  · rename_i s hu
    cases h; rw [run_ofVal hrun]; cases hx
    exact out_val hrel (by simp [Builtin.len_, run_underlying hu, goInt]) (.int _ _)
  · rename_i n e hu
    cases h; rw [run_ofVal hrun]
    refine out_val hrel (v' := .int .i64 n) ?_ (.int _ _)
    cases x' <;> simp [Builtin.len_, run_underlying hu, goInt]
  · rename_i e a n c hu
    cases h; rw [run_ofVal hrun]
    cases hx <;> exact out_val hrel (by simp [Builtin.len_, run_underlying hu, goInt]) (.int _ _)
  · rename_i k e hu
    cases h; rw [run_ofVal hrun]; cases hx
    exact out_val hrel (by simp [Builtin.len_, run_underlying hu, goInt]) (.int _ _)
  · rename_i k e m hu
    cases h
    simp only [Prim.run, getAll] at hrun
    cases hl : σ.get m with
    | none => rw [hl] at hrun; simp at hrun
    | some ob =>
      rw [hl] at hrun
      simp only [Option.bind_some, Option.map_some] at hrun
      split at hrun
      case h_2 => cases hrun
      rename_i es clock heq
      simp at heq; subst heq
      cases hrun
      cases hx with
      | map hpl =>
        obtain ⟨es', hh, hes⟩ := map_of hrel hl hpl
        exact out_val hrel (by simp [Builtin.len_, run_underlying hu, run_getObj_map hh, goInt, hes.1] <;> rfl) (.int _ _)
  · cases h

end
end Go.Proofs.YtehmailaabjdjaaGreat
