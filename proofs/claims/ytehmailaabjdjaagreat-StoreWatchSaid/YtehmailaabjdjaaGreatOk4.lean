/-
  THE OPERATIONS ARE WHAT THE MODEL DOES (fourth part): append, clear, conversions of strings. No condition.
-/
import Derived.Test.YtehmailaabjdjaaGreatOk3
import Derived.Laws.IdiomStrings
namespace Go.Proofs.YtehmailaabjdjaaGreat
set_option linter.unusedSimpArgs false
set_option linter.unusedVariables false
section
variable {P : Program} {ρ : LMap} {σ : Heap} {w : World} {nm : Nat}

theorem u8_cells (l : List UInt8) : plainL plainV (l.map fun b => Value.int .u8 b.toNat) = true := by
  induction l with
  | nil => rfl
  | cons b l ih => simp only [List.map_cons, plainL, ih, Bool.and_true]; rfl

theorem grownCap_le (w : World) (need old : Nat) (e : TypeId) : need ≤ grownCap w need old e := by simp [grownCap, Question.cut]

theorem bytesOf_run : ∀ (c : List Value) (acc s : ByteArray), bytesOf c acc = some s → ∃ ns : List Int, c = ns.map (Value.int .u8) ∧ s = ns.foldl (fun r n => r.push (UInt8.ofNat n.toNat)) acc
  | [], acc, s, h => by simp [bytesOf] at h; exact ⟨[], rfl, h.symm⟩
  | v :: c, acc, s, h => by
    unfold bytesOf at h
    split at h
    · rename_i heq; cases heq
    · rename_i acc1 n r heq
      cases heq
      obtain ⟨ns, h1, h2⟩ := bytesOf_run _ _ _ h
      exact ⟨n :: ns, by simp [h1], by simpa using h2⟩
    · cases h

theorem ints_rel : ∀ (ns : List Int) (c : List Value), VlRel ρ (ns.map (Value.int .u8)) c → c = ns.map (Value.int .u8)
  | [], c, h => h.inv_nil
  | n :: ns, c, h => by
    obtain ⟨v', c', rfl, h1, h2⟩ := h.inv_cons
    cases h1
    rw [ints_rel ns c' h2]; rfl

/-- A row's mark, one place behind its last cell. -/
theorem mark_ok {l : Nat} {cl : List Value} {sz : Nat} {pl : Pl} {src e : TypeId} {o n c : Nat} (hrel : Rel ρ σ w) (hl : σ.get l = some (.cells cl sz false)) (hpl : ρ l = some pl) (hs : P.underlying src = some (.slice e)) (he : P.underlying e = some (.int .u8)) :
    ∃ w', (convert src src (.slice (some ⟨pl.blk, o, none⟩) n c)).run P w = .ok (.slice (some ⟨pl.blk, o, none⟩) n c) w' ∧ Rel ρ (σ.upd l (some (.cells cl sz false))) w' ∧ Frm ρ σ w ρ (σ.upd l (some (.cells cl sz false))) w' := by
  obtain ⟨hlen, hsz, C, T, fz, hh, hcell, hown⟩ := cells_of hrel hl hpl
  obtain ⟨hroom, hfz⟩ := hown rfl
  have hsh : w.shape? pl.blk = some (T, C.size) := by simp [World.shape?, hh]
  refine ⟨w.freeze ⟨pl.blk, C.size, none⟩ 1, ?_, ?_⟩
  · simp [convert, run_underlying hs, run_underlying he, markStringish, hsh]
  · have hb : (w.freeze ⟨pl.blk, C.size, none⟩ 1).heap[pl.blk]? = some (.cells C T (if fz.1 == fz.2 then (C.size, C.size + 1) else (min fz.1 C.size, max fz.2 (C.size + 1)))) := by
      simp [World.freeze, Array.getElem?_modify, hh]
    refine step_write hrel hl rfl hpl ⟨by simp [World.freeze], by simp [World.freeze], by simp [World.freeze]⟩ (by simp [World.freeze]) (fun b hne => ?_) rfl ⟨hlen, szd_of hrel hl hpl, C, T, _, hb, hcell, fun _ => ⟨hroom, ?_⟩⟩
    · simp only [World.freeze, Nat.one_ne_zero, if_false, Array.getElem?_modify]
      rw [if_neg (fun e => hne e.symm)]
    · right
      split
      · exact Nat.le_refl _
      · rename_i hne
        rcases hfz with h | h
        · simp [h] at hne
        · simp only; omega

theorem convert_ok {ev : Ev} {evc : Operand → Value} {src dst : TypeId} {x : Operand} {p : Prim} {eff : Eff} (h : aConvert P ev src dst x = some p) (hev : EvRel ρ ev evc) (hrel : Rel ρ σ w) (hnm : ρ nm = none) (hlt : nm < σ.nxt)
    (hrun : p.run σ nm = some eff) : Out P (do pure (.value (← convert src dst (evc x)))) ρ σ w nm eff := by
  unfold aConvert at h
  cases hx : ev x with
  | none => rw [hx] at h; simp at h
  | some v =>
    rw [hx] at h
    have hv := hev _ _ hx
    simp only [Option.bind_some] at h
    split at h
    · rename_i e s hs hd
      split at h
      case h_2 => cases h
      rename_i he
      cases h
      simp only [Prim.run, Prim.newSlice, getAll, Option.bind_some, Option.some.injEq] at hrun
      subst hrun
      generalize hy : evc x = y at hv
      cases hv
      have hcap := grownCap_le w s.size 0 e
      obtain ⟨ext, hext⟩ : ∃ ext, grownCap w s.size 0 e = s.size + ext := ⟨_, (Nat.add_sub_cancel' hcap).symm⟩
      have hr := run_bytes_of_string w src dst e s hs hd he
      have hsz : (bytesRow s (grownCap w s.size 0 e)).size = s.size + ext := by rw [hext]; simp [bytesRow]
      refine newSlice_ok (ext := ext) (n := s.size) (w' := w.drew.alloc (.cells (bytesRow s (grownCap w s.size 0 e)) e ((bytesRow s (grownCap w s.size 0 e)).size, (bytesRow s (grownCap w s.size 0 e)).size + 1))) hrel hnm hlt (by simp only [Sem.run_bind, hr, Result.andThen_ok, Sem.run_pure, hext]) ⟨rfl, rfl, rfl⟩ rfl ?_ (by simp) ?_ ?_
      · intro i v hi
        have hlt : i < s.data.toList.length := by
          rcases Nat.lt_or_ge i s.data.toList.length with h | h
          · exact h
          · rw [List.getElem?_eq_none (by simpa using h)] at hi; cases hi
        refine ⟨v, ?_, plainV_rel ρ (plainL_get (u8_cells s.data.toList) hi)⟩
        simp only [bytesRow]
        rw [Array.getElem?_append_left (by simpa using hlt), Array.getElem?_map]
        rw [List.getElem?_map] at hi
        simpa using hi
      · rw [hsz]; simp
      · exact .inr (Nat.le_refl _)
    · rename_i e n c hs hd
      split at h
      case h_2 => cases h
      rename_i he
      cases h
      rw [run_ofVal hrun]
      generalize hy : evc x = y at hv
      cases hv
      exact out_val hrel (by simp [run_convert_bytes_string w src dst e none n c hs he hd, Conv.bytesToString]) (.string _)
    · rename_i e l o s0 c hs hd
      split at h
      case h_2 => cases h
      rename_i he
      cases h
      rw [run_ofVal hrun]
      generalize hy : evc x = y at hv
      cases hv
      exact out_val hrel (by simp [run_convert_bytes_string w src dst e _ 0 _ hs he hd, Conv.bytesToString, loadCells, loadCellsFrom]) (.string _)
    · rename_i e l o n c hs hd
      split at h
      case h_2 => cases h
      rename_i he
      by_cases hn0 : n = 0
      · subst hn0
        rw [if_pos rfl] at h
        cases h
        rw [run_ofVal hrun]
        generalize hy : evc x = y at hv
        cases hv with
        | slice hpl hc =>
          exact out_val hrel (by simp [run_convert_bytes_string w src dst e _ 0 _ hs he hd, Conv.bytesToString, loadCells, loadCellsFrom]) (.string _)
        | slice0 hpl =>
          exact out_val hrel (by simp [run_convert_bytes_string w src dst e _ 0 0 hs he hd, Conv.bytesToString, loadCells, loadCellsFrom]) (.string _)
      rw [if_neg hn0] at h
      cases h
      simp only [Prim.run, getAll] at hrun
      cases hl : σ.get l with
      | none => rw [hl] at hrun; simp at hrun
      | some ob =>
        rw [hl] at hrun
        simp only [Option.bind_some, Option.map_some] at hrun
        split at hrun
        case h_2 => cases hrun
        rename_i cl sz ro heq
        simp at heq
        subst heq
        split at hrun
        case isFalse => cases hrun
        rename_i hle
        obtain ⟨s, hb, rfl⟩ := Option.map_eq_some_iff.1 hrun
        obtain ⟨ns, hns, hss⟩ := bytesOf_run _ _ _ hb
        generalize hy : evc x = y at hv
        cases hv with
        | slice hpl hc =>
          rename_i c' pl
          obtain ⟨_, _, C, T, fz, hh, hcell, _⟩ := cells_of hrel hl hpl
          obtain ⟨cs, h1, h2, h3⟩ := range_of hh hcell o n hle
          rw [hns] at h2
          have hcs := ints_rel _ _ h2
          have hload := run_loadCells_list (P := P) w ⟨pl.blk, pl.off + o, none⟩ cs h3
          rw [h1, hcs] at hload
          exact out_val hrel (by simp [run_convert_bytes_string w src dst e _ n c' hs he hd, run_bytesToString w _ n c' ns hload]; exact hss.symm) (.string s)
        | slice0 hpl =>
          have : ns = [] := by simpa using hns.symm
          subst this
          exact out_val hrel (by simp [run_convert_bytes_string w src dst e _ 0 0 hs he hd, Conv.bytesToString, loadCells, loadCellsFrom]; exact hss.symm) (.string s)
    · rename_i e1 e l o n c hs hd
      split at h
      case h_2 => cases h
      rename_i he
      split at h
      case isFalse => cases h
      rename_i hsd
      have hsd : src = dst := by simpa using hsd
      subst hsd
      cases h
      simp only [Prim.run, getAll] at hrun
      cases hl : σ.get l with
      | none => rw [hl] at hrun; simp at hrun
      | some ob =>
        rw [hl] at hrun
        simp only [Option.bind_some, Option.map_some] at hrun
        split at hrun
        case h_2 => cases hrun
        rename_i cl sz heq
        simp at heq
        subst heq
        cases hrun
        generalize hy : evc x = y at hv
        have fin : ∀ {pl : Pl} {o' c' : Nat}, ρ l = some pl → y = .slice (some ⟨pl.blk, o', none⟩) n c' → Out P (do pure (.value (← convert src src y))) ρ σ w nm ⟨.slice (some ⟨l, o, none⟩) n c, some (l, some (.cells cl sz false)), none⟩ := by
          intro pl o' c' hpl hy
          subst hy
          obtain ⟨w', k1, k2, k3⟩ := mark_ok (P := P) (o := o') (n := n) (c := c') hrel hl hpl hd he
          exact ⟨.value _, _, ρ, w', by simp only [Sem.run_bind, k1, Result.andThen_ok, Sem.run_pure], rfl, k2, k3, hv, fun _ _ => rfl⟩
        cases hv with
        | slice hpl hc => exact fin hpl rfl
        | slice0 hpl => exact fin hpl rfl
    · rename_i t l o hs hd
      cases hz : szO P t with
      | none => rw [hz] at h; simp at h
      | some s =>
        rw [hz] at h
        simp only [Option.bind_some] at h
        split at h
        case isTrue => cases h
        rename_i hs0
        cases h
        simp only [Prim.run, getAll] at hrun
        cases hl : σ.get l with
        | none => rw [hl] at hrun; simp at hrun
        | some ob =>
          rw [hl] at hrun
          simp only [Option.bind_some, Option.map_some] at hrun
          split at hrun
          case h_2 => cases hrun
          rename_i cl sz ro heq
          simp at heq
          subst heq
          split at hrun
          case isFalse => cases hrun
          rename_i hlt'
          cases hrun
          generalize hy : evc x = y at hv
          cases hv with
          | ptr hpl =>
            rename_i pl
            obtain ⟨_, _, C, T, fz, hh, hcell, _⟩ := cells_of hrel hl hpl
            obtain ⟨v', hv', _⟩ := hcell o _ (List.getElem?_eq_getElem hlt')
            have hC : pl.off + o < C.size := (Array.getElem?_eq_some_iff.1 hv').1
            have hsh : w.shape? pl.blk = some (T, C.size) := by simp [World.shape?, hh]
            have hC' : ¬ (C.size ≤ pl.off + o) := by omega
            have hsz : (sizeOf t).run P w = .ok s w := run_sizeOf hz w
            refine out_val hrel ?_ (.ptr hpl)
            simp [convert, run_underlying hs, run_underlying hd, Conv.unsafePointer, Conv.seenAt, viewAt, cellsIn, hsh, hsz, hs0, hC', Result.andThen]
    · split at h
      case isFalse => cases h
      rename_i hp
      rw [plainV_eq hp hv]
      exact pureVal_out h hrel hrun

/-! ### append -/

theorem run_append_g {t u ty e : TypeId} {i : TypeInfo} {z : Value} {du : TypeDesc} (ht : P.underlying t = some (.slice e)) (hu : P.underlying u = some du) (hdu : (∃ e', du = .slice e') ∨ du = .string) (hi : P.info? e = some i) (hz : i.zero = some z)
    {base : Option Addr} {sLen sCap m : Nat} {x : Value} {olds news : List Value} (hlen : ∀ w : World, (Builtin.lenOf x).run P w = .ok m w)
    (hold : (Builtin.firstCells i.size sLen (.slice base sLen sCap)).run P w.drew = .ok olds.toArray w.drew)
    (hnew : (Builtin.firstCells i.size m x).run P w.drew = .ok news.toArray w.drew)
    (hg : sCap < sLen + m) (h63 : ((sLen + m : Nat) : Int) ≤ 9223372036854775807) (hfit : Builtin.nextslicecap (sLen + m) sCap * i.bytes ≤ 281474976710656) :
    (Builtin.append_ #[t, u] ty #[.slice base sLen sCap, x]).run P w = .ok (.slice (some ⟨w.heap.size, 0, none⟩) (sLen + m) (grownCap w (sLen + m) sCap e))
      (w.drew.alloc (.cells (olds.toArray ++ (news.toArray ++ Builtin.zeroCells z.cells (grownCap w (sLen + m) sCap e - (sLen + m)))) e)) := by
  have hn : ¬ (sLen + m ≤ sCap) := by omega
  have h63' : ¬ (9223372036854775807 < ((sLen : Int) + (m : Int))) := by omega
  have h48' : ¬ (281474976710656 < Builtin.nextslicecap (sLen + m) sCap * i.bytes) := by omega
  rcases hdu with ⟨e', rfl⟩ | rfl <;> simp [Builtin.append_, run_underlying ht, run_underlying hu, sizeOf, typeInfo, zeroValue, hi, hz, hlen, hn, h63', h48', Question.forced, hold, hnew, newRow, grownCap]

theorem run_append_r {t u ty e : TypeId} {i : TypeInfo} {du : TypeDesc} (ht : P.underlying t = some (.slice e)) (hu : P.underlying u = some du) (hdu : (∃ e', du = .slice e') ∨ du = .string) (hi : P.info? e = some i)
    {base : Option Addr} {sLen sCap m : Nat} {x : Value} {news : List Value} (hlen : ∀ w : World, (Builtin.lenOf x).run P w = .ok m w)
    (hnew : (Builtin.firstCells i.size m x).run P w = .ok news.toArray w) (hg : sLen + m ≤ sCap) (w' : World)
    (hst : ∀ a, base = some a → (storeCells (a.add (sLen * i.size)) news).run P w = .ok () w') (hnone : base = none → w' = w) :
    (Builtin.append_ #[t, u] ty #[.slice base sLen sCap, x]).run P w = .ok (.slice base (sLen + m) sCap) w' := by
  cases base with
  | none =>
    rw [hnone rfl]
    rcases hdu with ⟨e', rfl⟩ | rfl <;> simp [Builtin.append_, run_underlying ht, run_underlying hu, sizeOf, typeInfo, hi, hlen, hg, hnew]
  | some a => rcases hdu with ⟨e', rfl⟩ | rfl <;> simp [Builtin.append_, run_underlying ht, run_underlying hu, sizeOf, typeInfo, hi, hlen, hg, hnew, hst a rfl]

theorem cell?_drew (w : World) (a : Addr) : w.drew.cell? a = w.cell? a := rfl

/-- What the second operand gives, in the world. -/
theorem src_run {size m : Nat} {x x' : Value} {rs : List Nat} {get : List AObj → Option (List Value)} {objs : List AObj} {c : List Value} (h : srcOf size x = some (rs, get, m)) (hrel : Rel ρ σ w) (hx : VRel ρ x x')
    (ho : getAll σ.get rs = some objs) (hg : get objs = some c) :
    ∃ cs, VlRel ρ c cs ∧ c.length = m * size ∧ (∀ w : World, (Builtin.lenOf x').run P w = .ok m w) ∧
      (Builtin.firstCells size m x').run P w = .ok cs.toArray w ∧ (Builtin.firstCells size m x').run P w.drew = .ok cs.toArray w.drew := by
  unfold srcOf at h
  split at h
  · cases h
    cases hx
    simp at hg; subst hg
    exact ⟨[], .nil ρ, by simp, fun w => by simp [Builtin.lenOf], by simp [Builtin.firstCells], by simp [Builtin.firstCells]⟩
  · cases h
    simp at hg; subst hg
    cases hx
    exact ⟨[], .nil ρ, by simp, fun w => by simp [Builtin.lenOf], by simp [Builtin.firstCells, loadCells, loadCellsFrom], by simp [Builtin.firstCells, loadCells, loadCellsFrom]⟩
  · split at h
    · rename_i hn0
      cases h
      simp at hg; subst hg
      have hfc : ∀ (a : Addr) (k cc : Nat) (w : World), (Builtin.firstCells size 0 (.slice (some a) k cc)).run P w = .ok #[] w := by
        intro a k cc w; simp [Builtin.firstCells, loadCells, loadCellsFrom]
      cases hx with
      | slice hl hc => subst hn0; exact ⟨[], .nil ρ, by simp, fun w => by simp [Builtin.lenOf], hfc _ _ _ _, hfc _ _ _ _⟩
      | slice0 hl => exact ⟨[], .nil ρ, by simp, fun w => by simp [Builtin.lenOf], hfc _ _ _ _, hfc _ _ _ _⟩
    · rename_i l o n cc hn0
      cases h
      simp only [getAll] at ho
      cases hl : σ.get l with
      | none => rw [hl] at ho; simp at ho
      | some ob =>
        rw [hl] at ho
        simp at ho; subst ho
        simp only at hg
        split at hg
        case h_2 => cases hg
        rename_i cl sz ro heq
        simp at heq; subst heq
        split at hg
        case isFalse => cases hg
        rename_i hle
        cases hg
        cases hx with
        | slice hpl hc =>
          rename_i c' pl
          obtain ⟨_, _, C, T, fz, hh, hcell, _⟩ := cells_of hrel hl hpl
          obtain ⟨cs, h1, h2, h3⟩ := range_of hh hcell o (m * size) hle
          exact ⟨cs, h2, by simp; omega, fun w => by simp [Builtin.lenOf], run_firstCells_some w size m _ m c' cs h1 h3, run_firstCells_some w.drew size m _ m c' cs h1 (by simpa using h3)⟩
        | slice0 hpl => exact absurd rfl hn0
  · split at h
    case isFalse => cases h
    rename_i s hs1
    cases h
    simp at hg; subst hg
    cases hx
    have hfc : ∀ w : World, (Builtin.firstCells 1 s.size (.string s)).run P w = .ok (s.data.toList.map fun b => Value.int .u8 b.toNat).toArray w := by
      intro w
      simp only [Builtin.firstCells, Sem.run_pure]
      congr 1
      apply Array.ext'
      have : (s.extract 0 s.size).data = s.data := by
        have := ByteArray.extract_zero_size (b := s)
        rw [this]
      rw [this]; simp
    subst hs1
    exact ⟨_, plainL_rel (u8_cells _), by simp, fun w => by simp [Builtin.lenOf], hfc _, hfc _⟩
  · cases h

theorem zeroCells_size (z : Array Value) (n : Nat) : (Builtin.zeroCells z n).size = n * z.size := by simp [Builtin.zeroCells]

/-- A row that an append has grown into. -/
theorem grown_out {s : Sem Next} {c : List Value} {sz k ext : Nat} {olds news : List Value} {Z : Array Value} {T : TypeId} (hrel : Rel ρ σ w) (hnm : ρ nm = none) (hlt : nm < σ.nxt)
    (hrun : s.run P w = .ok (.value (.slice (some ⟨w.heap.size, 0, none⟩) k (k + ext))) (w.drew.alloc (.cells (olds.toArray ++ (news.toArray ++ Z)) T)))
    (hc : VlRel ρ c (olds ++ news)) (hlen : k * sz = c.length) (hZ : Z.size = ext * sz) :
    Out P s ρ σ w nm ⟨.slice (some ⟨nm, 0, none⟩) k k, none, some (.cells c sz false)⟩ := by
  have hl := hc.1
  simp at hl
  refine newSlice_ok (ext := ext) (n := k) (w' := w.drew.alloc (.cells (olds.toArray ++ (news.toArray ++ Z)) T)) (C := olds.toArray ++ (news.toArray ++ Z)) (T := T) (fz := (0, 0)) hrel hnm hlt hrun ⟨rfl, rfl, rfl⟩ rfl ?_ hlen ?_ (no_fz _)
  · intro i v hi
    obtain ⟨v', h1, h2⟩ := hc.get hi
    refine ⟨v', ?_, h2⟩
    have hlt' : i < (olds ++ news).length := by
      rcases Nat.lt_or_ge i (olds ++ news).length with h | h
      · exact h
      · rw [List.getElem?_eq_none h] at h1; cases h1
    have e : (olds.toArray ++ (news.toArray ++ Z)) = (olds ++ news).toArray ++ Z := by rw [← Array.append_assoc]; simp
    rw [e, Array.getElem?_append_left (by simpa using hlt')]
    simpa using h1
  · simp; omega

theorem two_sz (a b c : Nat) : (a + b) * c = a * c + b * c := Nat.add_mul a b c

theorem src_zero {size : Nat} {x x' : Value} {rs : List Nat} {get : List AObj → Option (List Value)} (h : srcOf size x = some (rs, get, 0)) (hx : VRel ρ x x') (w : World) :
    (∀ w : World, (Builtin.lenOf x').run P w = .ok 0 w) ∧ (Builtin.firstCells size 0 x').run P w = .ok ([] : List Value).toArray w := by
  have hfc : ∀ (a : Addr) (k cc : Nat) (w : World), (Builtin.firstCells size 0 (.slice (some a) k cc)).run P w = .ok #[] w := by
    intro a k cc w; simp [Builtin.firstCells, loadCells, loadCellsFrom]
  unfold srcOf at h
  split at h
  · cases hx
    exact ⟨fun w => by simp [Builtin.lenOf], by simp [Builtin.firstCells]⟩
  · cases hx
    exact ⟨fun w => by simp [Builtin.lenOf], hfc _ _ _ _⟩
  · split at h
    · rename_i hn0
      subst hn0
      cases hx <;> exact ⟨fun w => by simp [Builtin.lenOf], hfc _ _ _ _⟩
    · rename_i hn0
      simp at h
      exact absurd h.2.2 hn0
  · split at h
    case isFalse => cases h
    rename_i s hs1
    simp at h
    cases hx
    refine ⟨fun w => by simp [Builtin.lenOf, h.2.2], ?_⟩
    simp [Builtin.firstCells]
  · cases h

theorem append_ok {t u ty : TypeId} {s x s' x' : Value} {p : Prim} {eff : Eff} (h : aAppend P t u s x = some p) (hs' : VRel ρ s s') (hx' : VRel ρ x x') (hrel : Rel ρ σ w) (hnm : ρ nm = none) (hlt : nm < σ.nxt)
    (hrun : p.run σ nm = some eff) : Out P (do pure (.value (← Builtin.append_ #[t, u] ty #[s', x']))) ρ σ w nm eff := by
  unfold aAppend at h
  split at h
  case h_2 => cases h
  rename_i elem ht
  cases hsz : szO P elem with
  | none => rw [hsz] at h; simp at h
  | some size =>
    cases hby : bytesO P elem with
    | none => rw [hsz, hby] at h; simp at h
    | some by_ =>
      cases hz : zeroP P elem with
      | none => rw [hsz, hby, hz] at h; simp at h
      | some z =>
        obtain ⟨hz0, hzp⟩ := zeroP_some hz
        rw [hsz, hby, hz] at h
        simp only [Option.bind_some] at h
        split at h
        case isTrue => cases h
        rename_i hcond
        simp only [Bool.not_eq_true', Bool.not_eq_false, Bool.and_eq_true, decide_eq_true_eq] at hcond
        obtain ⟨⟨⟨hsize0, hby0⟩, hzsize⟩, hu0⟩ := hcond
        obtain ⟨i, hi, hisz⟩ := info_of_sz hsz
        have hib : i.bytes = by_ := by obtain ⟨j, hj, hjb⟩ := bytes_of hby; rw [hi] at hj; cases hj; exact hjb
        have hiz : i.zero = some z := by unfold zeroO at hz0; rw [hi] at hz0; exact hz0
        subst hisz
        subst hib
        obtain ⟨du, hu, hdu⟩ : ∃ du, P.underlying u = some du ∧ ((∃ e', du = .slice e') ∨ du = .string) := by
          unfold isSeqT at hu0
          split at hu0
          · rename_i e' hu; exact ⟨_, hu, .inl ⟨_, rfl⟩⟩
          · rename_i hu; exact ⟨_, hu, .inr rfl⟩
          · cases hu0
        cases hsrc : srcOf i.size x with
        | none => rw [hsrc] at h; simp at h
        | some q =>
          obtain ⟨rs, get, m⟩ := q
          rw [hsrc] at h
          simp only [Option.bind_some] at h
          split at h
          case h_3 => cases h
          · -- onto nil
            cases hs'
            split at h
            · rename_i hm0
              cases h
              rw [run_ofVal hrun]
              subst hm0
              obtain ⟨z1, z2⟩ := src_zero (P := P) hsrc hx' w
              have hr := run_append_r (ty := ty) (base := none) (sLen := 0) (sCap := 0) ht hu hdu hi z1 z2 (Nat.le_refl _) w (by simp) (fun _ => rfl)
              exact out_val hrel (by simp [hr]) (.sliceNil 0 0)
            · split at h
              case isFalse => cases h
              rename_i hm0 hbound
              cases h
              simp only [Prim.run] at hrun
              cases hg : getAll σ.get rs with
              | none => rw [hg] at hrun; simp at hrun
              | some objs =>
                rw [hg] at hrun
                simp only [Option.bind_some] at hrun
                obtain ⟨c, hc, rfl⟩ := Option.map_eq_some_iff.1 hrun
                obtain ⟨cs, h1, h2, h3, h4, h5⟩ := src_run (P := P) hsrc hrel hx' hg hc
                have hold : (Builtin.firstCells i.size 0 (.slice none 0 0)).run P w.drew = .ok ([] : List Value).toArray w.drew := by simp [Builtin.firstCells]
                have hr := run_append_g (ty := ty) ht hu hdu hi hiz h3 hold h5 (by omega) (by have := Nat.le_mul_of_pos_right m hby0; omega) (by
                  rw [Nat.zero_add, nextslicecap_zero (by omega)]; omega)
                rw [Nat.zero_add] at hr
                have hcap := grownCap_le w m 0 elem
                refine grown_out (ext := grownCap w m 0 elem - m) (olds := []) (news := cs) (Z := Builtin.zeroCells z.cells (grownCap w m 0 elem - m)) (T := elem) hrel hnm hlt (by simp only [Sem.run_bind, hr, Result.andThen_ok, Sem.run_pure, Nat.add_sub_cancel' hcap]) (by simpa using h1) h2.symm (by rw [zeroCells_size, hzsize])
          · -- onto a row
            rename_i l o n c
            split at h
            case isFalse => cases h
            rename_i hnc
            -- what the concrete slice is
            have hcc : ∃ pl b' c', ρ l = some pl ∧ s' = .slice (some ⟨pl.blk, b', none⟩) n c' ∧ c ≤ c' ∧
                ((b' = pl.off + o ∧ (c' = c ∨ (o + c * pl.sz = pl.len ∧ c' = c + pl.ext))) ∨ (n = 0 ∧ c = 0 ∧ c' = 0)) := by
              cases hs' with
              | slice hl hc => rename_i c' pl; exact ⟨pl, _, c', hl, rfl, by omega, .inl ⟨rfl, hc⟩⟩
              | slice0 hl => rename_i o' pl; exact ⟨pl, o', 0, hl, rfl, by omega, .inr ⟨rfl, rfl, rfl⟩⟩
            obtain ⟨pl, b', c', hpl, rfl, hcle, hcase⟩ := hcc
            split at h
            · rename_i hm0
              cases h
              rw [run_ofVal hrun]
              subst hm0
              obtain ⟨z1, z2⟩ := src_zero (P := P) hsrc hx' w
              have hr := run_append_r (ty := ty) (base := some ⟨pl.blk, b', none⟩) (sLen := n) (sCap := c') ht hu hdu hi z1 z2 (by omega) w (fun a _ => by simp [storeCells]) (by simp)
              exact out_val hrel (v' := .slice (some ⟨pl.blk, b', none⟩) n c') (by simp [hr]) hs'
            · rename_i hm0
              split at h
              · -- room
                rename_i hroom
                cases h
                simp only [Prim.run, getAll] at hrun
                cases hl : σ.get l with
                | none => rw [hl] at hrun; simp at hrun
                | some ob =>
                  cases hg : getAll σ.get rs with
                  | none => rw [hl, hg] at hrun; simp at hrun
                  | some objs =>
                    rw [hl, hg] at hrun
                    simp only [Option.bind_some, Option.map_some] at hrun
                    split at hrun
                    case h_2 => cases hrun
                    rename_i cl sz rest heq
                    simp at heq
                    obtain ⟨rfl, rfl⟩ := heq
                    cases hc : get objs with
                    | none => rw [hc] at hrun; simp at hrun
                    | some src =>
                      rw [hc] at hrun
                      simp only [Option.bind_some] at hrun
                      split at hrun
                      case isFalse => cases hrun
                      rename_i hcond
                      simp only [Bool.and_eq_true, decide_eq_true_eq] at hcond
                      obtain ⟨hone, hfit⟩ := hcond
                      cases hrun
                      obtain ⟨cs, h1, h2, h3, h4, h5⟩ := src_run (P := P) hsrc hrel hx' hg hc
                      rw [two_sz] at hfit
                      rcases hcase with ⟨rfl, hcc⟩ | ⟨_, hc0, _⟩
                      · obtain ⟨w', k1, k2, k3⟩ := write_cells (P := P) (o := o + n * i.size) hrel hl hpl h1 hone (by omega)
                        have hr := run_append_r (ty := ty) (base := some ⟨pl.blk, pl.off + o, none⟩) (sLen := n) (sCap := c') ht hu hdu hi h3 h4 (by omega) w' (fun a ha => by
                          cases ha; rw [Addr.add_lit, Nat.add_assoc]; exact k1) (by simp)
                        refine ⟨.value (.slice (some ⟨pl.blk, pl.off + o, none⟩) (n + m) c'), _, ρ, w', by simp only [Sem.run_bind, hr, Result.andThen_ok, Sem.run_pure], rfl, k2, k3, .slice hpl hcc, fun _ _ => rfl⟩
                      · omega
              · -- no room
                rename_i hroom
                cases h
                simp only [Prim.run, getAll] at hrun
                cases hl : σ.get l with
                | none => rw [hl] at hrun; simp at hrun
                | some ob =>
                  cases hg : getAll σ.get rs with
                  | none => rw [hl, hg] at hrun; simp at hrun
                  | some objs =>
                    rw [hl, hg] at hrun
                    simp only [Option.bind_some, Option.map_some] at hrun
                    split at hrun
                    case h_2 => cases hrun
                    rename_i cl sz ro rest heq
                    simp at heq
                    obtain ⟨rfl, rfl⟩ := heq
                    cases hc : get objs with
                    | none => rw [hc] at hrun; simp at hrun
                    | some src =>
                      rw [hc] at hrun
                      simp only [Option.bind_some] at hrun
                      split at hrun
                      case isFalse => cases hrun
                      rename_i hcond
                      simp only [Bool.and_eq_true, decide_eq_true_eq] at hcond
                      obtain ⟨⟨hszz, hone⟩, hfit⟩ := hcond
                      subst hszz
                      obtain ⟨cs, h1, h2, h3, h4, h5⟩ := src_run (P := P) hsrc hrel hx' hg hc
                      obtain ⟨hlen, hszp, C, T, fz, hh, hcell, hown⟩ := cells_of hrel hl hpl
                      -- the old cells, read
                      obtain ⟨olds, q1, q2, q3⟩ := range_of hh hcell o (n * i.size) hfit
                      have hold : (Builtin.firstCells i.size n (.slice (some ⟨pl.blk, b', none⟩) n c')).run P w.drew = .ok olds.toArray w.drew := by
                        rcases hcase with ⟨rfl, _⟩ | ⟨hn0, _, _⟩
                        · exact run_firstCells_some w.drew i.size n _ n c' olds q1 (by simpa using q3)
                        · subst hn0
                          have : olds = [] := by simpa using q1
                          subst this
                          simp [Builtin.firstCells, loadCells, loadCellsFrom]
                      have hcl : ((cl.drop o).take (n * i.size) ++ src).length = (n + m) * i.size := by
                        rw [List.length_append, h2, two_sz]; simp; omega
                      -- growing
                      have grow : c' < n + m → (if c' = 0 then (n + m) * i.bytes ≤ 2 ^ 47 else (n + m) * i.bytes ≤ 2 ^ 46) →
                          (Builtin.append_ #[t, u] ty #[.slice (some ⟨pl.blk, b', none⟩) n c', x']).run P w = .ok (.slice (some ⟨w.heap.size, 0, none⟩) (n + m) (grownCap w (n + m) c' elem))
                            (w.drew.alloc (.cells (olds.toArray ++ (cs.toArray ++ Builtin.zeroCells z.cells (grownCap w (n + m) c' elem - (n + m)))) elem)) := by
                        intro hlt' hb
                        have hb' : (n + m) * i.bytes ≤ 2 ^ 47 := by split at hb <;> omega
                        refine run_append_g ht hu hdu hi hiz h3 hold h5 hlt' (by have := Nat.le_mul_of_pos_right (n + m) hby0; omega) ?_
                        by_cases hc0 : c' = 0
                        · subst hc0
                          rw [nextslicecap_zero (by omega)]; omega
                        · rw [if_neg hc0] at hb
                          have := nextslicecap_le hlt'
                          have := Nat.mul_le_mul_right i.bytes this
                          rw [Nat.mul_assoc] at this
                          omega
                      have hcap := grownCap_le w (n + m) c' elem
                      have fin : c' < n + m → (if c' = 0 then (n + m) * i.bytes ≤ 2 ^ 47 else (n + m) * i.bytes ≤ 2 ^ 46) →
                          Out P (do pure (.value (← Builtin.append_ #[t, u] ty #[.slice (some ⟨pl.blk, b', none⟩) n c', x']))) ρ σ w nm ⟨.slice (some ⟨nm, 0, none⟩) (n + m) (n + m), none, some (.cells ((cl.drop o).take (n * i.size) ++ src) i.size false)⟩ := by
                        intro hlt' hb
                        have hr := grow hlt' hb
                        refine grown_out (ext := grownCap w (n + m) c' elem - (n + m)) (olds := olds) (news := cs) (Z := Builtin.zeroCells z.cells (grownCap w (n + m) c' elem - (n + m))) (T := elem) hrel hnm hlt (by simp only [Sem.run_bind, hr, Result.andThen_ok, Sem.run_pure, Nat.add_sub_cancel' hcap]) (q2.append h1) hcl.symm (by rw [zeroCells_size, hzsize])
                      split at hrun
                      · -- a row that is read alone
                        rename_i hro
                        split at hrun
                        case isFalse => cases hrun
                        rename_i hcond
                        simp only [Bool.and_eq_true, decide_eq_true_eq] at hcond
                        obtain ⟨hclosed, hbnd⟩ := hcond
                        cases hrun
                        have hcc' : c' = c := by
                          rcases hcase with ⟨_, h | ⟨h, _⟩⟩ | ⟨_, h, k⟩
                          · exact h
                          · rw [hlen, hszp] at h; exact absurd h hclosed
                          · omega
                        subst hcc'
                        exact fin (by omega) (by unfold growFits at hbnd; split at hbnd <;> simp_all)
                      · rename_i hro
                        have hro' : ro = false := by simpa using hro
                        subst hro'
                        split at hrun
                        case isFalse => cases hrun
                        rename_i hbnd
                        cases hrun
                        by_cases hin : n + m ≤ c'
                        · -- in its place
                          rcases hcase with ⟨rfl, h | ⟨hopen, hcext⟩⟩ | ⟨_, h, k⟩
                          · omega
                          · obtain ⟨hroomC, hfz⟩ := hown rfl
                            rw [hszp] at hopen hroomC
                            have hinC : pl.off + o + n * i.size + cs.length ≤ C.size := by
                              have e1 : cs.length = m * i.size := by rw [← h1.1]; exact h2
                              have e2 := Nat.mul_le_mul_right i.size hin
                              rw [hcext, two_sz, two_sz] at e2
                              omega
                            obtain ⟨C', w', k1, k2, k3, k4, k5, k6, k7⟩ := run_storeCells (P := P) pl.blk T fz cs (pl.off + o + n * i.size) 0 C w hh (by omega) hfz (oneCells_rel h1 hone)
                            have hr := run_append_r (ty := ty) (base := some ⟨pl.blk, pl.off + o, none⟩) (sLen := n) (sCap := c') ht hu hdu hi h3 h4 hin w' (fun a ha => by
                              cases ha; rw [Addr.add_lit]; exact k1) (by simp)
                            have hle := LMap.le_set (l := nm) ⟨pl.blk, pl.off + o, c' - (n + m), i.size, (n + m) * i.size⟩ hnm
                            obtain ⟨m1, m2⟩ := step_move (nm := nm) (w' := w') (o := .cells ((cl.drop o).take (n * i.size) ++ src) i.size false)
                              (p' := ⟨pl.blk, pl.off + o, c' - (n + m), i.size, (n + m) * i.size⟩) hrel hl rfl hpl hnm hlt rfl k5 k6 k7 rfl (by
                                refine ⟨hcl.symm, ⟨rfl, fun h0 => by omega⟩, C', T, fz, k2, ?_, fun _ => ⟨?_, by rw [k3]; exact hfz⟩⟩
                                · intro j v hj
                                  rw [k4]
                                  simp only [Nat.add_zero]
                                  have hjl : j < (n + m) * i.size := by
                                    rw [← hcl]
                                    rcases Nat.lt_or_ge j ((cl.drop o).take (n * i.size) ++ src).length with h | h
                                    · exact h
                                    · rw [List.getElem?_eq_none h] at hj; cases hj
                                  have hq1 : ((cl.drop o).take (n * i.size)).length = n * i.size := by simp; omega
                                  rcases Nat.lt_or_ge j (n * i.size) with hlt' | hge
                                  · rw [List.getElem?_append_left (by rw [hq1]; exact hlt')] at hj
                                    rw [if_neg (by omega)]
                                    rw [List.getElem?_take, if_pos hlt', List.getElem?_drop] at hj
                                    obtain ⟨v', a1, a2⟩ := hcell _ _ hj
                                    exact ⟨v', by rw [← a1, Nat.add_assoc], a2.mono hle⟩
                                  · rw [List.getElem?_append_right (by rw [hq1]; exact hge), hq1] at hj
                                    obtain ⟨v', a1, a2⟩ := h1.get hj
                                    rw [if_pos (by rw [← h1.1, h2]; rw [two_sz] at hjl; omega)]
                                    exact ⟨v', by rw [← a1]; congr 1; omega, a2.mono hle⟩
                                · rw [k3]
                                  have e3 : (c' - (n + m)) * i.size + (n + m) * i.size = c' * i.size := by rw [← two_sz]; congr 1; omega
                                  have e4 : c' * i.size = c * i.size + pl.ext * i.size := by rw [hcext, two_sz]
                                  simp only
                                  omega)
                            refine ⟨.value (.slice (some ⟨pl.blk, pl.off + o, none⟩) (n + m) c'), _, _, w', by simp only [Sem.run_bind, hr, Result.andThen_ok, Sem.run_pure], rfl, m1, m2, ?_, fun l hl => LMap.set_ne _ _ hl⟩
                            have := VRel.slice (ρ := ρ.set nm ⟨pl.blk, pl.off + o, c' - (n + m), i.size, (n + m) * i.size⟩) (l := nm) (o := 0) (n := n + m) (c := n + m) (c' := c') (LMap.set_same _ _ _) (.inr ⟨by simp, by simp only; omega⟩)
                            simpa using this
                          · omega
                        · -- to a new row; the old name dies
                          obtain ⟨nx, v', ρ', w', f1, f2, f3, f4, f5, f6⟩ := fin (by omega) (by split <;> omega)
                          have hnl : nm ≠ l := by intro e; subst e; rw [hnm] at hpl; cases hpl
                          obtain ⟨g1, g2⟩ := step_kill f3 l
                          have he : ((σ.app nm ⟨.slice (some ⟨nm, 0, none⟩) (n + m) (n + m), none, some (.cells ((cl.drop o).take (n * i.size) ++ src) i.size false)⟩).upd l none) =
                              σ.app nm ⟨.slice (some ⟨nm, 0, none⟩) (n + m) (n + m), some (l, none), some (.cells ((cl.drop o).take (n * i.size) ++ src) i.size false)⟩ := by
                            simp only [Heap.app, Heap.wr, Heap.nw, Heap.upd]
                            congr 1
                            funext y
                            by_cases e1 : y = l
                            · subst e1; simp [Ne.symm hnl]
                            · simp [e1]
                          rw [he] at g1 g2
                          exact ⟨nx, v', ρ', w', f1, f2, g1, f4.trans g2, f5, f6⟩

end
end Go.Proofs.YtehmailaabjdjaaGreat
