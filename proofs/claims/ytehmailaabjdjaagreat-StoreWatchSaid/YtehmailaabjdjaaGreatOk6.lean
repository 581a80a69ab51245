/-
  THE OPERATIONS ARE WHAT THE MODEL DOES (sixth part): what is left, and all together. No condition.
-/
import Derived.Test.YtehmailaabjdjaaGreatOk5
namespace Go.Proofs.YtehmailaabjdjaaGreat
set_option linter.unusedSimpArgs false
set_option linter.unusedVariables false
section
variable {P : Program} {ρ : LMap} {σ : Heap} {w : World} {nm : Nat}

theorem zeroCells_plain {z : Array Value} (hz : plainL plainV z.toList = true) (n : Nat) : VlRel ρ (Builtin.zeroCells z n).toList (Builtin.zeroCells z n).toList := by
  refine ⟨rfl, fun i v v' h1 h2 => ?_⟩
  rw [h1] at h2; cases h2
  rcases Nat.eq_zero_or_pos z.size with h0 | h0
  · simp [Builtin.zeroCells, h0] at h1
  · have := (range_plain (ρ := ρ) hz (n * z.size) h0).toList
    exact this.2 i v v (by simpa [Builtin.zeroCells] using h1) (by simpa [Builtin.zeroCells] using h1)

theorem zeroCells_one {z : Array Value} (hz : plainL oneCell z.toList = true) (n : Nat) : plainL oneCell (Builtin.zeroCells z n).toList = true := by
  have key : ∀ l : List Value, (∀ v ∈ l, oneCell v = true) → plainL oneCell l = true := by
    intro l
    induction l with
    | nil => intro _; rfl
    | cons v l ih => intro h; simp only [plainL, Bool.and_eq_true]; exact ⟨h v (by simp), ih fun x hx => h x (by simp [hx])⟩
  apply key
  intro v hv
  simp [Builtin.zeroCells] at hv
  obtain ⟨a, ha, rfl⟩ := hv
  have h0 : 0 < z.size := by
    rcases Nat.eq_zero_or_pos z.size with h | h
    · rw [h] at ha; simp at ha
    · exact h
  have hm := Nat.mod_lt a h0
  rw [getElem!_pos z (a % z.size) hm]
  exact plainL_get hz (i := a % z.size) (by simp [hm])

theorem clear_ok {t ty : TypeId} {x x' : Value} {p : Prim} {eff : Eff} (h : aClear P t x = some p) (hx : VRel ρ x x') (hrel : Rel ρ σ w)
    (hrun : p.run σ nm = some eff) : Out P (do pure (.value (← Builtin.clear_ #[t] ty #[x']))) ρ σ w nm eff := by
  have htup : VRel ρ (.tuple #[]) (.tuple #[]) := VRel.undef_ ρ
  unfold aClear at h
  split at h
  case h_2 => cases h
  rename_i e hu
  split at h
  case h_3 => cases h
  · cases h; rw [run_ofVal hrun]; cases hx
    exact out_val hrel (by simp [Builtin.clear_, run_underlying hu]) htup
  · rename_i l o n c
    split at h
    · rename_i hn0
      subst hn0
      cases h; rw [run_ofVal hrun]
      cases hx <;> exact out_val hrel (by simp [Builtin.clear_, run_underlying hu]) htup
    · rename_i hn0'
      cases hs : szO P e with
      | none => rw [hs] at h; simp at h
      | some size =>
        cases hz : zeroP P e with
        | none => rw [hs, hz] at h; simp at h
        | some z =>
          obtain ⟨hz0, hzp⟩ := zeroP_some hz
          rw [hs, hz] at h
          simp only [Option.bind_some] at h
          split at h
          case isFalse => cases h
          rename_i hcond
          simp only [Bool.and_eq_true, decide_eq_true_eq] at hcond
          obtain ⟨⟨hzs, hone⟩, hpl'⟩ := hcond
          cases h
          simp only [Prim.run, getAll] at hrun
          cases hl : σ.get l with
          | none => rw [hl] at hrun; simp at hrun
          | some ob =>
            rw [hl] at hrun
            simp only [Option.bind_some, Option.map_some] at hrun
            split at hrun
            case h_2 => cases hrun
            rename_i cl sz heq
            simp at heq; subst heq
            split at hrun
            case isFalse => cases hrun
            rename_i hle
            cases hrun
            cases hx with
            | slice hpl hc =>
              rename_i c' pl
              obtain ⟨w', k1, k2, k3⟩ := write_cells (P := P) (o := o) hrel hl hpl (zeroCells_plain hpl' n) (zeroCells_one hone n) (by rw [Array.length_toList, zeroCells_size, hzs]; exact hle)
              refine ⟨.value (.tuple #[]), .tuple #[], ρ, w', ?_, rfl, k2, k3, htup, fun _ _ => rfl⟩
              simp [Builtin.clear_, run_underlying hu, hn0', run_zeroValue hz0, k1]
            | slice0 hpl => exact absurd rfl hn0'

/-! ### Functions of the library without a body -/

def extSem (x : XKind) (args : Array Value) : Sem Value :=
  match x with
  | .add k => Extern.Atomic.update (Op.intArith .add) k true args
  | .load k => Extern.Atomic.loadT (.int k) args
  | .store _ => Extern.Atomic.storeT args
  | .cas k => Extern.Atomic.casT (.int k) args
  | .nop => pure (.tuple #[])
  | .mark => do let _ ← Extern.Race.at_ args; pure (.tuple #[])

/-- Types 9, 26, 5: string, []byte, byte. -/
def ConvOk (P : Program) : Prop := P.underlying 9 = some .string ∧ P.underlying 26 = some (.slice 5) ∧ P.underlying 5 = some (.int .u8)

structure EnvOk (E : Env) : Prop where
  c : ConvOk E.P
  x : ∀ f k, E.X f = some k → ∀ (args : Array Value) (w : World), (callFunc f args).run E.P w = (do pure (Next.value (← extSem k args)) : Sem Next).run E.P w
  b : ∀ f, E.B f = true → ∀ (args : Array Value) (w : World), (callFunc f args).run E.P w = .ok (.enter f args) w

theorem ext_load (k : IntKind) (a : Value) : extSem (.load k) [a].toArray = (do Extern.Atomic.read (.int k) (← asAddr a)) := rfl
theorem ext_store (k : IntKind) (a v : Value) : extSem (.store k) [a, v].toArray = (do store (← asAddr a) v .atomic; pure Extern.Atomic.none_) := rfl
theorem ext_add (k : IntKind) (addr y : Value) : extSem (.add k) [addr, y].toArray = (do
    let a ← asAddr addr
    let old ← Extern.Atomic.read (.int k) a
    let new ← Op.intArith .add k (← asInt old) (← asInt y)
    store a new .atomic
    pure new) := rfl
theorem ext_cas (k : IntKind) (addr old new : Value) : extSem (.cas k) [addr, old, new].toArray = (do
    let a ← asAddr addr
    if ← Extern.Atomic.touchesFrozen a then unsupported (.unsafePointer "a write to bytes that a string shares")
    let eq ← match Extern.Atomic.T.int k, ← Extern.Atomic.read (.int k) a, old with
      | _, .int _ x, .int _ y => pure (x == y)
      | .ptr, .pointer x, .pointer y => samePointer x y
      | .int _, .pointer (some _), .int _ 0 | .int _, .int _ 0, .pointer (some _) => pure false
      | .int _, .pointer (some _), _ | .int _, _, .pointer (some _) => unsupported .addressObserved
      | _, _, _ => stuck "atomic.CompareAndSwap: old is no T"
    if eq then store a new .atomic
    pure (.bool eq)) := rfl

theorem set_splice {c : List Value} {o : Nat} {v : Value} (h : o < c.length) : c.set o v = splice c o [v] := by
  apply List.ext_getElem?
  intro i
  rw [splice_get (by simp; omega), List.getElem?_set]
  by_cases e : o = i
  · subst e; simp [h]
  · rw [if_neg e, if_neg (by simp; omega)]

theorem get_lt {c : List Value} {o : Nat} {v : Value} (h : c[o]? = some v) : o < c.length := by
  rcases Nat.lt_or_ge o c.length with k | k
  · exact k
  · rw [List.getElem?_eq_none k] at h; cases h

theorem run_touches {l o : Nat} {c : List Value} {sz : Nat} {pl : Pl} (hrel : Rel ρ σ w) (hl : σ.get l = some (.cells c sz false)) (hpl : ρ l = some pl) (ho : o < c.length) :
    (Extern.Atomic.touchesFrozen ⟨pl.blk, pl.off + o, none⟩).run P w = .ok false w := by
  obtain ⟨hlen, _, C, T, fz, hh, hc, hown⟩ := cells_of hrel hl hpl
  obtain ⟨hroom, hfz⟩ := hown rfl
  have hfr : w.frozen? ⟨pl.blk, pl.off + o, none⟩ = false := by
    have := hfz.not (i := pl.off + o) (by omega)
    simp [World.frozen?, hh]; omega
  simp [Extern.Atomic.touchesFrozen, viewAt, shape, frozen, Sem.run, World.shape?, hh, hfr]

/-- One cell written, by the library. -/
theorem set_cell {l o : Nat} {c : List Value} {sz : Nat} {pl : Pl} {v : Value} (hrel : Rel ρ σ w) (hl : σ.get l = some (.cells c sz false)) (hpl : ρ l = some pl) (ho : o < c.length)
    (hv : plainV v = true) (hone : oneCell v = true) (m : Mode) :
    ∃ w', (store ⟨pl.blk, pl.off + o, none⟩ v m).run P w = .ok () w' ∧ Rel ρ (σ.upd l (some (.cells (c.set o v) sz false))) w' ∧ Frm ρ σ w ρ (σ.upd l (some (.cells (c.set o v) sz false))) w' := by
  obtain ⟨w', h1, h2, h3⟩ := write_cells (P := P) (o := o) hrel hl hpl (plainL_rel (l := [v]) (by simp [plainL, hv])) (by simp [plainL, hone]) (by simp; omega)
  rw [set_splice ho]
  refine ⟨w', ?_, h2, h3⟩
  obtain ⟨_, _, C, T, fz, hh, hcell, _⟩ := cells_of hrel hl hpl
  obtain ⟨x', hx1, _⟩ := hcell o _ (List.getElem?_eq_getElem ho)
  have hx := cell_at hh hx1
  have e : (storeCells ⟨pl.blk, pl.off + o, none⟩ [v]).run P w = (store ⟨pl.blk, pl.off + o, none⟩ v m).run P w := by
    simp only [storeCells, Sem.run_bind, Addr.add_lit, Nat.add_zero]
    cases v <;> first | (simp [oneCell] at hone; done) | skip
    all_goals
      simp only [store, Sem.run, hx]
      split <;> simp
  rw [← e]; exact h1

theorem extern_ok {x : XKind} {args : List Value} {args' : List Value} {p : Prim} {eff : Eff} (h : aExtern P x args = some p) (ha : VlRel ρ args args') (hrel : Rel ρ σ w)
    (hrun : p.run σ nm = some eff) : Out P (do pure (.value (← extSem x args'.toArray))) ρ σ w nm eff := by
  have htup : VRel ρ (.tuple #[]) (.tuple #[]) := VRel.undef_ ρ
  unfold aExtern at h
  split at h
  · cases h; rw [run_ofVal hrun]
    exact out_val hrel (by simp [extSem]) htup
  · -- mark
    cases h; rw [run_ofVal hrun]
    obtain ⟨a', r1, rfl, hp, hr1⟩ := ha.inv_cons
    have := hr1.inv_nil; subst this
    cases hp with
    | ptr hpl => exact out_val hrel (by simp [extSem, Extern.Race.at_]) htup
  · -- load
    rename_i k l o
    cases h
    obtain ⟨a', r1, rfl, hp, hr1⟩ := ha.inv_cons
    have := hr1.inv_nil; subst this
    simp only [Prim.run, getAll] at hrun
    cases hl : σ.get l with
    | none => rw [hl] at hrun; simp at hrun
    | some ob =>
      rw [hl] at hrun
      simp only [Option.bind_some, Option.map_some] at hrun
      split at hrun
      case h_2 => cases hrun
      rename_i c sz ro heq
      simp at heq; subst heq
      split at hrun
      case h_2 => cases hrun
      rename_i k' n hc
      split at hrun
      case isFalse => cases hrun
      rename_i hk
      subst hk
      cases hrun
      cases hp with
      | ptr hpl =>
        rename_i pl
        obtain ⟨_, _, C, T, fz, hh, hcell, _⟩ := cells_of hrel hl hpl
        obtain ⟨v', h1, h2⟩ := hcell _ _ hc
        cases h2
        exact out_val hrel (by simp [ext_load, asAddr, Extern.Atomic.read, cell_at hh h1]) (.int _ _)
  · -- store
    rename_i k l o k₂ v
    cases h
    obtain ⟨a', r1, rfl, hp, hr1⟩ := ha.inv_cons
    obtain ⟨b', r2, rfl, hq, hr2⟩ := hr1.inv_cons
    have := hr2.inv_nil; subst this
    simp only [Prim.run, getAll] at hrun
    cases hl : σ.get l with
    | none => rw [hl] at hrun; simp at hrun
    | some ob =>
      rw [hl] at hrun
      simp only [Option.bind_some, Option.map_some] at hrun
      split at hrun
      case h_2 => cases hrun
      rename_i c sz heq
      simp at heq; subst heq
      split at hrun
      case h_2 => cases hrun
      rename_i k' n hc
      split at hrun
      case isFalse => cases hrun
      rename_i hk
      simp only [Bool.and_eq_true, decide_eq_true_eq] at hk
      obtain ⟨rfl, rfl⟩ := hk
      cases hrun
      cases hq
      cases hp with
      | ptr hpl =>
        obtain ⟨w', k1, k2, k3⟩ := set_cell (P := P) hrel hl hpl (get_lt hc) (v := .int k₂ v) rfl rfl .atomic
        exact ⟨.value (.tuple #[]), .tuple #[], ρ, w', by simp [ext_store, asAddr, k1, Extern.Atomic.none_], rfl, k2, k3, htup, fun _ _ => rfl⟩
  · -- add
    rename_i k l o k₂ d
    cases h
    obtain ⟨a', r1, rfl, hp, hr1⟩ := ha.inv_cons
    obtain ⟨b', r2, rfl, hq, hr2⟩ := hr1.inv_cons
    have := hr2.inv_nil; subst this
    simp only [Prim.run, getAll] at hrun
    cases hl : σ.get l with
    | none => rw [hl] at hrun; simp at hrun
    | some ob =>
      rw [hl] at hrun
      simp only [Option.bind_some, Option.map_some] at hrun
      split at hrun
      case h_2 => cases hrun
      rename_i c sz heq
      simp at heq; subst heq
      split at hrun
      case h_2 => cases hrun
      rename_i k' n hc
      split at hrun
      case isFalse => cases hrun
      rename_i hk
      simp only [Bool.and_eq_true, decide_eq_true_eq] at hk
      obtain ⟨rfl, rfl⟩ := hk
      cases hv : pureRun P (Op.intArith .add k₂ n d) with
      | none => rw [hv] at hrun; simp at hrun
      | some v =>
        rw [hv] at hrun
        simp only [Option.bind_some] at hrun
        split at hrun
        case isFalse => cases hrun
        rename_i hvp
        simp only [Bool.and_eq_true] at hvp
        cases hrun
        cases hq
        cases hp with
        | ptr hpl =>
          rename_i pl
          obtain ⟨_, _, C, T, fz, hh, hcell, _⟩ := cells_of hrel hl hpl
          obtain ⟨v', h1, h2⟩ := hcell _ _ hc
          cases h2
          obtain ⟨w', k1, k2, k3⟩ := set_cell (P := P) hrel hl hpl (get_lt hc) hvp.1 hvp.2 .atomic
          exact ⟨.value v, v, ρ, w', by simp [ext_add, asAddr, Extern.Atomic.read, cell_at hh h1, asInt, asIntOf, pureRun_run hv, k1], rfl, k2, k3, plainV_rel ρ hvp.1, fun _ _ => rfl⟩
  · -- cas
    rename_i k l o k0 old k₂ new
    cases h
    obtain ⟨a', r1, rfl, hp, hr1⟩ := ha.inv_cons
    obtain ⟨b', r2, rfl, hq, hr2⟩ := hr1.inv_cons
    obtain ⟨c', r3, rfl, hq3, hr3⟩ := hr2.inv_cons
    have := hr3.inv_nil; subst this
    simp only [Prim.run, getAll] at hrun
    cases hl : σ.get l with
    | none => rw [hl] at hrun; simp at hrun
    | some ob =>
      rw [hl] at hrun
      simp only [Option.bind_some, Option.map_some] at hrun
      split at hrun
      case h_2 => cases hrun
      rename_i c sz heq
      simp at heq; subst heq
      split at hrun
      case h_2 => cases hrun
      rename_i k' n hc
      split at hrun
      case isFalse => cases hrun
      rename_i hk
      simp only [Bool.and_eq_true, decide_eq_true_eq] at hk
      obtain ⟨rfl, rfl⟩ := hk
      cases hrun
      cases hq
      cases hq3
      cases hp with
      | ptr hpl =>
        rename_i pl
        obtain ⟨_, _, C, T, fz, hh, hcell, _⟩ := cells_of hrel hl hpl
        obtain ⟨v', h1, h2⟩ := hcell _ _ hc
        cases h2
        have ht := run_touches (P := P) hrel hl hpl (get_lt hc)
        by_cases e : n = old
        · subst e
          obtain ⟨w', k1, k2, k3⟩ := set_cell (P := P) hrel hl hpl (get_lt hc) (v := .int k₂ new) rfl rfl .atomic
          refine ⟨.value (.bool true), .bool true, ρ, w', by simp [ext_cas, asAddr, ht, Extern.Atomic.read, cell_at hh h1, k1], rfl, ?_, ?_, by simpa using VRel.bool true, fun _ _ => rfl⟩
          · simpa [Heap.app, Heap.wr, Heap.nw] using k2
          · simpa [Heap.app, Heap.wr, Heap.nw] using k3
        · have he : (n == old) = false := by simpa using e
          have hsame : σ.upd l (some (.cells c sz false)) = σ := by
            unfold Heap.upd
            have : (fun x => if x = l then some (AObj.cells c sz false) else σ.get x) = σ.get := by
              funext x; split
              · rename_i e; subst e; exact hl.symm
              · rfl
            rw [this]
          refine ⟨.value (.bool false), .bool false, ρ, w, by simp [ext_cas, asAddr, ht, Extern.Atomic.read, cell_at hh h1, he]; exact fun h => absurd h e, rfl, ?_, ?_, by simpa [he] using VRel.bool false, fun _ _ => rfl⟩
          · simpa [Heap.app, Heap.wr, Heap.nw, he, hsame] using hrel
          · simpa [Heap.app, Heap.wr, Heap.nw, he, hsame] using Frm.refl ρ σ w
  · cases h

/-! ### All together -/

theorem map_prim {x : Option Prim} {p : Prim} (h : x.map AOp.prim = some (.prim p)) : x = some p := by
  cases x with
  | none => cases h
  | some q => simp at h; rw [h]

theorem plainL_eq : ∀ {l l' : List Value}, plainL plainV l = true → VlRel ρ l l' → l' = l
  | [], l', _, h => h.inv_nil
  | v :: l, l', hp, h => by
    obtain ⟨v', l2, rfl, h1, h2⟩ := h.inv_cons
    simp only [plainL, Bool.and_eq_true] at hp
    rw [plainV_eq hp.1 h1, plainL_eq hp.2 h2]

theorem builtin_ok {b : Builtin} {ts : Array TypeId} {ty : TypeId} {cs : Array Bool} {args args' : List Value} {p : Prim} {eff : Eff} (h : aBuiltin P b ts ty args = some p) (ha : VlRel ρ args args') (hrel : Rel ρ σ w) (hnm : ρ nm = none) (hlt : nm < σ.nxt)
    (hrun : p.run σ nm = some eff) : Out P (builtin b ts ty cs args'.toArray) ρ σ w nm eff := by
  unfold aBuiltin at h
  split at h
  · rename_i t x hts
    obtain ⟨x', r1, rfl, h1, hr1⟩ := ha.inv_cons
    have := hr1.inv_nil; subst this
    have ht : ts = #[t] := by apply Array.ext'; simpa using hts
    subst ht
    exact len_ok h h1 hrel hrun
  · rename_i t u s x hts
    obtain ⟨s', r1, rfl, h1, hr1⟩ := ha.inv_cons
    obtain ⟨x', r2, rfl, h2, hr2⟩ := hr1.inv_cons
    have := hr2.inv_nil; subst this
    have ht : ts = #[t, u] := by apply Array.ext'; simpa using hts
    subst ht
    exact append_ok h h1 h2 hrel hnm hlt hrun
  · rename_i t u m k hts
    obtain ⟨m', r1, rfl, h1, hr1⟩ := ha.inv_cons
    obtain ⟨k', r2, rfl, h2, hr2⟩ := hr1.inv_cons
    have := hr2.inv_nil; subst this
    have ht : ts = #[t, u] := by apply Array.ext'; simpa using hts
    subst ht
    exact delete_ok h h1 h2 hrel hrun
  · rename_i t x hts
    obtain ⟨x', r1, rfl, h1, hr1⟩ := ha.inv_cons
    have := hr1.inv_nil; subst this
    have ht : ts = #[t] := by apply Array.ext'; simpa using hts
    subst ht
    exact clear_ok h h1 hrel hrun
  · split at h
    case isFalse => cases h
    rename_i hp
    rw [plainL_eq hp ha]
    exact pureVal_out h hrel hrun
  · split at h
    case isFalse => cases h
    rename_i hp
    rw [plainL_eq hp ha]
    exact pureVal_out h hrel hrun
  · cases h

theorem value_ok {s : Sem Next} {v v' : Value} {eff : Eff} (hrel : Rel ρ σ w) (hrun : (Prim.ofVal v).run σ nm = some eff) (hs : s = pure (.value v')) (hv : VRel ρ v v') : Out P s ρ σ w nm eff := by
  rw [run_ofVal hrun, hs]
  exact out_val hrel rfl hv

theorem Out.congr {s s' : Sem Next} {eff : Eff} (h : Out P s ρ σ w nm eff) (he : s'.run P w = s.run P w) : Out P s' ρ σ w nm eff := by
  obtain ⟨nx, v', ρ', w', h1, r⟩ := h
  exact ⟨nx, v', ρ', w', he.trans h1, r⟩

theorem call_args {ev : Ev} {evc : Operand → Value} (hev : EvRel ρ ev evc) {xs : Array Operand} {args : List Value} (h : evList ev xs.toList = some args) : VlRel ρ args (xs.map evc).toList := by
  have := evList_rel hev _ _ h
  simpa using this

theorem not_defer {E : Env} {ev : Ev} {c : Call} {x : AOp} (h : aDefer E ev c = some x) (hx : ∀ f a b, x ≠ .defer f a b) : False := by
  unfold aDefer at h
  cases ha : evList ev c.args.toList with
  | none => rw [ha] at h; cases h
  | some args =>
    rw [ha] at h
    simp only [Option.bind_some] at h
    split at h
    case h_2 => cases h
    rename_i f _
    cases hf : ev f with
    | none => rw [hf] at h; cases h
    | some fv =>
      rw [hf] at h
      simp only [Option.bind_some] at h
      split at h
      case h_2 => cases h
      split at h
      · simp only [Option.some.injEq] at h; exact hx _ _ _ h.symm
      · cases h

theorem prim_ok {E : Env} (hE : EnvOk E) {o : Oper} {ev : Ev} {evc : Operand → Value} {p : Prim} {eff : Eff} (h : aop E ev o = some (.prim p)) (hev : EvRel ρ ev evc) (hrel : Rel ρ σ w) (hnm : ρ nm = none) (hlt : nm < σ.nxt)
    (hrun : p.run σ nm = some eff) : Out E.P (execOp evc o) ρ σ w nm eff := by
  obtain ⟨dst, op, ty, pos, after, guard⟩ := o
  unfold aop at h
  cases op <;> simp only [] at h
  case move x =>
    cases hx : ev x with
    | none => rw [hx] at h; cases h
    | some v => rw [hx] at h; cases h; exact value_ok hrel hrun rfl (hev _ _ hx)
  case assign x =>
    cases hx : ev x with
    | none => rw [hx] at h; cases h
    | some v => rw [hx] at h; cases h; exact value_ok hrel hrun rfl (hev _ _ hx)
  case pick c a b =>
    cases hc : ev c with
    | none => rw [hc] at h; cases h
    | some cv =>
      rw [hc] at h
      have hcr := hev _ _ hc
      simp only [Option.bind_some] at h
      split at h
      case h_2 => cases h
      rename_i t
      have e : ∀ y, VRel ρ (.bool t) y → y = .bool t := by intro y hy; cases hy; rfl
      have hce := e _ hcr
      cases t
      · cases hb : ev b with
        | none => simp [hb] at h
        | some v => simp [hb] at h; subst h; exact value_ok (v' := evc b) hrel hrun (by simp [execOp, hce, asBool]) (hev _ _ hb)
      · cases ha : ev a with
        | none => simp [ha] at h
        | some v => simp [ha] at h; subst h; exact value_ok (v' := evc a) hrel hrun (by simp [execOp, hce, asBool]) (hev _ _ ha)
  case alloc t =>
    obtain ⟨z, hz, hp⟩ := Option.map_eq_some_iff.1 h
    cases hp
    exact alloc_ok hz hrel hnm hlt hrun
  case box t x =>
    obtain ⟨v, hv, hp⟩ := Option.map_eq_some_iff.1 h
    cases hp
    exact box_ok hv hev hrel hnm hlt hrun
  case build t parts => exact build_ok (map_prim h) hev hrel hrun
  case buildSlice t len parts => exact buildSlice_ok (map_prim h) hev hrel hnm hlt hrun
  case load t a => exact load_ok (map_prim h) hev hrel hrun
  case store t a x => exact store_ok (map_prim h) hev hrel hrun
  case nilCheck x => exact nil_ok rfl (map_prim h) hev hrel hrun
  case binOp op t x y yt => exact bin_ok (map_prim h) hev hrel hrun
  case unOp op t x =>
    cases hx : plainEv ev x with
    | none => rw [hx] at h; cases h
    | some v =>
      rw [hx] at h
      simp only [Option.bind_some] at h
      have := pureVal_out (nm := nm) (map_prim h) hrel hrun
      rw [← (plainEv_some hx hev).1] at this
      exact this
  case convert s d x => exact convert_ok (map_prim h) hev hrel hnm hlt hrun
  case makeFunc fn a b => exact makeFunc_ok (map_prim h) hev hrel hrun
  case makeMap t r => exact makeMap_ok (map_prim h) hev hrel hnm hlt hrun
  case makeSlice t l c => exact makeSlice_ok (map_prim h) hev hrel hnm hlt hrun
  case slice t x lo hi mx => exact slice_ok (map_prim h) hev hrel hrun
  case fieldAddr s x f => exact fieldAddr_ok (map_prim h) hev hrel hrun
  case field s x f => exact field_ok (map_prim h) hev hrel hrun
  case indexAddr t x ix => exact indexAddr_ok (map_prim h) hev hrel hrun
  case index t x ix => exact index_ok (map_prim h) hev hrel hrun
  case lookup t x ix ok => exact lookup_ok (map_prim h) hev hrel hrun
  case mapUpdate t m k x => exact mapUpdate_ok (map_prim h) hev hrel hrun
  case extract t i => exact extract_ok (map_prim h) hev hrel hrun
  case call c =>
    unfold aCall at h
    cases ha : evList ev c.args.toList with
    | none => rw [ha] at h; cases h
    | some args =>
      rw [ha] at h
      simp only [Option.bind_some] at h
      have har := call_args hev ha
      obtain ⟨callee, cargs, cts⟩ := c
      simp only at h har
      cases callee with
      | builtin b =>
        simp only at h
        have hb := builtin_ok (cs := cargs.map fun | .const _ => true | _ => false) (nm := nm) (map_prim h) har hrel hnm hlt hrun
        have e : (cargs.map evc).toList.toArray = cargs.map evc := by rw [Array.toArray_toList]
        rw [e] at hb
        exact hb
      | invoke r m => cases h
      | value f =>
        simp only at h
        cases hf : ev f with
        | none => rw [hf] at h; cases h
        | some fv =>
          rw [hf] at h
          have hfr := hev _ _ hf
          simp only [Option.bind_some] at h
          split at h
          case h_2 => cases h
          rename_i g first captured
          cases hX : E.X g with
          | none => rw [hX] at h; simp only at h; split at h <;> cases h
          | some k =>
            rw [hX] at h
            simp only at h
            generalize hy : evc f = y at hfr
            cases hfr with
            | func h1 h2 h3 h4 =>
              rename_i first' captured'
              have r1 : VlRel ρ first.toList first'.toList := VsRel.toList ⟨h1, h3⟩
              have r2 : VlRel ρ captured.toList captured'.toList := VsRel.toList ⟨h2, h4⟩
              have := extern_ok (P := E.P) (nm := nm) (map_prim h) ((r1.append har).append r2) hrel hrun
              have e : (first'.toList ++ (cargs.map evc).toList ++ captured'.toList).toArray = first' ++ cargs.map evc ++ captured' := by
                apply Array.ext'; simp
              rw [e] at this
              refine this.congr ?_
              rw [← hE.x g k hX]
              show (do let d ← resolve evc ⟨.value f, cargs, cts⟩ ty; invoke d.target d.args : Sem Next).run E.P w = _
              simp [resolve, hy, Deferred.ofValue, invoke]
  case defer c => exact (not_defer h (by simp)).elim
  all_goals cases h

theorem call_ok {E : Env} (hE : EnvOk E) {o : Oper} {ev : Ev} {evc : Operand → Value} {f : FuncId} {args : Array Value} (h : aop E ev o = some (.call f args)) (hev : EvRel ρ ev evc) :
    ∃ args', VsRel ρ args args' ∧ ∀ w : World, (execOp evc o).run E.P w = .ok (.enter f args') w := by
  obtain ⟨dst, op, ty, pos, after, guard⟩ := o
  unfold aop at h
  have nope : ∀ {x : Option Prim}, x.map AOp.prim = some (.call f args) → False := by
    intro x hx; cases x <;> simp at hx
  cases op <;> simp only [] at h
  case call c =>
    unfold aCall at h
    cases ha : evList ev c.args.toList with
    | none => rw [ha] at h; cases h
    | some cargs =>
      rw [ha] at h
      simp only [Option.bind_some] at h
      have har := call_args hev ha
      obtain ⟨callee, xs, cts⟩ := c
      simp only at h har
      cases callee with
      | builtin b => exact (nope h).elim
      | invoke r m => cases h
      | value fo =>
        simp only at h
        cases hf : ev fo with
        | none => rw [hf] at h; cases h
        | some fv =>
          rw [hf] at h
          have hfr := hev _ _ hf
          simp only [Option.bind_some] at h
          split at h
          case h_2 => cases h
          rename_i g first captured
          cases hX : E.X g with
          | some k => rw [hX] at h; exact (nope h).elim
          | none =>
            rw [hX] at h
            simp only at h
            split at h
            case isFalse => cases h
            rename_i hB
            cases h
            generalize hy : evc fo = y at hfr
            cases hfr with
            | func h1 h2 h3 h4 =>
              rename_i first' captured'
              have r1 : VlRel ρ first.toList first'.toList := VsRel.toList ⟨h1, h3⟩
              have r2 : VlRel ρ captured.toList captured'.toList := VsRel.toList ⟨h2, h4⟩
              refine ⟨first' ++ xs.map evc ++ captured', ?_, fun w => ?_⟩
              · have := ((r1.append har).append r2).toArray
                have e1 : (first.toList ++ cargs ++ captured.toList).toArray = first ++ cargs.toArray ++ captured := by apply Array.ext'; simp
                have e2 : (first'.toList ++ (xs.map evc).toList ++ captured'.toList).toArray = first' ++ xs.map evc ++ captured' := by apply Array.ext'; simp
                rw [e1, e2] at this
                exact this
              · rw [← hE.b _ hB]
                show (do let d ← resolve evc ⟨.value fo, xs, cts⟩ ty; invoke d.target d.args : Sem Next).run E.P w = _
                simp [resolve, hy, Deferred.ofValue, invoke]
  case pick c a b =>
    cases hc : ev c with
    | none => rw [hc] at h; cases h
    | some cv =>
      rw [hc] at h
      simp only [Option.bind_some] at h
      split at h
      · rename_i t
        cases t
        · cases hb : ev b <;> simp [hb] at h
        · cases hb : ev a <;> simp [hb] at h
      · cases h
  case unOp op t x =>
    cases hx : plainEv ev x with
    | none => rw [hx] at h; cases h
    | some v => rw [hx] at h; exact (nope h).elim
  case defer c => exact (not_defer h (by simp)).elim
  all_goals first | exact (nope h).elim | (obtain ⟨z, _, hz⟩ := Option.map_eq_some_iff.1 h; cases hz; done) | cases h

theorem defer_ok {E : Env} {o : Oper} {ev : Ev} {evc : Operand → Value} {f : FuncId} {cap args : Array Value} (h : aop E ev o = some (.defer f cap args)) (hev : EvRel ρ ev evc) :
    E.B f = true ∧ ∃ cap' args', VsRel ρ cap cap' ∧ VsRel ρ args args' ∧ ∀ w : World, (execOp evc o).run E.P w = .ok (.defer ⟨.fn (.func f) cap', args'⟩) w := by
  obtain ⟨dst, op, ty, pos, after, guard⟩ := o
  unfold aop at h
  have nope : ∀ {x : Option Prim}, x.map AOp.prim = some (.defer f cap args) → False := by
    intro x hx; cases x <;> simp at hx
  cases op <;> simp only [] at h
  case defer c =>
    unfold aDefer at h
    cases ha : evList ev c.args.toList with
    | none => rw [ha] at h; cases h
    | some cargs =>
      rw [ha] at h
      simp only [Option.bind_some] at h
      have har := call_args hev ha
      obtain ⟨callee, xs, cts⟩ := c
      simp only at h har
      cases callee with
      | builtin b => cases h
      | invoke r m => cases h
      | value fo =>
        simp only at h
        cases hf : ev fo with
        | none => rw [hf] at h; cases h
        | some fv =>
          rw [hf] at h
          have hfr := hev _ _ hf
          simp only [Option.bind_some] at h
          split at h
          case h_2 => cases h
          rename_i g first captured
          split at h
          case isFalse => cases h
          rename_i hB
          cases h
          generalize hy : evc fo = y at hfr
          cases hfr with
          | func h1 h2 h3 h4 =>
            rename_i first' captured'
            have r1 : VlRel ρ first.toList first'.toList := VsRel.toList ⟨h1, h3⟩
            refine ⟨hB, captured', first' ++ xs.map evc, ⟨h2, h4⟩, ?_, fun w => ?_⟩
            · have := (r1.append har).toArray
              have e1 : (first.toList ++ cargs).toArray = first ++ cargs.toArray := by apply Array.ext'; simp
              have e2 : (first'.toList ++ (xs.map evc).toList).toArray = first' ++ xs.map evc := by apply Array.ext'; simp
              rw [e1, e2] at this
              exact this
            · show (do pure (Next.defer (← resolve evc ⟨.value fo, xs, cts⟩ ty)) : Sem Next).run E.P w = _
              simp [resolve, hy, Deferred.ofValue]
  case pick c a b =>
    cases hc : ev c with
    | none => rw [hc] at h; cases h
    | some cv =>
      rw [hc] at h
      simp only [Option.bind_some] at h
      split at h
      · rename_i t
        cases t
        · cases hb : ev b <;> simp [hb] at h
        · cases hb : ev a <;> simp [hb] at h
      · cases h
  case unOp op t x =>
    cases hx : plainEv ev x with
    | none => rw [hx] at h; cases h
    | some v => rw [hx] at h; exact (nope h).elim
  case call c =>
    unfold aCall at h
    cases ha : evList ev c.args.toList with
    | none => rw [ha] at h; cases h
    | some cargs =>
      rw [ha] at h
      simp only [Option.bind_some] at h
      split at h
      · exact (nope h).elim
      · rename_i fo _
        cases hf : ev fo with
        | none => rw [hf] at h; cases h
        | some fv =>
          rw [hf] at h
          simp only [Option.bind_some] at h
          split at h
          · split at h
            · exact (nope h).elim
            · split at h <;> cases h
          · cases h
      · cases h
  all_goals first | exact (nope h).elim | (obtain ⟨z, _, hz⟩ := Option.map_eq_some_iff.1 h; cases hz; done) | cases h

end
end Go.Proofs.YtehmailaabjdjaaGreat
