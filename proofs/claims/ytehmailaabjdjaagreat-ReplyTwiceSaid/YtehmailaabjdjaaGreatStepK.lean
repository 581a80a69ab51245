/-
  STEPPING THROUGH REGIONS WITH UNKNOWN VALUES: each kind of operation by itself. No condition.
-/
import Derived.Test.YtehmailaabjdjaaGreatSym
namespace Go.Proofs.YtehmailaabjdjaaGreat
set_option linter.unusedSimpArgs false
set_option linter.unusedVariables false

def intV (op : BinOp) (k : IntKind) (a b : Int) : Option Value :=
 match op with
 | .add => some (.int k (k.wrap (a + b)))
 | .sub => some (.int k (k.wrap (a - b)))
 | .mul => some (.int k (k.wrap (a * b)))
 | .rem => if b = 0 then none else some (.int k (a.tmod b))
 | .quo => if b = 0 then none else some (.int k (k.wrap (a.tdiv b)))
 | .eql => some (.bool (a == b))
 | .neq => some (.bool (a != b))
 | .lss => some (.bool (decide (a < b)))
 | .leq => some (.bool (decide (a ≤ b)))
 | .gtr => some (.bool (decide (a > b)))
 | .geq => some (.bool (decide (a ≥ b)))
 | _ => none

def strV (op : BinOp) (x y : ByteArray) : Option Value :=
 match op with
 | .add => if ((x.size + y.size : Nat) : Int) > IntKind.i64.max then none else some (.string (x ++ y))
 | .eql => some (.bool (x.toList == y.toList))
 | .neq => some (.bool !(x.toList == y.toList))
 | .lss => some (.bool (Op.bytesLess x.toList y.toList))
 | .gtr => some (.bool !(Op.bytesLess x.toList y.toList || x.toList == y.toList))
 | _ => none

def binV (P : Program) (op : BinOp) (t : TypeId) (u v : Value) : Option Value :=
 match u, v with
 | .int k a, .int k' b => if k = k' then intV op k a b else none
 | .string x, .string y => strV op x y
 | .bool x, .bool y => match op with
  | .eql => match P.underlying t with | some .bool => some (.bool (x == y)) | _ => none
  | .neq => match P.underlying t with | some .bool => some (.bool !(x == y)) | _ => none
  | _ => none
 | .pointer none, .pointer none => match op, P.underlying t with
  | .eql, some (.pointer _) => some (.bool true)
  | .neq, some (.pointer _) => some (.bool false)
  | _, _ => none
 | .pointer (some _), .pointer none => match op, P.underlying t with
  | .eql, some (.pointer _) => some (.bool false)
  | .neq, some (.pointer _) => some (.bool true)
  | _, _ => none
 | .slice none _ _, .slice none _ _ => match op, P.underlying t with
  | .eql, some (.slice _) => some (.bool true)
  | .neq, some (.slice _) => some (.bool false)
  | _, _ => none
 | .slice (some _) _ _, .slice none _ _ => match op, P.underlying t with
  | .eql, some (.slice _) => some (.bool false)
  | .neq, some (.slice _) => some (.bool true)
  | _, _ => none
 | _, _ => none

theorem plain_int (k : IntKind) (n : Int) : plainV (.int k n) = true := rfl
theorem plain_bool (b : Bool) : plainV (.bool b) = true := rfl
theorem plain_string (s : ByteArray) : plainV (.string s) = true := rfl

theorem pureRun_pure {α : Type} (P : Program) (a : α) : pureRun P (pure a : Sem α) = some a := rfl

theorem intV_run {P : Program} {op : BinOp} {k : IntKind} {a b : Int} {r : Value} {x y : Operand} {t : TypeId} (h : intV op k a b = some r) :
    pureRun P (do eqGuard op t x y (.int k a) (.int k b); Go.binOp op t (.int k a) (.int k b)) = some r ∧ plainV r = true := by
  cases op <;> simp only [intV] at h <;> first
    | (cases h; done)
    | (split at h
       · cases h
       · rename_i hb
         cases h
         refine ⟨?_, rfl⟩
         simp [eqGuard, Go.binOp, Op.intDiv, hb, pureRun_pure]
         done)
    | (cases h
       refine ⟨?_, rfl⟩
       simp [eqGuard, Go.binOp, Op.intArith, Op.intCmp, pureRun_pure]
       done)

theorem strV_run {P : Program} {op : BinOp} {a b : ByteArray} {r : Value} {x y : Operand} {t : TypeId} (h : strV op a b = some r) :
    pureRun P (do eqGuard op t x y (.string a) (.string b); Go.binOp op t (.string a) (.string b)) = some r ∧ plainV r = true := by
  cases op <;> simp only [strV] at h
  case add =>
    split at h
    · cases h
    · rename_i hb
      cases h
      refine ⟨?_, rfl⟩
      have e : (do eqGuard .add t x y (.string a) (.string b); Go.binOp .add t (.string a) (.string b) : Sem Value) = pure (.string (a ++ b)) := by
        have h1 : (do eqGuard .add t x y (.string a) (.string b); Go.binOp .add t (.string a) (.string b) : Sem Value) = Op.stringOp .add a b := rfl
        rw [h1]
        simp only [Op.stringOp]
        rw [if_neg hb]
      rw [e]; rfl
  all_goals first
    | (cases h; done)
    | (cases h
       refine ⟨?_, rfl⟩
       simp [eqGuard, Go.binOp, Op.stringOp, pureRun_pure]
       done)

theorem pureRun_bind {α β : Type} (P : Program) (s : Sem α) (f : α → Sem β) {v : α} (h : pureRun P s = some v) : pureRun P (s >>= f) = pureRun P (f v) := by
 induction s with
 | pure b => simp only [pureRun, Option.some.injEq] at h; subst h; rfl
 | program k ih => exact ih P (by simpa [pureRun] using h)
 | _ => simp [pureRun] at h

theorem pureRun_underlying {P : Program} {t : TypeId} {d : TypeDesc} (h : P.underlying t = some d) : pureRun P (underlying t) = some d := by
 show pureRun P (do match P.underlying t with | some d => pure d | none => stuck _) = _
 rw [h]
 rfl

theorem equal_bool {P : Program} {t : TypeId} {a b : Bool} (h : P.underlying t = some .bool) : pureRun P (Op.equal t (.bool a) (.bool b)) = some (a == b) := by
 unfold Op.equal Op.maxDepth
 unfold Op.equalIn
 rw [pureRun_bind P _ _ (pureRun_underlying h)]
 rfl

theorem equal_nilp {P : Program} {t e : TypeId} (h : P.underlying t = some (.pointer e)) : pureRun P (Op.equal t (.pointer none) (.pointer none)) = some true := by
 unfold Op.equal Op.maxDepth
 unfold Op.equalIn
 rw [pureRun_bind P _ _ (pureRun_underlying h)]
 rfl

theorem equal_nils {P : Program} {t e : TypeId} {n c n' c' : Nat} (h : P.underlying t = some (.slice e)) : pureRun P (Op.equal t (.slice none n c) (.slice none n' c')) = some true := by
 unfold Op.equal Op.maxDepth
 unfold Op.equalIn
 rw [pureRun_bind P _ _ (pureRun_underlying h)]
 rfl

theorem binV_ok {P : Program} {ev : Ev} {op : BinOp} {t : TypeId} {x y : Operand} {u v r : Value} (hx : ev x = some u) (hy : ev y = some v) (h : binV P op t u v = some r) :
  aBin P ev op t x y = some (.ofVal r) := by
 unfold aBin
 rw [hx, hy]
 simp only [Option.bind_some]
 have pv : ∀ {a b : Value} {r : Value}, pureRun P (do eqGuard op t x y a b; Go.binOp op t a b) = some r ∧ plainV r = true → pureVal P (do eqGuard op t x y a b; Go.binOp op t a b) = some (.ofVal r) := by
  rintro a b r ⟨h1, h2⟩
  unfold pureVal
  rw [h1]
  simp only [Option.bind_some, h2, if_true]
 unfold binV at h
 split at h
 ·rename_i k a k' b
  split at h
  case isFalse => cases h
  rename_i hk
  subst hk
  rw [if_pos (show (plainV (.int k a) && plainV (.int k b)) = true from rfl)]
  exact pv (intV_run h)
 ·rename_i a b
  rw [if_pos (show (plainV (.string a) && plainV (.string b)) = true from rfl)]
  exact pv (strV_run h)
 ·rename_i a b
  rw [if_pos (show (plainV (.bool a) && plainV (.bool b)) = true from rfl)]
  split at h
  ·split at h
   case h_2 => cases h
   rename_i hu
   cases h
   refine pv ⟨?_, rfl⟩
   show pureRun P (do let z ← Op.equal t (.bool a) (.bool b); pure (Value.bool z) : Sem Value) = _
   rw [pureRun_bind P _ _ (equal_bool hu)]; rfl
  ·split at h
   case h_2 => cases h
   rename_i hu
   cases h
   refine pv ⟨?_, rfl⟩
   show pureRun P (do let z ← Op.equal t (.bool a) (.bool b); pure (Value.bool (!z)) : Sem Value) = _
   rw [pureRun_bind P _ _ (equal_bool hu)]; rfl
  ·cases h
 ·rw [if_pos (show (plainV (.pointer none) && plainV (.pointer none)) = true from rfl)]
  split at h
  ·rename_i hu
   cases h
   refine pv ⟨?_, rfl⟩
   show pureRun P (do let z ← Op.equal t (.pointer none) (.pointer none); pure (Value.bool z) : Sem Value) = _
   rw [pureRun_bind P _ _ (equal_nilp hu)]; rfl
  ·rename_i hu
   cases h
   refine pv ⟨?_, rfl⟩
   show pureRun P (do let z ← Op.equal t (.pointer none) (.pointer none); pure (Value.bool (!z)) : Sem Value) = _
   rw [pureRun_bind P _ _ (equal_nilp hu)]; rfl
  ·cases h
 ·rename_i a
  have hp : (plainV (.pointer (some a)) && plainV (.pointer none)) = false := rfl
  rw [hp]
  split at h
  ·rename_i e hu
   have hn : nilCmp P t (.pointer (some a)) (.pointer none) = true := by unfold nilCmp; rw [hu]
   rw [hn]; cases h; rfl
  ·rename_i e hu
   have hn : nilCmp P t (.pointer (some a)) (.pointer none) = true := by unfold nilCmp; rw [hu]
   rw [hn]; cases h; rfl
  ·cases h
 ·rename_i n c n' c'
  rw [if_pos (show (plainV (.slice none n c) && plainV (.slice none n' c')) = true from rfl)]
  split at h
  ·rename_i hu
   cases h
   refine pv ⟨?_, rfl⟩
   show pureRun P (do let z ← Op.equal t (.slice none n c) (.slice none n' c'); pure (Value.bool z) : Sem Value) = _
   rw [pureRun_bind P _ _ (equal_nils hu)]; rfl
  ·rename_i hu
   cases h
   refine pv ⟨?_, rfl⟩
   show pureRun P (do let z ← Op.equal t (.slice none n c) (.slice none n' c'); pure (Value.bool (!z)) : Sem Value) = _
   rw [pureRun_bind P _ _ (equal_nils hu)]; rfl
  ·cases h
 ·rename_i a n c n' c'
  have hp : (plainV (.slice (some a) n c) && plainV (.slice none n' c')) = false := rfl
  rw [hp]
  split at h
  ·rename_i e hu
   have hn : nilCmp P t (.slice (some a) n c) (.slice none n' c') = true := by unfold nilCmp; rw [hu]
   rw [hn]; cases h; rfl
  ·rename_i e hu
   have hn : nilCmp P t (.slice (some a) n c) (.slice none n' c') = true := by unfold nilCmp; rw [hu]
   rw [hn]; cases h; rfl
  ·cases h
 ·cases h

def asAgg : Value → Option (Array Value)
 | .agg cs => some cs
 | _ => none
def asTup : Value → Option (Array Value)
 | .tuple cs => some cs
 | _ => none
def asI : Value → Option Int
 | .int _ i => some i
 | _ => none
def asSl : Value → Option (Nat × Nat × Nat × Nat)
 | .slice (some ⟨l, o, none⟩) n c => some (l, o, n, c)
 | _ => none

theorem asAgg_spec {v : Value} {q : Array Value} (h : asAgg v = some q) : v = .agg q := by
 unfold asAgg at h; split at h
 ·cases h; rfl
 ·cases h
theorem asTup_spec {v : Value} {q : Array Value} (h : asTup v = some q) : v = .tuple q := by
 unfold asTup at h; split at h
 ·cases h; rfl
 ·cases h
theorem asI_spec {v : Value} {q : Int} (h : asI v = some q) : ∃ k, v = .int k q := by
 unfold asI at h; split at h
 ·cases h; exact ⟨_, rfl⟩
 ·cases h
theorem asSl_spec {v : Value} {q : Nat × Nat × Nat × Nat} (h : asSl v = some q) : v = .slice (some ⟨q.1, q.2.1, none⟩) q.2.2.1 q.2.2.2 := by
 unfold asSl at h; split at h
 ·cases h; rfl
 ·cases h

def fldO (P : Program) (s : TypeId) (f : Nat) : Option Nat :=
 match P.underlying s with
 | some (.struct fields) => (fields[f]?).bind fun fd => (szO P fd.type).bind fun z => if z = 0 then none else some fd.offset
 | _ => none
def fldT (P : Program) (s : TypeId) (f : Nat) : Option (TypeId × Nat) :=
 match P.underlying s with
 | some (.struct fields) => (fields[f]?).map fun fd => (fd.type, fd.offset)
 | _ => none
def elemS (P : Program) (t : TypeId) : Option Nat :=
 match P.underlying t with
 | some (.slice e) => szO P e
 | _ => none

def stepF (E : Env) (a : Act) (σ : Heap) (nm : Nat) (o : Oper) (k : KK) : Prop :=
 obind (aop E (aeval a) o) fun x => match x with
  | .prim p => obind (p.run σ nm) fun eff => cbind (wrOk p eff = true) (k (a.put o.dst eff.val) (σ.app nm eff) (tchOf p eff nm) (wrtOf eff nm))
  | _ => False

def stepK (E : Env) (a : Act) (σ : Heap) (nm : Nat) (o : Oper) (k : KK) : Prop :=
 match o.op with
 | .move x => obind (aeval a x) fun v => k (a.put o.dst v) σ [] []
 | .assign x => obind (aeval a x) fun v => k (a.put o.dst v) σ [] []
 | .pick c x y => obind (aeval a c) fun c => obind (asB c) fun t => obind (if t then aeval a x else aeval a y) fun v => k (a.put o.dst v) σ [] []
 | .alloc t => obind (zeroP E.P t) fun z => k (a.put o.dst (.pointer (some ⟨nm, 0, none⟩))) (σ.upd nm (some (.cells z.cells.toList 0 false))) [nm] [nm]
 | .box _ x => obind (aeval a x) fun v => k (a.put o.dst (.pointer (some ⟨nm, 0, none⟩))) (σ.upd nm (some (.cells v.cells.toList 0 false))) [nm] [nm]
 | .load t x => obind (aeval a x) fun p => obind (asPtr p) fun q => obind (asCells (σ.get q.1)) fun c => obind (partO E.P t c.1 q.2) fun v => k (a.put o.dst v) σ [q.1] []
 | .store t x y => obind (aeval a x) fun p => obind (asPtr p) fun q => obind (aeval a y) fun v => obind (szO E.P t) fun s => obind (asCells (σ.get q.1)) fun c =>
   cbind (v.cells.size = s ∧ plainL oneCell v.cells.toList = true ∧ c.2.2 = false ∧ q.2 + s ≤ c.1.length)
    (k (a.put o.dst undef) (σ.upd q.1 (some (.cells (splice c.1 q.2 v.cells.toList) c.2.1 false))) [q.1] [q.1])
 | .nilCheck x => obind (aeval a x) fun v => obind (asPtr v) fun _ => k (a.put o.dst v) σ [] []
 | .binOp op t x y _ => obind (aeval a x) fun u => obind (aeval a y) fun v => obind (binV E.P op t u v) fun r => k (a.put o.dst r) σ [] []
 | .fieldAddr s x f => obind (fldO E.P s f) fun d => obind (aeval a x) fun v => obind (asPtr v) fun q => k (a.put o.dst (.pointer (some ⟨q.1, q.2 + d, none⟩))) σ [] []
 | .field s x f => obind (fldT E.P s f) fun d => obind (aeval a x) fun v => obind (asAgg v) fun cs => obind (partO E.P d.1 cs.toList d.2) fun v => k (a.put o.dst v) σ [] []
 | .indexAddr t x ix => match elemS E.P t with
  | some s => obind (aeval a ix) fun i => obind (asI i) fun i => obind (aeval a x) fun v => obind (asSl v) fun q =>
    cbind (0 ≤ i ∧ i < q.2.2.1) (k (a.put o.dst (.pointer (some ⟨q.1, q.2.1 + i.toNat * s, none⟩))) σ [] [])
  | none => stepF E a σ nm o k
 | .extract x i => obind (aeval a x) fun v => obind (asTup v) fun vs => obind vs[i]? fun v => k (a.put o.dst v) σ [] []
 | _ => stepF E a σ nm o k

def loadP (P : Program) (t : TypeId) (l o : Nat) : Prim := ⟨[l], fun _ objs => match objs with
 | [.cells c _ _] => (partO P t c o).map fun v => ⟨v, none, none⟩
 | _ => none⟩
theorem aLoad_eq {P : Program} {ev : Ev} {t : TypeId} {x : Operand} {l o : Nat} (h : ev x = some (.pointer (some ⟨l, o, none⟩))) : aLoad P ev t x = some (loadP P t l o) := by
 unfold aLoad; rw [h]; rfl
def storeP (v : Value) (s l o : Nat) : Prim := ⟨[l], fun _ objs => match objs with
 | [.cells c sz false] => if o + s ≤ c.length then some ⟨undef, some (l, some (.cells (splice c o v.cells.toList) sz false)), none⟩ else none
 | _ => none⟩
theorem aStore_eq {P : Program} {ev : Ev} {t : TypeId} {x y : Operand} {l o s : Nat} {v : Value} (h : ev x = some (.pointer (some ⟨l, o, none⟩))) (hy : ev y = some v) (hs : szO P t = some s)
  (h1 : v.cells.size = s) (h2 : plainL oneCell v.cells.toList = true) : aStore P ev t x y = some (storeP v s l o) := by
 unfold aStore; rw [h]; simp only [Option.bind_some, hy, hs, h1, h2, decide_true, Bool.and_self, if_true]; rfl

theorem stepF_ok {E : Env} {a : Act} {σ : Heap} {nm : Nat} {o : Oper} {k : KK} (h : stepF E a σ nm o k) : stepG E a σ nm o k := by
 obtain ⟨x, h1, h2⟩ := obind_spec h
 cases x with
 | prim p =>
  obtain ⟨eff, h3, h4⟩ := obind_spec h2
  exact ⟨p, eff, h1, h3, h4.1, h4.2⟩
 | call f args => exact h2.elim
 | defer f c args => exact h2.elim

theorem stepK_ok {E : Env} {a : Act} {σ : Heap} {nm : Nat} {o : Oper} {k : KK} (h : stepK E a σ nm o k) : stepG E a σ nm o k := by
 obtain ⟨dst, op, ty, pos, af, g⟩ := o
 unfold stepK at h
 cases op <;> simp only at h <;> first | exact stepF_ok h | skip
 case move x =>
  obtain ⟨v, h1, h2⟩ := obind_spec h
  exact stepG_val (v := v) (by simp only [aop, h1, Option.map_some]) h2
 case assign x =>
  obtain ⟨v, h1, h2⟩ := obind_spec h
  exact stepG_val (v := v) (by simp only [aop, h1, Option.map_some]) h2
 case pick c x y =>
  replace h := obind_spec h; obtain ⟨cv, h1, h⟩ := h
  replace h := obind_spec h; obtain ⟨t, h2, h⟩ := h
  replace h := obind_spec h; obtain ⟨v, h3, h⟩ := h
  have := asB_spec h2; subst this
  exact stepG_val (v := v) (by simp only [aop, h1, Option.bind_some, h3, Option.map_some]) h
 case alloc t =>
  replace h := obind_spec h; obtain ⟨z, h1, h⟩ := h
  exact ⟨Prim.newCells z.cells.toList 0, _, by simp only [aop, h1, Option.map_some], rfl, rfl, h⟩
 case box t x =>
  replace h := obind_spec h; obtain ⟨z, h1, h⟩ := h
  exact ⟨Prim.newCells z.cells.toList 0, _, by simp only [aop, h1, Option.map_some], rfl, rfl, h⟩
 case load t x =>
  replace h := obind_spec h; obtain ⟨p, h1, h⟩ := h
  replace h := obind_spec h; obtain ⟨q, h2, h⟩ := h
  replace h := obind_spec h; obtain ⟨c, h3, h⟩ := h
  replace h := obind_spec h; obtain ⟨v, h4, h⟩ := h
  have := asPtr_spec h2; subst this
  have hc := asCells_spec h3
  refine ⟨loadP E.P t q.1 q.2, ⟨v, none, none⟩, by simp only [aop, aLoad_eq h1, Option.map_some], ?_, rfl, h⟩
  simp only [loadP, Prim.run, getAll, hc, Option.bind_some, Option.map_some, h4]
 case store t x y =>
  replace h := obind_spec h; obtain ⟨p, h1, h⟩ := h
  replace h := obind_spec h; obtain ⟨q, h2, h⟩ := h
  replace h := obind_spec h; obtain ⟨v, h3, h⟩ := h
  replace h := obind_spec h; obtain ⟨s, h4, h⟩ := h
  replace h := obind_spec h; obtain ⟨c, h5, h⟩ := h
  obtain ⟨⟨c1, c2, c3, c4⟩, h⟩ := h
  have := asPtr_spec h2; subst this
  have hc := asCells_spec h5
  obtain ⟨cl, sz, ro⟩ := c
  simp only at c3 c4 hc
  subst c3
  refine ⟨storeP v s q.1 q.2, ⟨undef, some (q.1, some (.cells (splice cl q.2 v.cells.toList) sz false)), none⟩, by simp only [aop, aStore_eq h1 h3 h4 c1 c2, Option.map_some], ?_, ?_, h⟩
  ·simp only [storeP, Prim.run, getAll, hc, Option.bind_some, Option.map_some, c4, if_true]
  ·simp [wrOk, storeP]
 case nilCheck x =>
  replace h := obind_spec h; obtain ⟨v, h1, h⟩ := h
  replace h := obind_spec h; obtain ⟨q, h2, h⟩ := h
  have := asPtr_spec h2; subst this
  exact stepG_val (v := _) (by simp only [aop, aNil, h1, Option.bind_some, Option.map_some]) h
 case binOp op t x y yt =>
  replace h := obind_spec h; obtain ⟨u, h1, h⟩ := h
  replace h := obind_spec h; obtain ⟨v, h2, h⟩ := h
  replace h := obind_spec h; obtain ⟨r, h3, h⟩ := h
  exact stepG_val (v := r) (by simp only [aop, binV_ok h1 h2 h3, Option.map_some]) h
 case fieldAddr s x f =>
  replace h := obind_spec h; obtain ⟨d, h1, h⟩ := h
  replace h := obind_spec h; obtain ⟨v, h2, h⟩ := h
  replace h := obind_spec h; obtain ⟨q, h3, h⟩ := h
  have := asPtr_spec h3; subst this
  unfold fldO at h1
  split at h1
  case h_2 => cases h1
  rename_i fields hu
  simp only [Option.bind_eq_some_iff] at h1
  obtain ⟨fd, e1, z, e2, e3⟩ := h1
  split at e3
  ·cases e3
  rename_i hz
  cases e3
  exact stepG_val (v := _) (by simp only [aop, aFieldAddr, hu, e1, h2, e2, Option.bind_some, if_neg hz, Option.map_some]) h
 case field s x f =>
  replace h := obind_spec h; obtain ⟨d, h1, h⟩ := h
  replace h := obind_spec h; obtain ⟨v, h2, h⟩ := h
  replace h := obind_spec h; obtain ⟨q, h3, h⟩ := h
  replace h := obind_spec h; obtain ⟨u, h4, h⟩ := h
  have := asAgg_spec h3; subst this
  unfold fldT at h1
  split at h1
  case h_2 => cases h1
  rename_i fields hu
  obtain ⟨fd, e1, rfl⟩ := Option.map_eq_some_iff.1 h1
  exact stepG_val (v := u) (by simp only [aop, aField, hu, e1, h2, Option.bind_some, h4, Option.map_some]) h
 case indexAddr t x ix =>
  split at h
  case h_2 => exact stepF_ok h
  rename_i s hs
  replace h := obind_spec h; obtain ⟨iv, h1, h⟩ := h
  replace h := obind_spec h; obtain ⟨i, h2, h⟩ := h
  replace h := obind_spec h; obtain ⟨v, h3, h⟩ := h
  replace h := obind_spec h; obtain ⟨q, h4, h⟩ := h
  obtain ⟨hc, h⟩ := h
  obtain ⟨k', rfl⟩ := asI_spec h2
  have := asSl_spec h4; subst this
  unfold elemS at hs
  split at hs
  case h_2 => cases hs
  rename_i e hu
  exact stepG_val (v := _) (by simp only [aop, aIndexAddr, h1, h3, hu, hs, Option.bind_some, if_pos hc, Option.map_some]) h
 case extract x i =>
  replace h := obind_spec h; obtain ⟨v, h1, h⟩ := h
  replace h := obind_spec h; obtain ⟨q, h2, h⟩ := h
  replace h := obind_spec h; obtain ⟨u, h3, h⟩ := h
  have := asTup_spec h2; subst this
  exact stepG_val (v := u) (by simp only [aop, aExtract, h1, Option.bind_some, h3, Option.map_some]) h

end Go.Proofs.YtehmailaabjdjaaGreat
